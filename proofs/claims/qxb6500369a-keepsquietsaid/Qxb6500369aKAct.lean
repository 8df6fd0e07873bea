/-
  369 Keeps: act's head. (gen9act.py)
-/
import Derived.Test.Qxb6500369aKDeliv
import Derived.Test.Qxb6500369aKOwed
namespace Go.Proofs.Qxb6500369a
open Go.RowKit Go.Qx
set_option linter.unusedSimpArgs false
set_option linter.unusedVariables false

noncomputable def body14 : Code := match Try.f14.body with
  | some c => c
  | none => .skip
/-- act from its switch on. -/
noncomputable def tail14 : Code := cSnd (cSnd (cSnd (cSnd (cSnd body14))))

/-- What act's switch finds. -/
structure ActIn (w V : World) (x a b g B A : Nat) (k oa ob oc : Int) (os ot : ByteArray) (vi vw : Value) (G : Gh) (K : Int × List N5) (E N : Int) (ou : Ou) (d : N5) (S : ByteArray) : Prop where
  gh : GhR V g vi vw G
  lp : LP V x a b K
  chg : Chg (fun k => k = g ∨ own x a b k) w V
  op : Blk V B 40 [.int .i64 k, .int .i64 oa, .int .i64 ob, .int .i64 oc, .string os, .string ot]
  an : Blk V A 59 (ansC E N ou d S)
  nb : w.heap.size ≤ B
  na : w.heap.size ≤ A

set_option maxHeartbeats 8000000 in
set_option maxRecDepth 100000 in
theorem act_pre (w : World) (x a b g : Nat) (mode : Int) (ns : List N5) (ord : List Int) (vi vw : Value) (G : Gh) (k oa ob oc : Int) (os ot : ByteArray) (E N : Int) (ou : Ou) (d : N5) (S : ByteArray) (K : Int × List N5)
    (R : Rep w x a b mode ns ord) (I : Inv mode ns ord) (H : GhR w g vi vw G) (hdis : ∀ k, ownH g vi vw k → ¬ own x a b k) (ha : In64 oa)
    (hans : ansP mode ns ⟨0, 0, 0⟩ ⟨k, oa, ob, oc, os, ot⟩ = ⟨E, N, ou, d, S⟩) (hnx : nextP mode ns ⟨0, 0, 0⟩ ⟨k, oa, ob, oc, os, ot⟩ = K)
    (hOw : ∀ V, GhR V g vi vw G → Calls Try.prog 22 #[ptr g, .agg #[.int .i64 k, .int .i64 oa, .int .i64 ob, .int .i64 oc, .string os, .string ot]] V fun e w' => e = .returned (.int .i64 E) ∧ Quiet V w')
    (Q : Ending → World → Prop)
    (hbad : E ≠ 0 → ∀ V, GhR V g vi vw G → LP V x a b K → Chg (fun k => k = g ∨ own x a b k) w V → Q (.returned (.tuple #[])) V)
    (hgood : E = 0 → ∀ (V : World) (A B : Nat) (u2 u3 u4 u8 u9 u10 u11 u12 u13 u14 u15 u16 u17 u18 u19 u20 u21 u22 u23 u24 u25 u26 u27 u28 u29 u30 u31 u32 u33 u34 u35 u36 u37 u38 u39 u40 u41 u42 u43 u44 u45 u46 u47 u48 u49 u50 u51 u52 u53 u54 u55 u56 u57 u58 u59 u60 u61 u62 u63 u64 u65 u66 u67 u68 u69 u70 u71 u72 u73 u74 u75 u76 u77 u78 u79 u80 u81 u82 u83 u84 u85 u86 u87 u88 u89 u90 u91 u92 u93 u94 u95 u96 u97 u98 u99 u100 u101 u102 u103 u104 u105 u106 u107 u108 u109 u110 u111 u112 u113 u114 u115 : Value), ActIn w V x a b g B A k oa ob oc os ot vi vw G K E N ou d S → Code.wp Try.prog tail14 (bodyPost Try.prog Try.f14 Q) ⟨(Value.pointer (some ⟨x, 0, none⟩) :: Value.pointer (some ⟨g, 0, none⟩) :: u2 :: u3 :: u4 :: Value.pointer (some ⟨B, 0, none⟩) :: Value.pointer (some ⟨A, 0, none⟩) :: Value.int .i64 0 :: u8 :: u9 :: u10 :: u11 :: u12 :: u13 :: u14 :: u15 :: u16 :: u17 :: u18 :: u19 :: u20 :: u21 :: u22 :: u23 :: u24 :: u25 :: u26 :: u27 :: u28 :: u29 :: u30 :: u31 :: u32 :: u33 :: u34 :: u35 :: u36 :: u37 :: u38 :: u39 :: u40 :: u41 :: u42 :: u43 :: u44 :: u45 :: u46 :: u47 :: u48 :: u49 :: u50 :: u51 :: u52 :: u53 :: u54 :: u55 :: u56 :: u57 :: u58 :: u59 :: u60 :: u61 :: u62 :: u63 :: u64 :: u65 :: u66 :: u67 :: u68 :: u69 :: u70 :: u71 :: u72 :: u73 :: u74 :: u75 :: u76 :: u77 :: u78 :: u79 :: u80 :: u81 :: u82 :: u83 :: u84 :: u85 :: u86 :: u87 :: u88 :: u89 :: u90 :: u91 :: u92 :: u93 :: u94 :: u95 :: u96 :: u97 :: u98 :: u99 :: u100 :: u101 :: u102 :: u103 :: u104 :: u105 :: u106 :: u107 :: u108 :: u109 :: u110 :: u111 :: u112 :: u113 :: u114 :: u115 :: ([] : List Value)).toArray, []⟩ V) :
    Calls Try.prog 14 #[ptr x, ptr g, .agg #[.int .i64 k, .int .i64 oa, .int .i64 ob, .int .i64 oc, .string os, .string ot]] w Q := by
  have al0 : Quiet w (w.alloc (.cells #[.int .i64 k, .int .i64 oa, .int .i64 ob, .int .i64 oc, .string os, .string ot] 40)) := (Chg.refl _ _).alloc _
  have bo0 := Blk.new w 40 [.int .i64 k, .int .i64 oa, .int .i64 ob, .int .i64 oc, .string os, .string ot]
  have hdo := do_any _ x a b mode ns ord (R.quiet al0) I ⟨0, 0, 0⟩ (by simp [MsIn]) (by simp) ⟨k, oa, ob, oc, os, ot⟩ ha
  rw [hans, hnx] at hdo
  unfold ansv ansC opv msV at hdo
  dsimp only at hdo
  have hgl := H.blk.lt
  have hRl := R.lts
  obtain ⟨B, hB⟩ : ∃ B, w.heap.size = B := ⟨_, rfl⟩
  rw [hB] at bo0
  have hgH := hide hgl
  have hRlH := hide hRl
  have H0 := H.of_chg al0 (fun _ _ f => f)
  have hall0 := hide (And.intro al0 (And.intro bo0 (And.intro H0 hdis)))
  have hdoH := hide hdo
  have hOwH := hide hOw
  have hbadH := hide hbad
  have hgoodH := hide hgood
  have o0 : (w.alloc (.cells #[.int .i64 k, .int .i64 oa, .int .i64 ob, .int .i64 oc, .string os, .string ot] 40)).cell? ⟨B, 0, none⟩ = some (.int .i64 k) := bo0.cell 0
  have o1 : (w.alloc (.cells #[.int .i64 k, .int .i64 oa, .int .i64 ob, .int .i64 oc, .string os, .string ot] 40)).cell? ⟨B, 1, none⟩ = some (.int .i64 oa) := bo0.cell 1
  have o2 : (w.alloc (.cells #[.int .i64 k, .int .i64 oa, .int .i64 ob, .int .i64 oc, .string os, .string ot] 40)).cell? ⟨B, 2, none⟩ = some (.int .i64 ob) := bo0.cell 2
  have o3 : (w.alloc (.cells #[.int .i64 k, .int .i64 oa, .int .i64 ob, .int .i64 oc, .string os, .string ot] 40)).cell? ⟨B, 3, none⟩ = some (.int .i64 oc) := bo0.cell 3
  have o4 : (w.alloc (.cells #[.int .i64 k, .int .i64 oa, .int .i64 ob, .int .i64 oc, .string os, .string ot] 40)).cell? ⟨B, 4, none⟩ = some (.string os) := bo0.cell 4
  have o5 : (w.alloc (.cells #[.int .i64 k, .int .i64 oa, .int .i64 ob, .int .i64 oc, .string os, .string ot] 40)).cell? ⟨B, 5, none⟩ = some (.string ot) := bo0.cell 5
  clear al0 bo0 hdo R I H hdis ha hans hnx hOw hbad hgood hgl hRl H0
  unfold ptr at hdoH hOwH ⊢
  go_enter Try.func14, Try.ntmps14
  go_wp2_with fail
  refine (unhide hdoH).mono ?_
  clear hdoH o0 o1 o2 o3 o4 o5
  rintro e v1 ⟨rfl, c1, lp1⟩
  obtain ⟨al0, bo0, H0, hdis⟩ := unhide hall0
  have nB : ¬ own x a b B := fun h => by have := unhide hRlH B h; omega
  have bo1 := c1.blk bo0 nB
  have H1 := H0.of_chg c1 hdis
  have al1 : Quiet v1 (v1.alloc (.cells #[.int .i64 E, .int .i64 N, .int .i64 ou.cw.k, .int .i64 ou.cw.id, .int .i64 ou.cw.hop, .int .i64 ou.ccw.k, .int .i64 ou.ccw.id, .int .i64 ou.ccw.hop, .int .i64 d.id, .int .i64 d.st, .int .i64 d.lead, .int .i64 d.reach, .int .i64 d.got, .string S] 59)) := (Chg.refl _ _).alloc _
  have ba1 := Blk.new v1 59 [.int .i64 E, .int .i64 N, .int .i64 ou.cw.k, .int .i64 ou.cw.id, .int .i64 ou.cw.hop, .int .i64 ou.ccw.k, .int .i64 ou.ccw.id, .int .i64 ou.ccw.hop, .int .i64 d.id, .int .i64 d.st, .int .i64 d.lead, .int .i64 d.reach, .int .i64 d.got, .string S]
  have bo2 := al1.blk bo1
  have H2 := H1.of_chg al1 (fun _ _ f => f)
  have cw1 : Chg (fun k => k = g ∨ own x a b k) w v1 := (al0.chg _).trans (c1.mono (fun k _ h => .inr h))
  have cw2 := cw1.trans (al1.chg _)
  obtain ⟨ord', R1, I1⟩ := lp1
  have lp2 : LP (v1.alloc (.cells #[.int .i64 E, .int .i64 N, .int .i64 ou.cw.k, .int .i64 ou.cw.id, .int .i64 ou.cw.hop, .int .i64 ou.ccw.k, .int .i64 ou.ccw.id, .int .i64 ou.ccw.hop, .int .i64 d.id, .int .i64 d.st, .int .i64 d.lead, .int .i64 d.reach, .int .i64 d.got, .string S] 59)) x a b K := ⟨ord', R1.quiet al1, I1⟩
  have hsz := cw1.size
  have hbl := bo1.lt
  obtain ⟨A, hA⟩ : ∃ A, v1.heap.size = A := ⟨_, rfl⟩
  rw [hA] at ba1
  have hnA : Hid (w.heap.size ≤ A ∧ w.heap.size ≤ B ∧ B ≠ A ∧ g ≠ A ∧ g ≠ B) := ⟨by omega, by omega, by omega, by have := unhide hgH; omega, by have := unhide hgH; omega⟩
  have o0 : (v1.alloc (.cells #[.int .i64 E, .int .i64 N, .int .i64 ou.cw.k, .int .i64 ou.cw.id, .int .i64 ou.cw.hop, .int .i64 ou.ccw.k, .int .i64 ou.ccw.id, .int .i64 ou.ccw.hop, .int .i64 d.id, .int .i64 d.st, .int .i64 d.lead, .int .i64 d.reach, .int .i64 d.got, .string S] 59)).cell? ⟨B, 0, none⟩ = some (.int .i64 k) := bo2.cell 0
  have o1 : (v1.alloc (.cells #[.int .i64 E, .int .i64 N, .int .i64 ou.cw.k, .int .i64 ou.cw.id, .int .i64 ou.cw.hop, .int .i64 ou.ccw.k, .int .i64 ou.ccw.id, .int .i64 ou.ccw.hop, .int .i64 d.id, .int .i64 d.st, .int .i64 d.lead, .int .i64 d.reach, .int .i64 d.got, .string S] 59)).cell? ⟨B, 1, none⟩ = some (.int .i64 oa) := bo2.cell 1
  have o2 : (v1.alloc (.cells #[.int .i64 E, .int .i64 N, .int .i64 ou.cw.k, .int .i64 ou.cw.id, .int .i64 ou.cw.hop, .int .i64 ou.ccw.k, .int .i64 ou.ccw.id, .int .i64 ou.ccw.hop, .int .i64 d.id, .int .i64 d.st, .int .i64 d.lead, .int .i64 d.reach, .int .i64 d.got, .string S] 59)).cell? ⟨B, 2, none⟩ = some (.int .i64 ob) := bo2.cell 2
  have o3 : (v1.alloc (.cells #[.int .i64 E, .int .i64 N, .int .i64 ou.cw.k, .int .i64 ou.cw.id, .int .i64 ou.cw.hop, .int .i64 ou.ccw.k, .int .i64 ou.ccw.id, .int .i64 ou.ccw.hop, .int .i64 d.id, .int .i64 d.st, .int .i64 d.lead, .int .i64 d.reach, .int .i64 d.got, .string S] 59)).cell? ⟨B, 3, none⟩ = some (.int .i64 oc) := bo2.cell 3
  have o4 : (v1.alloc (.cells #[.int .i64 E, .int .i64 N, .int .i64 ou.cw.k, .int .i64 ou.cw.id, .int .i64 ou.cw.hop, .int .i64 ou.ccw.k, .int .i64 ou.ccw.id, .int .i64 ou.ccw.hop, .int .i64 d.id, .int .i64 d.st, .int .i64 d.lead, .int .i64 d.reach, .int .i64 d.got, .string S] 59)).cell? ⟨B, 4, none⟩ = some (.string os) := bo2.cell 4
  have o5 : (v1.alloc (.cells #[.int .i64 E, .int .i64 N, .int .i64 ou.cw.k, .int .i64 ou.cw.id, .int .i64 ou.cw.hop, .int .i64 ou.ccw.k, .int .i64 ou.ccw.id, .int .i64 ou.ccw.hop, .int .i64 d.id, .int .i64 d.st, .int .i64 d.lead, .int .i64 d.reach, .int .i64 d.got, .string S] 59)).cell? ⟨B, 5, none⟩ = some (.string ot) := bo2.cell 5
  have how2 := hide (unhide hOwH _ H2)
  have hall2 := hide (And.intro bo2 (And.intro ba1 (And.intro H2 (And.intro cw2 lp2))))
  clear al0 bo0 H0 hdis nB bo1 H1 al1 ba1 bo2 H2 cw1 cw2 R1 I1 lp2 hsz hbl c1
  go_wp2_with fail
  refine (unhide how2).mono ?_
  clear how2 o0 o1 o2 o3 o4 o5
  rintro e v2 ⟨rfl, q2⟩
  obtain ⟨bo2, ba1, H2, cw2, lp2⟩ := unhide hall2
  have H3 := H2.of_chg q2 (fun _ _ f => f)
  have bo3 := q2.blk bo2
  have ba3 := q2.blk ba1
  have cw3 := cw2.trans (q2.chg _)
  obtain ⟨ord', R1, I1⟩ := lp2
  have R3 := R1.quiet q2
  have y10 : v2.cell? ⟨g, 10, none⟩ = some (.bool true) := by
    have := H3.blk.cell 10
    simpa [gC] using this
  have f10 := H3.blk.frozen 10
  have a0 := ba3.cell 0
  simp at a0
  have eE : (E == E) = true := by simp
  have H4 := H3.set10
  have cS4 : Chg (fun k => k = g) v2 (v2.setCell ⟨g, 10, none⟩ (.bool true)) := Chg.setCell (S := fun x' => x' = g) (p := ⟨g, 10, none⟩) (Chg.refl _ v2) (.inl rfl) _
  have hh := unhide hnA
  have R4 := R3.of_chg cS4 (fun k' hk' => by subst hk'; exact (unhide hall0).2.2.2 k' (.inl rfl))
  have AI : ActIn w (v2.setCell ⟨g, 10, none⟩ (.bool true)) x a b g B A k oa ob oc os ot vi vw G K E N ou d S :=
    ⟨H4, ⟨ord', R4, I1⟩, cw3.trans (cS4.mono (fun k' _ h => .inl h)), cS4.blk bo3 (fun e => hh.2.2.2.2 e.symm), cS4.blk ba3 (fun e => hh.2.2.2.1 e.symm), hh.2.1, hh.1⟩
  have AIH := hide AI
  clear bo2 ba1 H2 cw2 R1 H3 bo3 ba3 cw3 R3 I1 H4 cS4 R4 AI hall2 hall0 q2 hh hA
  by_cases hE : E = 0
  · subst hE
    go_upto_region 4 with fail
    rename_i hK KI hKI
    have hKH := hide hK
    clear hK
    go_wp2_with fail
    refine unhide hKH _ _ ?_
    exact unhide hgoodH (by first | rfl | trivial) _ A B _ _ _ _ _ _ _ _ _ _ _ _ _ _ _ _ _ _ _ _ _ _ _ _ _ _ _ _ _ _ _ _ _ _ _ _ _ _ _ _ _ _ _ _ _ _ _ _ _ _ _ _ _ _ _ _ _ _ _ _ _ _ _ _ _ _ _ _ _ _ _ _ _ _ _ _ _ _ _ _ _ _ _ _ _ _ _ _ _ _ _ _ _ _ _ _ _ _ _ _ _ _ _ _ _ _ _ _ _ _ _ (unhide AIH)
  · have e1 : (E == 0) = false := by simpa using hE
    have e2 : (E != 0) = true := by rw [bne, e1]; rfl
    have fin := hide (unhide hbadH hE _ (unhide AIH).gh (unhide AIH).lp (unhide AIH).chg)
    clear hE hbadH hgoodH AIH
    go_wp2
    refine bodyPost_ret (v := .tuple #[]) (by simp [results, Try.results14, go_sem]) rfl ?_
    exact unhide fin
end Go.Proofs.Qxb6500369a
