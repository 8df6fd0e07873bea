/-
  369 Keeps: deliver from 'w.done++' on. (gen9del.py)
-/
import Derived.Test.Qxb6500369aKLaw
import Derived.Test.Qxb6500369aKRel2
import Derived.BigQuiet
import Derived.Deep.CutBlock
import Derived.Deep.CutRange
namespace Go.Proofs.Qxb6500369a
open Go.RowKit Go.Qx
set_option linter.unusedSimpArgs false
set_option linter.unusedVariables false

theorem mach_out_cases (mode : Int) (hm : mode = 0 ∨ mode = 1) (c : N5) (dir : Int) (m : Ms) (hk : 1 ≤ m.k ∧ m.k ≤ 3) (hd : dir = 0 ∨ (dir = 1 ∧ mode = 1)) (hh : 0 ≤ m.hop ∧ m.hop ≤ 8) (w : World) :
    Calls Try.prog 26 #[.int .i64 mode, .int .i64 dir, msV m, ouV (machP mode c dir m).2] w fun e w' => e = .returned (.bool true) ∧ Quiet w w' := by
  obtain ⟨k, i, h⟩ := m
  simp only at hk hh
  rcases (by omega : k = 1 ∨ k = 2 ∨ k = 3) with rfl | rfl | rfl
  · rcases Int.lt_trichotomy i c.id with hlt | rfl | hgt
    · rw [mach_less hm c dir i h hlt]; exact rel_p4 w mode dir i h
    · by_cases h2 : c.st = 2
      · rw [mach_own2 hm c dir h h2]; exact rel_p4 w mode dir c.id h
      · rw [mach_own hm c dir h h2]; exact rel_p5 w mode dir c.id h
    · rcases hm with rfl | rfl
      · rw [mach_pass0 c dir i h hgt]; exact rel_p1 w dir i h
      · by_cases hh1 : 1 < h
        · rw [mach_pass1 c dir i h hgt hh1]
          rcases hd with rfl | ⟨rfl, _⟩
          · exact rel_p20 w i h hh.1 hh.2
          · exact rel_p21 w i h hh.1 hh.2
        · rw [mach_turn1 c dir i h hgt (by omega)]
          rcases hd with rfl | ⟨rfl, _⟩
          · exact rel_p30 w 1 i h
          · exact rel_p31 w 1 i h
  · rcases hm with rfl | rfl
    · have : machP 0 c dir ⟨2, i, h⟩ = (c, o0) := by unfold machP crP; simp
      rw [this]; exact rel_r2 w 0 dir i h
    · by_cases he : i = c.id
      · subst he
        by_cases hr : c.reach < 1 ∨ 8 ≤ c.reach
        · have : machP 1 c dir ⟨2, c.id, h⟩ = (c, o0) := by unfold machP hsP; simp [hr]
          rw [this]; exact rel_r2 w 1 dir c.id h
        · by_cases hg : c.got = 0
          · rw [mach_got c dir h (by omega) (by omega) hg]; exact rel_r2 w 1 dir c.id h
          · rw [mach_phase c dir h (by omega) (by omega) hg]; exact rel_r3 w 1 dir c.id h (2 * c.reach)
      · rw [mach_reply c dir i h he]
        rcases hd with rfl | ⟨rfl, _⟩
        · exact rel_r10 w 1 i h
        · exact rel_r11 w 1 i h
  · have : machP mode c dir ⟨3, i, h⟩ = learnP c ⟨3, i, h⟩ := by
      unfold machP crP hsP
      rcases hm with rfl | rfl <;> simp
    rw [this]
    unfold learnP
    split
    · exact rel_l1 w mode dir i h
    · exact rel_l2 w mode dir i h

def cSnd : Code → Code
  | .seq _ b => b
  | c => c
noncomputable def body15 : Code := match Try.f15.body with
  | some c => c
  | none => .skip
/-- deliver from 'w.done++' on. -/
noncomputable def tail15 : Code := cSnd (cSnd (cSnd (cSnd (cSnd (cSnd body15)))))

theorem GhR.set8 {w : World} {g : Nat} {vi vw : Value} {G : Gh} (h : GhR w g vi vw G) (d : Nat) : GhR (w.setCell ⟨g, 8, none⟩ (.int .i64 d)) g vi vw { G with done := d } := by
  have c5 : Chg (fun x' => x' = g) w (w.setCell ⟨g, 8, none⟩ (.int .i64 d)) := Chg.setCell (S := fun x' => x' = g) (p := ⟨g, 8, none⟩) (Chg.refl _ w) (.inl rfl) _
  exact { h with blk := h.blk.set 8 _, ri := h.ri.of_chg c5 (fun b hb e => h.gi (by rw [hb, e])), rw := h.rw.of_chg c5 (fun b hb e => h.gw (by rw [hb, e])) }
theorem GhR.set10 {w : World} {g : Nat} {vi vw : Value} {G : Gh} (h : GhR w g vi vw G) : GhR (w.setCell ⟨g, 10, none⟩ (.bool true)) g vi vw G := by
  have c5 : Chg (fun x' => x' = g) w (w.setCell ⟨g, 10, none⟩ (.bool true)) := Chg.setCell (S := fun x' => x' = g) (p := ⟨g, 10, none⟩) (Chg.refl _ w) (.inl rfl) _
  exact { h with blk := h.blk.set 10 _, ri := h.ri.of_chg c5 (fun b hb e => h.gi (by rw [hb, e])), rw := h.rw.of_chg c5 (fun b hb e => h.gw (by rw [hb, e])) }

set_option maxHeartbeats 8000000 in
set_option maxRecDepth 100000 in
theorem tail15_any (V : World) (x a b g bm l : Nat) (mode : Int) (ns : List N5) (ord : List Int) (G : Gh) (vi vw : Value) (m : Ms) (c : N5) (ou : Ou) (j : Nat)
    (R : Rep V x a b mode ns ord) (I : Inv mode ns ord) (H : GhR V g vi vw G) (hdis : ∀ k, ownH g vi vw k → ¬ own x a b k) (hbm : Blk V bm 55 (msC m)) (hb1 : ¬ ownH g vi vw bm) (hb2 : ¬ own x a b bm)
    (hmo : G.mode = mode) (hmd : mode = 0 ∨ mode = 1) (hn : G.ids.length = ns.length) (hl : l < 2 * ns.length) (hj : toP ns.length l = j) (hjn : j < ns.length) (hd : ((l % 2 : Nat) : Int) ≤ mode) (hk : 1 ≤ m.k ∧ m.k ≤ 3) (hh : 0 ≤ m.hop ∧ m.hop ≤ 8)
    (hdone : G.done ≤ 100000) (hmach : machP mode (vf ns j) ((l % 2 : Nat) : Int) m = (c, ou)) (hf1 : MsF ou.cw) (hf2 : MsF ou.ccw) (hlen : (G.wire ++ outsP j ou).length ≤ 2 * ns.length + 1)
    (h1 : 0 ≤ G.s1 ∧ G.s1 ≤ 100000) (h2 : 0 ≤ G.s2 ∧ G.s2 ≤ 100000) (h3 : 0 ≤ G.s3 ∧ G.s3 ≤ 100000)
    (u3 u4 u5 u6 u8 u9 u10 u11 u12 u13 u14 u15 u16 u17 u18 u19 u20 u21 u22 u23 u24 u25 u26 u27 u28 u29 u30 u31 u32 u33 u34 u35 u36 u37 u38 u39 u40 u41 u42 u43 u44 u45 u46 u47 u48 u49 u50 u51 u52 u53 u54 u55 u56 u57 u58 u59 u60 u61 u62 u63 u64 u65 u66 u67 u68 u69 u70 u71 u72 u73 u74 u75 u76 u77 u78 u79 u80 u81 u82 u83 u84 u85 u86 u87 u88 u89 u90 u91 u92 u93 u94 u95 u96 u97 u98 u99 u100 u101 u102 u103 u104 u105 u106 u107 u108 u109 u110 u111 u112 u113 u114 u115 u116 u117 u118 u119 u120 u121 u122 u123 u124 u125 : Value) (Q : Ending → World → Prop)
    (hQ : ∀ wx, Chg (fun k => ownH g vi vw k ∨ own x a b k) V wx → Rep wx x a b mode (ns.set j c) ord → GhO wx (fun k => ownH g vi vw k ∨ V.heap.size ≤ k) g (putP { G with done := G.done + 1 } j ou) → Q (.returned (.tuple #[])) wx) :
    Code.wp Try.prog tail15 (bodyPost Try.prog Try.f15 Q) ⟨(Value.pointer (some ⟨x, 0, none⟩) :: Value.pointer (some ⟨g, 0, none⟩) :: Value.int .i64 (l : Int) :: u3 :: u4 :: u5 :: u6 :: Value.pointer (some ⟨bm, 0, none⟩) :: u8 :: u9 :: u10 :: u11 :: u12 :: u13 :: u14 :: u15 :: u16 :: u17 :: u18 :: u19 :: u20 :: u21 :: u22 :: u23 :: u24 :: u25 :: u26 :: u27 :: u28 :: u29 :: u30 :: u31 :: u32 :: u33 :: u34 :: u35 :: u36 :: u37 :: u38 :: u39 :: u40 :: u41 :: u42 :: u43 :: u44 :: u45 :: u46 :: u47 :: u48 :: u49 :: u50 :: u51 :: u52 :: u53 :: u54 :: u55 :: u56 :: u57 :: u58 :: u59 :: u60 :: u61 :: u62 :: u63 :: u64 :: u65 :: u66 :: u67 :: u68 :: u69 :: u70 :: u71 :: u72 :: u73 :: u74 :: u75 :: u76 :: u77 :: u78 :: u79 :: u80 :: u81 :: u82 :: u83 :: u84 :: u85 :: u86 :: u87 :: u88 :: u89 :: u90 :: u91 :: u92 :: u93 :: u94 :: u95 :: u96 :: u97 :: u98 :: u99 :: u100 :: u101 :: u102 :: u103 :: u104 :: u105 :: u106 :: u107 :: u108 :: u109 :: u110 :: u111 :: u112 :: u113 :: u114 :: u115 :: u116 :: u117 :: u118 :: u119 :: u120 :: u121 :: u122 :: u123 :: u124 :: u125 :: ([] : List Value)).toArray, []⟩ V := by
  conv => arg 2; whnf
  obtain ⟨ai, ci, rfl⟩ := H.ri.shape
  have h8 := R.n8
  have c8 : V.cell? ⟨g, 8, none⟩ = some (.int .i64 G.done) := H.blk.cell 8
  have f8 := H.blk.frozen 8
  have wd : IntKind.i64.wrap ((G.done : Int) + 1) = (G.done : Int) + 1 := by rw [IntKind.wrap_i64]; omega
  have eD : ((G.done + 1 : Nat) : Int) = (G.done : Int) + 1 := by push_cast; rfl
  have H1 := H.set8 (G.done + 1)
  rw [eD] at H1
  have cS : Chg (fun k => k = g) V (V.setCell ⟨g, 8, none⟩ (.int .i64 ((G.done : Int) + 1))) := Chg.setCell (S := fun x' => x' = g) (p := ⟨g, 8, none⟩) (Chg.refl _ V) (.inl rfl) _
  have R1 := R.of_chg cS (fun k hk => by subst hk; exact hdis k (.inl rfl))
  have hbm1 := cS.blk hbm (fun e => hb1 (.inl e))
  have hto := to_any (V.setCell ⟨g, 8, none⟩ (.int .i64 ((G.done : Int) + 1))) ns.length l (by omega) h8 hl
  rw [hj] at hto
  have hdirI : ((l : Int)).tmod 2 = ((l % 2 : Nat) : Int) := by rw [Int.tmod_eq_emod_of_nonneg (by omega)]; omega
  have hst := rstep_any (V.setCell ⟨g, 8, none⟩ (.int .i64 ((G.done : Int) + 1))) x a b mode ns ord R1 I.mo I.ok j ((l % 2 : Nat) : Int) m (by omega)
  have hsp : stepP mode ns j ((l % 2 : Nat) : Int) m = (ou, 0, ns.set j c) := by
    unfold stepP
    rw [if_neg (by omega), if_neg (by omega), if_neg (by omega)]
    have e : ns.getD ((j : Int)).toNat z5 = vf ns j := rfl
    rw [e, hmach]
    rfl
  rw [hsp] at hst
  unfold stepPost at hst
  dsimp only at hst
  have hrel := fun W => mach_out_cases mode hmd (vf ns j) ((l % 2 : Nat) : Int) m hk (by omega) hh W
  rw [hmach] at hrel
  dsimp only at hrel
  have hputH := hide (fun (W : World) (O : Nat → Prop) (hg : GhO W O g { G with done := G.done + 1 }) (hO : ∀ k, O k → k < W.heap.size) => put_any W O g { G with done := G.done + 1 } hg hO j (by omega) ou hf1 hf2 (by show G.ids.length ≤ 8; omega) (by show (G.wire ++ outsP j ou).length ≤ 2 * G.ids.length + 1; omega) h1 h2 h3)
  have c0 : (V.setCell ⟨g, 8, none⟩ (.int .i64 ((G.done : Int) + 1))).cell? ⟨g, 0, none⟩ = some (.slice ai ns.length ci) := by
    have := H1.blk.cell 0
    simpa [gC, hn] using this
  have m0c := hbm1.cell 0
  have m1c := hbm1.cell 1
  have m2c := hbm1.cell 2
  simp [msC] at m0c m1c m2c
  rw [show G.ids.length = ns.length from hn] at *
  have hgb : g ≠ bm := fun e => hb1 (by rw [e]; exact .inl rfl)
  have H1H := hide H1
  have cSH := hide cS
  have hbmH := hide hbm1
  have hbx := hide (And.intro hb1 (And.intro hb2 hdis))
  have hltH := hide (And.intro H.blk.lt hbm.lt)
  have hQH := hide hQ
  have hmoH := hide hmo
  have hrelH := hide hrel
  have hownl : Hid (∀ k, ownH g (.slice ai ns.length ci) vw k → k < V.heap.size) := fun k hk => by
    rcases hk with h | h | h
    · rw [h]; exact H.blk.lt
    · exact H.ri.lt h
    · exact H.rw.lt h
  have hstH := hide hst
  have htoH := hide hto
  clear H H1 cS hbm1 R R1 I hst hto hrel hQ hmo hmach hsp hf1 hf2 hlen h1 h2 h3 hdis hb1 hb2 hbm hk hh hd hj hmd hdone
  obtain ⟨mk, mi, mh⟩ := m
  obtain ⟨⟨ok1, oi1, oh1⟩, ⟨ok2, oi2, oh2⟩⟩ := ou
  dsimp only at m0c m1c m2c hstH
  unfold msV ptr ouV at hstH
  dsimp only at hstH
  go_wp2_with fail
  refine (unhide htoH).mono ?_
  clear htoH
  rintro e v1 ⟨rfl, rfl⟩
  go_wp2_with fail
  refine (unhide hstH).mono ?_
  clear hstH
  rintro e v2 ⟨rfl, cst, Rst⟩
  obtain ⟨hb1, hb2, hdis⟩ := unhide hbx
  have cV : Hid (Chg (fun k => k = g) V (V.setCell ⟨g, 8, none⟩ (.int .i64 ((G.done : Int) + 1)))) := cSH
  have H2a := (unhide H1H).of_chg cst (fun k hk => hdis k hk)
  have bm2a := cst.blk (unhide hbmH) hb2
  have cV2 := Chg.trans ((unhide cSH).mono (T := fun k => ownH g (.slice ai ns.length ci) vw k ∨ own x a b k) (fun k _ h => .inl (.inl h))) (cst.mono (T := fun k => ownH g (.slice ai ns.length ci) vw k ∨ own x a b k) (fun k _ h => .inr h))
  have al : Quiet v2 (v2.alloc (.cells #[.int .i64 ok1, .int .i64 oi1, .int .i64 oh1, .int .i64 ok2, .int .i64 oi2, .int .i64 oh2] 57)) := (Chg.refl _ _).alloc _
  have bo := Blk.new v2 57 [.int .i64 ok1, .int .i64 oi1, .int .i64 oh1, .int .i64 ok2, .int .i64 oi2, .int .i64 oh2]
  have H2 := H2a.of_chg al (fun _ _ f => f)
  have bm2 := al.blk bm2a
  have R2 := Rst.quiet al
  have cV3 := cV2.trans (al.chg _)
  obtain ⟨B, hB⟩ : ∃ B, v2.heap.size = B := ⟨_, rfl⟩
  rw [hB] at bo
  have n0 := bm2.cell 0
  have n1 := bm2.cell 1
  have n2 := bm2.cell 2
  have p0 := bo.cell 0
  have p1 := bo.cell 1
  have p2 := bo.cell 2
  have p3 := bo.cell 3
  have p4 := bo.cell 4
  have p5 := bo.cell 5
  have k7 : (v2.alloc (.cells #[.int .i64 ok1, .int .i64 oi1, .int .i64 oh1, .int .i64 ok2, .int .i64 oi2, .int .i64 oh2] 57)).cell? ⟨g, 7, none⟩ = some (.int .i64 mode) := by
    have := H2.blk.cell 7
    rw [← unhide hmoH]
    simpa [gC] using this
  simp [msC] at n0 n1 n2 p0 p1 p2 p3 p4 p5
  have hgl2 := H2a.blk.lt
  have hbl2 := bm2a.lt
  have hBg : B ≠ g := by omega
  have hall := hide (And.intro H2 (And.intro bm2 (And.intro R2 (And.intro cV3 bo))))
  have hrelW := hide (fun W => unhide hrelH W)
  unfold msV ouV at hrelW
  dsimp only at hrelW
  clear H2 bm2 R2 cV3 bo H2a bm2a cV2 al Rst cst cV H1H hbmH cSH hrelH m0c m1c m2c c0 c8 f8
  go_upto_region 10 with fail
  obtain ⟨W2, hW2⟩ : ∃ W, v2.alloc (.cells #[.int .i64 ok1, .int .i64 oi1, .int .i64 oh1, .int .i64 ok2, .int .i64 oi2, .int .i64 oh2] 57) = W := ⟨_, rfl⟩
  rw [hW2] at hall n0 n1 n2 p0 p1 p2 p3 p4 p5 k7 ⊢
  clear hW2 hB hgl2 hbl2
  go_region_with (go_at_call 26; refine (unhide hrelW _).mono ?_; rintro e v3 ⟨rfl, q3⟩; have qW := hide (Quiet.trans ((Chg.refl (fun _ => False) W2).drew) q3); clear q3 n0 n1 n2 p0 p1 p2 p3 p4 p5 k7)
  all_goals
    obtain ⟨H2, bm2, R2, cV3, bo⟩ := unhide hall
    have q3 := unhide qW
    have H3 := H2.of_chg q3 (fun _ _ f => f)
    have R3 := R2.quiet q3
    have cV4 := cV3.trans (q3.chg _)
    have bo3 := q3.blk bo
    have y10 : v3.cell? ⟨g, 10, none⟩ = some (.bool true) := by
      have := H3.blk.cell 10
      simpa [gC] using this
    have f10 := H3.blk.frozen 10
    have hgV := unhide hltH
    have szV := cV4.size
    have H4 := H3.set10
    have cS4 : Chg (fun k => k = g) v3 (v3.setCell ⟨g, 10, none⟩ (.bool true)) := Chg.setCell (S := fun x' => x' = g) (p := ⟨g, 10, none⟩) (Chg.refl _ v3) (.inl rfl) _
    have R4 := R3.of_chg cS4 (fun k hk => by subst hk; exact (unhide hbx).2.2 k (.inl rfl))
    have bo4 := cS4.blk bo3 hBg
    have cV5 := cV4.trans (cS4.mono (T := fun k => ownH g (.slice ai ns.length ci) vw k ∨ own x a b k) (fun k _ h => .inl (.inl h)))
    have z0 := bo4.cell 0
    have z1 := bo4.cell 1
    have z2 := bo4.cell 2
    have z3 := bo4.cell 3
    have z4 := bo4.cell 4
    have z5' := bo4.cell 5
    simp at z0 z1 z2 z3 z4 z5'
    have hput := hide (unhide hputH (v3.setCell ⟨g, 10, none⟩ (.bool true)) (ownH g (.slice ai ns.length ci) vw) ⟨_, _, H4, fun k h => h⟩ (fun k h => by
      have := unhide hownl k h
      have := cV5.size
      omega))
    unfold ouV ptr at hput
    dsimp only at hput
    have hall2 := hide (And.intro R4 cV5)
    clear H2 bm2 R2 cV3 bo q3 H3 R3 cV4 bo3 H4 cS4 R4 cV5 bo4 hall hrelW hputH qW
    go_wp2_with fail
    refine (unhide hput).mono ?_
    rintro e v4 ⟨rfl, c4, g4⟩
    obtain ⟨R4, cV5⟩ := unhide hall2
    have fin := hide (unhide hQH v4 (Chg.trans' cV5 c4 (fun k hk h => .inl h)) (R4.of_chg c4 (fun k hk => (unhide hbx).2.2 k hk)) (g4.mono (fun k h => by
      have := cV5.size
      rcases h with h | h
      · exact .inl h
      · right; omega)))
    clear R4 cV5 c4 g4 hput y10 f10 z0 z1 z2 z3 z4 z5' hall2
    go_wp2
    go_end0
    exact unhide fin
end Go.Proofs.Qxb6500369a
