/-
  Keeps: the end of Kept. (gen65k2.py)
-/
import Derived.Test.Qxb6500365aKAny
namespace Go.Proofs.Qxb6500365a
open Go.RowKit Go.Qx Ieee
set_option linter.unusedSimpArgs false
set_option linter.unusedVariables false

theorem next_6 (σ : GS) : nextP σ ⟨6, 0, 0, 0, ⟨#[]⟩, ⟨#[]⟩⟩ = σ := rfl
theorem do_ticks (w : World) (x : Nat) (σ : GS) (R : Rep w x σ) (I : Inv σ) :
    Calls Try.prog 13 #[.pointer (some ⟨x, 0, none⟩), .agg #[.int .i64 6, .int .i64 0, .int .i64 0, .int .i64 0, .string ⟨#[]⟩, .string ⟨#[]⟩]] w fun e w' => e = .returned (.agg #[.int .i64 σ.e, .int .i64 σ.t, .int .i64 0, .string ⟨#[]⟩]) ∧ Chg (fun k => k = x) w w' ∧ Rep w' x σ :=
  do_any w x σ R I ⟨6, 0, 0, 0, ⟨#[]⟩, ⟨#[]⟩⟩
theorem do_k (w : World) (x : Nat) (σ : GS) (R : Rep w x σ) (I : Inv σ) (o : Opr) :
    Calls Try.prog 13 #[.pointer (some ⟨x, 0, none⟩), .agg #[.int .i64 o.k, .int .i64 o.a, .int .i64 o.b, .int .i64 o.c, .string o.s, .string o.t]] w fun e w' => e = .returned (.agg #[.int .i64 (ansP σ o).e, .int .i64 (ansP σ o).n, .int .i64 (ansP σ o).m, .string (ansP σ o).s]) ∧ Chg (fun k => k = x) w w' ∧ Rep w' x (nextP σ o) :=
  do_any w x σ R I o

/-- What the loop over the observers holds. -/
structure KL (w V : World) (x g : Nat) (σ : GS) (bn : Nat) : Prop where
  chg : Chg (fun k => k = x ∨ k = g) w V
  rep : Rep V x σ
  gh : Blk V g 29 (ghC σ)
  now : Blk V bn 42 [.int .i64 σ.e, .int .i64 σ.t, .int .i64 0, .string ⟨#[]⟩]
  xg : x ≠ g
  nx : bn ≠ x
theorem KL.quiet {w V V' : World} {x g : Nat} {σ : GS} {bn : Nat} (h : KL w V x g σ bn) (q : Quiet V V') : KL w V' x g σ bn :=
  ⟨h.chg.trans (q.chg _), h.rep.quiet q, Quiet.blk q h.gh, Quiet.blk q h.now, h.xg, h.nx⟩
theorem KL.did {w V V' : World} {x g : Nat} {σ : GS} {bn : Nat} (h : KL w V x g σ bn) (c : Chg (fun k => k = x) V V') (R : Rep V' x σ) : KL w V' x g σ bn :=
  ⟨h.chg.trans (c.mono (fun k _ h => .inl h)), R, c.blk h.gh (fun e => h.xg e.symm), c.blk h.now h.nx, h.xg, h.nx⟩


theorem meas14 (j : Nat) (jw : wrap64 ((j : Int) + 1) = (j : Int) + 1) (h : j ≤ 12) : 14 - (intOf (.int .i64 (wrap64 ((j : Int) + 1)))).toNat < 14 - (intOf (.int .i64 (j : Int))).toNat := by
  rw [jw]
  show 14 - ((j : Int) + 1).toNat < 14 - ((j : Int)).toNat
  omega
def cSnd : Code → Code
  | .seq _ b => b
  | c => c
def cFst : Code → Code
  | .seq a _ => a
  | c => c
noncomputable def body10 : Code := match Try.f10.body with
  | some c => c
  | none => .skip
/-- Kept from 'pure := ..' on. -/
noncomputable def mid10 : Code := cSnd (cSnd (cSnd (cSnd (cSnd (cSnd body10)))))
/-- Kept from the loop over the observers on. -/
noncomputable def tail10 : Code := cSnd (cSnd (cSnd (cSnd (cSnd (cSnd mid10)))))

set_option maxHeartbeats 8000000 in
set_option maxRecDepth 100000 in
theorem tail_any (w V : World) (x g bn : Nat) (σ : GS) (S1 : ByteArray) (KLH : Hid (KL w V x g σ bn)) (ISH : Hid (Inv σ)) (HSH : Hid (str (showP σ) = S1))
    (u2 u3 u4 u5 u6 u7 u8 u9 u12 u13 u14 u15 u16 u17 u18 u19 u20 u21 u22 u23 u24 u25 u26 u27 u28 u29 u30 u31 u32 u33 u34 u35 u36 u37 u38 u39 u40 u41 u42 u43 u44 u45 u46 u47 u48 u49 u50 u51 u52 u53 u54 u55 u56 u57 u58 u59 u60 u61 u62 u63 u64 u65 u66 u67 u68 u69 u70 u71 u72 u73 u74 u75 u76 u77 u78 u79 u80 u81 u82 u83 u84 u85 u86 u87 u88 u89 u90 u91 u92 u93 u94 u95 u96 u97 u98 u99 u100 u101 u102 u103 u104 u105 u106 u107 u108 u109 u110 u111 u112 u113 u114 : Value) (R : Ending → World → Prop) (hR : Hid (∀ wx, KL w wx x g σ bn → R (.returned (.bool true)) wx)) :
    Code.wp Try.prog tail10 (bodyPost Try.prog Try.f10 R) ⟨(Value.pointer (some ⟨x, 0, none⟩) :: Value.pointer (some ⟨g, 0, none⟩) :: u2 :: u3 :: u4 :: u5 :: u6 :: u7 :: u8 :: u9 :: Value.string S1 :: Value.pointer (some ⟨bn, 0, none⟩) :: u12 :: u13 :: u14 :: u15 :: u16 :: u17 :: u18 :: u19 :: u20 :: u21 :: u22 :: u23 :: u24 :: u25 :: u26 :: u27 :: u28 :: u29 :: u30 :: u31 :: u32 :: u33 :: u34 :: u35 :: u36 :: u37 :: u38 :: u39 :: u40 :: u41 :: u42 :: u43 :: u44 :: u45 :: u46 :: u47 :: u48 :: u49 :: u50 :: u51 :: u52 :: u53 :: u54 :: u55 :: u56 :: u57 :: u58 :: u59 :: u60 :: u61 :: u62 :: u63 :: u64 :: u65 :: u66 :: u67 :: u68 :: u69 :: u70 :: u71 :: u72 :: u73 :: u74 :: u75 :: u76 :: u77 :: u78 :: u79 :: u80 :: u81 :: u82 :: u83 :: u84 :: u85 :: u86 :: u87 :: u88 :: u89 :: u90 :: u91 :: u92 :: u93 :: u94 :: u95 :: u96 :: u97 :: u98 :: u99 :: u100 :: u101 :: u102 :: u103 :: u104 :: u105 :: u106 :: u107 :: u108 :: u109 :: u110 :: u111 :: u112 :: u113 :: u114 :: ([] : List Value)).toArray, []⟩ V := by
  conv => arg 2; whnf
  go_wp2_with fail
  go_loopw [13] (fun k wr => ∃ j : Nat, 8 ≤ j ∧ j ≤ 13 ∧ k = .int .i64 j ∧ KL w wr x g σ bn) (fun k _ => 14 - (intOf k).toNat)
  case atStart => exact ⟨8, by omega, by omega, rfl, unhide KLH⟩
  case round =>
    obtain ⟨j, hj1, hj2, rfl, KLr⟩ := hrel
    clear KLH
    have KRH := hide KLr
    by_cases hj : j ≤ 12
    · have j1 : (j : Int) ≤ 12 := by omega
      have j2 : ((j : Int) ≤ 12) = True := eq_true j1
      have hpj : pureK (j : Int) := .inr (.inr (by omega))
      have hd := do_k wr x σ KLr.rep (unhide ISH) ⟨(j : Int), 0, 0, 0, ⟨#[]⟩, ⟨#[]⟩⟩
      rw [next_pure σ ⟨(j : Int), 0, 0, 0, ⟨#[]⟩, ⟨#[]⟩⟩ hpj] at hd
      have hh := hide (fun (W : World) (bb : Blk W g 29 (ghC σ)) => held_any W g σ bb (unhide ISH) ⟨(j : Int), 0, 0, 0, ⟨#[]⟩, ⟨#[]⟩⟩ hpj)
      dsimp only at hd hh
      generalize ansP σ ⟨(j : Int), 0, 0, 0, ⟨#[]⟩, ⟨#[]⟩⟩ = AA at *
      obtain ⟨E2, N2, M2, Z2⟩ := AA
      dsimp only at hd hh
      unfold ansv ansC at hh
      have hdH := hide hd
      have jH := hide (And.intro hj1 hj)
      clear hd KLr hj hpj hj1 hj2 j1
      go_wp2_with fail
      refine (unhide hdH).mono ?_
      clear hdH
      rintro e v1 ⟨rfl, cv1, RV1⟩
      have K1 := (unhide KRH).did cv1 RV1
      have al6 : Quiet v1 (v1.alloc (.cells #[.int .i64 E2, .int .i64 N2, .int .i64 M2, .string Z2] 42)) := (Chg.refl _ _).alloc _
      have K2 := K1.quiet al6
      have bb2 := Blk.new v1 42 [.int .i64 E2, .int .i64 N2, .int .i64 M2, .string Z2]
      have u0 := bb2.cell 0
      have u1 := bb2.cell 1
      have u2 := bb2.cell 2
      have u3 := bb2.cell 3
      simp at u0 u1 u2 u3
      have m0 := K2.now.cell 0
      have m1 := K2.now.cell 1
      have m2 := K2.now.cell 2
      have m3 := K2.now.cell 3
      simp at m0 m1 m2 m3
      have hcall := hide (unhide hh _ K2.gh)
      have K2H := hide K2
      clear K1 K2 al6 bb2 RV1 cv1 KRH hh
      go_wp2_with fail
      refine (unhide hcall).mono ?_
      clear hcall u0 u1 u2 u3 m0 m1 m2 m3
      rintro e v2 ⟨rfl, qv2⟩
      have K3 := hide ((unhide K2H).quiet qv2)
      clear K2H qv2
      go_wp2
      go_roundw
      case rel =>
        obtain ⟨j5, j6⟩ := unhide jH
        have jw : wrap64 ((j : Int) + 1) = (j : Int) + 1 := wrap64_ok _ (by omega) (by omega)
        exact ⟨j + 1, by omega, by omega, by rw [jw]; rfl, unhide K3⟩
      case measure =>
        obtain ⟨j5, j6⟩ := unhide jH
        have jw : wrap64 ((j : Int) + 1) = (j : Int) + 1 := wrap64_ok _ (by omega) (by omega)
        exact meas14 j jw (by omega)
    · have j2 : ((j : Int) ≤ 12) = False := eq_false (by omega)
      have hsh := hide (show_any wr x σ KLr.rep (unhide ISH))
      rw [unhide HSH] at hsh
      clear hj KLr hj1 hj2
      go_wp2_with fail
      refine (unhide hsh).mono ?_
      rintro e v1 ⟨rfl, qv1⟩
      have K3 := hide ((unhide KRH).quiet qv1)
      clear hsh qv1 KRH
      go_wp2
      exact unhide hR _ (unhide K3)
end Go.Proofs.Qxb6500365a
