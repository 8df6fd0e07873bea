/-
  Keeps: KeepsUpTo, Keeps.
-/
import Derived.Test.Qxb6500365aKKept
import Derived.Test.Qxb6500365aRefine
namespace Go.Proofs.Qxb6500365a
open Go.RowKit Go.Qx Ieee
set_option linter.unusedSimpArgs false
set_option linter.unusedVariables false

/-- What the loop of Keeps holds: the gate x and the ghost g agree. -/
structure KR (w wr : World) (x g : Nat) (σ : GS) : Prop where
  chg : Chg (fun k => w.heap.size ≤ k) w wr
  rep : Rep wr x σ
  gh : Blk wr g 29 (ghC σ)
  inv : Inv σ
  xg : x ≠ g
  xl : w.heap.size ≤ x
  gl : w.heap.size ≤ g

theorem KR.step {w wr wr' : World} {x g : Nat} {σ σ' : GS} (h : KR w wr x g σ) (c : Chg (fun k => k = x ∨ k = g) wr wr') (R : Rep wr' x σ') (b : Blk wr' g 29 (ghC σ')) (I : Inv σ') : KR w wr' x g σ' :=
  ⟨h.chg.trans (c.mono (fun k _ hk => by
    have h1 := h.xl
    have h2 := h.gl
    rcases hk with rfl | rfl <;> assumption)), R, b, I, h.xg, h.xl, h.gl⟩

set_option maxHeartbeats 4000000 in
set_option maxRecDepth 100000 in
theorem keepsUpTo_any (w : World) (a : Option Addr) (len cap : Nat) (ops : List Opr) (ho : IsOps w a len cap ops) :
    Calls Try.prog 6 #[.slice a len cap] w fun e w' => e = .returned (.int .i64 (-1)) ∧ Below w.heap.size w w' := by
  have hlen := ho.small
  have hnew := new_any w
  go_enter Try.func6, Try.ntmps6
  go_wp2_with fail
  refine hnew.mono ?_
  clear hnew
  rintro e w1 ⟨x, rfl, q1, ho1, R1⟩
  have al1 : Quiet w1 (w1.alloc (.cells #[.int .i64 1, .int .i64 1, .int .i64 0, .int .i64 0, .int .i64 0, .int .i64 0] 29)) := (Chg.refl _ _).alloc _
  have b1 : Blk (w1.alloc (.cells #[.int .i64 1, .int .i64 1, .int .i64 0, .int .i64 0, .int .i64 0, .int .i64 0] 29)) w1.heap.size 29 (ghC (first 1)) := Blk.new w1 29 [.int .i64 1, .int .i64 1, .int .i64 0, .int .i64 0, .int .i64 0, .int .i64 0]
  have xl := R1.lt
  have hk1 : KR w (w1.alloc (.cells #[.int .i64 1, .int .i64 1, .int .i64 0, .int .i64 0, .int .i64 0, .int .i64 0] 29)) x w1.heap.size (first 1) :=
    ⟨(q1.chg _).trans (al1.chg _), R1.quiet al1, b1, inv_first (.inl rfl), by omega, ho1, q1.size⟩
  have hkept := hide (kept_any _ x w1.heap.size (first 1) hk1.rep hk1.gh hk1.inv hk1.xg ⟨0, 0, 0, 0, ⟨#[]⟩, ⟨#[]⟩⟩)
  have hk1H := hide hk1
  clear q1 R1 al1 b1 hk1 ho1 xl
  go_wp2_with fail
  refine (unhide hkept).mono ?_
  clear hkept
  rintro e w2 ⟨rfl, c2, R2, b2⟩
  have hk2 := hide ((unhide hk1H).step c2 R2 b2 (inv_next (unhide hk1H).inv _))
  clear hk1H c2 R2 b2
  obtain ⟨g, hg⟩ : ∃ g, w1.heap.size = g := ⟨_, rfl⟩
  rw [hg] at hk2 ⊢
  clear hg
  go_wp2
  go_loopw [5] (fun i wr => ∃ (j : Nat) (σ : GS), j ≤ len ∧ i = .int .i64 j ∧ KR w wr x g σ) (fun i _ => len - (intOf i).toNat)
  case atStart => exact ⟨0, _, Nat.zero_le _, rfl, unhide hk2⟩
  case round =>
    clear hk2
    obtain ⟨j, σ, hj, rfl, hb⟩ := hrel
    have hbel : Below w.heap.size w wr := hb.chg.below _ (Nat.le_refl _) (fun _ h => h)
    have hbelH := hide hbel
    clear hbel
    by_cases hlt : j < len
    · by_cases hmax : (j : Int) < 4398046511104
      · have hjo : j < ops.length := by rw [ho.count]; exact hlt
        obtain ⟨sb, so, rfl, hsb, k0, k1, k2, k3, k4, k5⟩ := ho.cells j hjo
        generalize ops[j] = o at *
        obtain ⟨ok, oa, ob, oc, os, ot⟩ := o
        simp only at k0 k1 k2 k3 k4 k5
        have i1 : (0 : Int) ≤ (j : Int) := by omega
        have i2 : (j : Int) < (len : Int) := by omega
        have g1 : decide (j < len) = true := by simpa using hlt
        have hbl := unhide hbelH
        rw [← hbl.cell (p := ⟨sb, so + j * 6, none⟩) hsb] at k0
        rw [← hbl.cell (p := ⟨sb, so + j * 6 + 1, none⟩) hsb] at k1
        rw [← hbl.cell (p := ⟨sb, so + j * 6 + 2, none⟩) hsb] at k2
        rw [← hbl.cell (p := ⟨sb, so + j * 6 + 3, none⟩) hsb] at k3
        rw [← hbl.cell (p := ⟨sb, so + j * 6 + 4, none⟩) hsb] at k4
        rw [← hbl.cell (p := ⟨sb, so + j * 6 + 5, none⟩) hsb] at k5
        clear hbl
        have jH := hide (And.intro hlt hmax)
        have hbsH := hide hb
        have hdo := kept_any wr x g σ hb.rep hb.gh hb.inv hb.xg ⟨ok, oa, ob, oc, os, ot⟩
        dsimp only at hdo
        have hdoH := hide hdo
        clear hdo hb hj hjo
        go_wp2_with fail
        refine (unhide hdoH).mono ?_
        clear hdoH
        rintro e w5 ⟨rfl, c5, R5, b5⟩
        have hk5 := hide ((unhide hbsH).step c5 R5 b5 (inv_next (unhide hbsH).inv _))
        clear hbsH c5 R5 b5 k0 k1 k2 k3 k4 k5
        go_wp2
        go_roundw
        case rel => exact ⟨j + 1, _, (unhide jH).1, by go_num, unhide hk5⟩
        case measure =>
          obtain ⟨h1, h2⟩ := unhide jH
          simp [intOf]; omega
      · have g1 : decide (j < len) = true := by simpa using hlt
        have g2 : ¬ (j : Int) < 4398046511104 := hmax
        have g3 : ¬ (len : Int) < 4398046511104 := by omega
        clear hb hmax
        go_wp2
        go_ret
        exact ⟨rfl, unhide hbelH⟩
    · have g1 : decide (j < len) = false := by simpa using hlt
      have g2 : ¬ (j : Int) < (len : Int) := by omega
      clear hb
      by_cases g3 : (len : Int) < 4398046511104
      · go_wp2
        go_ret
        exact ⟨rfl, unhide hbelH⟩
      · go_wp2
        go_ret
        exact ⟨rfl, unhide hbelH⟩

theorem keeps_any (w : World) (a : Option Addr) (len cap : Nat) (ops : List Opr) (ho : IsOps w a len cap ops) :
    Calls Try.prog 3 #[.slice a len cap] w fun e w' => e = .returned (.bool true) ∧ Below w.heap.size w w' := by
  go_enter Try.func3, Try.ntmps3
  go_wp2_with fail
  refine (keepsUpTo_any w a len cap ops ho).mono ?_
  rintro e w1 ⟨rfl, bel⟩
  go_wp2
  go_ret
  exact ⟨rfl, bel⟩
end Go.Proofs.Qxb6500365a
