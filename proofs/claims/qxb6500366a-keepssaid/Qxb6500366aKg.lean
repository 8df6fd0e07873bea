/-
  THE LAW's OWN RECORD: how it lies in memory; within, side, count, swept. (gen6kg.py)
-/
import Derived.Test.Qxb6500366aPlay
namespace Go.Proofs.Qxb6500366a
open Go.RowKit Go.Qx
set_option linter.unusedVariables false
set_option linter.unusedSimpArgs false

structure RepG (w : World) (g gx gy : Nat) (tr : List Pt) (d : Pt) : Prop where
  own : Blk w g 32 [.slice (some ⟨gx, 0, none⟩) tr.length 24, .slice (some ⟨gy, 0, none⟩) tr.length 24, .int .i64 d.1, .int .i64 d.2]
  xs : ∃ cs, Blk w gx 3 cs ∧ cs.length = 24 ∧ ∀ i (h : i < tr.length), cs[i]? = some (.int .i64 tr[i].1)
  ys : ∃ cs, Blk w gy 3 cs ∧ cs.length = 24 ∧ ∀ i (h : i < tr.length), cs[i]? = some (.int .i64 tr[i].2)
  few : tr.length ≤ 24
  nx : g ≠ gx
  ny : g ≠ gy
  xy : gx ≠ gy

def ownG (g gx gy k : Nat) : Prop := k = g ∨ k = gx ∨ k = gy

theorem RepG.of_chg {S : Nat → Prop} {w w' : World} {g gx gy : Nat} {tr : List Pt} {d : Pt} (h : RepG w g gx gy tr d) (c : Chg S w w') (hS : ∀ k, S k → ¬ ownG g gx gy k) : RepG w' g gx gy tr d := by
  obtain ⟨cs, B1, h1, h2⟩ := h.xs
  obtain ⟨ds, B2, h3, h4⟩ := h.ys
  exact ⟨c.blk h.own (fun k => hS _ k (.inl rfl)), ⟨cs, c.blk B1 (fun k => hS _ k (.inr (.inl rfl))), h1, h2⟩, ⟨ds, c.blk B2 (fun k => hS _ k (.inr (.inr rfl))), h3, h4⟩, h.few, h.nx, h.ny, h.xy⟩
theorem RepG.quiet {w w' : World} {g gx gy : Nat} {tr : List Pt} {d : Pt} (h : RepG w g gx gy tr d) (c : Quiet w w') : RepG w' g gx gy tr d := h.of_chg c (fun _ f => f.elim)
theorem RepG.lts {w : World} {g gx gy : Nat} {tr : List Pt} {d : Pt} (h : RepG w g gx gy tr d) : ∀ k, ownG g gx gy k → k < w.heap.size := by
  obtain ⟨cs, B1, h1, h2⟩ := h.xs
  obtain ⟨ds, B2, h3, h4⟩ := h.ys
  rintro k (rfl | rfl | rfl)
  · exact h.own.lt
  · exact B1.lt
  · exact B2.lt
theorem RepG.at {w : World} {g gx gy : Nat} {tr : List Pt} {d : Pt} (h : RepG w g gx gy tr d) (i : Nat) (hi : i < tr.length) : w.cell? ⟨gx, i, none⟩ = some (.int .i64 tr[i].1) ∧ w.cell? ⟨gy, i, none⟩ = some (.int .i64 tr[i].2) := by
  obtain ⟨cs, B1, h1, h2⟩ := h.xs
  obtain ⟨ds, B2, h3, h4⟩ := h.ys
  exact ⟨(B1.cell i).trans (h2 i hi), (B2.cell i).trans (h4 i hi)⟩
theorem RepG.cells {w : World} {g gx gy : Nat} {tr : List Pt} {d : Pt} (h : RepG w g gx gy tr d) : w.cell? ⟨g, 0, none⟩ = some (.slice (some ⟨gx, 0, none⟩) tr.length 24) ∧ w.cell? ⟨g, 1, none⟩ = some (.slice (some ⟨gy, 0, none⟩) tr.length 24) ∧ w.cell? ⟨g, 2, none⟩ = some (.int .i64 d.1) ∧ w.cell? ⟨g, 3, none⟩ = some (.int .i64 d.2) :=
  ⟨h.own.cell 0, h.own.cell 1, h.own.cell 2, h.own.cell 3⟩

theorem withinK_any (w : World) (n m : Int) : Calls Try.prog 37 #[.int .i64 n, .int .i64 m] w fun e w' => e = .returned (.bool (inP (n, m))) ∧ w' = w := by
  by_cases h1 : -1048576 ≤ n
  case neg =>
    rw [show inP (n, m) = false by simp [inP]; omega]
    go_enter Try.func37, Try.ntmps37
    go_wp2
    go_ret
    exact ⟨rfl, rfl⟩
  by_cases h2 : n ≤ 1048576
  case neg =>
    rw [show inP (n, m) = false by simp [inP]; omega]
    go_enter Try.func37, Try.ntmps37
    go_wp2
    go_ret
    exact ⟨rfl, rfl⟩
  by_cases h3 : -1048576 ≤ m
  case neg =>
    rw [show inP (n, m) = false by simp [inP]; omega]
    go_enter Try.func37, Try.ntmps37
    go_wp2
    go_ret
    exact ⟨rfl, rfl⟩
  by_cases h4 : m ≤ 1048576
  case neg =>
    rw [show inP (n, m) = false by simp [inP]; omega]
    go_enter Try.func37, Try.ntmps37
    go_wp2
    go_ret
    exact ⟨rfl, rfl⟩
  rw [show inP (n, m) = true by simp [inP]; omega]
  go_enter Try.func37, Try.ntmps37
  go_wp2
  go_ret
  exact ⟨rfl, rfl⟩

def sideP (x y : Int) (k : Nat) : Int := if k = 0 then x else if k = 1 then y else if k = 2 then -x else -y

theorem side_any (w : World) (x y : Int) (k : Nat) (hk : k < 4) (hx : -4294967296 ≤ x ∧ x ≤ 4294967296) (hy : -4294967296 ≤ y ∧ y ≤ 4294967296) : Calls Try.prog 38 #[.int .i64 x, .int .i64 y, .int .i64 (k : Int)] w fun e w' => e = .returned (.int .i64 (sideP x y k)) ∧ w' = w := by
  have w1 : wrap64 (-x) = -x := by unfold wrap64; omega
  have w2 : wrap64 (-y) = -y := by unfold wrap64; omega
  clear hx hy
  rcases (by omega : k = 0 ∨ k = 1 ∨ k = 2 ∨ k = 3) with rfl | rfl | rfl | rfl
  · go_enter Try.func38, Try.ntmps38
    go_wp2
    go_ret
    exact ⟨rfl, rfl⟩
  · go_enter Try.func38, Try.ntmps38
    go_wp2
    go_ret
    exact ⟨rfl, rfl⟩
  · go_enter Try.func38, Try.ntmps38
    go_wp2
    go_ret
    exact ⟨by first | rfl | (show _ = Ending.returned (.int .i64 (-x)); simp [w1]), rfl⟩
  · go_enter Try.func38, Try.ntmps38
    go_wp2
    go_ret
    exact ⟨by first | rfl | (show _ = Ending.returned (.int .i64 (-y)); simp [w2]), rfl⟩

set_option maxHeartbeats 4000000 in
theorem count_any (w : World) (g gx gy : Nat) (tr : List Pt) (d : Pt) (R : RepG w g gx gy tr d) (x y : Int) : Calls Try.prog 39 #[ptr g, .int .i64 x, .int .i64 y] w fun e w' => e = .returned (.int .i64 (amongP tr (x, y) tr.length)) ∧ w' = w := by
  have RH := hide R
  have fH := hide R.few
  obtain ⟨c0, c1, c2, c3⟩ := R.cells
  clear R c2 c3
  unfold ptr
  go_enter Try.func39, Try.ntmps39
  go_wp2
  go_loopw [14, 7] (fun z c wr => ∃ i : Nat, i ≤ tr.length ∧ z = .int .i64 (i : Int) ∧ c = .int .i64 (amongP tr (x, y) i) ∧ wr = w) (fun z _ _ => tr.length + 1 - (intOf z).toNat)
  case atStart => exact ⟨0, by omega, rfl, rfl, rfl⟩
  case round =>
    obtain ⟨i, hi, rfl, rfl, hwr⟩ := hrel
    subst hwr
    by_cases hlt : i < tr.length
    · have g1 : (i : Int) < (tr.length : Int) := by omega
      have i0 : (0 : Int) ≤ (i : Int) := by omega
      have few := unhide fH
      obtain ⟨r0, r1⟩ := (unhide RH).at i hlt
      have bd := among_bd tr (x, y) i
      have hs : amongP tr (x, y) (i + 1) = amongP tr (x, y) i + (if tr[i] = (x, y) then 1 else 0) := by rw [amongP, getD_get tr i hlt]
      have hsH := hide hs
      obtain ⟨A, hA⟩ : ∃ A, amongP tr (x, y) i = A := ⟨_, rfl⟩
      rw [hA] at bd hsH ⊢
      have wA : wrap64 (A + 1) = A + 1 := by unfold wrap64; omega
      have wi : wrap64 ((i : Int) + 1) = (i : Int) + 1 := wrap_small (i + 1) (by omega)
      obtain ⟨X, hX⟩ : ∃ X, tr[i].1 = X := ⟨_, rfl⟩
      obtain ⟨Y, hY⟩ : ∃ Y, tr[i].2 = Y := ⟨_, rfl⟩
      rw [hX] at r0
      rw [hY] at r1
      by_cases h1 : X = x
      · by_cases h2 : Y = y
        · have e : tr[i] = (x, y) := Prod.ext (by rw [hX]; exact h1) (by rw [hY]; exact h2)
          rw [if_pos e] at hsH
          subst h1 h2
          have hltH := hide hlt
          clear bd hs hA hX hY e few hi hlt
          go_wp2
          go_roundw
          case rel => exact ⟨i + 1, unhide hltH, by simp; try exact wi, by rw [unhide hsH]; try rw [wA], by first | rfl | trivial⟩
          case measure =>
            have h := unhide hltH
            first
              | exact meas_plain h
              | exact meas_next h wi
        · have e : ¬ tr[i] = (x, y) := fun e => h2 (by rw [← hY, e])
          rw [if_neg e, Int.add_zero] at hsH
          subst h1
          have hltH := hide hlt
          clear bd hs hA hX hY e few hi hlt
          go_wp2
          go_roundw
          case rel => exact ⟨i + 1, unhide hltH, by simp; try exact wi, by rw [unhide hsH], by first | rfl | trivial⟩
          case measure =>
            have h := unhide hltH
            first
              | exact meas_plain h
              | exact meas_next h wi
      · have e : ¬ tr[i] = (x, y) := fun e => h1 (by rw [← hX, e])
        rw [if_neg e, Int.add_zero] at hsH
        have hltH := hide hlt
        clear bd hs hA hX hY e few hi hlt
        go_wp2
        go_roundw
        case rel => exact ⟨i + 1, unhide hltH, by simp; try exact wi, by rw [unhide hsH], by first | rfl | trivial⟩
        case measure =>
          have h := unhide hltH
          first
            | exact meas_plain h
            | exact meas_next h wi
    · have g1 : ¬ (i : Int) < (tr.length : Int) := by omega
      obtain rfl : i = tr.length := by omega
      clear hlt hi
      go_wp2
      go_ret
      exact ⟨rfl, rfl⟩

/-! ### The trapezoids' sum -/
def nextQ (tr : List Pt) (i : Nat) : Pt := tr.getD ((i + 1) % tr.length) (0, 0)
def trapP (p q : Pt) : Int := (p.1 - q.1) * (p.2 + q.2)
def sweptTo (tr : List Pt) : Nat → Int
  | 0 => 0
  | i + 1 => sweptTo tr i + trapP (tr.getD i (0, 0)) (nextQ tr i)

def pxy (p : Pt) : Int := p.1 * p.2
theorem trap_cross (p q : Pt) : trapP p q = pxy p - pxy q + crossP p q := by
  unfold trapP pxy crossP; grind

theorem swept_lt (tr : List Pt) (h0 : 0 < tr.length) : ∀ i, i < tr.length → sweptTo tr i = pxy (tr.getD 0 (0, 0)) - pxy (tr.getD i (0, 0)) + areaTo tr (i + 1) - crossP (tr.getD (tr.length - 1) (0, 0)) (tr.getD 0 (0, 0))
  | 0, _ => by
    have e : prevP tr 0 = tr.getD (tr.length - 1) (0, 0) := by unfold prevP; rw [if_pos rfl]
    rw [sweptTo, areaTo, areaTo, e]
    omega
  | i + 1, h => by
    have ih := swept_lt tr h0 i (by omega)
    have en : nextQ tr i = tr.getD (i + 1) (0, 0) := by unfold nextQ; rw [Nat.mod_eq_of_lt h]
    have ep : prevP tr (i + 1) = tr.getD i (0, 0) := by unfold prevP; rw [if_neg (by omega)]; rfl
    rw [sweptTo, ih, en, trap_cross, areaTo, areaTo, ep]
    rw [areaTo] at *
    omega
theorem swept_all (tr : List Pt) (h0 : 0 < tr.length) : sweptTo tr tr.length = areaTo tr tr.length := by
  obtain ⟨n, hn⟩ : ∃ n, tr.length = n + 1 := ⟨tr.length - 1, by omega⟩
  have h := swept_lt tr h0 n (by omega)
  have en : nextQ tr n = tr.getD 0 (0, 0) := by unfold nextQ; rw [hn, Nat.mod_self]
  rw [hn] at h ⊢
  rw [sweptTo, h, en, trap_cross, show n + 1 - 1 = n by omega]
  omega

theorem swept_bd (tr : List Pt) (hs : ∀ p ∈ tr, Small p) : ∀ i, i ≤ tr.length → -(8796093022208 * (i : Int)) ≤ sweptTo tr i ∧ sweptTo tr i ≤ 8796093022208 * (i : Int)
  | 0, _ => by simp [sweptTo]
  | i + 1, h => by
    have ih := swept_bd tr hs i (by omega)
    have sm : ∀ q, q < tr.length → Small (tr.getD q (0, 0)) := fun q hq => by rw [getD_get tr q hq]; exact hs _ (List.getElem_mem hq)
    obtain ⟨a1, a2, a3, a4⟩ := sm i (by omega)
    obtain ⟨b1, b2, b3, b4⟩ : Small (nextQ tr i) := sm _ (Nat.mod_lt _ (by omega))
    have m1 := mul_abs (a := (tr.getD i (0, 0)).1 - (nextQ tr i).1) (b := (tr.getD i (0, 0)).2 + (nextQ tr i).2) (c := 2097152) (d := 2097152) (by omega) (by omega) (by decide) (by decide)
    rw [sweptTo]
    unfold trapP
    push_cast
    omega
end Go.Proofs.Qxb6500366a
