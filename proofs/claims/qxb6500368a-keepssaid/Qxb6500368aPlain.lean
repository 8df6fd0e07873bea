/-
  THE REAL BENCH: how it lies in memory; mul, add, sub; the api's small functions.
-/
import Derived.Test.Qxb6500368aRow
import Derived.Test.Qxb6500368aCells
import Derived.Test.Qxb6500368aLibB
import Derived.Test.Qxb6500368aItoa
import Derived.Test.Qxb6500368aNet
import Derived.Test.Qxb6500368aQq
import Derived.Test.Qxb6500368aProg
import Derived.WalkLawsBesides
import Derived.Deep.RegionLaw
import Derived.Deep.RegionHeld3
import Derived.BigQuiet
import Derived.Laws.Cover4
import Derived.OwnWalk
import Derived.Laws.MakeOwn
import Derived.WalkSmall
namespace Go.Proofs.Qxb6500368a
open Go.RowKit Go.Qx
set_option linter.unusedVariables false
set_option linter.unusedSimpArgs false

def ptr (a : Nat) : Value := .pointer (some ⟨a, 0, none⟩)

/-- A row of n numbers. -/
def ints (kd : IntKind) (f : Nat → Int) : Nat → List Value
  | 0 => []
  | n + 1 => ints kd f n ++ [.int kd (f n)]

theorem ints_length (kd : IntKind) (f : Nat → Int) : ∀ n, (ints kd f n).length = n
  | 0 => rfl
  | n + 1 => by simp [ints, ints_length kd f n]

theorem ints_get (kd : IntKind) (f : Nat → Int) : ∀ n i, i < n → (ints kd f n)[i]? = some (.int kd (f i))
  | 0, _, h => by omega
  | n + 1, i, h => by
    unfold ints
    by_cases e : i < n
    · rw [List.getElem?_append_left (by rw [ints_length]; exact e)]; exact ints_get kd f n i e
    · obtain rfl : i = n := by omega
      rw [List.getElem?_append_right (by rw [ints_length]; omega), ints_length]; simp

theorem ints_congr (kd : IntKind) {f g : Nat → Int} : ∀ {n}, (∀ i, i < n → f i = g i) → ints kd f n = ints kd g n
  | 0, _ => rfl
  | n + 1, h => by rw [ints, ints, ints_congr kd (fun i hi => h i (by omega)), h n (by omega)]

theorem ints_set (kd : IntKind) (f : Nat → Int) (i : Nat) (z : Int) : ∀ n, i < n → (ints kd f n).set i (.int kd z) = ints kd (updF f i z) n
  | 0, h => by omega
  | n + 1, h => by
    unfold ints
    by_cases e : i < n
    · rw [List.set_append_left _ _ (by rw [ints_length]; exact e), ints_set kd f i z n e]
      simp [updF, show n ≠ i by omega]
    · obtain rfl : i = n := by omega
      rw [List.set_append_right _ _ (by rw [ints_length]; omega), ints_length, Nat.sub_self, List.set_cons_zero]
      rw [ints_congr kd (f := f) (g := updF f i z) (fun j hj => by simp [updF, show j ≠ i by omega])]
      simp [updF]

/-- The bench's own cells. -/
def benchC (v : Nat) (n rt it nv : Nat → Int) (wk : Int) : List Value :=
  [.slice (some ⟨v, 0, none⟩) 48 48, .int .i64 (n 0), .int .i64 (n 1), .int .i64 (n 2),
   .int .u64 (rt 0), .int .u64 (rt 1), .int .u64 (rt 2), .int .u64 (rt 3), .int .u64 (rt 4), .int .u64 (rt 5), .int .u64 (rt 6), .int .u64 (rt 7),
   .int .u64 (it 0), .int .u64 (it 1), .int .u64 (it 2), .int .u64 (it 3), .int .u64 (it 4), .int .u64 (it 5), .int .u64 (it 6), .int .u64 (it 7),
   .int .u64 (nv 0), .int .u64 (nv 1), .int .u64 (nv 2), .int .u64 (nv 3), .int .u64 (nv 4), .int .i64 wk]

section
variable (v : Nat) (n rt it nv : Nat → Int) (wk : Int)
theorem bench_n (r : Nat) (h : r < 3) : (benchC v n rt it nv wk)[1 + r]? = some (.int .i64 (n r)) := by
  have : r = 0 ∨ r = 1 ∨ r = 2 := by omega
  rcases this with rfl | rfl | rfl <;> rfl
theorem bench_rt (r : Nat) (h : r < 8) : (benchC v n rt it nv wk)[4 + r]? = some (.int .u64 (rt r)) := by
  have : r = 0 ∨ r = 1 ∨ r = 2 ∨ r = 3 ∨ r = 4 ∨ r = 5 ∨ r = 6 ∨ r = 7 := by omega
  rcases this with rfl | rfl | rfl | rfl | rfl | rfl | rfl | rfl <;> rfl
theorem bench_it (r : Nat) (h : r < 8) : (benchC v n rt it nv wk)[12 + r]? = some (.int .u64 (it r)) := by
  have : r = 0 ∨ r = 1 ∨ r = 2 ∨ r = 3 ∨ r = 4 ∨ r = 5 ∨ r = 6 ∨ r = 7 := by omega
  rcases this with rfl | rfl | rfl | rfl | rfl | rfl | rfl | rfl <;> rfl
theorem bench_nv (r : Nat) (h : r < 5) : (benchC v n rt it nv wk)[20 + r]? = some (.int .u64 (nv r)) := by
  have : r = 0 ∨ r = 1 ∨ r = 2 ∨ r = 3 ∨ r = 4 := by omega
  rcases this with rfl | rfl | rfl | rfl | rfl <;> rfl
theorem bench_wk : (benchC v n rt it nv wk)[25]? = some (.int .i64 wk) := rfl
theorem bench_hd : (benchC v n rt it nv wk)[0]? = some (.slice (some ⟨v, 0, none⟩) 48 48) := rfl
theorem set_n (r : Nat) (h : r < 3) (z : Int) : (benchC v n rt it nv wk).set (1 + r) (.int .i64 z) = benchC v (updF n r z) rt it nv wk := by
  have : r = 0 ∨ r = 1 ∨ r = 2 := by omega
  rcases this with rfl | rfl | rfl <;> rfl
theorem set_rt (r : Nat) (h : r < 8) (z : Int) : (benchC v n rt it nv wk).set (4 + r) (.int .u64 z) = benchC v n (updF rt r z) it nv wk := by
  have : r = 0 ∨ r = 1 ∨ r = 2 ∨ r = 3 ∨ r = 4 ∨ r = 5 ∨ r = 6 ∨ r = 7 := by omega
  rcases this with rfl | rfl | rfl | rfl | rfl | rfl | rfl | rfl <;> rfl
theorem set_it (r : Nat) (h : r < 8) (z : Int) : (benchC v n rt it nv wk).set (12 + r) (.int .u64 z) = benchC v n rt (updF it r z) nv wk := by
  have : r = 0 ∨ r = 1 ∨ r = 2 ∨ r = 3 ∨ r = 4 ∨ r = 5 ∨ r = 6 ∨ r = 7 := by omega
  rcases this with rfl | rfl | rfl | rfl | rfl | rfl | rfl | rfl <;> rfl
theorem set_nv (r : Nat) (h : r < 5) (z : Int) : (benchC v n rt it nv wk).set (20 + r) (.int .u64 z) = benchC v n rt it (updF nv r z) wk := by
  have : r = 0 ∨ r = 1 ∨ r = 2 ∨ r = 3 ∨ r = 4 := by omega
  rcases this with rfl | rfl | rfl | rfl | rfl <;> rfl
theorem set_wk (z : Int) : (benchC v n rt it nv wk).set 25 (.int .i64 z) = benchC v n rt it nv z := rfl
end

theorem tmod_p {a : Int} (h : 0 ≤ a) : a.tmod 998244353 = a % pP := Int.tmod_eq_emod_of_nonneg h

theorem mul_lt {a b : Int} (ha : 0 ≤ a ∧ a < pP) (hb : 0 ≤ b ∧ b < pP) : 0 ≤ a * b ∧ a * b ≤ 996491786432544609 := by
  refine ⟨Int.mul_nonneg ha.1 hb.1, ?_⟩
  have h1 : a * b ≤ 998244352 * b := Int.mul_le_mul_of_nonneg_right (by have := ha.2; unfold pP at this; omega) hb.1
  have h2 := hb.2
  unfold pP at h2
  omega

theorem mul_any (w : World) (x v : Nat) (n rt it nv : Nat → Int) (wk : Int) (B : Blk w x 47 (benchC v n rt it nv wk)) (hw : 0 ≤ wk ∧ wk < 4611686018427387904) (a b : Int) (ha : 0 ≤ a ∧ a < pP) (hb : 0 ≤ b ∧ b < pP) :
    Calls Try.prog 15 #[ptr x, .int .u64 a, .int .u64 b] w fun e w' => e = .returned (.int .u64 (a * b % pP)) ∧ w' = w.setCell ⟨x, 25, none⟩ (.int .i64 (wk + 1)) := by
  have hab := mul_lt ha hb
  have c1 := (B.cell 25).trans (bench_wk v n rt it nv wk)
  have f1 := B.frozen 25
  have w1 : IntKind.u64.wrap (a * b) = a * b := by rw [IntKind.wrap_u64]; omega
  have w2 : wrap64 (wk + 1) = wk + 1 := by unfold wrap64; omega
  have e1 : (a * b).tmod 998244353 = a * b % pP := tmod_p hab.1
  clear B
  unfold ptr
  go_enter Try.func15, Try.ntmps15
  go_wp2
  go_ret
  exact ⟨rfl, rfl⟩

theorem add_any (w : World) (a b : Int) (ha : 0 ≤ a ∧ a < pP) (hb : 0 ≤ b ∧ b ≤ pP) : Calls Try.prog 51 #[.int .u64 a, .int .u64 b] w fun e w' => e = .returned (.int .u64 ((a + b) % pP)) ∧ w' = w := by
  have h1 := ha.2
  have h2 := hb.2
  unfold pP at h1 h2
  have w1 : IntKind.u64.wrap (a + b) = a + b := by rw [IntKind.wrap_u64]; omega
  by_cases h : 998244353 ≤ a + b
  · have w2 : IntKind.u64.wrap (a + b - 998244353) = a + b - 998244353 := by rw [IntKind.wrap_u64]; omega
    have e1 : Hid ((a + b) % pP = a + b - 998244353) := by show _ = _; unfold pP; omega
    rw [unhide e1]
    clear e1
    go_enter Try.func51, Try.ntmps51
    go_wp2
    go_ret
    exact ⟨rfl, rfl⟩
  · have e1 : Hid ((a + b) % pP = a + b) := by show _ = _; unfold pP; omega
    rw [unhide e1]
    clear e1
    go_enter Try.func51, Try.ntmps51
    go_wp2
    go_ret
    exact ⟨rfl, rfl⟩

theorem sub_any (w : World) (a b : Int) (ha : 0 ≤ a ∧ a < pP) (hb : 0 ≤ b ∧ b < pP) : Calls Try.prog 52 #[.int .u64 a, .int .u64 b] w fun e w' => e = .returned (.int .u64 ((a - b) % pP)) ∧ w' = w := by
  have h2 := hb.2
  unfold pP at h2
  have h := add_any w a (998244353 - b) ha (by unfold pP; omega)
  have e1 : (a + (998244353 - b)) % pP = (a - b) % pP := by unfold pP; omega
  rw [e1] at h
  have w1 : IntKind.u64.wrap (998244353 - b) = 998244353 - b := by rw [IntKind.wrap_u64]; omega
  clear e1
  go_enter Try.func52, Try.ntmps52
  go_wp2_with fail
  refine h.mono ?_
  rintro e w' ⟨rfl, rfl⟩
  go_wp2
  go_ret
  exact ⟨rfl, rfl⟩

def regP (r : Int) : Bool := decide (0 ≤ r ∧ r < 3)

theorem reg_cases (r : Int) : (∃ k : Nat, r = k ∧ k < 3 ∧ regP r = true) ∨ regP r = false := by
  unfold regP
  by_cases h : 0 ≤ r ∧ r < 3
  · exact .inl ⟨r.toNat, by omega, by omega, by simp [h]⟩
  · exact .inr (by simp; omega)

theorem reg_any (w : World) (r : Int) : Calls Try.prog 33 #[.int .i64 r] w fun e w' => e = .returned (.bool (regP r)) ∧ w' = w := by
  by_cases h1 : 0 ≤ r
  · by_cases h2 : r < 3
    · rw [show regP r = true by simp [regP, h1, h2]]
      go_enter Try.func33, Try.ntmps33
      go_wp2
      go_ret
      exact ⟨rfl, rfl⟩
    · rw [show regP r = false by simp [regP, h2]]
      go_enter Try.func33, Try.ntmps33
      go_wp2
      go_ret
      exact ⟨rfl, rfl⟩
  · rw [show regP r = false by simp [regP, h1]]
    go_enter Try.func33, Try.ntmps33
    go_wp2
    go_ret
    exact ⟨rfl, rfl⟩

theorem regs_any (w : World) (a b c : Int) : Calls Try.prog 35 #[.int .i64 a, .int .i64 b, .int .i64 c] w fun e w' => e = .returned (.bool (regP a && regP b && regP c)) ∧ w' = w := by
  by_cases a1 : 0 ≤ a
  case neg =>
    rw [show (regP a && regP b && regP c) = false by simp [regP, a1]]
    go_enter Try.func35, Try.ntmps35
    go_wp2
    go_ret
    exact ⟨rfl, rfl⟩
  by_cases a2 : a < 3
  case neg =>
    rw [show (regP a && regP b && regP c) = false by simp [regP, a2]]
    go_enter Try.func35, Try.ntmps35
    go_wp2
    go_ret
    exact ⟨rfl, rfl⟩
  by_cases b1 : 0 ≤ b
  case neg =>
    rw [show (regP a && regP b && regP c) = false by simp [regP, b1]]
    go_enter Try.func35, Try.ntmps35
    go_wp2
    go_ret
    exact ⟨rfl, rfl⟩
  by_cases b2 : b < 3
  case neg =>
    rw [show (regP a && regP b && regP c) = false by simp [regP, b2]]
    go_enter Try.func35, Try.ntmps35
    go_wp2
    go_ret
    exact ⟨rfl, rfl⟩
  by_cases c1 : 0 ≤ c
  case neg =>
    rw [show (regP a && regP b && regP c) = false by simp [regP, c1]]
    go_enter Try.func35, Try.ntmps35
    go_wp2
    go_ret
    exact ⟨rfl, rfl⟩
  by_cases c2 : c < 3
  case neg =>
    rw [show (regP a && regP b && regP c) = false by simp [regP, c2]]
    go_enter Try.func35, Try.ntmps35
    go_wp2
    go_ret
    exact ⟨rfl, rfl⟩
  rw [show (regP a && regP b && regP c) = true by simp [regP, a1, a2, b1, b2, c1, c2]]
  go_enter Try.func35, Try.ntmps35
  go_wp2
  go_ret
  exact ⟨rfl, rfl⟩

/-- The least k, at most 4, with m at most 2 ^ k. -/
def ceilP (m : Nat) : Nat := if m ≤ 1 then 0 else if m ≤ 2 then 1 else if m ≤ 4 then 2 else if m ≤ 8 then 3 else 4

theorem ceil_lt (m k : Nat) : k < ceilP m ↔ k < 4 ∧ 2 ^ k < m := by
  have : k = 0 ∨ k = 1 ∨ k = 2 ∨ k = 3 ∨ 4 ≤ k := by omega
  unfold ceilP
  rcases this with rfl | rfl | rfl | rfl | h
  · split <;> (try split) <;> (try split) <;> (try split) <;> omega
  · split <;> (try split) <;> (try split) <;> (try split) <;> omega
  · split <;> (try split) <;> (try split) <;> (try split) <;> omega
  · split <;> (try split) <;> (try split) <;> (try split) <;> omega
  · split <;> (try split) <;> (try split) <;> (try split) <;> omega

theorem ceil_le (m : Nat) : ceilP m ≤ 4 := by unfold ceilP; split <;> (try split) <;> (try split) <;> (try split) <;> omega
theorem ceil_fit (m : Nat) (h : m ≤ 16) : m ≤ 2 ^ ceilP m := by unfold ceilP; split <;> (try split) <;> (try split) <;> (try split) <;> simp <;> omega
theorem ceil_pow (k : Nat) (h : k ≤ 4) : ceilP (2 ^ k) = k := by
  have : k = 0 ∨ k = 1 ∨ k = 2 ∨ k = 3 ∨ k = 4 := by omega
  rcases this with rfl | rfl | rfl | rfl | rfl <;> rfl

theorem ceilLog_any (w : World) (m : Nat) (hm : m ≤ 48) : Calls Try.prog 36 #[.int .i64 m] w fun e w' => e = .returned (.int .i64 (ceilP m)) ∧ w' = w := by
  go_enter Try.func36, Try.ntmps36
  go_wp2
  go_loopw [3, 4] (fun a b wr => ∃ k : Nat, k ≤ 4 ∧ k ≤ ceilP m ∧ a = .int .i64 ((2 ^ k : Nat) : Int) ∧ b = .int .i64 k ∧ wr = w) (fun _ b _ => 5 - (intOf b).toNat)
  case atStart => exact ⟨0, by omega, by omega, rfl, rfl, rfl⟩
  case round =>
    obtain ⟨k, hk, hkc, rfl, rfl, hw⟩ := hrel
    subst hw
    have hcl := ceil_lt m k
    rcases (by omega : k = 0 ∨ k = 1 ∨ k = 2 ∨ k = 3 ∨ k = 4) with rfl | rfl | rfl | rfl | rfl
    · by_cases h1 : 1 < m
      · have h2 : 0 < ceilP m := hcl.2 ⟨by decide, h1⟩
        have a2 : (1 : Int) < (m : Int) := by omega
        clear hcl
        simp only [show ((2 ^ 0 : Nat) : Int) = 1 from rfl, show ((0 : Nat) : Int) = 0 from rfl]
        go_wp2
        go_roundw
        case rel => exact ⟨1, by omega, by omega, rfl, rfl, by trivial⟩
        case measure => simp [intOf]
      · have h2 : ¬ 0 < ceilP m := fun h => h1 (hcl.1 h).2
        have h3 : ceilP m = 0 := by omega
        have a2 : ¬ (1 : Int) < (m : Int) := by omega
        have h3H := hide h3
        clear hcl hkc h2 h3
        simp only [show ((2 ^ 0 : Nat) : Int) = 1 from rfl, show ((0 : Nat) : Int) = 0 from rfl]
        go_wp2
        go_ret
        exact ⟨by rw [unhide h3H]; rfl, rfl⟩
    · by_cases h1 : 2 < m
      · have h2 : 1 < ceilP m := hcl.2 ⟨by decide, h1⟩
        have a2 : (2 : Int) < (m : Int) := by omega
        clear hcl
        simp only [show ((2 ^ 1 : Nat) : Int) = 2 from rfl, show ((1 : Nat) : Int) = 1 from rfl]
        go_wp2
        go_roundw
        case rel => exact ⟨2, by omega, by omega, rfl, rfl, by trivial⟩
        case measure => simp [intOf]
      · have h2 : ¬ 1 < ceilP m := fun h => h1 (hcl.1 h).2
        have h3 : ceilP m = 1 := by omega
        have a2 : ¬ (2 : Int) < (m : Int) := by omega
        have h3H := hide h3
        clear hcl hkc h2 h3
        simp only [show ((2 ^ 1 : Nat) : Int) = 2 from rfl, show ((1 : Nat) : Int) = 1 from rfl]
        go_wp2
        go_ret
        exact ⟨by rw [unhide h3H]; rfl, rfl⟩
    · by_cases h1 : 4 < m
      · have h2 : 2 < ceilP m := hcl.2 ⟨by decide, h1⟩
        have a2 : (4 : Int) < (m : Int) := by omega
        clear hcl
        simp only [show ((2 ^ 2 : Nat) : Int) = 4 from rfl, show ((2 : Nat) : Int) = 2 from rfl]
        go_wp2
        go_roundw
        case rel => exact ⟨3, by omega, by omega, rfl, rfl, by trivial⟩
        case measure => simp [intOf]
      · have h2 : ¬ 2 < ceilP m := fun h => h1 (hcl.1 h).2
        have h3 : ceilP m = 2 := by omega
        have a2 : ¬ (4 : Int) < (m : Int) := by omega
        have h3H := hide h3
        clear hcl hkc h2 h3
        simp only [show ((2 ^ 2 : Nat) : Int) = 4 from rfl, show ((2 : Nat) : Int) = 2 from rfl]
        go_wp2
        go_ret
        exact ⟨by rw [unhide h3H]; rfl, rfl⟩
    · by_cases h1 : 8 < m
      · have h2 : 3 < ceilP m := hcl.2 ⟨by decide, h1⟩
        have a2 : (8 : Int) < (m : Int) := by omega
        clear hcl
        simp only [show ((2 ^ 3 : Nat) : Int) = 8 from rfl, show ((3 : Nat) : Int) = 3 from rfl]
        go_wp2
        go_roundw
        case rel => exact ⟨4, by omega, by omega, rfl, rfl, by trivial⟩
        case measure => simp [intOf]
      · have h2 : ¬ 3 < ceilP m := fun h => h1 (hcl.1 h).2
        have h3 : ceilP m = 3 := by omega
        have a2 : ¬ (8 : Int) < (m : Int) := by omega
        have h3H := hide h3
        clear hcl hkc h2 h3
        simp only [show ((2 ^ 3 : Nat) : Int) = 8 from rfl, show ((3 : Nat) : Int) = 3 from rfl]
        go_wp2
        go_ret
        exact ⟨by rw [unhide h3H]; rfl, rfl⟩
    · have h3 : ceilP m = 4 := by have := ceil_le m; omega
      have h3H := hide h3
      clear hcl hkc h3
      simp only [show ((2 ^ 4 : Nat) : Int) = 16 from rfl, show ((4 : Nat) : Int) = 4 from rfl]
      go_wp2
      go_ret
      exact ⟨by rw [unhide h3H]; rfl, rfl⟩

def log2P (n : Nat) : Int := if n = 2 ^ ceilP n then ceilP n else -1

theorem log2_any (w : World) (m : Nat) (hm : m ≤ 48) : Calls Try.prog 49 #[.int .i64 m] w fun e w' => e = .returned (.int .i64 (log2P m)) ∧ w' = w := by
  have hc := ceilLog_any w m hm
  have hk := ceil_le m
  unfold log2P
  rcases (by omega : ceilP m = 0 ∨ ceilP m = 1 ∨ ceilP m = 2 ∨ ceilP m = 3 ∨ ceilP m = 4) with e | e | e | e | e <;> rw [e] at hc ⊢ <;> clear e hk
  · by_cases h : m = 1
    · rw [if_pos (show m = 2 ^ 0 from h)]
      subst h
      go_enter Try.func49, Try.ntmps49
      go_wp2_with fail
      refine hc.mono ?_
      rintro e w' ⟨rfl, rfl⟩
      go_wp2
      go_ret
      exact ⟨rfl, rfl⟩
    · rw [if_neg (show ¬ m = 2 ^ 0 from h)]
      have hz : ((m : Int) == 1) = false := by simp; omega
      have hz2 : ¬ (m : Int) = 1 := by omega
      go_enter Try.func49, Try.ntmps49
      go_wp2_with fail
      refine hc.mono ?_
      rintro e w' ⟨rfl, rfl⟩
      go_wp2
      go_ret
      exact ⟨rfl, rfl⟩
  · by_cases h : m = 2
    · rw [if_pos (show m = 2 ^ 1 from h)]
      subst h
      go_enter Try.func49, Try.ntmps49
      go_wp2_with fail
      refine hc.mono ?_
      rintro e w' ⟨rfl, rfl⟩
      go_wp2
      go_ret
      exact ⟨rfl, rfl⟩
    · rw [if_neg (show ¬ m = 2 ^ 1 from h)]
      have hz : ((m : Int) == 2) = false := by simp; omega
      have hz2 : ¬ (m : Int) = 2 := by omega
      go_enter Try.func49, Try.ntmps49
      go_wp2_with fail
      refine hc.mono ?_
      rintro e w' ⟨rfl, rfl⟩
      go_wp2
      go_ret
      exact ⟨rfl, rfl⟩
  · by_cases h : m = 4
    · rw [if_pos (show m = 2 ^ 2 from h)]
      subst h
      go_enter Try.func49, Try.ntmps49
      go_wp2_with fail
      refine hc.mono ?_
      rintro e w' ⟨rfl, rfl⟩
      go_wp2
      go_ret
      exact ⟨rfl, rfl⟩
    · rw [if_neg (show ¬ m = 2 ^ 2 from h)]
      have hz : ((m : Int) == 4) = false := by simp; omega
      have hz2 : ¬ (m : Int) = 4 := by omega
      go_enter Try.func49, Try.ntmps49
      go_wp2_with fail
      refine hc.mono ?_
      rintro e w' ⟨rfl, rfl⟩
      go_wp2
      go_ret
      exact ⟨rfl, rfl⟩
  · by_cases h : m = 8
    · rw [if_pos (show m = 2 ^ 3 from h)]
      subst h
      go_enter Try.func49, Try.ntmps49
      go_wp2_with fail
      refine hc.mono ?_
      rintro e w' ⟨rfl, rfl⟩
      go_wp2
      go_ret
      exact ⟨rfl, rfl⟩
    · rw [if_neg (show ¬ m = 2 ^ 3 from h)]
      have hz : ((m : Int) == 8) = false := by simp; omega
      have hz2 : ¬ (m : Int) = 8 := by omega
      go_enter Try.func49, Try.ntmps49
      go_wp2_with fail
      refine hc.mono ?_
      rintro e w' ⟨rfl, rfl⟩
      go_wp2
      go_ret
      exact ⟨rfl, rfl⟩
  · by_cases h : m = 16
    · rw [if_pos (show m = 2 ^ 4 from h)]
      subst h
      go_enter Try.func49, Try.ntmps49
      go_wp2_with fail
      refine hc.mono ?_
      rintro e w' ⟨rfl, rfl⟩
      go_wp2
      go_ret
      exact ⟨rfl, rfl⟩
    · rw [if_neg (show ¬ m = 2 ^ 4 from h)]
      have hz : ((m : Int) == 16) = false := by simp; omega
      have hz2 : ¬ (m : Int) = 16 := by omega
      go_enter Try.func49, Try.ntmps49
      go_wp2_with fail
      refine hc.mono ?_
      rintro e w' ⟨rfl, rfl⟩
      go_wp2
      go_ret
      exact ⟨rfl, rfl⟩

end Go.Proofs.Qxb6500368a
