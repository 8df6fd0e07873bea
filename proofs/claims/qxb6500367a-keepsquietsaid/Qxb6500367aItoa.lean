/-
  api.Itoa answers 'itoa n' and leaves what was there as it was.
-/
import Derived.Test.Qxb6500367aProg
import Derived.Test.Qxb6500367aLib
import Derived.KernelRfl
namespace Go.Proofs.Qxb6500367a
open Go.RowKit Go.Qx

set_option maxRecDepth 100000 in
theorem itoa_raw (n : Int) (w : World) (hlo : -9223372036854775808 ≤ n) (hhi : n ≤ 9223372036854775807) :
    Calls Try.prog 16 #[.int .i64 n] w fun e w' => e = .returned (.string ⟨(itoa n).toArray⟩) ∧ Quiet w w' := by
  by_cases h0 : n = 0
  · subst h0
    go_enter Try.func16, Try.ntmps16
    go_wp2
    go_ret
    exact ⟨rfl, Chg.refl _ _⟩
  have hb : (n == 0) = false := by simpa using h0
  go_enter Try.func16, Try.ntmps16
  go_wp2
  go_loopw [0, 4] (fun c i wr => ∃ (m : Int) (k : Nat) (ds : List UInt8), k ≤ 24 ∧ 5 ≤ k ∧ ds.length = 24 - k ∧ c = .int .i64 m ∧ i = .int .i64 k ∧ m.natAbs < 10 ^ (k - 5) ∧ (n < 0 → m ≤ 0) ∧ (0 < n → 0 ≤ m) ∧ (-9223372036854775808 ≤ m ∧ m ≤ 9223372036854775807) ∧ digs (k - 5) m.natAbs ds = digs 19 n.natAbs [] ∧ wr = w.alloc (.cells (List.replicate k (Value.int .u8 0) ++ ds.map bv).toArray 39)) (fun c _ _ => (intOf c).natAbs)
  case atStart =>
    refine ⟨n, 24, [], by omega, by omega, rfl, rfl, rfl, by omega, by omega, by omega, by omega, rfl, ?_⟩
    rfl
  case round =>
    obtain ⟨m, k, ds, hk, hk5, hds, rfl, rfl, hm, hn1, hn2, hmb, hdig, rfl⟩ := hrel
    have i1 : (0 : Int) ≤ (k : Int) := by omega
    have i2 : (k : Int) ≤ 24 := by omega
    have i3 : (0 : Int) ≤ (k : Int) - 1 := by omega
    have i4 : (k : Int) - 1 < 24 := by omega
    have c1 := get_replicate k (by omega) (Value.int .u8 0) (ds.map bv)
    have c2 := fun x => set_replicate k (by omega) (Value.int .u8 0) x (ds.map bv)
    have hdgH := hide hdig
    clear hdig
    by_cases hm0 : m = 0
    · subst hm0
      have hdd : ds = digs 19 n.natAbs [] := by rw [← unhide hdgH]; exact (digs_zero _ _).symm
      have hddH := hide hdd
      clear hdd
      by_cases hn : n < 0
      · have s1 := fun W => run_sliceAt_arr_l (P := Try.prog) W 39 5 24 Try.underlying39 Try.sizeOf5 w.heap.size 0 ((k : Int) - 1) i3 i4
        have et : ((k : Int) - 1).toNat = k - 1 := by omega
        rw [et] at s1
        have cv := run_str_of_cells (P := Try.prog) (w.alloc (.cells (List.replicate (k - 1) (Value.int .u8 0) ++ Value.int .u8 45 :: ds.map bv).toArray 39)) 40 5 Try.underlying40 Try.underlying5 w.heap.size (0 + (k - 1)) (24 - (k - 1)) (24 - (k - 1)) (45 :: ds) (by simp; omega) (by
          intro i hi
          rw [World.cell?_alloc_at _ _ _ _ rfl, List.getElem?_toArray, List.getElem?_append_right (by simp)]
          have e2 : 0 + (k - 1) + i - (List.replicate (k - 1) (Value.int IntKind.u8 0)).length = i := by simp
          rw [e2]
          cases i with
          | zero => rfl
          | succ i => simp) 9 Try.underlying9
        simp only [Nat.zero_add] at s1 cv
        go_wp2
        go_ret
        refine ⟨?_, (Chg.refl _ _).alloc _⟩
        unfold itoa
        rw [if_neg h0, if_pos hn, ← unhide hddH]
        rfl
      · have i5 : (k : Int) < 24 := by
          rcases Nat.lt_or_ge k 24 with h | h
          · omega
          · exfalso
            have : ds = [] := by cases ds; rfl; simp at hds; omega
            rw [this] at hddH
            have e := unhide hddH
            rw [digs_step 18 _ _ (by omega)] at e
            have key : ∀ (f m : Nat) (x : UInt8) (l : List UInt8), digs f m (x :: l) ≠ [] := by
              intro f
              induction f with
              | zero => intro m x l; simp [digs]
              | succ f ih => intro m x l; unfold digs; split; simp; exact ih _ _ _
            exact key _ _ _ _ e.symm
        have s1 := fun W => run_sliceAt_arr_l (P := Try.prog) W 39 5 24 Try.underlying39 Try.sizeOf5 w.heap.size 0 (k : Int) i1 i5
        rw [Int.toNat_natCast] at s1
        have cv := run_str_of_cells (P := Try.prog) (w.alloc (.cells (List.replicate k (Value.int .u8 0) ++ ds.map bv).toArray 39)) 40 5 Try.underlying40 Try.underlying5 w.heap.size (0 + k) (24 - k) (24 - k) ds hds (by
          intro i hi
          rw [World.cell?_alloc_at _ _ _ _ rfl, List.getElem?_toArray, List.getElem?_append_right (by simp)]
          have e2 : 0 + k + i - (List.replicate k (Value.int IntKind.u8 0)).length = i := by simp
          rw [e2]; simp) 9 Try.underlying9
        simp only [Nat.zero_add] at s1 cv
        go_wp2
        go_ret
        refine ⟨?_, (Chg.refl _ _).alloc _⟩
        unfold itoa
        rw [if_neg h0, if_neg (by omega), ← unhide hddH]
        rfl
    · have hmb0 : (m != 0) = true := by simp [hm0]
      have hk6 : 6 ≤ k := by
        rcases Nat.lt_or_ge 5 k with h | h
        · omega
        · have : k = 5 := by omega
          subst this
          simp at hm; omega
      have hd1 := tdiv_natAbs m
      have hd2 := tmod_natAbs m
      have hd3 : m.natAbs / 10 < 10 ^ (k - 1 - 5) := by
        have e : 10 ^ (k - 5) = 10 ^ (k - 1 - 5) * 10 := by rw [← Nat.pow_succ]; congr 1; omega
        rw [e] at hm
        omega
      have hd1H := hide hd1
      have hd2H := hide hd2
      have hd3H := hide hd3
      clear hd1 hd2 hd3 hm
      have j1 : -9 ≤ m.tmod 10 ∧ m.tmod 10 ≤ 9 := by have := unhide hd2H; omega
      have fin : ∀ d : Int, 0 ≤ d → d.natAbs = m.natAbs % 10 → 48 + d = ((UInt8.ofNat (48 + m.natAbs % 10)).toNat : Int) := by
        intro d h0 h
        have : (UInt8.ofNat (48 + m.natAbs % 10)).toNat = 48 + m.natAbs % 10 := by
          rw [UInt8.toNat_ofNat']; omega
        rw [this]
        omega
      have finH := hide fin
      clear fin
      go_wp2
      all_goals
        go_roundw
        case rel =>
          have hq := unhide hd2H
          have hq' : (-m.tmod 10).natAbs = m.natAbs % 10 := by rw [Int.natAbs_neg]; exact hq
          refine ⟨m.tdiv 10, k - 1, UInt8.ofNat (48 + m.natAbs % 10) :: ds, by omega, by omega, by simp; omega, rfl, by go_num, ?_, ?_, ?_, ?_, ?_, ?_⟩
          · rw [unhide hd1H]; exact unhide hd3H
          · intro h; exact tdiv_nonpos' m (hn1 h)
          · intro h; exact tdiv_nonneg' m (hn2 h)
          · have := unhide hd1H; omega
          · rw [unhide hd1H, ← unhide hdgH]
            rw [show k - 5 = (k - 1 - 5) + 1 by omega, digs_step _ _ _ (by omega)]
          · rw [List.map_cons, bv]
            first
              | rw [← unhide finH (m.tmod 10) (by omega) hq]
              | rw [← unhide finH (-m.tmod 10) (by omega) hq']
        case measure => show (m.tdiv 10).natAbs < m.natAbs; rw [unhide hd1H]; omega

theorem itoa_any (n : Int) (w : World) (hlo : -9223372036854775808 ≤ n) (hhi : n ≤ 9223372036854775807) :
    Calls Try.prog 16 #[.int .i64 n] w fun e w' => e = .returned (.string (str (itoa n))) ∧ Quiet w w' := itoa_raw n w hlo hhi
end Go.Proofs.Qxb6500367a
