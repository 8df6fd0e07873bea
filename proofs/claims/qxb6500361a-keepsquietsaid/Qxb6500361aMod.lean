/-
  The model: New, place, Get, Floor, Scan, Show, Check.
-/
import Derived.Test.Qxb6500361aMPlain
import Derived.Test.Qxb6500361aLook
namespace Go.Proofs.Qxb6500361a
open Go.RowKit Go.Qx
set_option linter.unusedSimpArgs false
set_option linter.unusedVariables false
attribute [local go_sem] str_size

theorem mnew_any (w : World) : Calls Try.prog 32 #[] w fun e w' => e = .returned (ptr (w.heap.size + 1)) ∧ Quiet w w' ∧ MRep w' (w.heap.size + 1) w.heap.size [] := by
  have hmk : ∀ w, (Instr.makeSlice 80 (.int .i64 0) (.int .i64 12)).run Try.prog w = .ok (.slice (some ⟨w.heap.size, 0, none⟩) 0 12) (w.alloc (.cells (pairCells (List.replicate 12 (0, ⟨#[]⟩))).toArray 85)) := fun _ => by kernel_rfl
  go_enter Try.func32, Try.ntmps32
  go_wp2
  go_ret
  refine ⟨rfl, ((Chg.refl _ _).alloc _).alloc _, ?_, ?_, by simp, by simp, by simp, by omega⟩
  · have := Blk.new (w.alloc (.cells (pairCells (List.replicate 12 (0, ⟨#[]⟩))).toArray 85)) 82 [.slice (some ⟨w.heap.size, 0, none⟩) 0 12]
    simp only [World.size_alloc] at this
    exact this
  · exact ⟨List.replicate 12 (0, ⟨#[]⟩), rfl, (Blk.new w 85 _).alloc _⟩

set_option maxHeartbeats 400000 in
theorem place_any (w : World) (m b : Nat) (pre suf : List (Int × ByteArray)) (k : Int) (r : MRep w m b (pre ++ suf)) (hpre : ∀ p ∈ pre, p.1 < k) (hsuf : ∀ p ∈ suf, k ≤ p.1) :
    Calls Try.prog 50 #[ptr m, .int .i64 k] w fun e w' => e = .returned (.int .i64 pre.length) ∧ Quiet w w' := by
  have hl := r.len
  have cm := r.list.cell 0
  simp only [List.getElem?_cons_zero] at cm
  generalize hN : (pre ++ suf).length = N at cm hl
  have hpl : pre.length ≤ N := by rw [← hN]; simp
  have hNH := hide hN
  clear hN
  unfold ptr
  go_enter Try.func50, Try.ntmps50
  go_wp2
  go_loopw [5] (fun i wr => ∃ j : Nat, j ≤ pre.length ∧ i = .int .i64 j ∧ Quiet w wr) (fun i _ => 12 - (intOf i).toNat)
  case atStart => exact ⟨0, Nat.zero_le _, rfl, Chg.refl _ _⟩
  case round =>
    obtain ⟨j, hj, rfl, hq⟩ := hrel
    have cm1 := Quiet.cell hq cm
    have r1 := r.quiet hq
    by_cases hlt : j < pre.length
    · have hc := r1.get j pre[j] (by rw [List.getElem?_append_left hlt]; exact List.getElem?_eq_getElem hlt)
      have hk := hpre pre[j] (List.getElem_mem hlt)
      have i1 : (0 : Int) ≤ (j : Int) := by omega
      have i2 : (j : Int) < (N : Int) := by omega
      have g1 : decide (j < N) = true := by simp; omega
      go_wp2
      go_roundw
      case rel => exact ⟨j + 1, by omega, by go_num, hq⟩
      case measure => simp [intOf]; omega
    · have hje : j = pre.length := by omega
      have hjeH := hide hje
      clear hje
      cases suf with
      | nil =>
        have hge : N ≤ j := by have := unhide hjeH; have := unhide hNH; simp at this; omega
        have g1 : decide (j < N) = false := by simp; omega
        go_wp2
        go_ret
        exact ⟨ret_int (by rw [unhide hjeH]), hq⟩
      | cons q suf =>
        have hc := r1.get j q (by rw [unhide hjeH, List.getElem?_append_right (by omega)]; simp)
        have hk := hsuf q (by simp)
        have i1 : (0 : Int) ≤ (j : Int) := by omega
        have hjN : j < N := by have := unhide hjeH; have := unhide hNH; simp at this; omega
        have i2 : (j : Int) < (N : Int) := by omega
        have g1 : decide (j < N) = true := by simp; omega
        go_wp2
        go_ret
        exact ⟨ret_int (by rw [unhide hjeH]), hq⟩

theorem mnot (w : World) (m b : Nat) (pre suf : List (Int × ByteArray)) (k : Int) (r : MRep w m b (pre ++ suf)) (hsuf : ∀ p ∈ suf, k < p.1) (N : Nat) (hN : (pre ++ suf).length = N) :
    (N ≤ pre.length) ∨ ∃ q : Int × ByteArray, pre.length < N ∧ (q.1 == k) = false ∧ (∀ w', Quiet w w' → w'.cell? ⟨b, pre.length * 2, none⟩ = some (.int .i64 q.1)) := by
  cases suf with
  | nil => left; simp at hN; omega
  | cons q suf =>
    right
    refine ⟨q, by simp at hN; omega, ?_, fun w' hw => ((r.quiet hw).get pre.length q (by rw [List.getElem?_append_right (Nat.le_refl _)]; simp)).1⟩
    have := hsuf q (by simp)
    rw [beq_eq_false_iff_ne]; omega

set_option maxHeartbeats 400000 in
theorem mget_hit (w : World) (m b : Nat) (pre suf : List (Int × ByteArray)) (q : Int × ByteArray) (r : MRep w m b (pre ++ q :: suf)) (hpre : ∀ p ∈ pre, p.1 < q.1) (hsuf : ∀ p ∈ suf, q.1 ≤ p.1) :
    Calls Try.prog 44 #[ptr m, .int .i64 q.1] w fun e w' => e = .returned (.tuple #[.string q.2, .int .i64 0]) ∧ Quiet w w' := by
  have hl := r.len
  have cm := r.list.cell 0
  simp only [List.getElem?_cons_zero] at cm
  have hlt : pre.length < (pre ++ q :: suf).length := by simp
  generalize hN : (pre ++ q :: suf).length = N at cm hl hlt
  clear hN
  have h := place_any w m b pre (q :: suf) q.1 r hpre (fun x hx => by rcases List.mem_cons.1 hx with rfl | h; omega; exact hsuf x h)
  unfold ptr at *
  go_enter Try.func44, Try.ntmps44
  go_wp2_with fail
  refine h.mono ?_
  rintro e w1 ⟨rfl, hq⟩
  have cm1 := Quiet.cell hq cm
  have hc := (r.quiet hq).get pre.length q (by rw [List.getElem?_append_right (Nat.le_refl _)]; simp)
  generalize pre.length = j at *
  have i1 : (0 : Int) ≤ (j : Int) := by omega
  have i2 : (j : Int) < (N : Int) := by omega
  have g1 : decide (N ≤ j) = false := by simp; omega
  go_wp2
  go_ret2
  exact ⟨rfl, hq⟩

set_option maxHeartbeats 400000 in
theorem mget_miss (w : World) (m b : Nat) (pre suf : List (Int × ByteArray)) (k : Int) (r : MRep w m b (pre ++ suf)) (hpre : ∀ p ∈ pre, p.1 < k) (hsuf : ∀ p ∈ suf, k < p.1) :
    Calls Try.prog 44 #[ptr m, .int .i64 k] w fun e w' => e = .returned (.tuple #[.string ⟨#[]⟩, .int .i64 3]) ∧ Quiet w w' := by
  have hl := r.len
  have cm := r.list.cell 0
  simp only [List.getElem?_cons_zero] at cm
  have hnot := mnot w m b pre suf k r hsuf _ rfl
  generalize hN : (pre ++ suf).length = N at cm hl hnot
  clear hN
  have h := place_any w m b pre suf k r hpre (fun x hx => by have := hsuf x hx; omega)
  unfold ptr at *
  go_enter Try.func44, Try.ntmps44
  go_wp2_with fail
  refine h.mono ?_
  rintro e w1 ⟨rfl, hq⟩
  have cm1 := Quiet.cell hq cm
  rcases hnot with hge | ⟨q, hlt, hk, hc⟩
  · generalize pre.length = j at *
    have g1 : decide (N ≤ j) = true := by simp; omega
    go_wp2
    go_ret2
    exact ⟨rfl, hq⟩
  · have hc1 := hc w1 hq
    clear hc
    generalize pre.length = j at *
    have i1 : (0 : Int) ≤ (j : Int) := by omega
    have i2 : (j : Int) < (N : Int) := by omega
    have g1 : decide (N ≤ j) = false := by simp; omega
    go_wp2
    go_ret2
    exact ⟨rfl, hq⟩

set_option maxHeartbeats 400000 in
theorem mfloor_hit (w : World) (m b : Nat) (pre suf : List (Int × ByteArray)) (q : Int × ByteArray) (r : MRep w m b (pre ++ q :: suf)) (hpre : ∀ p ∈ pre, p.1 < q.1) (hsuf : ∀ p ∈ suf, q.1 ≤ p.1) :
    Calls Try.prog 46 #[ptr m, .int .i64 q.1] w fun e w' => e = .returned (.tuple #[.int .i64 q.1, .string q.2, .int .i64 0]) ∧ Quiet w w' := by
  have hl := r.len
  have cm := r.list.cell 0
  simp only [List.getElem?_cons_zero] at cm
  have hlt : pre.length < (pre ++ q :: suf).length := by simp
  generalize hN : (pre ++ q :: suf).length = N at cm hl hlt
  clear hN
  have h := place_any w m b pre (q :: suf) q.1 r hpre (fun x hx => by rcases List.mem_cons.1 hx with rfl | h; omega; exact hsuf x h)
  unfold ptr at *
  go_enter Try.func46, Try.ntmps46
  go_wp2_with fail
  refine h.mono ?_
  rintro e w1 ⟨rfl, hq⟩
  have cm1 := Quiet.cell hq cm
  have hc := (r.quiet hq).get pre.length q (by rw [List.getElem?_append_right (Nat.le_refl _)]; simp)
  generalize pre.length = j at *
  have i1 : (0 : Int) ≤ (j : Int) := by omega
  have i2 : (j : Int) < (N : Int) := by omega
  have g1 : decide (j < N) = true := by simp; omega
  go_wp2
  go_big_quiet (fail)
  go_wp2
  go_ret3
  exact ⟨rfl, hq.drewN _⟩

set_option maxHeartbeats 1000000 in
theorem mfloor_none (w : World) (m b : Nat) (suf : List (Int × ByteArray)) (k : Int) (r : MRep w m b ([] ++ suf)) (hsuf : ∀ p ∈ suf, k < p.1) :
    Calls Try.prog 46 #[ptr m, .int .i64 k] w fun e w' => e = .returned (.tuple #[.int .i64 0, .string ⟨#[]⟩, .int .i64 3]) ∧ Quiet w w' := by
  have hl := r.len
  have cm := r.list.cell 0
  simp only [List.getElem?_cons_zero] at cm
  have hnot := mnot w m b [] suf k r hsuf _ rfl
  generalize hN : ([] ++ suf).length = N at cm hl hnot
  clear hN
  have h := place_any w m b [] suf k r (by simp) (fun x hx => by have := hsuf x hx; omega)
  unfold ptr at *
  go_enter Try.func46, Try.ntmps46
  go_wp2_with fail
  refine h.mono ?_
  rintro e w1 ⟨rfl, hq⟩
  have cm1 := Quiet.cell hq cm
  rcases hnot with hge | ⟨q, hlt, hk, hc⟩
  · simp only [List.length_nil] at hge ⊢
    have hN0 : N = 0 := by omega
    subst hN0
    go_wp2
    go_ret3
    exact ⟨rfl, hq⟩
  · have hc1 := hc w1 hq
    clear hc
    simp only [List.length_nil] at *
    have i2 : (0 : Int) < (N : Int) := by omega
    go_wp2
    go_ret3
    exact ⟨rfl, hq⟩

set_option maxHeartbeats 1000000 in
theorem mfloor_low (w : World) (m b : Nat) (pre suf : List (Int × ByteArray)) (d : Int × ByteArray) (k : Int) (r : MRep w m b ((pre ++ [d]) ++ suf)) (hpre : ∀ p ∈ pre ++ [d], p.1 < k) (hsuf : ∀ p ∈ suf, k < p.1) :
    Calls Try.prog 46 #[ptr m, .int .i64 k] w fun e w' => e = .returned (.tuple #[.int .i64 d.1, .string d.2, .int .i64 0]) ∧ Quiet w w' := by
  have hl := r.len
  have cm := r.list.cell 0
  simp only [List.getElem?_cons_zero] at cm
  have hnot := mnot w m b (pre ++ [d]) suf k r hsuf _ rfl
  have hpl : (pre ++ [d]).length ≤ (pre ++ [d] ++ suf).length := by simp
  generalize hN : (pre ++ [d] ++ suf).length = N at cm hl hnot hpl
  clear hN
  have h := place_any w m b (pre ++ [d]) suf k r hpre (fun x hx => by have := hsuf x hx; omega)
  simp only [List.length_append, List.length_singleton] at hnot hpl h
  unfold ptr at *
  go_enter Try.func46, Try.ntmps46
  go_wp2_with fail
  refine h.mono ?_
  rintro e w1 ⟨rfl, hq⟩
  have cm1 := Quiet.cell hq cm
  have hd := (r.quiet hq).get pre.length d (by rw [List.append_assoc, List.getElem?_append_right (Nat.le_refl _)]; simp)
  generalize pre.length = j at *
  have e2 : ((j + 1 : Nat) : Int) = (j : Int) + 1 := by omega
  rw [e2]
  have e3 : (j : Int) + 1 - 1 = (j : Int) := by omega
  have i0 : (((j : Int) + 1) == 0) = false := by rw [beq_eq_false_iff_ne]; omega
  have i1 : (0 : Int) ≤ (j : Int) := by omega
  have i3 : (j : Int) < (N : Int) := by omega
  rcases hnot with hge | ⟨q, hlt, hk, hc⟩
  · have i4 : ¬ (j : Int) + 1 < (N : Int) := by omega
    go_wp2
    go_big_quiet (fail)
    go_wp2
    go_ret3
    exact ⟨rfl, hq.drewN _⟩
  · have hc1 := hc w1 hq
    clear hc
    have i4 : (j : Int) + 1 < (N : Int) := by omega
    have i5 : (0 : Int) ≤ (j : Int) + 1 := by omega
    have e5 : ((j : Int) + 1).toNat = j + 1 := by omega
    go_wp2
    go_big_quiet (fail)
    go_wp2
    go_ret3
    exact ⟨rfl, hq.drewN _⟩

def mpairs (l : List (Int × ByteArray)) : ByteArray := l.foldl (fun s p => s ++ pairStr p.1 p.2) ⟨#[]⟩
def mrng (lo hi : Int) (l : List (Int × ByteArray)) : List (Int × ByteArray) := l.filter fun p => decide (lo ≤ p.1) && decide (p.1 ≤ hi)

theorem mpairs_snoc (l : List (Int × ByteArray)) (d : Int × ByteArray) : mpairs (l ++ [d]) = mpairs l ++ pairStr d.1 d.2 := by
  unfold mpairs; rw [List.foldl_append]; rfl

theorem mrng_snoc (lo hi : Int) (l : List (Int × ByteArray)) (d : Int × ByteArray) : mrng lo hi (l ++ [d]) = if lo ≤ d.1 ∧ d.1 ≤ hi then mrng lo hi l ++ [d] else mrng lo hi l := by
  unfold mrng
  rw [List.filter_append]
  by_cases h : lo ≤ d.1 ∧ d.1 ≤ hi
  · simp [h]
  · rw [if_neg h]
    have : (decide (lo ≤ d.1) && decide (d.1 ≤ hi)) = false := by
      rw [Bool.and_eq_false_iff]; simp; omega
    simp [List.filter_cons, this]

theorem mrng_len (lo hi : Int) (l : List (Int × ByteArray)) : (mrng lo hi l).length ≤ l.length := List.length_filter_le _ _

set_option maxHeartbeats 1000000 in
theorem mscan_any (w : World) (m b : Nat) (ps : List (Int × ByteArray)) (lo hi : Int) (r : MRep w m b ps) :
    Calls Try.prog 47 #[ptr m, .int .i64 lo, .int .i64 hi] w fun e w' => e = .returned (.tuple #[.string (mpairs (mrng lo hi ps)), .int .i64 (mrng lo hi ps).length]) ∧ Quiet w w' := by
  have hl := r.len
  have cm := r.list.cell 0
  simp only [List.getElem?_cons_zero] at cm
  unfold ptr
  generalize hN : ps.length = N at cm hl
  have hNH := hide hN
  clear hN
  go_enter Try.func47, Try.ntmps47
  go_wp2
  go_loopw [8, 9, 18] (fun t n i wr => ∃ j : Nat, j ≤ N ∧ i = .int .i64 j ∧ t = .string (mpairs (mrng lo hi (ps.take j))) ∧ (mpairs (mrng lo hi (ps.take j))).size ≤ 51 * j ∧ n = .int .i64 (mrng lo hi (ps.take j)).length ∧ Quiet w wr) (fun _ _ i _ => 12 - (intOf i).toNat)
  case atStart => exact ⟨0, Nat.zero_le _, rfl, rfl, Nat.le_refl _, rfl, Chg.refl _ _⟩
  case round =>
    obtain ⟨j, hj, rfl, rfl, hsz, rfl, hq⟩ := hrel
    have r1 := r.quiet hq
    have hNN := unhide hNH
    by_cases hlt : j < N
    · have hjl : j < ps.length := by omega
      have hget : ps[j]? = some ps[j] := List.getElem?_eq_getElem hjl
      have hc := r1.get j ps[j] hget
      have hv := r.vals ps[j] (List.getElem_mem hjl)
      have hk := r.keys ps[j] (List.getElem_mem hjl)
      have htk : ps.take (j + 1) = ps.take j ++ [ps[j]] := List.take_succ_eq_append_getElem hjl
      have hrl := mrng_len lo hi (ps.take j)
      have htl : (ps.take j).length ≤ j := List.length_take_le _ _
      have hps := pairStr_size ps[j].1 ps[j].2 hv
      generalize hp : ps[j] = p at *
      obtain ⟨pk, pv⟩ := p
      simp only at hc hv hk hps
      have htkH := hide htk
      clear htk hget hp hNN
      have i1 : (0 : Int) ≤ (j : Int) := by omega
      have i2 : (j : Int) < (N : Int) := by omega
      generalize hA : mpairs (mrng lo hi (ps.take j)) = A at *
      have hAH := hide hA
      clear hA
      by_cases hin : lo ≤ pk ∧ pk ≤ hi
      · obtain ⟨hin1, hin2⟩ := hin
        go_wp2_with fail
        refine (pair_any pk pv _ hk.1 hk.2 hv).mono ?_
        rintro e w2 ⟨rfl, hq2⟩
        go_wp2
        go_roundw
        case rel =>
          have e1 : mrng lo hi (ps.take (j + 1)) = mrng lo hi (ps.take j) ++ [(pk, pv)] := by
            rw [unhide htkH, mrng_snoc, if_pos ⟨hin1, hin2⟩]
          refine ⟨j + 1, by omega, by go_num, ?_, ?_, ?_, Quiet.trans (hq.alloc _) hq2⟩
          · rw [e1, mpairs_snoc, unhide hAH]
          · rw [e1, mpairs_snoc, unhide hAH, ByteArray.size_append]; simp only; omega
          · rw [e1]; simp
        case measure => simp [intOf]; omega
      · have e1 : mrng lo hi (ps.take (j + 1)) = mrng lo hi (ps.take j) := by
          rw [unhide htkH, mrng_snoc, if_neg hin]
        have e1H := hide e1
        clear e1
        by_cases hin1 : lo ≤ pk
        · have hin2 : hi < pk := by omega
          clear hin
          go_wp2
          go_roundw
          case rel => exact ⟨j + 1, by omega, by go_num, by rw [unhide e1H, unhide hAH], by rw [unhide e1H, unhide hAH]; omega, by rw [unhide e1H], hq.alloc _⟩
          case measure => simp [intOf]; omega
        · have hin3 : pk < lo := by omega
          clear hin hin1
          go_wp2
          go_roundw
          case rel => exact ⟨j + 1, by omega, by go_num, by rw [unhide e1H, unhide hAH], by rw [unhide e1H, unhide hAH]; omega, by rw [unhide e1H], hq.alloc _⟩
          case measure => simp [intOf]; omega
    · have hjN : (N : Int) ≤ (j : Int) := by omega
      have e1 : ps.take j = ps := List.take_of_length_le (by omega)
      have e1H := hide e1
      clear e1 hNN
      go_wp2
      go_ret2
      rw [unhide e1H]
      exact ⟨rfl, hq⟩

theorem mrng_all (l : List (Int × ByteArray)) (h : ∀ d ∈ l, -9223372036854775808 ≤ d.1 ∧ d.1 ≤ 9223372036854775807) : mrng (-9223372036854775808) 9223372036854775807 l = l := by
  unfold mrng
  rw [List.filter_eq_self]
  intro d hd
  have := h d hd
  simp; omega

theorem mshow_any (w : World) (m b : Nat) (ps : List (Int × ByteArray)) (r : MRep w m b ps) :
    Calls Try.prog 48 #[ptr m] w fun e w' => e = .returned (.string (mpairs ps)) ∧ Quiet w w' := by
  have h := mscan_any w m b ps (-9223372036854775808) 9223372036854775807 r
  rw [mrng_all ps r.keys] at h
  unfold ptr at *
  go_enter Try.func48, Try.ntmps48
  go_wp2_with fail
  refine h.mono ?_
  rintro e w1 ⟨rfl, hq⟩
  go_wp2
  go_ret
  exact ⟨rfl, hq⟩

set_option maxHeartbeats 1000000 in
theorem mcheck_any (w : World) (m b : Nat) (ps : List (Int × ByteArray)) (r : MRep w m b ps) :
    Calls Try.prog 49 #[ptr m] w fun e w' => e = .returned (.bool true) ∧ Quiet w w' := by
  have hl := r.len
  have cm := r.list.cell 0
  simp only [List.getElem?_cons_zero] at cm
  unfold ptr
  generalize hN : ps.length = N at cm hl
  have hNH := hide hN
  clear hN
  go_enter Try.func49, Try.ntmps49
  go_wp2
  go_loopw [16] (fun i wr => ∃ j : Nat, j ≤ N ∧ i = .int .i64 j ∧ Quiet w wr) (fun i _ => 12 - (intOf i).toNat)
  case atStart => exact ⟨0, Nat.zero_le _, rfl, Chg.refl _ _⟩
  case round =>
    obtain ⟨j, hj, rfl, hq⟩ := hrel
    have r1 := r.quiet hq
    have cm1 := Quiet.cell hq cm
    by_cases hlt : j < N
    · have hjl : j < ps.length := by have := unhide hNH; omega
      have hget : ps[j]? = some ps[j] := List.getElem?_eq_getElem hjl
      have hc := r1.get j ps[j] hget
      have hv := r.vals ps[j] (List.getElem_mem hjl)
      have i1 : (0 : Int) ≤ (j : Int) := by omega
      have i2 : (j : Int) < (N : Int) := by omega
      cases j with
      | zero =>
        generalize ps[0] = p at *
        clear hget
        go_wp2
        go_big_quiet (fail)
        go_wp2
        go_roundw
        case rel => exact ⟨1, by omega, rfl, (hq.alloc _).drewN _⟩
        case measure => simp [intOf]
      | succ q =>
        have hql : q < ps.length := by omega
        have hc2 := r1.get q ps[q] (List.getElem?_eq_getElem hql)
        have hs : ps[q].1 < ps[q + 1].1 := (List.pairwise_iff_getElem.1 r.sorted) q (q + 1) hql hjl (by omega)
        generalize ps[q + 1] = p at *
        generalize ps[q] = p0 at *
        clear hget
        have e2 : ((q + 1 : Nat) : Int) = (q : Int) + 1 := by omega
        rw [e2] at *
        have e3 : (q : Int) + 1 - 1 = (q : Int) := by omega
        have e5 : ((q : Int) + 1).toNat = q + 1 := by omega
        have i3 : (0 : Int) ≤ (q : Int) := by omega
        have i4 : (q : Int) < (N : Int) := by omega
        have i5 : decide ((0 : Int) < (q : Int) + 1) = true := by rw [decide_eq_true_iff]; omega
        have i6 : (0 : Int) < (q : Int) + 1 := by omega
        clear e2
        have hml := r1.list.lt
        have hbl : b < wr.heap.size := by obtain ⟨_, _, h⟩ := r1.rows; exact h.lt
        go_wp2
        go_big_quiet (fail)
        go_wp2
        go_roundw
        case rel => exact ⟨q + 2, by omega, by go_num, (hq.alloc _).drewN _⟩
        case measure => simp [intOf]; omega
    · have hjN : (N : Int) ≤ (j : Int) := by omega
      go_wp2
      go_ret
      exact ⟨rfl, hq⟩
end Go.Proofs.Qxb6500361a
