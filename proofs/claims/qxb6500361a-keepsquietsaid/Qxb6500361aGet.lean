/-
  Get, Floor of the real list.
-/
import Derived.Test.Qxb6500361aPut
namespace Go.Proofs.Qxb6500361a
open Go.RowKit Go.Qx
set_option linter.unusedSimpArgs false
set_option linter.unusedVariables false

theorem get_hit (w : World) (c l hd : Nat) (s : ByteArray) (pre suf : List Nd) (d : Nd) (top : Nat) (r : Rep w c l hd s (pre ++ d :: suf) top)
    (hpre : ∀ x ∈ pre, x.key < d.key) (hsuf : ∀ x ∈ suf, d.key ≤ x.key) :
    Calls Try.prog 36 #[ptr l, .int .i64 d.key] w fun e w' => e = .returned (.tuple #[.string d.val, .int .i64 0]) ∧ Quiet w w' := by
  have hn0 : nxt 0 (d :: suf) = .pointer (some ⟨d.addr, 0, none⟩) := nxt_some 0 [] d suf (by simp) (r.high d (by simp)).1
  unfold ptr
  go_enter Try.func36, Try.ntmps36
  go_wp2_with fail
  refine (find_fresh w c l hd s pre (d :: suf) top d.key r hpre (fun x hx => by rcases List.mem_cons.1 hx with rfl | h; omega; exact hsuf x h)).mono ?_
  rintro e w1 ⟨rfl, hq, hlt, hpb⟩
  have r1 := r.quiet hq
  rw [hn0]
  clear hn0
  have ck := r1.key_at (d := d) (by simp)
  go_wp2
  go_ret2
  exact ⟨rfl, hq⟩

theorem get_miss (w : World) (c l hd : Nat) (s : ByteArray) (pre suf : List Nd) (top : Nat) (k : Int) (r : Rep w c l hd s (pre ++ suf) top)
    (hpre : ∀ x ∈ pre, x.key < k) (hsuf : ∀ x ∈ suf, k < x.key) :
    Calls Try.prog 36 #[ptr l, .int .i64 k] w fun e w' => e = .returned (.tuple #[.string ⟨#[]⟩, .int .i64 3]) ∧ Quiet w w' := by
  unfold ptr
  go_enter Try.func36, Try.ntmps36
  go_wp2_with fail
  refine (find_fresh w c l hd s pre suf top k r hpre (fun x hx => by have := hsuf x hx; omega)).mono ?_
  rintro e w1 ⟨rfl, hq, hlt, hpb⟩
  have r1 := r.quiet hq
  rcases nxt0_miss w c l hd s pre suf top k r hsuf with hn | ⟨d, hd', hn, hk⟩
  · rw [hn]
    clear hn
    go_wp2
    go_ret2
    exact ⟨rfl, hq⟩
  · rw [hn]
    clear hn
    have ck := r1.key_at (d := d) (by simp [hd'])
    go_wp2
    go_ret2
    exact ⟨rfl, hq⟩

theorem floor_hit (w : World) (c l hd : Nat) (s : ByteArray) (pre suf : List Nd) (d : Nd) (top : Nat) (r : Rep w c l hd s (pre ++ d :: suf) top)
    (hpre : ∀ x ∈ pre, x.key < d.key) (hsuf : ∀ x ∈ suf, d.key ≤ x.key) :
    Calls Try.prog 38 #[ptr l, .int .i64 d.key] w fun e w' => e = .returned (.tuple #[.int .i64 d.key, .string d.val, .int .i64 0]) ∧ Quiet w w' := by
  have hn0 : nxt 0 (d :: suf) = .pointer (some ⟨d.addr, 0, none⟩) := nxt_some 0 [] d suf (by simp) (r.high d (by simp)).1
  unfold ptr
  go_enter Try.func38, Try.ntmps38
  go_wp2_with fail
  refine (find_fresh w c l hd s pre (d :: suf) top d.key r hpre (fun x hx => by rcases List.mem_cons.1 hx with rfl | h; omega; exact hsuf x h)).mono ?_
  rintro e w1 ⟨rfl, hq, hlt, hpb⟩
  have r1 := r.quiet hq
  rw [hn0]
  clear hn0
  have ck := r1.key_at (d := d) (by simp)
  go_wp2
  go_quiet (fail)
  go_wp2
  go_ret3
  exact ⟨rfl, hq.drewN _⟩

theorem pathA_zero (hd : Nat) (pre : List Nd) (h : ∀ d ∈ pre, 1 ≤ d.h) : pathA hd 0 pre = cur hd pre := by
  have := pathA_cur hd 0 pre [] (fun d hd => h d (List.mem_of_getLast? hd)) (by simp)
  simpa using this

set_option maxHeartbeats 1000000 in
theorem floor_none (w : World) (c l hd : Nat) (s : ByteArray) (suf : List Nd) (top : Nat) (k : Int) (r : Rep w c l hd s ([] ++ suf) top) (hsuf : ∀ x ∈ suf, k < x.key) :
    Calls Try.prog 38 #[ptr l, .int .i64 k] w fun e w' => e = .returned (.tuple #[.int .i64 0, .string ⟨#[]⟩, .int .i64 3]) ∧ Quiet w w' := by
  unfold ptr
  go_enter Try.func38, Try.ntmps38
  go_wp2_with fail
  refine (find_fresh w c l hd s [] suf top k r (by simp) (fun x hx => by have := hsuf x hx; omega)).mono ?_
  rintro e w1 ⟨rfl, hq, hlt, hpb⟩
  have r1 := r.quiet hq
  have cp := hpb.cell 0
  rw [pathCells_get hd [] 0 (by omega)] at cp
  rw [show pathA hd 0 [] = hd from rfl] at cp
  have cl := r1.list.cell 1
  simp only [List.getElem?_cons_succ, List.getElem?_cons_zero, ptr] at cl
  have he := fun n => run_eql_ptr (P := Try.prog) (w := w1.drewN n) 50 53 10 Try.underlying50 Try.sizeOf53 (r1.head.drewN n) (r1.head.drewN n) 0 0
  simp only [and_self, decide_true] at he
  rcases nxt0_miss w c l hd s [] suf top k r hsuf with hn | ⟨d, hd', hn, hk⟩
  · rw [hn]
    clear hn
    go_wp2
    go_quiet (fail)
    go_wp2
    go_ret3
    exact ⟨rfl, hq.drewN _⟩
  · rw [hn]
    clear hn
    have ck := r1.key_at (d := d) (by simp [hd'])
    go_wp2
    go_quiet (fail)
    go_wp2
    go_ret3
    exact ⟨rfl, hq.drewN _⟩

set_option maxHeartbeats 1000000 in
theorem floor_low (w : World) (c l hd : Nat) (s : ByteArray) (pre suf : List Nd) (d : Nd) (top : Nat) (k : Int) (r : Rep w c l hd s ((pre ++ [d]) ++ suf) top) (hpre : ∀ x ∈ pre ++ [d], x.key < k) (hsuf : ∀ x ∈ suf, k < x.key) :
    Calls Try.prog 38 #[ptr l, .int .i64 k] w fun e w' => e = .returned (.tuple #[.int .i64 d.key, .string d.val, .int .i64 0]) ∧ Quiet w w' := by
  unfold ptr
  go_enter Try.func38, Try.ntmps38
  go_wp2_with fail
  refine (find_fresh w c l hd s (pre ++ [d]) suf top k r hpre (fun x hx => by have := hsuf x hx; omega)).mono ?_
  rintro e w1 ⟨rfl, hq, hlt, hpb⟩
  have r1 := r.quiet hq
  have cp := hpb.cell 0
  rw [pathCells_get hd _ 0 (by omega), pathA_zero hd _ (fun x hx => (r.high x (by simp at hx ⊢; rcases hx with h | h; exact .inl h; exact .inr (.inl h))).1), cur_snoc] at cp
  have cl := r1.list.cell 1
  simp only [List.getElem?_cons_succ, List.getElem?_cons_zero, ptr] at cl
  have hbd := r1.node pre d suf (by simp)
  have hne : d.addr ≠ hd := by
    have hn := r.nodup
    simp only [List.nodup_cons, List.mem_cons, not_or, List.mem_map, not_exists, not_and] at hn
    exact hn.2.2.1 d (by simp)
  have he := fun n => run_eql_ptr (P := Try.prog) (w := w1.drewN n) 50 53 10 Try.underlying50 Try.sizeOf53 (hbd.drewN n) (r1.head.drewN n) 0 0
  simp only [hne, false_and, decide_false] at he
  have cd := r1.key_at (d := d) (by simp)
  rcases nxt0_miss w c l hd s _ suf top k r hsuf with hn | ⟨d', hd', hn, hk⟩
  · rw [hn]
    clear hn
    go_wp2
    go_quiet (fail)
    go_wp2
    go_quiet (fail)
    go_wp2
    go_ret3
    exact ⟨rfl, (hq.drewN _).drewN _⟩
  · rw [hn]
    clear hn
    have ck := r1.key_at (d := d') (by simp [hd'])
    go_wp2
    go_quiet (fail)
    go_wp2
    go_quiet (fail)
    go_wp2
    go_ret3
    exact ⟨rfl, (hq.drewN _).drewN _⟩
end Go.Proofs.Qxb6500361a
