/-
  Kept: THE WALK, kind by kind, over whatever its callees answer. (gen2kept.py)
-/
import Derived.Test.Qxb6500362aKeepE
namespace Go.Proofs.Qxb6500362a
open Go.RowKit Go.Qx
set_option linter.unusedVariables false
set_option linter.unusedSimpArgs false

/-- From w on, whatever was made in between, the call answers v and makes new blocks alone. -/
def QC (w : World) (f : Nat) (args : Array Value) (v : Value) : Prop := ∀ W, Quiet w W → Calls Try.prog f args W fun e w' => e = .returned v ∧ Quiet W w'

set_option maxRecDepth 100000 in
set_option maxHeartbeats 8000000 in
theorem kept_err (w : World) (x y : Nat) (k E : Int) (hE : ¬ E = 0) (a b c : Int) (s t : ByteArray)
    (hOw : Hid (QC w 33 #[.pointer (some ⟨y, 0, none⟩), .agg #[.int .i64 k, .int .i64 a, .int .i64 b, .int .i64 c, .string s, .string t]] (.int .i64 E)))
    (hAl : Hid (QC w 34 #[.pointer (some ⟨x, 0, none⟩), .pointer (some ⟨y, 0, none⟩)] (.bool true))) :
    Calls Try.prog 17 #[.pointer (some ⟨x, 0, none⟩), .pointer (some ⟨y, 0, none⟩), .agg #[.int .i64 k, .int .i64 a, .int .i64 b, .int .i64 c, .string s, .string t], .agg #[.int .i64 E, .int .i64 0, .int .i64 0, .string ⟨#[]⟩]] w fun e w' => e = .returned (.bool true) ∧ Quiet w w' := by
  have hE2 : (E == 0) = false := by simpa using hE
  unfold QC at *
  have q0H : Hid (Quiet w ((w.alloc (.cells #[.int .i64 k, .int .i64 a, .int .i64 b, .int .i64 c, .string s, .string t] 28)).alloc (.cells #[.int .i64 E, .int .i64 0, .int .i64 0, .string ⟨#[]⟩] 35))) := ((Chg.refl _ _).alloc _).alloc _
  have boH : Hid (Blk ((w.alloc (.cells #[.int .i64 k, .int .i64 a, .int .i64 b, .int .i64 c, .string s, .string t] 28)).alloc (.cells #[.int .i64 E, .int .i64 0, .int .i64 0, .string ⟨#[]⟩] 35)) w.heap.size 28 [.int .i64 k, .int .i64 a, .int .i64 b, .int .i64 c, .string s, .string t]) := (Blk.new w 28 [.int .i64 k, .int .i64 a, .int .i64 b, .int .i64 c, .string s, .string t]).alloc _
  have baH : Hid (Blk ((w.alloc (.cells #[.int .i64 k, .int .i64 a, .int .i64 b, .int .i64 c, .string s, .string t] 28)).alloc (.cells #[.int .i64 E, .int .i64 0, .int .i64 0, .string ⟨#[]⟩] 35)) (w.heap.size + 1) 35 [.int .i64 E, .int .i64 0, .int .i64 0, .string ⟨#[]⟩]) := Blk.at_new (by simp)
  have hco := QW.blk (unhide boH)
  have hca := QW.blk (unhide baH)
  go_enter Try.func17, Try.ntmps17
  go_wp2
  refine wp_region_noPanic ?_
  try simp only [List.append_eq, List.cons_append, List.nil_append]
  refine wp_region_mixq [(0, true), (1, true), (2, true), (3, true), (4, true), (5, true)] [] (by kernel_rfl) (by kernel_rfl) (fun _ _ _ _ _ h => h) ?_
  simp only [pickM, pickO, List.getElem?_cons_zero, List.getElem?_cons_succ]
  repeat (first | (refine wpMix_read rfl (fun K hK => ?_)) | (refine wpMix_pure rfl (fun K hK => ?_))
          go_big_quiet_op
          first | (refine hK _ ?_; clear hK K) | (apply Exists.intro; refine ⟨fun _ => ?_, ?_⟩; (· (first | (go_at_call 33; exact Calls.in_qw (unhide hOw _ (Quiet.trans (unhide q0H) (QW.q _)))))); refine hK _ ?_; clear hK K))
  refine wpMix_nil ?_
  intro _ hw'
  obtain ⟨qq, hw''⟩ := hw'
  subst hw''
  have hqq := qq.q
  generalize qq.w = wq at *
  clear hco hca hOw
  have co := (hqq.blk (unhide boH)).cell
  have ca := (hqq.blk (unhide baH)).cell
  have qH := hide hqq
  clear hqq
  go_wp2
  refine NoPanic.normal ?_
  go_wp2_with fail
  refine (unhide hAl _ (Quiet.trans (unhide q0H) (unhide qH))).mono ?_
  rintro e w11 ⟨rfl, q11⟩
  have qH11 := hide (Quiet.trans (unhide qH) q11)
  clear q11 co ca qH
  have qH := qH11
  clear qH11
  have co := ((unhide qH).blk (unhide boH)).cell
  have ca := ((unhide qH).blk (unhide baH)).cell
  go_wp2
  go_ret
  exact ⟨rfl, Quiet.trans (unhide q0H) (unhide qH)⟩

set_option maxRecDepth 100000 in
set_option maxHeartbeats 8000000 in
theorem kept_new (w : World) (x y : Nat) (a b c : Int) (s t : ByteArray)
    (hOw : Hid (QC w 33 #[.pointer (some ⟨y, 0, none⟩), .agg #[.int .i64 1, .int .i64 a, .int .i64 b, .int .i64 c, .string s, .string t]] (.int .i64 0)))
    (hAl : Hid (QC w 34 #[.pointer (some ⟨x, 0, none⟩), .pointer (some ⟨y, 0, none⟩)] (.bool true))) :
    Calls Try.prog 17 #[.pointer (some ⟨x, 0, none⟩), .pointer (some ⟨y, 0, none⟩), .agg #[.int .i64 1, .int .i64 a, .int .i64 b, .int .i64 c, .string s, .string t], .agg #[.int .i64 0, .int .i64 0, .int .i64 0, .string ⟨#[]⟩]] w fun e w' => e = .returned (.bool true) ∧ Quiet w w' := by
  unfold QC at *
  have q0H : Hid (Quiet w ((w.alloc (.cells #[.int .i64 1, .int .i64 a, .int .i64 b, .int .i64 c, .string s, .string t] 28)).alloc (.cells #[.int .i64 0, .int .i64 0, .int .i64 0, .string ⟨#[]⟩] 35))) := ((Chg.refl _ _).alloc _).alloc _
  have boH : Hid (Blk ((w.alloc (.cells #[.int .i64 1, .int .i64 a, .int .i64 b, .int .i64 c, .string s, .string t] 28)).alloc (.cells #[.int .i64 0, .int .i64 0, .int .i64 0, .string ⟨#[]⟩] 35)) w.heap.size 28 [.int .i64 1, .int .i64 a, .int .i64 b, .int .i64 c, .string s, .string t]) := (Blk.new w 28 [.int .i64 1, .int .i64 a, .int .i64 b, .int .i64 c, .string s, .string t]).alloc _
  have baH : Hid (Blk ((w.alloc (.cells #[.int .i64 1, .int .i64 a, .int .i64 b, .int .i64 c, .string s, .string t] 28)).alloc (.cells #[.int .i64 0, .int .i64 0, .int .i64 0, .string ⟨#[]⟩] 35)) (w.heap.size + 1) 35 [.int .i64 0, .int .i64 0, .int .i64 0, .string ⟨#[]⟩]) := Blk.at_new (by simp)
  have hco := QW.blk (unhide boH)
  have hca := QW.blk (unhide baH)
  go_enter Try.func17, Try.ntmps17
  go_wp2
  refine wp_region_noPanic ?_
  try simp only [List.append_eq, List.cons_append, List.nil_append]
  refine wp_region_mixq [(0, true), (1, true), (2, true), (3, true), (4, true), (5, true)] [] (by kernel_rfl) (by kernel_rfl) (fun _ _ _ _ _ h => h) ?_
  simp only [pickM, pickO, List.getElem?_cons_zero, List.getElem?_cons_succ]
  repeat (first | (refine wpMix_read rfl (fun K hK => ?_)) | (refine wpMix_pure rfl (fun K hK => ?_))
          go_big_quiet_op
          first | (refine hK _ ?_; clear hK K) | (apply Exists.intro; refine ⟨fun _ => ?_, ?_⟩; (· (first | (go_at_call 33; exact Calls.in_qw (unhide hOw _ (Quiet.trans (unhide q0H) (QW.q _)))))); refine hK _ ?_; clear hK K))
  refine wpMix_nil ?_
  intro _ hw'
  obtain ⟨qq, hw''⟩ := hw'
  subst hw''
  have hqq := qq.q
  generalize qq.w = wq at *
  clear hco hca hOw
  have co := (hqq.blk (unhide boH)).cell
  have ca := (hqq.blk (unhide baH)).cell
  have qH := hide hqq
  clear hqq
  go_wp2
  refine NoPanic.normal ?_
  go_wp2_with fail
  refine (unhide hAl _ (Quiet.trans (unhide q0H) (unhide qH))).mono ?_
  rintro e w12 ⟨rfl, q12⟩
  have qH12 := hide (Quiet.trans (unhide qH) q12)
  clear q12 co ca qH
  have qH := qH12
  clear qH12
  have co := ((unhide qH).blk (unhide boH)).cell
  have ca := ((unhide qH).blk (unhide baH)).cell
  go_wp2
  go_ret
  exact ⟨rfl, Quiet.trans (unhide q0H) (unhide qH)⟩

set_option maxRecDepth 100000 in
set_option maxHeartbeats 8000000 in
theorem kept_show (w : World) (x y : Nat) (S : ByteArray) (a b c : Int) (s t : ByteArray)
    (hOw : Hid (QC w 33 #[.pointer (some ⟨y, 0, none⟩), .agg #[.int .i64 14, .int .i64 a, .int .i64 b, .int .i64 c, .string s, .string t]] (.int .i64 0)))
    (hAl : Hid (QC w 34 #[.pointer (some ⟨x, 0, none⟩), .pointer (some ⟨y, 0, none⟩)] (.bool true))) :
    Calls Try.prog 17 #[.pointer (some ⟨x, 0, none⟩), .pointer (some ⟨y, 0, none⟩), .agg #[.int .i64 14, .int .i64 a, .int .i64 b, .int .i64 c, .string s, .string t], .agg #[.int .i64 0, .int .i64 0, .int .i64 0, .string S]] w fun e w' => e = .returned (.bool true) ∧ Quiet w w' := by
  unfold QC at *
  have q0H : Hid (Quiet w ((w.alloc (.cells #[.int .i64 14, .int .i64 a, .int .i64 b, .int .i64 c, .string s, .string t] 28)).alloc (.cells #[.int .i64 0, .int .i64 0, .int .i64 0, .string S] 35))) := ((Chg.refl _ _).alloc _).alloc _
  have boH : Hid (Blk ((w.alloc (.cells #[.int .i64 14, .int .i64 a, .int .i64 b, .int .i64 c, .string s, .string t] 28)).alloc (.cells #[.int .i64 0, .int .i64 0, .int .i64 0, .string S] 35)) w.heap.size 28 [.int .i64 14, .int .i64 a, .int .i64 b, .int .i64 c, .string s, .string t]) := (Blk.new w 28 [.int .i64 14, .int .i64 a, .int .i64 b, .int .i64 c, .string s, .string t]).alloc _
  have baH : Hid (Blk ((w.alloc (.cells #[.int .i64 14, .int .i64 a, .int .i64 b, .int .i64 c, .string s, .string t] 28)).alloc (.cells #[.int .i64 0, .int .i64 0, .int .i64 0, .string S] 35)) (w.heap.size + 1) 35 [.int .i64 0, .int .i64 0, .int .i64 0, .string S]) := Blk.at_new (by simp)
  have hco := QW.blk (unhide boH)
  have hca := QW.blk (unhide baH)
  go_enter Try.func17, Try.ntmps17
  go_wp2
  refine wp_region_noPanic ?_
  try simp only [List.append_eq, List.cons_append, List.nil_append]
  refine wp_region_mixq [(0, true), (1, true), (2, true), (3, true), (4, true), (5, true)] [] (by kernel_rfl) (by kernel_rfl) (fun _ _ _ _ _ h => h) ?_
  simp only [pickM, pickO, List.getElem?_cons_zero, List.getElem?_cons_succ]
  repeat (first | (refine wpMix_read rfl (fun K hK => ?_)) | (refine wpMix_pure rfl (fun K hK => ?_))
          go_big_quiet_op
          first | (refine hK _ ?_; clear hK K) | (apply Exists.intro; refine ⟨fun _ => ?_, ?_⟩; (· (first | (go_at_call 33; exact Calls.in_qw (unhide hOw _ (Quiet.trans (unhide q0H) (QW.q _)))))); refine hK _ ?_; clear hK K))
  refine wpMix_nil ?_
  intro _ hw'
  obtain ⟨qq, hw''⟩ := hw'
  subst hw''
  have hqq := qq.q
  generalize qq.w = wq at *
  clear hco hca hOw
  have co := (hqq.blk (unhide boH)).cell
  have ca := (hqq.blk (unhide baH)).cell
  have qH := hide hqq
  clear hqq
  go_wp2
  refine NoPanic.normal ?_
  go_wp2_with fail
  refine (unhide hAl _ (Quiet.trans (unhide q0H) (unhide qH))).mono ?_
  rintro e w13 ⟨rfl, q13⟩
  have qH13 := hide (Quiet.trans (unhide qH) q13)
  clear q13 co ca qH
  have qH := qH13
  clear qH13
  have co := ((unhide qH).blk (unhide boH)).cell
  have ca := ((unhide qH).blk (unhide baH)).cell
  go_wp2
  go_ret
  exact ⟨rfl, Quiet.trans (unhide q0H) (unhide qH)⟩

set_option maxRecDepth 100000 in
set_option maxHeartbeats 8000000 in
theorem kept_check (w : World) (x y : Nat) (a b c : Int) (s t : ByteArray)
    (hOw : Hid (QC w 33 #[.pointer (some ⟨y, 0, none⟩), .agg #[.int .i64 15, .int .i64 a, .int .i64 b, .int .i64 c, .string s, .string t]] (.int .i64 0)))
    (hAl : Hid (QC w 34 #[.pointer (some ⟨x, 0, none⟩), .pointer (some ⟨y, 0, none⟩)] (.bool true))) :
    Calls Try.prog 17 #[.pointer (some ⟨x, 0, none⟩), .pointer (some ⟨y, 0, none⟩), .agg #[.int .i64 15, .int .i64 a, .int .i64 b, .int .i64 c, .string s, .string t], .agg #[.int .i64 0, .int .i64 1, .int .i64 0, .string ⟨#[]⟩]] w fun e w' => e = .returned (.bool true) ∧ Quiet w w' := by
  unfold QC at *
  have q0H : Hid (Quiet w ((w.alloc (.cells #[.int .i64 15, .int .i64 a, .int .i64 b, .int .i64 c, .string s, .string t] 28)).alloc (.cells #[.int .i64 0, .int .i64 1, .int .i64 0, .string ⟨#[]⟩] 35))) := ((Chg.refl _ _).alloc _).alloc _
  have boH : Hid (Blk ((w.alloc (.cells #[.int .i64 15, .int .i64 a, .int .i64 b, .int .i64 c, .string s, .string t] 28)).alloc (.cells #[.int .i64 0, .int .i64 1, .int .i64 0, .string ⟨#[]⟩] 35)) w.heap.size 28 [.int .i64 15, .int .i64 a, .int .i64 b, .int .i64 c, .string s, .string t]) := (Blk.new w 28 [.int .i64 15, .int .i64 a, .int .i64 b, .int .i64 c, .string s, .string t]).alloc _
  have baH : Hid (Blk ((w.alloc (.cells #[.int .i64 15, .int .i64 a, .int .i64 b, .int .i64 c, .string s, .string t] 28)).alloc (.cells #[.int .i64 0, .int .i64 1, .int .i64 0, .string ⟨#[]⟩] 35)) (w.heap.size + 1) 35 [.int .i64 0, .int .i64 1, .int .i64 0, .string ⟨#[]⟩]) := Blk.at_new (by simp)
  have hco := QW.blk (unhide boH)
  have hca := QW.blk (unhide baH)
  go_enter Try.func17, Try.ntmps17
  go_wp2
  refine wp_region_noPanic ?_
  try simp only [List.append_eq, List.cons_append, List.nil_append]
  refine wp_region_mixq [(0, true), (1, true), (2, true), (3, true), (4, true), (5, true)] [] (by kernel_rfl) (by kernel_rfl) (fun _ _ _ _ _ h => h) ?_
  simp only [pickM, pickO, List.getElem?_cons_zero, List.getElem?_cons_succ]
  repeat (first | (refine wpMix_read rfl (fun K hK => ?_)) | (refine wpMix_pure rfl (fun K hK => ?_))
          go_big_quiet_op
          first | (refine hK _ ?_; clear hK K) | (apply Exists.intro; refine ⟨fun _ => ?_, ?_⟩; (· (first | (go_at_call 33; exact Calls.in_qw (unhide hOw _ (Quiet.trans (unhide q0H) (QW.q _)))))); refine hK _ ?_; clear hK K))
  refine wpMix_nil ?_
  intro _ hw'
  obtain ⟨qq, hw''⟩ := hw'
  subst hw''
  have hqq := qq.q
  generalize qq.w = wq at *
  clear hco hca hOw
  have co := (hqq.blk (unhide boH)).cell
  have ca := (hqq.blk (unhide baH)).cell
  have qH := hide hqq
  clear hqq
  go_wp2
  refine NoPanic.normal ?_
  go_wp2_with fail
  refine (unhide hAl _ (Quiet.trans (unhide q0H) (unhide qH))).mono ?_
  rintro e w14 ⟨rfl, q14⟩
  have qH14 := hide (Quiet.trans (unhide qH) q14)
  clear q14 co ca qH
  have qH := qH14
  clear qH14
  have co := ((unhide qH).blk (unhide boH)).cell
  have ca := ((unhide qH).blk (unhide baH)).cell
  go_wp2
  go_ret
  exact ⟨rfl, Quiet.trans (unhide q0H) (unhide qH)⟩

set_option maxRecDepth 100000 in
set_option maxHeartbeats 8000000 in
theorem kept_none (w : World) (x y : Nat) (k : Int) (hrng : ¬ (2 ≤ k ∧ k ≤ 10)) (h2 : (k == 2) = false) (h4 : (k == 4) = false) (h5 : (k == 5) = false) (h8 : (k == 8) = false) (h9 : (k == 9) = false) (h13 : (k == 13) = false) (h12 : (k == 12) = false) (h6 : (k == 6) = false) (h7 : (k == 7) = false) (h10 : (k == 10) = false) (h11 : (k == 11) = false) (a b c : Int) (s t : ByteArray)
    (hOw : Hid (QC w 33 #[.pointer (some ⟨y, 0, none⟩), .agg #[.int .i64 k, .int .i64 a, .int .i64 b, .int .i64 c, .string s, .string t]] (.int .i64 0)))
    (hAl : Hid (QC w 34 #[.pointer (some ⟨x, 0, none⟩), .pointer (some ⟨y, 0, none⟩)] (.bool true))) :
    Calls Try.prog 17 #[.pointer (some ⟨x, 0, none⟩), .pointer (some ⟨y, 0, none⟩), .agg #[.int .i64 k, .int .i64 a, .int .i64 b, .int .i64 c, .string s, .string t], .agg #[.int .i64 0, .int .i64 0, .int .i64 0, .string ⟨#[]⟩]] w fun e w' => e = .returned (.bool true) ∧ Quiet w w' := by
  unfold QC at *
  have hr2 : 2 ≤ k → ¬ k ≤ 10 := fun h1 h2 => hrng ⟨h1, h2⟩
  clear hrng
  by_cases h1 : 2 ≤ k
  · have h2 := hr2 h1
    clear hr2
    have q0H : Hid (Quiet w ((w.alloc (.cells #[.int .i64 k, .int .i64 a, .int .i64 b, .int .i64 c, .string s, .string t] 28)).alloc (.cells #[.int .i64 0, .int .i64 0, .int .i64 0, .string ⟨#[]⟩] 35))) := ((Chg.refl _ _).alloc _).alloc _
    have boH : Hid (Blk ((w.alloc (.cells #[.int .i64 k, .int .i64 a, .int .i64 b, .int .i64 c, .string s, .string t] 28)).alloc (.cells #[.int .i64 0, .int .i64 0, .int .i64 0, .string ⟨#[]⟩] 35)) w.heap.size 28 [.int .i64 k, .int .i64 a, .int .i64 b, .int .i64 c, .string s, .string t]) := (Blk.new w 28 [.int .i64 k, .int .i64 a, .int .i64 b, .int .i64 c, .string s, .string t]).alloc _
    have baH : Hid (Blk ((w.alloc (.cells #[.int .i64 k, .int .i64 a, .int .i64 b, .int .i64 c, .string s, .string t] 28)).alloc (.cells #[.int .i64 0, .int .i64 0, .int .i64 0, .string ⟨#[]⟩] 35)) (w.heap.size + 1) 35 [.int .i64 0, .int .i64 0, .int .i64 0, .string ⟨#[]⟩]) := Blk.at_new (by simp)
    have hco := QW.blk (unhide boH)
    have hca := QW.blk (unhide baH)
    go_enter Try.func17, Try.ntmps17
    go_wp2
    refine wp_region_noPanic ?_
    try simp only [List.append_eq, List.cons_append, List.nil_append]
    refine wp_region_mixq [(0, true), (1, true), (2, true), (3, true), (4, true), (5, true)] [] (by kernel_rfl) (by kernel_rfl) (fun _ _ _ _ _ h => h) ?_
    simp only [pickM, pickO, List.getElem?_cons_zero, List.getElem?_cons_succ]
    repeat (first | (refine wpMix_read rfl (fun K hK => ?_)) | (refine wpMix_pure rfl (fun K hK => ?_))
            go_big_quiet_op
            first | (refine hK _ ?_; clear hK K) | (apply Exists.intro; refine ⟨fun _ => ?_, ?_⟩; (· (first | (go_at_call 33; exact Calls.in_qw (unhide hOw _ (Quiet.trans (unhide q0H) (QW.q _)))))); refine hK _ ?_; clear hK K))
    refine wpMix_nil ?_
    intro _ hw'
    obtain ⟨qq, hw''⟩ := hw'
    subst hw''
    have hqq := qq.q
    generalize qq.w = wq at *
    clear hco hca hOw
    have co := (hqq.blk (unhide boH)).cell
    have ca := (hqq.blk (unhide baH)).cell
    have qH := hide hqq
    clear hqq
    go_wp2
    refine NoPanic.normal ?_
    go_wp2_with fail
    refine (unhide hAl _ (Quiet.trans (unhide q0H) (unhide qH))).mono ?_
    rintro e w15 ⟨rfl, q15⟩
    have qH15 := hide (Quiet.trans (unhide qH) q15)
    clear q15 co ca qH
    have qH := qH15
    clear qH15
    have co := ((unhide qH).blk (unhide boH)).cell
    have ca := ((unhide qH).blk (unhide baH)).cell
    go_wp2
    go_ret
    exact ⟨rfl, Quiet.trans (unhide q0H) (unhide qH)⟩
  · clear hr2
    have q0H : Hid (Quiet w ((w.alloc (.cells #[.int .i64 k, .int .i64 a, .int .i64 b, .int .i64 c, .string s, .string t] 28)).alloc (.cells #[.int .i64 0, .int .i64 0, .int .i64 0, .string ⟨#[]⟩] 35))) := ((Chg.refl _ _).alloc _).alloc _
    have boH : Hid (Blk ((w.alloc (.cells #[.int .i64 k, .int .i64 a, .int .i64 b, .int .i64 c, .string s, .string t] 28)).alloc (.cells #[.int .i64 0, .int .i64 0, .int .i64 0, .string ⟨#[]⟩] 35)) w.heap.size 28 [.int .i64 k, .int .i64 a, .int .i64 b, .int .i64 c, .string s, .string t]) := (Blk.new w 28 [.int .i64 k, .int .i64 a, .int .i64 b, .int .i64 c, .string s, .string t]).alloc _
    have baH : Hid (Blk ((w.alloc (.cells #[.int .i64 k, .int .i64 a, .int .i64 b, .int .i64 c, .string s, .string t] 28)).alloc (.cells #[.int .i64 0, .int .i64 0, .int .i64 0, .string ⟨#[]⟩] 35)) (w.heap.size + 1) 35 [.int .i64 0, .int .i64 0, .int .i64 0, .string ⟨#[]⟩]) := Blk.at_new (by simp)
    have hco := QW.blk (unhide boH)
    have hca := QW.blk (unhide baH)
    go_enter Try.func17, Try.ntmps17
    go_wp2
    refine wp_region_noPanic ?_
    try simp only [List.append_eq, List.cons_append, List.nil_append]
    refine wp_region_mixq [(0, true), (1, true), (2, true), (3, true), (4, true), (5, true)] [] (by kernel_rfl) (by kernel_rfl) (fun _ _ _ _ _ h => h) ?_
    simp only [pickM, pickO, List.getElem?_cons_zero, List.getElem?_cons_succ]
    repeat (first | (refine wpMix_read rfl (fun K hK => ?_)) | (refine wpMix_pure rfl (fun K hK => ?_))
            go_big_quiet_op
            first | (refine hK _ ?_; clear hK K) | (apply Exists.intro; refine ⟨fun _ => ?_, ?_⟩; (· (first | (go_at_call 33; exact Calls.in_qw (unhide hOw _ (Quiet.trans (unhide q0H) (QW.q _)))))); refine hK _ ?_; clear hK K))
    refine wpMix_nil ?_
    intro _ hw'
    obtain ⟨qq, hw''⟩ := hw'
    subst hw''
    have hqq := qq.q
    generalize qq.w = wq at *
    clear hco hca hOw
    have co := (hqq.blk (unhide boH)).cell
    have ca := (hqq.blk (unhide baH)).cell
    have qH := hide hqq
    clear hqq
    go_wp2
    refine NoPanic.normal ?_
    go_wp2_with fail
    refine (unhide hAl _ (Quiet.trans (unhide q0H) (unhide qH))).mono ?_
    rintro e w16 ⟨rfl, q16⟩
    have qH16 := hide (Quiet.trans (unhide qH) q16)
    clear q16 co ca qH
    have qH := qH16
    clear qH16
    have co := ((unhide qH).blk (unhide boH)).cell
    have ca := ((unhide qH).blk (unhide baH)).cell
    go_wp2
    go_ret
    exact ⟨rfl, Quiet.trans (unhide q0H) (unhide qH)⟩

set_option maxRecDepth 100000 in
set_option maxHeartbeats 8000000 in
theorem kept_get (w : World) (x y : Nat) (N M : Int) (a b c : Int) (s t : ByteArray)
    (hOw : Hid (QC w 33 #[.pointer (some ⟨y, 0, none⟩), .agg #[.int .i64 3, .int .i64 a, .int .i64 b, .int .i64 c, .string s, .string t]] (.int .i64 0)))
    (hOth : Hid (QC w 35 #[.pointer (some ⟨x, 0, none⟩), .pointer (some ⟨y, 0, none⟩), .int .i64 a] (.bool true)))
    (hAl : Hid (QC w 34 #[.pointer (some ⟨x, 0, none⟩), .pointer (some ⟨y, 0, none⟩)] (.bool true))) :
    Calls Try.prog 17 #[.pointer (some ⟨x, 0, none⟩), .pointer (some ⟨y, 0, none⟩), .agg #[.int .i64 3, .int .i64 a, .int .i64 b, .int .i64 c, .string s, .string t], .agg #[.int .i64 0, .int .i64 N, .int .i64 M, .string ⟨#[]⟩]] w fun e w' => e = .returned (.bool true) ∧ Quiet w w' := by
  unfold QC at *
  have q0H : Hid (Quiet w ((w.alloc (.cells #[.int .i64 3, .int .i64 a, .int .i64 b, .int .i64 c, .string s, .string t] 28)).alloc (.cells #[.int .i64 0, .int .i64 N, .int .i64 M, .string ⟨#[]⟩] 35))) := ((Chg.refl _ _).alloc _).alloc _
  have boH : Hid (Blk ((w.alloc (.cells #[.int .i64 3, .int .i64 a, .int .i64 b, .int .i64 c, .string s, .string t] 28)).alloc (.cells #[.int .i64 0, .int .i64 N, .int .i64 M, .string ⟨#[]⟩] 35)) w.heap.size 28 [.int .i64 3, .int .i64 a, .int .i64 b, .int .i64 c, .string s, .string t]) := (Blk.new w 28 [.int .i64 3, .int .i64 a, .int .i64 b, .int .i64 c, .string s, .string t]).alloc _
  have baH : Hid (Blk ((w.alloc (.cells #[.int .i64 3, .int .i64 a, .int .i64 b, .int .i64 c, .string s, .string t] 28)).alloc (.cells #[.int .i64 0, .int .i64 N, .int .i64 M, .string ⟨#[]⟩] 35)) (w.heap.size + 1) 35 [.int .i64 0, .int .i64 N, .int .i64 M, .string ⟨#[]⟩]) := Blk.at_new (by simp)
  have hco := QW.blk (unhide boH)
  have hca := QW.blk (unhide baH)
  go_enter Try.func17, Try.ntmps17
  go_wp2
  refine wp_region_noPanic ?_
  try simp only [List.append_eq, List.cons_append, List.nil_append]
  refine wp_region_mixq [(0, true), (1, true), (2, true), (3, true), (4, true), (5, true)] [] (by kernel_rfl) (by kernel_rfl) (fun _ _ _ _ _ h => h) ?_
  simp only [pickM, pickO, List.getElem?_cons_zero, List.getElem?_cons_succ]
  repeat (first | (refine wpMix_read rfl (fun K hK => ?_)) | (refine wpMix_pure rfl (fun K hK => ?_))
          go_big_quiet_op
          first | (refine hK _ ?_; clear hK K) | (apply Exists.intro; refine ⟨fun _ => ?_, ?_⟩; (· (first | (go_at_call 33; exact Calls.in_qw (unhide hOw _ (Quiet.trans (unhide q0H) (QW.q _)))))); refine hK _ ?_; clear hK K))
  refine wpMix_nil ?_
  intro _ hw'
  obtain ⟨qq, hw''⟩ := hw'
  subst hw''
  have hqq := qq.q
  generalize qq.w = wq at *
  clear hco hca hOw
  have co := (hqq.blk (unhide boH)).cell
  have ca := (hqq.blk (unhide baH)).cell
  have qH := hide hqq
  clear hqq
  go_wp2
  refine NoPanic.normal ?_
  go_wp2_with fail
  refine (unhide hOth _ (Quiet.trans (unhide q0H) (unhide qH))).mono ?_
  rintro e w17 ⟨rfl, q17⟩
  have qH17 := hide (Quiet.trans (unhide qH) q17)
  clear q17 co ca qH
  have qH := qH17
  clear qH17
  have co := ((unhide qH).blk (unhide boH)).cell
  have ca := ((unhide qH).blk (unhide baH)).cell
  go_wp2_with fail
  refine (unhide hAl _ (Quiet.trans (unhide q0H) (unhide qH))).mono ?_
  rintro e w18 ⟨rfl, q18⟩
  have qH18 := hide (Quiet.trans (unhide qH) q18)
  clear q18 co ca qH
  have qH := qH18
  clear qH18
  have co := ((unhide qH).blk (unhide boH)).cell
  have ca := ((unhide qH).blk (unhide baH)).cell
  go_wp2
  go_ret
  exact ⟨rfl, Quiet.trans (unhide q0H) (unhide qH)⟩

set_option maxRecDepth 100000 in
set_option maxHeartbeats 8000000 in
theorem kept_rot (w : World) (x y : Nat) (a b c : Int) (s t : ByteArray)
    (hOw : Hid (QC w 33 #[.pointer (some ⟨y, 0, none⟩), .agg #[.int .i64 8, .int .i64 a, .int .i64 b, .int .i64 c, .string s, .string t]] (.int .i64 0)))
    (hOth : Hid (QC w 35 #[.pointer (some ⟨x, 0, none⟩), .pointer (some ⟨y, 0, none⟩), .int .i64 a] (.bool true)))
    (hUn : Hid (QC w 36 #[.pointer (some ⟨x, 0, none⟩), .pointer (some ⟨y, 0, none⟩), .int .i64 8, .int .i64 3, .agg #[.int .i64 8, .int .i64 a, .int .i64 b, .int .i64 c, .string s, .string t]] (.bool true))) :
    Calls Try.prog 17 #[.pointer (some ⟨x, 0, none⟩), .pointer (some ⟨y, 0, none⟩), .agg #[.int .i64 8, .int .i64 a, .int .i64 b, .int .i64 c, .string s, .string t], .agg #[.int .i64 0, .int .i64 0, .int .i64 0, .string ⟨#[]⟩]] w fun e w' => e = .returned (.bool true) ∧ Quiet w w' := by
  unfold QC at *
  have q0H : Hid (Quiet w ((w.alloc (.cells #[.int .i64 8, .int .i64 a, .int .i64 b, .int .i64 c, .string s, .string t] 28)).alloc (.cells #[.int .i64 0, .int .i64 0, .int .i64 0, .string ⟨#[]⟩] 35))) := ((Chg.refl _ _).alloc _).alloc _
  have boH : Hid (Blk ((w.alloc (.cells #[.int .i64 8, .int .i64 a, .int .i64 b, .int .i64 c, .string s, .string t] 28)).alloc (.cells #[.int .i64 0, .int .i64 0, .int .i64 0, .string ⟨#[]⟩] 35)) w.heap.size 28 [.int .i64 8, .int .i64 a, .int .i64 b, .int .i64 c, .string s, .string t]) := (Blk.new w 28 [.int .i64 8, .int .i64 a, .int .i64 b, .int .i64 c, .string s, .string t]).alloc _
  have baH : Hid (Blk ((w.alloc (.cells #[.int .i64 8, .int .i64 a, .int .i64 b, .int .i64 c, .string s, .string t] 28)).alloc (.cells #[.int .i64 0, .int .i64 0, .int .i64 0, .string ⟨#[]⟩] 35)) (w.heap.size + 1) 35 [.int .i64 0, .int .i64 0, .int .i64 0, .string ⟨#[]⟩]) := Blk.at_new (by simp)
  have hco := QW.blk (unhide boH)
  have hca := QW.blk (unhide baH)
  go_enter Try.func17, Try.ntmps17
  go_wp2
  refine wp_region_noPanic ?_
  try simp only [List.append_eq, List.cons_append, List.nil_append]
  refine wp_region_mixq [(0, true), (1, true), (2, true), (3, true), (4, true), (5, true)] [] (by kernel_rfl) (by kernel_rfl) (fun _ _ _ _ _ h => h) ?_
  simp only [pickM, pickO, List.getElem?_cons_zero, List.getElem?_cons_succ]
  repeat (first | (refine wpMix_read rfl (fun K hK => ?_)) | (refine wpMix_pure rfl (fun K hK => ?_))
          go_big_quiet_op
          first | (refine hK _ ?_; clear hK K) | (apply Exists.intro; refine ⟨fun _ => ?_, ?_⟩; (· (first | (go_at_call 33; exact Calls.in_qw (unhide hOw _ (Quiet.trans (unhide q0H) (QW.q _)))))); refine hK _ ?_; clear hK K))
  refine wpMix_nil ?_
  intro _ hw'
  obtain ⟨qq, hw''⟩ := hw'
  subst hw''
  have hqq := qq.q
  generalize qq.w = wq at *
  clear hco hca hOw
  have co := (hqq.blk (unhide boH)).cell
  have ca := (hqq.blk (unhide baH)).cell
  have qH := hide hqq
  clear hqq
  go_wp2
  refine NoPanic.normal ?_
  go_wp2_with fail
  refine (unhide hOth _ (Quiet.trans (unhide q0H) (unhide qH))).mono ?_
  rintro e w19 ⟨rfl, q19⟩
  have qH19 := hide (Quiet.trans (unhide qH) q19)
  clear q19 co ca qH
  have qH := qH19
  clear qH19
  have co := ((unhide qH).blk (unhide boH)).cell
  have ca := ((unhide qH).blk (unhide baH)).cell
  go_wp2_with fail
  refine (unhide hUn _ (Quiet.trans (unhide q0H) (unhide qH))).mono ?_
  rintro e w20 ⟨rfl, q20⟩
  have qH20 := hide (Quiet.trans (unhide qH) q20)
  clear q20 co ca qH
  have qH := qH20
  clear qH20
  have co := ((unhide qH).blk (unhide boH)).cell
  have ca := ((unhide qH).blk (unhide baH)).cell
  go_wp2
  go_ret
  exact ⟨rfl, Quiet.trans (unhide q0H) (unhide qH)⟩

set_option maxRecDepth 100000 in
set_option maxHeartbeats 8000000 in
theorem kept_conj (w : World) (x y : Nat) (a b c : Int) (s t : ByteArray)
    (hOw : Hid (QC w 33 #[.pointer (some ⟨y, 0, none⟩), .agg #[.int .i64 9, .int .i64 a, .int .i64 b, .int .i64 c, .string s, .string t]] (.int .i64 0)))
    (hOth : Hid (QC w 35 #[.pointer (some ⟨x, 0, none⟩), .pointer (some ⟨y, 0, none⟩), .int .i64 a] (.bool true)))
    (hUn : Hid (QC w 36 #[.pointer (some ⟨x, 0, none⟩), .pointer (some ⟨y, 0, none⟩), .int .i64 9, .int .i64 1, .agg #[.int .i64 9, .int .i64 a, .int .i64 b, .int .i64 c, .string s, .string t]] (.bool true))) :
    Calls Try.prog 17 #[.pointer (some ⟨x, 0, none⟩), .pointer (some ⟨y, 0, none⟩), .agg #[.int .i64 9, .int .i64 a, .int .i64 b, .int .i64 c, .string s, .string t], .agg #[.int .i64 0, .int .i64 0, .int .i64 0, .string ⟨#[]⟩]] w fun e w' => e = .returned (.bool true) ∧ Quiet w w' := by
  unfold QC at *
  have q0H : Hid (Quiet w ((w.alloc (.cells #[.int .i64 9, .int .i64 a, .int .i64 b, .int .i64 c, .string s, .string t] 28)).alloc (.cells #[.int .i64 0, .int .i64 0, .int .i64 0, .string ⟨#[]⟩] 35))) := ((Chg.refl _ _).alloc _).alloc _
  have boH : Hid (Blk ((w.alloc (.cells #[.int .i64 9, .int .i64 a, .int .i64 b, .int .i64 c, .string s, .string t] 28)).alloc (.cells #[.int .i64 0, .int .i64 0, .int .i64 0, .string ⟨#[]⟩] 35)) w.heap.size 28 [.int .i64 9, .int .i64 a, .int .i64 b, .int .i64 c, .string s, .string t]) := (Blk.new w 28 [.int .i64 9, .int .i64 a, .int .i64 b, .int .i64 c, .string s, .string t]).alloc _
  have baH : Hid (Blk ((w.alloc (.cells #[.int .i64 9, .int .i64 a, .int .i64 b, .int .i64 c, .string s, .string t] 28)).alloc (.cells #[.int .i64 0, .int .i64 0, .int .i64 0, .string ⟨#[]⟩] 35)) (w.heap.size + 1) 35 [.int .i64 0, .int .i64 0, .int .i64 0, .string ⟨#[]⟩]) := Blk.at_new (by simp)
  have hco := QW.blk (unhide boH)
  have hca := QW.blk (unhide baH)
  go_enter Try.func17, Try.ntmps17
  go_wp2
  refine wp_region_noPanic ?_
  try simp only [List.append_eq, List.cons_append, List.nil_append]
  refine wp_region_mixq [(0, true), (1, true), (2, true), (3, true), (4, true), (5, true)] [] (by kernel_rfl) (by kernel_rfl) (fun _ _ _ _ _ h => h) ?_
  simp only [pickM, pickO, List.getElem?_cons_zero, List.getElem?_cons_succ]
  repeat (first | (refine wpMix_read rfl (fun K hK => ?_)) | (refine wpMix_pure rfl (fun K hK => ?_))
          go_big_quiet_op
          first | (refine hK _ ?_; clear hK K) | (apply Exists.intro; refine ⟨fun _ => ?_, ?_⟩; (· (first | (go_at_call 33; exact Calls.in_qw (unhide hOw _ (Quiet.trans (unhide q0H) (QW.q _)))))); refine hK _ ?_; clear hK K))
  refine wpMix_nil ?_
  intro _ hw'
  obtain ⟨qq, hw''⟩ := hw'
  subst hw''
  have hqq := qq.q
  generalize qq.w = wq at *
  clear hco hca hOw
  have co := (hqq.blk (unhide boH)).cell
  have ca := (hqq.blk (unhide baH)).cell
  have qH := hide hqq
  clear hqq
  go_wp2
  refine NoPanic.normal ?_
  go_wp2_with fail
  refine (unhide hOth _ (Quiet.trans (unhide q0H) (unhide qH))).mono ?_
  rintro e w21 ⟨rfl, q21⟩
  have qH21 := hide (Quiet.trans (unhide qH) q21)
  clear q21 co ca qH
  have qH := qH21
  clear qH21
  have co := ((unhide qH).blk (unhide boH)).cell
  have ca := ((unhide qH).blk (unhide baH)).cell
  go_wp2_with fail
  refine (unhide hUn _ (Quiet.trans (unhide q0H) (unhide qH))).mono ?_
  rintro e w22 ⟨rfl, q22⟩
  have qH22 := hide (Quiet.trans (unhide qH) q22)
  clear q22 co ca qH
  have qH := qH22
  clear qH22
  have co := ((unhide qH).blk (unhide boH)).cell
  have ca := ((unhide qH).blk (unhide baH)).cell
  go_wp2
  go_ret
  exact ⟨rfl, Quiet.trans (unhide q0H) (unhide qH)⟩

set_option maxRecDepth 100000 in
set_option maxHeartbeats 8000000 in
theorem kept_add (w : World) (x y : Nat) (a b c : Int) (s t : ByteArray) (hab : (a == b) = false)
    (hOw : Hid (QC w 33 #[.pointer (some ⟨y, 0, none⟩), .agg #[.int .i64 4, .int .i64 a, .int .i64 b, .int .i64 c, .string s, .string t]] (.int .i64 0)))
    (hOth : Hid (QC w 35 #[.pointer (some ⟨x, 0, none⟩), .pointer (some ⟨y, 0, none⟩), .int .i64 a] (.bool true)))
    (hUn : Hid (QC w 36 #[.pointer (some ⟨x, 0, none⟩), .pointer (some ⟨y, 0, none⟩), .int .i64 5, .int .i64 1, .agg #[.int .i64 4, .int .i64 a, .int .i64 b, .int .i64 c, .string s, .string t]] (.bool true))) :
    Calls Try.prog 17 #[.pointer (some ⟨x, 0, none⟩), .pointer (some ⟨y, 0, none⟩), .agg #[.int .i64 4, .int .i64 a, .int .i64 b, .int .i64 c, .string s, .string t], .agg #[.int .i64 0, .int .i64 0, .int .i64 0, .string ⟨#[]⟩]] w fun e w' => e = .returned (.bool true) ∧ Quiet w w' := by
  unfold QC at *
  have q0H : Hid (Quiet w ((w.alloc (.cells #[.int .i64 4, .int .i64 a, .int .i64 b, .int .i64 c, .string s, .string t] 28)).alloc (.cells #[.int .i64 0, .int .i64 0, .int .i64 0, .string ⟨#[]⟩] 35))) := ((Chg.refl _ _).alloc _).alloc _
  have boH : Hid (Blk ((w.alloc (.cells #[.int .i64 4, .int .i64 a, .int .i64 b, .int .i64 c, .string s, .string t] 28)).alloc (.cells #[.int .i64 0, .int .i64 0, .int .i64 0, .string ⟨#[]⟩] 35)) w.heap.size 28 [.int .i64 4, .int .i64 a, .int .i64 b, .int .i64 c, .string s, .string t]) := (Blk.new w 28 [.int .i64 4, .int .i64 a, .int .i64 b, .int .i64 c, .string s, .string t]).alloc _
  have baH : Hid (Blk ((w.alloc (.cells #[.int .i64 4, .int .i64 a, .int .i64 b, .int .i64 c, .string s, .string t] 28)).alloc (.cells #[.int .i64 0, .int .i64 0, .int .i64 0, .string ⟨#[]⟩] 35)) (w.heap.size + 1) 35 [.int .i64 0, .int .i64 0, .int .i64 0, .string ⟨#[]⟩]) := Blk.at_new (by simp)
  have hco := QW.blk (unhide boH)
  have hca := QW.blk (unhide baH)
  go_enter Try.func17, Try.ntmps17
  go_wp2
  refine wp_region_noPanic ?_
  try simp only [List.append_eq, List.cons_append, List.nil_append]
  refine wp_region_mixq [(0, true), (1, true), (2, true), (3, true), (4, true), (5, true)] [] (by kernel_rfl) (by kernel_rfl) (fun _ _ _ _ _ h => h) ?_
  simp only [pickM, pickO, List.getElem?_cons_zero, List.getElem?_cons_succ]
  repeat (first | (refine wpMix_read rfl (fun K hK => ?_)) | (refine wpMix_pure rfl (fun K hK => ?_))
          go_big_quiet_op
          first | (refine hK _ ?_; clear hK K) | (apply Exists.intro; refine ⟨fun _ => ?_, ?_⟩; (· (first | (go_at_call 33; exact Calls.in_qw (unhide hOw _ (Quiet.trans (unhide q0H) (QW.q _)))))); refine hK _ ?_; clear hK K))
  refine wpMix_nil ?_
  intro _ hw'
  obtain ⟨qq, hw''⟩ := hw'
  subst hw''
  have hqq := qq.q
  generalize qq.w = wq at *
  clear hco hca hOw
  have co := (hqq.blk (unhide boH)).cell
  have ca := (hqq.blk (unhide baH)).cell
  have qH := hide hqq
  clear hqq
  go_wp2
  refine NoPanic.normal ?_
  go_wp2_with fail
  refine (unhide hOth _ (Quiet.trans (unhide q0H) (unhide qH))).mono ?_
  rintro e w23 ⟨rfl, q23⟩
  have qH23 := hide (Quiet.trans (unhide qH) q23)
  clear q23 co ca qH
  have qH := qH23
  clear qH23
  have co := ((unhide qH).blk (unhide boH)).cell
  have ca := ((unhide qH).blk (unhide baH)).cell
  go_wp2_with fail
  refine (unhide hUn _ (Quiet.trans (unhide q0H) (unhide qH))).mono ?_
  rintro e w24 ⟨rfl, q24⟩
  have qH24 := hide (Quiet.trans (unhide qH) q24)
  clear q24 co ca qH
  have qH := qH24
  clear qH24
  have co := ((unhide qH).blk (unhide boH)).cell
  have ca := ((unhide qH).blk (unhide baH)).cell
  go_wp2
  go_ret
  exact ⟨rfl, Quiet.trans (unhide q0H) (unhide qH)⟩

set_option maxRecDepth 100000 in
set_option maxHeartbeats 8000000 in
theorem kept_sub (w : World) (x y : Nat) (a b c : Int) (s t : ByteArray) (hab : (a == b) = false)
    (hOw : Hid (QC w 33 #[.pointer (some ⟨y, 0, none⟩), .agg #[.int .i64 5, .int .i64 a, .int .i64 b, .int .i64 c, .string s, .string t]] (.int .i64 0)))
    (hOth : Hid (QC w 35 #[.pointer (some ⟨x, 0, none⟩), .pointer (some ⟨y, 0, none⟩), .int .i64 a] (.bool true)))
    (hUn : Hid (QC w 36 #[.pointer (some ⟨x, 0, none⟩), .pointer (some ⟨y, 0, none⟩), .int .i64 4, .int .i64 1, .agg #[.int .i64 5, .int .i64 a, .int .i64 b, .int .i64 c, .string s, .string t]] (.bool true))) :
    Calls Try.prog 17 #[.pointer (some ⟨x, 0, none⟩), .pointer (some ⟨y, 0, none⟩), .agg #[.int .i64 5, .int .i64 a, .int .i64 b, .int .i64 c, .string s, .string t], .agg #[.int .i64 0, .int .i64 0, .int .i64 0, .string ⟨#[]⟩]] w fun e w' => e = .returned (.bool true) ∧ Quiet w w' := by
  unfold QC at *
  have q0H : Hid (Quiet w ((w.alloc (.cells #[.int .i64 5, .int .i64 a, .int .i64 b, .int .i64 c, .string s, .string t] 28)).alloc (.cells #[.int .i64 0, .int .i64 0, .int .i64 0, .string ⟨#[]⟩] 35))) := ((Chg.refl _ _).alloc _).alloc _
  have boH : Hid (Blk ((w.alloc (.cells #[.int .i64 5, .int .i64 a, .int .i64 b, .int .i64 c, .string s, .string t] 28)).alloc (.cells #[.int .i64 0, .int .i64 0, .int .i64 0, .string ⟨#[]⟩] 35)) w.heap.size 28 [.int .i64 5, .int .i64 a, .int .i64 b, .int .i64 c, .string s, .string t]) := (Blk.new w 28 [.int .i64 5, .int .i64 a, .int .i64 b, .int .i64 c, .string s, .string t]).alloc _
  have baH : Hid (Blk ((w.alloc (.cells #[.int .i64 5, .int .i64 a, .int .i64 b, .int .i64 c, .string s, .string t] 28)).alloc (.cells #[.int .i64 0, .int .i64 0, .int .i64 0, .string ⟨#[]⟩] 35)) (w.heap.size + 1) 35 [.int .i64 0, .int .i64 0, .int .i64 0, .string ⟨#[]⟩]) := Blk.at_new (by simp)
  have hco := QW.blk (unhide boH)
  have hca := QW.blk (unhide baH)
  go_enter Try.func17, Try.ntmps17
  go_wp2
  refine wp_region_noPanic ?_
  try simp only [List.append_eq, List.cons_append, List.nil_append]
  refine wp_region_mixq [(0, true), (1, true), (2, true), (3, true), (4, true), (5, true)] [] (by kernel_rfl) (by kernel_rfl) (fun _ _ _ _ _ h => h) ?_
  simp only [pickM, pickO, List.getElem?_cons_zero, List.getElem?_cons_succ]
  repeat (first | (refine wpMix_read rfl (fun K hK => ?_)) | (refine wpMix_pure rfl (fun K hK => ?_))
          go_big_quiet_op
          first | (refine hK _ ?_; clear hK K) | (apply Exists.intro; refine ⟨fun _ => ?_, ?_⟩; (· (first | (go_at_call 33; exact Calls.in_qw (unhide hOw _ (Quiet.trans (unhide q0H) (QW.q _)))))); refine hK _ ?_; clear hK K))
  refine wpMix_nil ?_
  intro _ hw'
  obtain ⟨qq, hw''⟩ := hw'
  subst hw''
  have hqq := qq.q
  generalize qq.w = wq at *
  clear hco hca hOw
  have co := (hqq.blk (unhide boH)).cell
  have ca := (hqq.blk (unhide baH)).cell
  have qH := hide hqq
  clear hqq
  go_wp2
  refine NoPanic.normal ?_
  go_wp2_with fail
  refine (unhide hOth _ (Quiet.trans (unhide q0H) (unhide qH))).mono ?_
  rintro e w25 ⟨rfl, q25⟩
  have qH25 := hide (Quiet.trans (unhide qH) q25)
  clear q25 co ca qH
  have qH := qH25
  clear qH25
  have co := ((unhide qH).blk (unhide boH)).cell
  have ca := ((unhide qH).blk (unhide baH)).cell
  go_wp2_with fail
  refine (unhide hUn _ (Quiet.trans (unhide q0H) (unhide qH))).mono ?_
  rintro e w26 ⟨rfl, q26⟩
  have qH26 := hide (Quiet.trans (unhide qH) q26)
  clear q26 co ca qH
  have qH := qH26
  clear qH26
  have co := ((unhide qH).blk (unhide boH)).cell
  have ca := ((unhide qH).blk (unhide baH)).cell
  go_wp2
  go_ret
  exact ⟨rfl, Quiet.trans (unhide q0H) (unhide qH)⟩

set_option maxRecDepth 100000 in
set_option maxHeartbeats 8000000 in
theorem kept_addself (w : World) (x y : Nat) (a b c : Int) (s t : ByteArray) (hab : (a == b) = true)
    (hOw : Hid (QC w 33 #[.pointer (some ⟨y, 0, none⟩), .agg #[.int .i64 4, .int .i64 a, .int .i64 b, .int .i64 c, .string s, .string t]] (.int .i64 0)))
    (hOth : Hid (QC w 35 #[.pointer (some ⟨x, 0, none⟩), .pointer (some ⟨y, 0, none⟩), .int .i64 a] (.bool true)))
    (hUn : Hid (QC w 36 #[.pointer (some ⟨x, 0, none⟩), .pointer (some ⟨y, 0, none⟩), .int .i64 10, .int .i64 1, .agg #[.int .i64 0, .int .i64 a, .int .i64 2, .int .i64 0, .string ⟨#[]⟩, .string ⟨#[]⟩]] (.bool true))) :
    Calls Try.prog 17 #[.pointer (some ⟨x, 0, none⟩), .pointer (some ⟨y, 0, none⟩), .agg #[.int .i64 4, .int .i64 a, .int .i64 b, .int .i64 c, .string s, .string t], .agg #[.int .i64 0, .int .i64 0, .int .i64 0, .string ⟨#[]⟩]] w fun e w' => e = .returned (.bool true) ∧ Quiet w w' := by
  unfold QC at *
  have q0H : Hid (Quiet w ((w.alloc (.cells #[.int .i64 4, .int .i64 a, .int .i64 b, .int .i64 c, .string s, .string t] 28)).alloc (.cells #[.int .i64 0, .int .i64 0, .int .i64 0, .string ⟨#[]⟩] 35))) := ((Chg.refl _ _).alloc _).alloc _
  have boH : Hid (Blk ((w.alloc (.cells #[.int .i64 4, .int .i64 a, .int .i64 b, .int .i64 c, .string s, .string t] 28)).alloc (.cells #[.int .i64 0, .int .i64 0, .int .i64 0, .string ⟨#[]⟩] 35)) w.heap.size 28 [.int .i64 4, .int .i64 a, .int .i64 b, .int .i64 c, .string s, .string t]) := (Blk.new w 28 [.int .i64 4, .int .i64 a, .int .i64 b, .int .i64 c, .string s, .string t]).alloc _
  have baH : Hid (Blk ((w.alloc (.cells #[.int .i64 4, .int .i64 a, .int .i64 b, .int .i64 c, .string s, .string t] 28)).alloc (.cells #[.int .i64 0, .int .i64 0, .int .i64 0, .string ⟨#[]⟩] 35)) (w.heap.size + 1) 35 [.int .i64 0, .int .i64 0, .int .i64 0, .string ⟨#[]⟩]) := Blk.at_new (by simp)
  have hco := QW.blk (unhide boH)
  have hca := QW.blk (unhide baH)
  go_enter Try.func17, Try.ntmps17
  go_wp2
  refine wp_region_noPanic ?_
  try simp only [List.append_eq, List.cons_append, List.nil_append]
  refine wp_region_mixq [(0, true), (1, true), (2, true), (3, true), (4, true), (5, true)] [] (by kernel_rfl) (by kernel_rfl) (fun _ _ _ _ _ h => h) ?_
  simp only [pickM, pickO, List.getElem?_cons_zero, List.getElem?_cons_succ]
  repeat (first | (refine wpMix_read rfl (fun K hK => ?_)) | (refine wpMix_pure rfl (fun K hK => ?_))
          go_big_quiet_op
          first | (refine hK _ ?_; clear hK K) | (apply Exists.intro; refine ⟨fun _ => ?_, ?_⟩; (· (first | (go_at_call 33; exact Calls.in_qw (unhide hOw _ (Quiet.trans (unhide q0H) (QW.q _)))))); refine hK _ ?_; clear hK K))
  refine wpMix_nil ?_
  intro _ hw'
  obtain ⟨qq, hw''⟩ := hw'
  subst hw''
  have hqq := qq.q
  generalize qq.w = wq at *
  clear hco hca hOw
  have co := (hqq.blk (unhide boH)).cell
  have ca := (hqq.blk (unhide baH)).cell
  have qH := hide hqq
  clear hqq
  go_wp2
  refine NoPanic.normal ?_
  go_wp2_with fail
  refine (unhide hOth _ (Quiet.trans (unhide q0H) (unhide qH))).mono ?_
  rintro e w27 ⟨rfl, q27⟩
  have qH27 := hide (Quiet.trans (unhide qH) q27)
  clear q27 co ca qH
  have qH := qH27
  clear qH27
  have co := ((unhide qH).blk (unhide boH)).cell
  have ca := ((unhide qH).blk (unhide baH)).cell
  go_wp2_with fail
  refine (unhide hUn _ (Quiet.trans (unhide q0H) (unhide qH))).mono ?_
  rintro e w28 ⟨rfl, q28⟩
  have qH28 := hide (Quiet.trans (unhide qH) q28)
  clear q28 co ca qH
  have qH := qH28
  clear qH28
  have co := ((unhide qH).blk (unhide boH)).cell
  have ca := ((unhide qH).blk (unhide baH)).cell
  go_wp2
  go_ret
  exact ⟨rfl, Quiet.trans (unhide q0H) (unhide qH)⟩

set_option maxRecDepth 100000 in
set_option maxHeartbeats 8000000 in
theorem kept_subself (w : World) (x y : Nat) (a b c N M : Int) (s t : ByteArray) (hab : (a == b) = true)
    (hOw : Hid (QC w 33 #[.pointer (some ⟨y, 0, none⟩), .agg #[.int .i64 5, .int .i64 a, .int .i64 b, .int .i64 c, .string s, .string t]] (.int .i64 0)))
    (hOth : Hid (QC w 35 #[.pointer (some ⟨x, 0, none⟩), .pointer (some ⟨y, 0, none⟩), .int .i64 a] (.bool true)))
    (hGet : Hid (QC w 15 #[.pointer (some ⟨y, 0, none⟩), .agg #[.int .i64 3, .int .i64 a, .int .i64 0, .int .i64 0, .string ⟨#[]⟩, .string ⟨#[]⟩]] (.agg #[.int .i64 0, .int .i64 N, .int .i64 M, .string ⟨#[]⟩])))
    (hUn : Hid (QC w 36 #[.pointer (some ⟨x, 0, none⟩), .pointer (some ⟨y, 0, none⟩), .int .i64 2, .int .i64 1, .agg #[.int .i64 0, .int .i64 a, .int .i64 N, .int .i64 M, .string ⟨#[]⟩, .string ⟨#[]⟩]] (.bool true)))
    (hGot : Hid (QC w 15 #[.pointer (some ⟨x, 0, none⟩), .agg #[.int .i64 3, .int .i64 a, .int .i64 0, .int .i64 0, .string ⟨#[]⟩, .string ⟨#[]⟩]] (.agg #[.int .i64 0, .int .i64 0, .int .i64 0, .string ⟨#[]⟩]))) :
    Calls Try.prog 17 #[.pointer (some ⟨x, 0, none⟩), .pointer (some ⟨y, 0, none⟩), .agg #[.int .i64 5, .int .i64 a, .int .i64 b, .int .i64 c, .string s, .string t], .agg #[.int .i64 0, .int .i64 0, .int .i64 0, .string ⟨#[]⟩]] w fun e w' => e = .returned (.bool true) ∧ Quiet w w' := by
  unfold QC at *
  have q0H : Hid (Quiet w ((w.alloc (.cells #[.int .i64 5, .int .i64 a, .int .i64 b, .int .i64 c, .string s, .string t] 28)).alloc (.cells #[.int .i64 0, .int .i64 0, .int .i64 0, .string ⟨#[]⟩] 35))) := ((Chg.refl _ _).alloc _).alloc _
  have boH : Hid (Blk ((w.alloc (.cells #[.int .i64 5, .int .i64 a, .int .i64 b, .int .i64 c, .string s, .string t] 28)).alloc (.cells #[.int .i64 0, .int .i64 0, .int .i64 0, .string ⟨#[]⟩] 35)) w.heap.size 28 [.int .i64 5, .int .i64 a, .int .i64 b, .int .i64 c, .string s, .string t]) := (Blk.new w 28 [.int .i64 5, .int .i64 a, .int .i64 b, .int .i64 c, .string s, .string t]).alloc _
  have baH : Hid (Blk ((w.alloc (.cells #[.int .i64 5, .int .i64 a, .int .i64 b, .int .i64 c, .string s, .string t] 28)).alloc (.cells #[.int .i64 0, .int .i64 0, .int .i64 0, .string ⟨#[]⟩] 35)) (w.heap.size + 1) 35 [.int .i64 0, .int .i64 0, .int .i64 0, .string ⟨#[]⟩]) := Blk.at_new (by simp)
  have hco := QW.blk (unhide boH)
  have hca := QW.blk (unhide baH)
  go_enter Try.func17, Try.ntmps17
  go_wp2
  refine wp_region_noPanic ?_
  try simp only [List.append_eq, List.cons_append, List.nil_append]
  refine wp_region_mixq [(0, true), (1, true), (2, true), (3, true), (4, true), (5, true)] [] (by kernel_rfl) (by kernel_rfl) (fun _ _ _ _ _ h => h) ?_
  simp only [pickM, pickO, List.getElem?_cons_zero, List.getElem?_cons_succ]
  repeat (first | (refine wpMix_read rfl (fun K hK => ?_)) | (refine wpMix_pure rfl (fun K hK => ?_))
          go_big_quiet_op
          first | (refine hK _ ?_; clear hK K) | (apply Exists.intro; refine ⟨fun _ => ?_, ?_⟩; (· (first | (go_at_call 33; exact Calls.in_qw (unhide hOw _ (Quiet.trans (unhide q0H) (QW.q _)))))); refine hK _ ?_; clear hK K))
  refine wpMix_nil ?_
  intro _ hw'
  obtain ⟨qq, hw''⟩ := hw'
  subst hw''
  have hqq := qq.q
  generalize qq.w = wq at *
  clear hco hca hOw
  have co := (hqq.blk (unhide boH)).cell
  have ca := (hqq.blk (unhide baH)).cell
  have qH := hide hqq
  clear hqq
  go_wp2
  refine NoPanic.normal ?_
  go_wp2_with fail
  refine (unhide hOth _ (Quiet.trans (unhide q0H) (unhide qH))).mono ?_
  rintro e w29 ⟨rfl, q29⟩
  have qH29 := hide (Quiet.trans (unhide qH) q29)
  clear q29 co ca qH
  have qH := qH29
  clear qH29
  have co := ((unhide qH).blk (unhide boH)).cell
  have ca := ((unhide qH).blk (unhide baH)).cell
  go_wp2_with fail
  refine (unhide hGet _ (Quiet.trans (unhide q0H) (unhide qH))).mono ?_
  rintro e w30 ⟨rfl, q30⟩
  have bn30 := Blk.new w30 35 [.int .i64 0, .int .i64 N, .int .i64 M, .string ⟨#[]⟩]
  have cn30 := bn30.cell
  have qH30 := hide (Quiet.trans (Quiet.trans (unhide qH) q30) ((Chg.refl _ _).alloc (.cells #[.int .i64 0, .int .i64 N, .int .i64 M, .string ⟨#[]⟩] 35)))
  clear q30 co ca qH
  have qH := qH30
  clear qH30
  have co := ((unhide qH).blk (unhide boH)).cell
  have ca := ((unhide qH).blk (unhide baH)).cell
  go_wp2_with fail
  refine (unhide hUn _ (Quiet.trans (unhide q0H) (unhide qH))).mono ?_
  rintro e w31 ⟨rfl, q31⟩
  have qH31 := hide (Quiet.trans (unhide qH) q31)
  clear q31 co ca qH
  have qH := qH31
  clear qH31
  have co := ((unhide qH).blk (unhide boH)).cell
  have ca := ((unhide qH).blk (unhide baH)).cell
  clear cn30 bn30
  go_wp2_with fail
  refine (unhide hGot _ (Quiet.trans (unhide q0H) (unhide qH))).mono ?_
  rintro e w32 ⟨rfl, q32⟩
  have qH32 := hide (Quiet.trans (unhide qH) q32)
  clear q32 co ca qH
  have qH := qH32
  clear qH32
  have co := ((unhide qH).blk (unhide boH)).cell
  have ca := ((unhide qH).blk (unhide baH)).cell
  go_wp2
  go_ret
  exact ⟨rfl, Quiet.trans (unhide q0H) (unhide qH)⟩

set_option maxRecDepth 100000 in
set_option maxHeartbeats 8000000 in
theorem kept_set (w : World) (x y : Nat) (N M : Int) (a b c : Int) (s t : ByteArray)
    (hOw : Hid (QC w 33 #[.pointer (some ⟨y, 0, none⟩), .agg #[.int .i64 2, .int .i64 a, .int .i64 b, .int .i64 c, .string s, .string t]] (.int .i64 0)))
    (hOth : Hid (QC w 35 #[.pointer (some ⟨x, 0, none⟩), .pointer (some ⟨y, 0, none⟩), .int .i64 a] (.bool true)))
    (hGet : Hid (QC w 15 #[.pointer (some ⟨y, 0, none⟩), .agg #[.int .i64 3, .int .i64 a, .int .i64 0, .int .i64 0, .string ⟨#[]⟩, .string ⟨#[]⟩]] (.agg #[.int .i64 0, .int .i64 N, .int .i64 M, .string ⟨#[]⟩])))
    (hUn : Hid (QC w 36 #[.pointer (some ⟨x, 0, none⟩), .pointer (some ⟨y, 0, none⟩), .int .i64 2, .int .i64 1, .agg #[.int .i64 0, .int .i64 a, .int .i64 N, .int .i64 M, .string ⟨#[]⟩, .string ⟨#[]⟩]] (.bool true)))
    (hGot : Hid (QC w 15 #[.pointer (some ⟨x, 0, none⟩), .agg #[.int .i64 3, .int .i64 a, .int .i64 0, .int .i64 0, .string ⟨#[]⟩, .string ⟨#[]⟩]] (.agg #[.int .i64 0, .int .i64 b, .int .i64 c, .string ⟨#[]⟩]))) :
    Calls Try.prog 17 #[.pointer (some ⟨x, 0, none⟩), .pointer (some ⟨y, 0, none⟩), .agg #[.int .i64 2, .int .i64 a, .int .i64 b, .int .i64 c, .string s, .string t], .agg #[.int .i64 0, .int .i64 0, .int .i64 0, .string ⟨#[]⟩]] w fun e w' => e = .returned (.bool true) ∧ Quiet w w' := by
  unfold QC at *
  have q0H : Hid (Quiet w ((w.alloc (.cells #[.int .i64 2, .int .i64 a, .int .i64 b, .int .i64 c, .string s, .string t] 28)).alloc (.cells #[.int .i64 0, .int .i64 0, .int .i64 0, .string ⟨#[]⟩] 35))) := ((Chg.refl _ _).alloc _).alloc _
  have boH : Hid (Blk ((w.alloc (.cells #[.int .i64 2, .int .i64 a, .int .i64 b, .int .i64 c, .string s, .string t] 28)).alloc (.cells #[.int .i64 0, .int .i64 0, .int .i64 0, .string ⟨#[]⟩] 35)) w.heap.size 28 [.int .i64 2, .int .i64 a, .int .i64 b, .int .i64 c, .string s, .string t]) := (Blk.new w 28 [.int .i64 2, .int .i64 a, .int .i64 b, .int .i64 c, .string s, .string t]).alloc _
  have baH : Hid (Blk ((w.alloc (.cells #[.int .i64 2, .int .i64 a, .int .i64 b, .int .i64 c, .string s, .string t] 28)).alloc (.cells #[.int .i64 0, .int .i64 0, .int .i64 0, .string ⟨#[]⟩] 35)) (w.heap.size + 1) 35 [.int .i64 0, .int .i64 0, .int .i64 0, .string ⟨#[]⟩]) := Blk.at_new (by simp)
  have hco := QW.blk (unhide boH)
  have hca := QW.blk (unhide baH)
  go_enter Try.func17, Try.ntmps17
  go_wp2
  refine wp_region_noPanic ?_
  try simp only [List.append_eq, List.cons_append, List.nil_append]
  refine wp_region_mixq [(0, true), (1, true), (2, true), (3, true), (4, true), (5, true)] [] (by kernel_rfl) (by kernel_rfl) (fun _ _ _ _ _ h => h) ?_
  simp only [pickM, pickO, List.getElem?_cons_zero, List.getElem?_cons_succ]
  repeat (first | (refine wpMix_read rfl (fun K hK => ?_)) | (refine wpMix_pure rfl (fun K hK => ?_))
          go_big_quiet_op
          first | (refine hK _ ?_; clear hK K) | (apply Exists.intro; refine ⟨fun _ => ?_, ?_⟩; (· (first | (go_at_call 33; exact Calls.in_qw (unhide hOw _ (Quiet.trans (unhide q0H) (QW.q _)))))); refine hK _ ?_; clear hK K))
  refine wpMix_nil ?_
  intro _ hw'
  obtain ⟨qq, hw''⟩ := hw'
  subst hw''
  have hqq := qq.q
  generalize qq.w = wq at *
  clear hco hca hOw
  have co := (hqq.blk (unhide boH)).cell
  have ca := (hqq.blk (unhide baH)).cell
  have qH := hide hqq
  clear hqq
  go_wp2
  refine NoPanic.normal ?_
  go_wp2_with fail
  refine (unhide hOth _ (Quiet.trans (unhide q0H) (unhide qH))).mono ?_
  rintro e w33 ⟨rfl, q33⟩
  have qH33 := hide (Quiet.trans (unhide qH) q33)
  clear q33 co ca qH
  have qH := qH33
  clear qH33
  have co := ((unhide qH).blk (unhide boH)).cell
  have ca := ((unhide qH).blk (unhide baH)).cell
  go_wp2_with fail
  refine (unhide hGet _ (Quiet.trans (unhide q0H) (unhide qH))).mono ?_
  rintro e w34 ⟨rfl, q34⟩
  have bn34 := Blk.new w34 35 [.int .i64 0, .int .i64 N, .int .i64 M, .string ⟨#[]⟩]
  have cn34 := bn34.cell
  have qH34 := hide (Quiet.trans (Quiet.trans (unhide qH) q34) ((Chg.refl _ _).alloc (.cells #[.int .i64 0, .int .i64 N, .int .i64 M, .string ⟨#[]⟩] 35)))
  clear q34 co ca qH
  have qH := qH34
  clear qH34
  have co := ((unhide qH).blk (unhide boH)).cell
  have ca := ((unhide qH).blk (unhide baH)).cell
  go_wp2_with fail
  refine (unhide hUn _ (Quiet.trans (unhide q0H) (unhide qH))).mono ?_
  rintro e w35 ⟨rfl, q35⟩
  have qH35 := hide (Quiet.trans (unhide qH) q35)
  clear q35 co ca qH
  have qH := qH35
  clear qH35
  have co := ((unhide qH).blk (unhide boH)).cell
  have ca := ((unhide qH).blk (unhide baH)).cell
  clear cn34 bn34
  go_wp2
  have bo9 := (unhide qH).blk (unhide boH)
  have hco := QW.blk bo9
  clear bo9
  refine wp_region_noPanic ?_
  try simp only [List.append_eq, List.cons_append, List.nil_append]
  refine wp_region_mixq [(0, true), (1, true), (2, true), (3, true), (4, true), (5, true), (6, true), (7, true), (8, true), (9, true), (10, true), (11, true)] [] (by kernel_rfl) (by kernel_rfl) (fun _ _ _ _ _ h => h) ?_
  simp only [pickM, pickO, List.getElem?_cons_zero, List.getElem?_cons_succ]
  repeat (first | (refine wpMix_read rfl (fun K hK => ?_)) | (refine wpMix_pure rfl (fun K hK => ?_))
          go_big_quiet_op
          first | (refine hK _ ?_; clear hK K) | (apply Exists.intro; refine ⟨fun _ => ?_, ?_⟩; (· (first | (go_at_call 15; exact Calls.in_qw (unhide hGot _ (Quiet.trans (unhide q0H) (Quiet.trans (unhide qH) (QW.q _))))))); refine hK _ ?_; clear hK K))
  refine wpMix_nil ?_
  intro _ hw'
  obtain ⟨qq, hw''⟩ := hw'
  subst hw''
  have hqq := qq.q
  generalize qq.w = wq at *
  have hqf := hide (Quiet.trans (Quiet.trans (unhide q0H) (unhide qH)) hqq)
  clear hco hqq co ca
  go_wp2
  refine NoPanic.normal ?_
  go_wp2
  go_ret
  exact ⟨rfl, unhide hqf⟩

set_option maxRecDepth 100000 in
set_option maxHeartbeats 8000000 in
theorem kept_mul (w : World) (x y : Nat) (N M : Int) (a b c : Int) (s t : ByteArray)
    (hOw : Hid (QC w 33 #[.pointer (some ⟨y, 0, none⟩), .agg #[.int .i64 6, .int .i64 a, .int .i64 b, .int .i64 c, .string s, .string t]] (.int .i64 0)))
    (hOth : Hid (QC w 35 #[.pointer (some ⟨x, 0, none⟩), .pointer (some ⟨y, 0, none⟩), .int .i64 a] (.bool true)))
    (hPr : Hid (QC w 38 #[.pointer (some ⟨y, 0, none⟩), .int .i64 a, .int .i64 b] (.tuple #[.int .i64 N, .int .i64 M])))
    (hGot : Hid (QC w 15 #[.pointer (some ⟨x, 0, none⟩), .agg #[.int .i64 3, .int .i64 a, .int .i64 0, .int .i64 0, .string ⟨#[]⟩, .string ⟨#[]⟩]] (.agg #[.int .i64 0, .int .i64 N, .int .i64 M, .string ⟨#[]⟩]))) :
    Calls Try.prog 17 #[.pointer (some ⟨x, 0, none⟩), .pointer (some ⟨y, 0, none⟩), .agg #[.int .i64 6, .int .i64 a, .int .i64 b, .int .i64 c, .string s, .string t], .agg #[.int .i64 0, .int .i64 0, .int .i64 0, .string ⟨#[]⟩]] w fun e w' => e = .returned (.bool true) ∧ Quiet w w' := by
  unfold QC at *
  have q0H : Hid (Quiet w ((w.alloc (.cells #[.int .i64 6, .int .i64 a, .int .i64 b, .int .i64 c, .string s, .string t] 28)).alloc (.cells #[.int .i64 0, .int .i64 0, .int .i64 0, .string ⟨#[]⟩] 35))) := ((Chg.refl _ _).alloc _).alloc _
  have boH : Hid (Blk ((w.alloc (.cells #[.int .i64 6, .int .i64 a, .int .i64 b, .int .i64 c, .string s, .string t] 28)).alloc (.cells #[.int .i64 0, .int .i64 0, .int .i64 0, .string ⟨#[]⟩] 35)) w.heap.size 28 [.int .i64 6, .int .i64 a, .int .i64 b, .int .i64 c, .string s, .string t]) := (Blk.new w 28 [.int .i64 6, .int .i64 a, .int .i64 b, .int .i64 c, .string s, .string t]).alloc _
  have baH : Hid (Blk ((w.alloc (.cells #[.int .i64 6, .int .i64 a, .int .i64 b, .int .i64 c, .string s, .string t] 28)).alloc (.cells #[.int .i64 0, .int .i64 0, .int .i64 0, .string ⟨#[]⟩] 35)) (w.heap.size + 1) 35 [.int .i64 0, .int .i64 0, .int .i64 0, .string ⟨#[]⟩]) := Blk.at_new (by simp)
  have hco := QW.blk (unhide boH)
  have hca := QW.blk (unhide baH)
  go_enter Try.func17, Try.ntmps17
  go_wp2
  refine wp_region_noPanic ?_
  try simp only [List.append_eq, List.cons_append, List.nil_append]
  refine wp_region_mixq [(0, true), (1, true), (2, true), (3, true), (4, true), (5, true)] [] (by kernel_rfl) (by kernel_rfl) (fun _ _ _ _ _ h => h) ?_
  simp only [pickM, pickO, List.getElem?_cons_zero, List.getElem?_cons_succ]
  repeat (first | (refine wpMix_read rfl (fun K hK => ?_)) | (refine wpMix_pure rfl (fun K hK => ?_))
          go_big_quiet_op
          first | (refine hK _ ?_; clear hK K) | (apply Exists.intro; refine ⟨fun _ => ?_, ?_⟩; (· (first | (go_at_call 33; exact Calls.in_qw (unhide hOw _ (Quiet.trans (unhide q0H) (QW.q _)))))); refine hK _ ?_; clear hK K))
  refine wpMix_nil ?_
  intro _ hw'
  obtain ⟨qq, hw''⟩ := hw'
  subst hw''
  have hqq := qq.q
  generalize qq.w = wq at *
  clear hco hca hOw
  have co := (hqq.blk (unhide boH)).cell
  have ca := (hqq.blk (unhide baH)).cell
  have qH := hide hqq
  clear hqq
  go_wp2
  refine NoPanic.normal ?_
  go_wp2_with fail
  refine (unhide hOth _ (Quiet.trans (unhide q0H) (unhide qH))).mono ?_
  rintro e w36 ⟨rfl, q36⟩
  have qH36 := hide (Quiet.trans (unhide qH) q36)
  clear q36 co ca qH
  have qH := qH36
  clear qH36
  have co := ((unhide qH).blk (unhide boH)).cell
  have ca := ((unhide qH).blk (unhide baH)).cell
  go_wp2_with fail
  refine (unhide hPr _ (Quiet.trans (unhide q0H) (unhide qH))).mono ?_
  rintro e w37 ⟨rfl, q37⟩
  have qH37 := hide (Quiet.trans (unhide qH) q37)
  clear q37 co ca qH
  have qH := qH37
  clear qH37
  have co := ((unhide qH).blk (unhide boH)).cell
  have ca := ((unhide qH).blk (unhide baH)).cell
  go_wp2_with fail
  refine (unhide hGot _ (Quiet.trans (unhide q0H) (unhide qH))).mono ?_
  rintro e w38 ⟨rfl, q38⟩
  have qH38 := hide (Quiet.trans (unhide qH) q38)
  clear q38 co ca qH
  have qH := qH38
  clear qH38
  have co := ((unhide qH).blk (unhide boH)).cell
  have ca := ((unhide qH).blk (unhide baH)).cell
  go_wp2
  go_ret
  exact ⟨rfl, Quiet.trans (unhide q0H) (unhide qH)⟩

set_option maxRecDepth 100000 in
set_option maxHeartbeats 8000000 in
theorem kept_div (w : World) (x y : Nat) (a b c : Int) (s t : ByteArray)
    (hOw : Hid (QC w 33 #[.pointer (some ⟨y, 0, none⟩), .agg #[.int .i64 10, .int .i64 a, .int .i64 b, .int .i64 c, .string s, .string t]] (.int .i64 0)))
    (hOth : Hid (QC w 35 #[.pointer (some ⟨x, 0, none⟩), .pointer (some ⟨y, 0, none⟩), .int .i64 a] (.bool true)))
    (hTi : Hid (QC w 39 #[.pointer (some ⟨x, 0, none⟩), .pointer (some ⟨y, 0, none⟩), .agg #[.int .i64 10, .int .i64 a, .int .i64 b, .int .i64 c, .string s, .string t]] (.bool true))) :
    Calls Try.prog 17 #[.pointer (some ⟨x, 0, none⟩), .pointer (some ⟨y, 0, none⟩), .agg #[.int .i64 10, .int .i64 a, .int .i64 b, .int .i64 c, .string s, .string t], .agg #[.int .i64 0, .int .i64 0, .int .i64 0, .string ⟨#[]⟩]] w fun e w' => e = .returned (.bool true) ∧ Quiet w w' := by
  unfold QC at *
  have q0H : Hid (Quiet w ((w.alloc (.cells #[.int .i64 10, .int .i64 a, .int .i64 b, .int .i64 c, .string s, .string t] 28)).alloc (.cells #[.int .i64 0, .int .i64 0, .int .i64 0, .string ⟨#[]⟩] 35))) := ((Chg.refl _ _).alloc _).alloc _
  have boH : Hid (Blk ((w.alloc (.cells #[.int .i64 10, .int .i64 a, .int .i64 b, .int .i64 c, .string s, .string t] 28)).alloc (.cells #[.int .i64 0, .int .i64 0, .int .i64 0, .string ⟨#[]⟩] 35)) w.heap.size 28 [.int .i64 10, .int .i64 a, .int .i64 b, .int .i64 c, .string s, .string t]) := (Blk.new w 28 [.int .i64 10, .int .i64 a, .int .i64 b, .int .i64 c, .string s, .string t]).alloc _
  have baH : Hid (Blk ((w.alloc (.cells #[.int .i64 10, .int .i64 a, .int .i64 b, .int .i64 c, .string s, .string t] 28)).alloc (.cells #[.int .i64 0, .int .i64 0, .int .i64 0, .string ⟨#[]⟩] 35)) (w.heap.size + 1) 35 [.int .i64 0, .int .i64 0, .int .i64 0, .string ⟨#[]⟩]) := Blk.at_new (by simp)
  have hco := QW.blk (unhide boH)
  have hca := QW.blk (unhide baH)
  go_enter Try.func17, Try.ntmps17
  go_wp2
  refine wp_region_noPanic ?_
  try simp only [List.append_eq, List.cons_append, List.nil_append]
  refine wp_region_mixq [(0, true), (1, true), (2, true), (3, true), (4, true), (5, true)] [] (by kernel_rfl) (by kernel_rfl) (fun _ _ _ _ _ h => h) ?_
  simp only [pickM, pickO, List.getElem?_cons_zero, List.getElem?_cons_succ]
  repeat (first | (refine wpMix_read rfl (fun K hK => ?_)) | (refine wpMix_pure rfl (fun K hK => ?_))
          go_big_quiet_op
          first | (refine hK _ ?_; clear hK K) | (apply Exists.intro; refine ⟨fun _ => ?_, ?_⟩; (· (first | (go_at_call 33; exact Calls.in_qw (unhide hOw _ (Quiet.trans (unhide q0H) (QW.q _)))))); refine hK _ ?_; clear hK K))
  refine wpMix_nil ?_
  intro _ hw'
  obtain ⟨qq, hw''⟩ := hw'
  subst hw''
  have hqq := qq.q
  generalize qq.w = wq at *
  clear hco hca hOw
  have co := (hqq.blk (unhide boH)).cell
  have ca := (hqq.blk (unhide baH)).cell
  have qH := hide hqq
  clear hqq
  go_wp2
  refine NoPanic.normal ?_
  go_wp2_with fail
  refine (unhide hOth _ (Quiet.trans (unhide q0H) (unhide qH))).mono ?_
  rintro e w39 ⟨rfl, q39⟩
  have qH39 := hide (Quiet.trans (unhide qH) q39)
  clear q39 co ca qH
  have qH := qH39
  clear qH39
  have co := ((unhide qH).blk (unhide boH)).cell
  have ca := ((unhide qH).blk (unhide baH)).cell
  go_wp2_with fail
  refine (unhide hTi _ (Quiet.trans (unhide q0H) (unhide qH))).mono ?_
  rintro e w40 ⟨rfl, q40⟩
  have qH40 := hide (Quiet.trans (unhide qH) q40)
  clear q40 co ca qH
  have qH := qH40
  clear qH40
  have co := ((unhide qH).blk (unhide boH)).cell
  have ca := ((unhide qH).blk (unhide baH)).cell
  go_wp2
  go_ret
  exact ⟨rfl, Quiet.trans (unhide q0H) (unhide qH)⟩

set_option maxRecDepth 100000 in
set_option maxHeartbeats 8000000 in
theorem kept_dftback (w : World) (x y : Nat) (a b c : Int) (s t : ByteArray)
    (hOw : Hid (QC w 33 #[.pointer (some ⟨y, 0, none⟩), .agg #[.int .i64 11, .int .i64 1, .int .i64 b, .int .i64 c, .string s, .string t]] (.int .i64 0)))
    (hUn : Hid (QC w 36 #[.pointer (some ⟨x, 0, none⟩), .pointer (some ⟨y, 0, none⟩), .int .i64 11, .int .i64 1, .agg #[.int .i64 0, .int .i64 0, .int .i64 0, .int .i64 0, .string ⟨#[]⟩, .string ⟨#[]⟩]] (.bool true))) :
    Calls Try.prog 17 #[.pointer (some ⟨x, 0, none⟩), .pointer (some ⟨y, 0, none⟩), .agg #[.int .i64 11, .int .i64 1, .int .i64 b, .int .i64 c, .string s, .string t], .agg #[.int .i64 0, .int .i64 0, .int .i64 0, .string ⟨#[]⟩]] w fun e w' => e = .returned (.bool true) ∧ Quiet w w' := by
  unfold QC at *
  have q0H : Hid (Quiet w ((w.alloc (.cells #[.int .i64 11, .int .i64 1, .int .i64 b, .int .i64 c, .string s, .string t] 28)).alloc (.cells #[.int .i64 0, .int .i64 0, .int .i64 0, .string ⟨#[]⟩] 35))) := ((Chg.refl _ _).alloc _).alloc _
  have boH : Hid (Blk ((w.alloc (.cells #[.int .i64 11, .int .i64 1, .int .i64 b, .int .i64 c, .string s, .string t] 28)).alloc (.cells #[.int .i64 0, .int .i64 0, .int .i64 0, .string ⟨#[]⟩] 35)) w.heap.size 28 [.int .i64 11, .int .i64 1, .int .i64 b, .int .i64 c, .string s, .string t]) := (Blk.new w 28 [.int .i64 11, .int .i64 1, .int .i64 b, .int .i64 c, .string s, .string t]).alloc _
  have baH : Hid (Blk ((w.alloc (.cells #[.int .i64 11, .int .i64 1, .int .i64 b, .int .i64 c, .string s, .string t] 28)).alloc (.cells #[.int .i64 0, .int .i64 0, .int .i64 0, .string ⟨#[]⟩] 35)) (w.heap.size + 1) 35 [.int .i64 0, .int .i64 0, .int .i64 0, .string ⟨#[]⟩]) := Blk.at_new (by simp)
  have hco := QW.blk (unhide boH)
  have hca := QW.blk (unhide baH)
  go_enter Try.func17, Try.ntmps17
  go_wp2
  refine wp_region_noPanic ?_
  try simp only [List.append_eq, List.cons_append, List.nil_append]
  refine wp_region_mixq [(0, true), (1, true), (2, true), (3, true), (4, true), (5, true)] [] (by kernel_rfl) (by kernel_rfl) (fun _ _ _ _ _ h => h) ?_
  simp only [pickM, pickO, List.getElem?_cons_zero, List.getElem?_cons_succ]
  repeat (first | (refine wpMix_read rfl (fun K hK => ?_)) | (refine wpMix_pure rfl (fun K hK => ?_))
          go_big_quiet_op
          first | (refine hK _ ?_; clear hK K) | (apply Exists.intro; refine ⟨fun _ => ?_, ?_⟩; (· (first | (go_at_call 33; exact Calls.in_qw (unhide hOw _ (Quiet.trans (unhide q0H) (QW.q _)))))); refine hK _ ?_; clear hK K))
  refine wpMix_nil ?_
  intro _ hw'
  obtain ⟨qq, hw''⟩ := hw'
  subst hw''
  have hqq := qq.q
  generalize qq.w = wq at *
  clear hco hca hOw
  have co := (hqq.blk (unhide boH)).cell
  have ca := (hqq.blk (unhide baH)).cell
  have qH := hide hqq
  clear hqq
  go_wp2
  refine NoPanic.normal ?_
  go_wp2_with fail
  refine (unhide hUn _ (Quiet.trans (unhide q0H) (unhide qH))).mono ?_
  rintro e w41 ⟨rfl, q41⟩
  have qH41 := hide (Quiet.trans (unhide qH) q41)
  clear q41 co ca qH
  have qH := qH41
  clear qH41
  have co := ((unhide qH).blk (unhide boH)).cell
  have ca := ((unhide qH).blk (unhide baH)).cell
  go_wp2
  go_ret
  exact ⟨rfl, Quiet.trans (unhide q0H) (unhide qH)⟩

set_option maxRecDepth 100000 in
set_option maxHeartbeats 8000000 in
theorem kept_dftthere (w : World) (x y : Nat) (a b c : Int) (s t : ByteArray)
    (hOw : Hid (QC w 33 #[.pointer (some ⟨y, 0, none⟩), .agg #[.int .i64 11, .int .i64 0, .int .i64 b, .int .i64 c, .string s, .string t]] (.int .i64 0)))
    (hUn : Hid (QC w 36 #[.pointer (some ⟨x, 0, none⟩), .pointer (some ⟨y, 0, none⟩), .int .i64 11, .int .i64 1, .agg #[.int .i64 0, .int .i64 1, .int .i64 0, .int .i64 0, .string ⟨#[]⟩, .string ⟨#[]⟩]] (.bool true)))
    (hPo : Hid (QC w 40 #[.pointer (some ⟨x, 0, none⟩), .pointer (some ⟨y, 0, none⟩)] (.bool true))) :
    Calls Try.prog 17 #[.pointer (some ⟨x, 0, none⟩), .pointer (some ⟨y, 0, none⟩), .agg #[.int .i64 11, .int .i64 0, .int .i64 b, .int .i64 c, .string s, .string t], .agg #[.int .i64 0, .int .i64 0, .int .i64 0, .string ⟨#[]⟩]] w fun e w' => e = .returned (.bool true) ∧ Quiet w w' := by
  unfold QC at *
  have q0H : Hid (Quiet w ((w.alloc (.cells #[.int .i64 11, .int .i64 0, .int .i64 b, .int .i64 c, .string s, .string t] 28)).alloc (.cells #[.int .i64 0, .int .i64 0, .int .i64 0, .string ⟨#[]⟩] 35))) := ((Chg.refl _ _).alloc _).alloc _
  have boH : Hid (Blk ((w.alloc (.cells #[.int .i64 11, .int .i64 0, .int .i64 b, .int .i64 c, .string s, .string t] 28)).alloc (.cells #[.int .i64 0, .int .i64 0, .int .i64 0, .string ⟨#[]⟩] 35)) w.heap.size 28 [.int .i64 11, .int .i64 0, .int .i64 b, .int .i64 c, .string s, .string t]) := (Blk.new w 28 [.int .i64 11, .int .i64 0, .int .i64 b, .int .i64 c, .string s, .string t]).alloc _
  have baH : Hid (Blk ((w.alloc (.cells #[.int .i64 11, .int .i64 0, .int .i64 b, .int .i64 c, .string s, .string t] 28)).alloc (.cells #[.int .i64 0, .int .i64 0, .int .i64 0, .string ⟨#[]⟩] 35)) (w.heap.size + 1) 35 [.int .i64 0, .int .i64 0, .int .i64 0, .string ⟨#[]⟩]) := Blk.at_new (by simp)
  have hco := QW.blk (unhide boH)
  have hca := QW.blk (unhide baH)
  go_enter Try.func17, Try.ntmps17
  go_wp2
  refine wp_region_noPanic ?_
  try simp only [List.append_eq, List.cons_append, List.nil_append]
  refine wp_region_mixq [(0, true), (1, true), (2, true), (3, true), (4, true), (5, true)] [] (by kernel_rfl) (by kernel_rfl) (fun _ _ _ _ _ h => h) ?_
  simp only [pickM, pickO, List.getElem?_cons_zero, List.getElem?_cons_succ]
  repeat (first | (refine wpMix_read rfl (fun K hK => ?_)) | (refine wpMix_pure rfl (fun K hK => ?_))
          go_big_quiet_op
          first | (refine hK _ ?_; clear hK K) | (apply Exists.intro; refine ⟨fun _ => ?_, ?_⟩; (· (first | (go_at_call 33; exact Calls.in_qw (unhide hOw _ (Quiet.trans (unhide q0H) (QW.q _)))))); refine hK _ ?_; clear hK K))
  refine wpMix_nil ?_
  intro _ hw'
  obtain ⟨qq, hw''⟩ := hw'
  subst hw''
  have hqq := qq.q
  generalize qq.w = wq at *
  clear hco hca hOw
  have co := (hqq.blk (unhide boH)).cell
  have ca := (hqq.blk (unhide baH)).cell
  have qH := hide hqq
  clear hqq
  go_wp2
  refine NoPanic.normal ?_
  go_wp2_with fail
  refine (unhide hUn _ (Quiet.trans (unhide q0H) (unhide qH))).mono ?_
  rintro e w42 ⟨rfl, q42⟩
  have qH42 := hide (Quiet.trans (unhide qH) q42)
  clear q42 co ca qH
  have qH := qH42
  clear qH42
  have co := ((unhide qH).blk (unhide boH)).cell
  have ca := ((unhide qH).blk (unhide baH)).cell
  go_wp2_with fail
  refine (unhide hPo _ (Quiet.trans (unhide q0H) (unhide qH))).mono ?_
  rintro e w43 ⟨rfl, q43⟩
  have qH43 := hide (Quiet.trans (unhide qH) q43)
  clear q43 co ca qH
  have qH := qH43
  clear qH43
  have co := ((unhide qH).blk (unhide boH)).cell
  have ca := ((unhide qH).blk (unhide baH)).cell
  go_wp2
  go_ret
  exact ⟨rfl, Quiet.trans (unhide q0H) (unhide qH)⟩

set_option maxRecDepth 100000 in
set_option maxHeartbeats 8000000 in
theorem kept_eval (w : World) (x y : Nat) (N M : Int) (a b c : Int) (s t : ByteArray)
    (hOw : Hid (QC w 33 #[.pointer (some ⟨y, 0, none⟩), .agg #[.int .i64 12, .int .i64 a, .int .i64 b, .int .i64 c, .string s, .string t]] (.int .i64 0)))
    (hPy : Hid (QC w 37 #[.pointer (some ⟨y, 0, none⟩), .int .i64 a, .int .i64 b] (.tuple #[.int .i64 N, .int .i64 M])))
    (hAl : Hid (QC w 34 #[.pointer (some ⟨x, 0, none⟩), .pointer (some ⟨y, 0, none⟩)] (.bool true))) :
    Calls Try.prog 17 #[.pointer (some ⟨x, 0, none⟩), .pointer (some ⟨y, 0, none⟩), .agg #[.int .i64 12, .int .i64 a, .int .i64 b, .int .i64 c, .string s, .string t], .agg #[.int .i64 0, .int .i64 N, .int .i64 M, .string ⟨#[]⟩]] w fun e w' => e = .returned (.bool true) ∧ Quiet w w' := by
  unfold QC at *
  have q0H : Hid (Quiet w ((w.alloc (.cells #[.int .i64 12, .int .i64 a, .int .i64 b, .int .i64 c, .string s, .string t] 28)).alloc (.cells #[.int .i64 0, .int .i64 N, .int .i64 M, .string ⟨#[]⟩] 35))) := ((Chg.refl _ _).alloc _).alloc _
  have boH : Hid (Blk ((w.alloc (.cells #[.int .i64 12, .int .i64 a, .int .i64 b, .int .i64 c, .string s, .string t] 28)).alloc (.cells #[.int .i64 0, .int .i64 N, .int .i64 M, .string ⟨#[]⟩] 35)) w.heap.size 28 [.int .i64 12, .int .i64 a, .int .i64 b, .int .i64 c, .string s, .string t]) := (Blk.new w 28 [.int .i64 12, .int .i64 a, .int .i64 b, .int .i64 c, .string s, .string t]).alloc _
  have baH : Hid (Blk ((w.alloc (.cells #[.int .i64 12, .int .i64 a, .int .i64 b, .int .i64 c, .string s, .string t] 28)).alloc (.cells #[.int .i64 0, .int .i64 N, .int .i64 M, .string ⟨#[]⟩] 35)) (w.heap.size + 1) 35 [.int .i64 0, .int .i64 N, .int .i64 M, .string ⟨#[]⟩]) := Blk.at_new (by simp)
  have hco := QW.blk (unhide boH)
  have hca := QW.blk (unhide baH)
  go_enter Try.func17, Try.ntmps17
  go_wp2
  refine wp_region_noPanic ?_
  try simp only [List.append_eq, List.cons_append, List.nil_append]
  refine wp_region_mixq [(0, true), (1, true), (2, true), (3, true), (4, true), (5, true)] [] (by kernel_rfl) (by kernel_rfl) (fun _ _ _ _ _ h => h) ?_
  simp only [pickM, pickO, List.getElem?_cons_zero, List.getElem?_cons_succ]
  repeat (first | (refine wpMix_read rfl (fun K hK => ?_)) | (refine wpMix_pure rfl (fun K hK => ?_))
          go_big_quiet_op
          first | (refine hK _ ?_; clear hK K) | (apply Exists.intro; refine ⟨fun _ => ?_, ?_⟩; (· (first | (go_at_call 33; exact Calls.in_qw (unhide hOw _ (Quiet.trans (unhide q0H) (QW.q _)))))); refine hK _ ?_; clear hK K))
  refine wpMix_nil ?_
  intro _ hw'
  obtain ⟨qq, hw''⟩ := hw'
  subst hw''
  have hqq := qq.q
  generalize qq.w = wq at *
  clear hco hca hOw
  have co := (hqq.blk (unhide boH)).cell
  have ca := (hqq.blk (unhide baH)).cell
  have qH := hide hqq
  clear hqq
  go_wp2
  refine NoPanic.normal ?_
  go_wp2_with fail
  refine (unhide hPy _ (Quiet.trans (unhide q0H) (unhide qH))).mono ?_
  rintro e w44 ⟨rfl, q44⟩
  have qH44 := hide (Quiet.trans (unhide qH) q44)
  clear q44 co ca qH
  have qH := qH44
  clear qH44
  have co := ((unhide qH).blk (unhide boH)).cell
  have ca := ((unhide qH).blk (unhide baH)).cell
  go_wp2_with fail
  refine (unhide hAl _ (Quiet.trans (unhide q0H) (unhide qH))).mono ?_
  rintro e w45 ⟨rfl, q45⟩
  have qH45 := hide (Quiet.trans (unhide qH) q45)
  clear q45 co ca qH
  have qH := qH45
  clear qH45
  have co := ((unhide qH).blk (unhide boH)).cell
  have ca := ((unhide qH).blk (unhide baH)).cell
  go_wp2
  go_ret
  exact ⟨rfl, Quiet.trans (unhide q0H) (unhide qH)⟩
end Go.Proofs.Qxb6500362a
