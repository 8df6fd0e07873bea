/-
  Kept: THE WALK, second part: Same, Mul32. (gen2kept2.py)
-/
import Derived.Test.Qxb6500362aKept
namespace Go.Proofs.Qxb6500362a
open Go.RowKit Go.Qx
set_option linter.unusedVariables false
set_option linter.unusedSimpArgs false

set_option maxRecDepth 100000 in
set_option maxHeartbeats 8000000 in
theorem kept_same_eq (w : World) (x y : Nat) (N M : Int) (a b c : Int) (s t : ByteArray)
    (hOw : Hid (QC w 33 #[.pointer (some ⟨y, 0, none⟩), .agg #[.int .i64 13, .int .i64 a, .int .i64 b, .int .i64 c, .string s, .string t]] (.int .i64 0)))
    (hGa : Hid (QC w 15 #[.pointer (some ⟨x, 0, none⟩), .agg #[.int .i64 3, .int .i64 a, .int .i64 0, .int .i64 0, .string ⟨#[]⟩, .string ⟨#[]⟩]] (.agg #[.int .i64 0, .int .i64 N, .int .i64 M, .string ⟨#[]⟩])))
    (hGb : Hid (QC w 15 #[.pointer (some ⟨x, 0, none⟩), .agg #[.int .i64 3, .int .i64 b, .int .i64 0, .int .i64 0, .string ⟨#[]⟩, .string ⟨#[]⟩]] (.agg #[.int .i64 0, .int .i64 N, .int .i64 M, .string ⟨#[]⟩])))
    (hAl : Hid (QC w 34 #[.pointer (some ⟨x, 0, none⟩), .pointer (some ⟨y, 0, none⟩)] (.bool true))) :
    Calls Try.prog 17 #[.pointer (some ⟨x, 0, none⟩), .pointer (some ⟨y, 0, none⟩), .agg #[.int .i64 13, .int .i64 a, .int .i64 b, .int .i64 c, .string s, .string t], .agg #[.int .i64 0, .int .i64 1, .int .i64 0, .string ⟨#[]⟩]] w fun e w' => e = .returned (.bool true) ∧ Quiet w w' := by
  unfold QC at *
  have q0H : Hid (Quiet w ((w.alloc (.cells #[.int .i64 13, .int .i64 a, .int .i64 b, .int .i64 c, .string s, .string t] 28)).alloc (.cells #[.int .i64 0, .int .i64 1, .int .i64 0, .string ⟨#[]⟩] 35))) := ((Chg.refl _ _).alloc _).alloc _
  have boH : Hid (Blk ((w.alloc (.cells #[.int .i64 13, .int .i64 a, .int .i64 b, .int .i64 c, .string s, .string t] 28)).alloc (.cells #[.int .i64 0, .int .i64 1, .int .i64 0, .string ⟨#[]⟩] 35)) w.heap.size 28 [.int .i64 13, .int .i64 a, .int .i64 b, .int .i64 c, .string s, .string t]) := (Blk.new w 28 [.int .i64 13, .int .i64 a, .int .i64 b, .int .i64 c, .string s, .string t]).alloc _
  have baH : Hid (Blk ((w.alloc (.cells #[.int .i64 13, .int .i64 a, .int .i64 b, .int .i64 c, .string s, .string t] 28)).alloc (.cells #[.int .i64 0, .int .i64 1, .int .i64 0, .string ⟨#[]⟩] 35)) (w.heap.size + 1) 35 [.int .i64 0, .int .i64 1, .int .i64 0, .string ⟨#[]⟩]) := Blk.at_new (by simp)
  have hco := QW.blk (unhide boH)
  have hca := QW.blk (unhide baH)
  go_enter Try.func17, Try.ntmps17
  go_wp2
  refine wp_region_noPanic ?_
  try simp only [List.append_eq, List.cons_append, List.nil_append]
  refine wp_region_mixq [(0, true), (1, true), (2, true), (3, true), (4, true), (5, true)] [] (by kernel_rfl) (by kernel_rfl) (fun _ _ _ _ _ h => h) ?_
  simp only [pickM, pickO, List.getElem?_cons_zero, List.getElem?_cons_succ]
  repeat (first | (refine wpMix_read rfl (fun K hK => ?_)) | (refine wpMix_pure rfl (fun K hK => ?_))
          go_big_quiet_op
          first | (refine hK _ ?_; clear hK K) | (apply Exists.intro; refine ⟨fun _ => ?_, ?_⟩; (· (first | (go_at_call 33; exact Calls.in_qw (unhide hOw _ (Quiet.trans (unhide q0H) (QW.q _)))))); refine hK _ ?_; clear hK K))
  refine wpMix_nil ?_
  intro _ hw'
  obtain ⟨qq, hw''⟩ := hw'
  subst hw''
  have hqq := qq.q
  generalize qq.w = wq at *
  clear hco hca hOw
  have co := (hqq.blk (unhide boH)).cell
  have ca := (hqq.blk (unhide baH)).cell
  have qH := hide hqq
  clear hqq
  go_wp2
  refine NoPanic.normal ?_
  go_wp2_with fail
  refine (unhide hGa _ (Quiet.trans (unhide q0H) (unhide qH))).mono ?_
  rintro e w11 ⟨rfl, q11⟩
  have bn11 := Blk.new w11 35 [.int .i64 0, .int .i64 N, .int .i64 M, .string ⟨#[]⟩]
  have cn11 := bn11.cell
  have qH11 := hide (Quiet.trans (Quiet.trans (unhide qH) q11) ((Chg.refl _ _).alloc (.cells #[.int .i64 0, .int .i64 N, .int .i64 M, .string ⟨#[]⟩] 35)))
  clear q11 co ca qH
  have qH := qH11
  clear qH11
  have co := ((unhide qH).blk (unhide boH)).cell
  have ca := ((unhide qH).blk (unhide baH)).cell
  have bg := bn11.alloc (.cells #[.int .i64 0, .int .i64 0, .int .i64 0, .string ⟨#[]⟩] 35)
  have bz : Blk ((w11.alloc (.cells #[.int .i64 0, .int .i64 N, .int .i64 M, .string ⟨#[]⟩] 35)).alloc (.cells #[.int .i64 0, .int .i64 0, .int .i64 0, .string ⟨#[]⟩] 35)) (w11.heap.size + 1) 35 [.int .i64 0, .int .i64 0, .int .i64 0, .string ⟨#[]⟩] := Blk.at_new (by simp)
  have qc : Hid (Quiet w ((w11.alloc (.cells #[.int .i64 0, .int .i64 N, .int .i64 M, .string ⟨#[]⟩] 35)).alloc (.cells #[.int .i64 0, .int .i64 0, .int .i64 0, .string ⟨#[]⟩] 35))) := Quiet.trans (Quiet.trans (unhide q0H) (unhide qH)) ((Chg.refl _ _).alloc _)
  have bo9 := ((unhide qH).blk (unhide boH)).alloc (.cells #[.int .i64 0, .int .i64 0, .int .i64 0, .string ⟨#[]⟩] 35)
  have ba9 := ((unhide qH).blk (unhide baH)).alloc (.cells #[.int .i64 0, .int .i64 0, .int .i64 0, .string ⟨#[]⟩] 35)
  have hw0 : Hid (w.heap.size ≤ w11.heap.size) := by
    have h1 := (Quiet.trans (unhide q0H) (unhide qH)).size
    have h2 := ((unhide qH).blk (unhide baH)).lt
    show w.heap.size ≤ w11.heap.size
    simp at h1 h2
    have h3 := (unhide q0H).size
    omega
  go_wp2
  have hco := QW.blk bo9
  have hcg := QW.blk bg
  have bzH := hide bz
  have baH9 := hide ba9
  clear bo9 bg bz ba9 co ca cn11 bn11 qH boH baH
  refine wp_region_noPanic ?_
  try simp only [List.append_eq, List.cons_append, List.nil_append]
  refine wp_region_mixq [(0, true), (1, true), (2, true), (3, true), (4, true), (5, true), (6, true)] [] (by kernel_rfl) (by kernel_rfl) (fun _ _ _ _ _ h => h) ?_
  simp only [pickM, pickO, List.getElem?_cons_zero, List.getElem?_cons_succ]
  repeat (first | (refine wpMix_read rfl (fun K hK => ?_)) | (refine wpMix_pure rfl (fun K hK => ?_))
          go_big_quiet_op
          first | (refine hK _ ?_; clear hK K) | (apply Exists.intro; refine ⟨fun _ => ?_, ?_⟩; (· (first | (go_at_call 15; exact Calls.in_qw (unhide hGb _ (Quiet.trans (unhide qc) (QW.q _)))))); refine hK _ ?_; clear hK K))
  refine wpMix_nil ?_
  intro _ hw'
  obtain ⟨qq, hw''⟩ := hw'
  subst hw''
  have hqq := qq.q
  generalize qq.w = wq at *
  have bz2 := hqq.blk (unhide bzH)
  have ba2 := hqq.blk (unhide baH9)
  have cz := bz2.cell
  have fz := bz2.frozen
  have ca := ba2.cell
  have bz3 := bz2.set 1 (.int .i64 1)
  simp only [List.set_cons_zero, List.set_cons_succ] at bz3
  have ne1 : w.heap.size + 1 ≠ w11.heap.size + 1 := by
    intro e
    have h3 := unhide baH9
    rw [e] at h3
    have := h3.eq (unhide bzH)
    simp at this
  have ba3 := ba2.set_other (a := ⟨w11.heap.size + 1, 1, none⟩) ne1 (.int .i64 1)
  have q9 : Hid (Quiet w (wq.setCell ⟨w11.heap.size + 1, 1, none⟩ (.int .i64 1))) := Chg.setCell (Quiet.trans (unhide qc) hqq) (p := ⟨w11.heap.size + 1, 1, none⟩) (.inr (by have := unhide hw0; show w.heap.size ≤ w11.heap.size + 1; omega)) _
  have cz3 := bz3.cell
  have ca3 := ba3.cell
  have z1 := hide cz3
  have z2 := hide ca3
  clear hqq hco hcg bz2 ba2 bz3 ba3 cz3 ca3 bzH baH9
  go_wp2
  refine NoPanic.normal ?_
  have cz3 := unhide z1
  have ca3 := unhide z2
  go_wp2_with fail
  refine (unhide hAl _ (unhide q9)).mono ?_
  rintro e w30 ⟨rfl, q30⟩
  go_wp2
  go_ret
  exact ⟨rfl, Quiet.trans (unhide q9) q30⟩

set_option maxRecDepth 100000 in
set_option maxHeartbeats 8000000 in
theorem kept_same_ne1 (w : World) (x y : Nat) (N M N2 M2 : Int) (hN : ¬ N = N2) (a b c : Int) (s t : ByteArray)
    (hOw : Hid (QC w 33 #[.pointer (some ⟨y, 0, none⟩), .agg #[.int .i64 13, .int .i64 a, .int .i64 b, .int .i64 c, .string s, .string t]] (.int .i64 0)))
    (hGa : Hid (QC w 15 #[.pointer (some ⟨x, 0, none⟩), .agg #[.int .i64 3, .int .i64 a, .int .i64 0, .int .i64 0, .string ⟨#[]⟩, .string ⟨#[]⟩]] (.agg #[.int .i64 0, .int .i64 N, .int .i64 M, .string ⟨#[]⟩])))
    (hGb : Hid (QC w 15 #[.pointer (some ⟨x, 0, none⟩), .agg #[.int .i64 3, .int .i64 b, .int .i64 0, .int .i64 0, .string ⟨#[]⟩, .string ⟨#[]⟩]] (.agg #[.int .i64 0, .int .i64 N2, .int .i64 M2, .string ⟨#[]⟩])))
    (hAl : Hid (QC w 34 #[.pointer (some ⟨x, 0, none⟩), .pointer (some ⟨y, 0, none⟩)] (.bool true))) :
    Calls Try.prog 17 #[.pointer (some ⟨x, 0, none⟩), .pointer (some ⟨y, 0, none⟩), .agg #[.int .i64 13, .int .i64 a, .int .i64 b, .int .i64 c, .string s, .string t], .agg #[.int .i64 0, .int .i64 0, .int .i64 0, .string ⟨#[]⟩]] w fun e w' => e = .returned (.bool true) ∧ Quiet w w' := by
  unfold QC at *
  have hN2 : (N == N2) = false := by simpa using hN
  have q0H : Hid (Quiet w ((w.alloc (.cells #[.int .i64 13, .int .i64 a, .int .i64 b, .int .i64 c, .string s, .string t] 28)).alloc (.cells #[.int .i64 0, .int .i64 0, .int .i64 0, .string ⟨#[]⟩] 35))) := ((Chg.refl _ _).alloc _).alloc _
  have boH : Hid (Blk ((w.alloc (.cells #[.int .i64 13, .int .i64 a, .int .i64 b, .int .i64 c, .string s, .string t] 28)).alloc (.cells #[.int .i64 0, .int .i64 0, .int .i64 0, .string ⟨#[]⟩] 35)) w.heap.size 28 [.int .i64 13, .int .i64 a, .int .i64 b, .int .i64 c, .string s, .string t]) := (Blk.new w 28 [.int .i64 13, .int .i64 a, .int .i64 b, .int .i64 c, .string s, .string t]).alloc _
  have baH : Hid (Blk ((w.alloc (.cells #[.int .i64 13, .int .i64 a, .int .i64 b, .int .i64 c, .string s, .string t] 28)).alloc (.cells #[.int .i64 0, .int .i64 0, .int .i64 0, .string ⟨#[]⟩] 35)) (w.heap.size + 1) 35 [.int .i64 0, .int .i64 0, .int .i64 0, .string ⟨#[]⟩]) := Blk.at_new (by simp)
  have hco := QW.blk (unhide boH)
  have hca := QW.blk (unhide baH)
  go_enter Try.func17, Try.ntmps17
  go_wp2
  refine wp_region_noPanic ?_
  try simp only [List.append_eq, List.cons_append, List.nil_append]
  refine wp_region_mixq [(0, true), (1, true), (2, true), (3, true), (4, true), (5, true)] [] (by kernel_rfl) (by kernel_rfl) (fun _ _ _ _ _ h => h) ?_
  simp only [pickM, pickO, List.getElem?_cons_zero, List.getElem?_cons_succ]
  repeat (first | (refine wpMix_read rfl (fun K hK => ?_)) | (refine wpMix_pure rfl (fun K hK => ?_))
          go_big_quiet_op
          first | (refine hK _ ?_; clear hK K) | (apply Exists.intro; refine ⟨fun _ => ?_, ?_⟩; (· (first | (go_at_call 33; exact Calls.in_qw (unhide hOw _ (Quiet.trans (unhide q0H) (QW.q _)))))); refine hK _ ?_; clear hK K))
  refine wpMix_nil ?_
  intro _ hw'
  obtain ⟨qq, hw''⟩ := hw'
  subst hw''
  have hqq := qq.q
  generalize qq.w = wq at *
  clear hco hca hOw
  have co := (hqq.blk (unhide boH)).cell
  have ca := (hqq.blk (unhide baH)).cell
  have qH := hide hqq
  clear hqq
  go_wp2
  refine NoPanic.normal ?_
  go_wp2_with fail
  refine (unhide hGa _ (Quiet.trans (unhide q0H) (unhide qH))).mono ?_
  rintro e w12 ⟨rfl, q12⟩
  have bn12 := Blk.new w12 35 [.int .i64 0, .int .i64 N, .int .i64 M, .string ⟨#[]⟩]
  have cn12 := bn12.cell
  have qH12 := hide (Quiet.trans (Quiet.trans (unhide qH) q12) ((Chg.refl _ _).alloc (.cells #[.int .i64 0, .int .i64 N, .int .i64 M, .string ⟨#[]⟩] 35)))
  clear q12 co ca qH
  have qH := qH12
  clear qH12
  have co := ((unhide qH).blk (unhide boH)).cell
  have ca := ((unhide qH).blk (unhide baH)).cell
  have bg := bn12.alloc (.cells #[.int .i64 0, .int .i64 0, .int .i64 0, .string ⟨#[]⟩] 35)
  have bz : Blk ((w12.alloc (.cells #[.int .i64 0, .int .i64 N, .int .i64 M, .string ⟨#[]⟩] 35)).alloc (.cells #[.int .i64 0, .int .i64 0, .int .i64 0, .string ⟨#[]⟩] 35)) (w12.heap.size + 1) 35 [.int .i64 0, .int .i64 0, .int .i64 0, .string ⟨#[]⟩] := Blk.at_new (by simp)
  have qc : Hid (Quiet w ((w12.alloc (.cells #[.int .i64 0, .int .i64 N, .int .i64 M, .string ⟨#[]⟩] 35)).alloc (.cells #[.int .i64 0, .int .i64 0, .int .i64 0, .string ⟨#[]⟩] 35))) := Quiet.trans (Quiet.trans (unhide q0H) (unhide qH)) ((Chg.refl _ _).alloc _)
  have bo9 := ((unhide qH).blk (unhide boH)).alloc (.cells #[.int .i64 0, .int .i64 0, .int .i64 0, .string ⟨#[]⟩] 35)
  have ba9 := ((unhide qH).blk (unhide baH)).alloc (.cells #[.int .i64 0, .int .i64 0, .int .i64 0, .string ⟨#[]⟩] 35)
  have hw0 : Hid (w.heap.size ≤ w12.heap.size) := by
    have h1 := (Quiet.trans (unhide q0H) (unhide qH)).size
    have h2 := ((unhide qH).blk (unhide baH)).lt
    show w.heap.size ≤ w12.heap.size
    simp at h1 h2
    have h3 := (unhide q0H).size
    omega
  go_wp2
  have hco := QW.blk bo9
  have hcg := QW.blk bg
  have bzH := hide bz
  have baH9 := hide ba9
  clear bo9 bg bz ba9 co ca cn12 bn12 qH boH baH
  refine wp_region_noPanic ?_
  try simp only [List.append_eq, List.cons_append, List.nil_append]
  refine wp_region_mixq [(0, true), (1, true), (2, true), (3, true), (4, true), (5, true), (6, true)] [] (by kernel_rfl) (by kernel_rfl) (fun _ _ _ _ _ h => h) ?_
  simp only [pickM, pickO, List.getElem?_cons_zero, List.getElem?_cons_succ]
  repeat (first | (refine wpMix_read rfl (fun K hK => ?_)) | (refine wpMix_pure rfl (fun K hK => ?_))
          go_big_quiet_op
          first | (refine hK _ ?_; clear hK K) | (apply Exists.intro; refine ⟨fun _ => ?_, ?_⟩; (· (first | (go_at_call 15; exact Calls.in_qw (unhide hGb _ (Quiet.trans (unhide qc) (QW.q _)))))); refine hK _ ?_; clear hK K))
  refine wpMix_nil ?_
  intro _ hw'
  obtain ⟨qq, hw''⟩ := hw'
  subst hw''
  have hqq := qq.q
  generalize qq.w = wq at *
  have bz2 := hqq.blk (unhide bzH)
  have ba2 := hqq.blk (unhide baH9)
  have cz := bz2.cell
  have ca := ba2.cell
  have q9 := hide (Quiet.trans (unhide qc) hqq)
  clear hqq hco hcg bz2 ba2 bzH baH9
  go_wp2
  refine NoPanic.normal ?_
  go_wp2_with fail
  refine (unhide hAl _ (unhide q9)).mono ?_
  rintro e w30 ⟨rfl, q30⟩
  go_wp2
  go_ret
  exact ⟨rfl, Quiet.trans (unhide q9) q30⟩

set_option maxRecDepth 100000 in
set_option maxHeartbeats 8000000 in
theorem kept_same_ne2 (w : World) (x y : Nat) (N M M2 : Int) (hM : ¬ M = M2) (a b c : Int) (s t : ByteArray)
    (hOw : Hid (QC w 33 #[.pointer (some ⟨y, 0, none⟩), .agg #[.int .i64 13, .int .i64 a, .int .i64 b, .int .i64 c, .string s, .string t]] (.int .i64 0)))
    (hGa : Hid (QC w 15 #[.pointer (some ⟨x, 0, none⟩), .agg #[.int .i64 3, .int .i64 a, .int .i64 0, .int .i64 0, .string ⟨#[]⟩, .string ⟨#[]⟩]] (.agg #[.int .i64 0, .int .i64 N, .int .i64 M, .string ⟨#[]⟩])))
    (hGb : Hid (QC w 15 #[.pointer (some ⟨x, 0, none⟩), .agg #[.int .i64 3, .int .i64 b, .int .i64 0, .int .i64 0, .string ⟨#[]⟩, .string ⟨#[]⟩]] (.agg #[.int .i64 0, .int .i64 N, .int .i64 M2, .string ⟨#[]⟩])))
    (hAl : Hid (QC w 34 #[.pointer (some ⟨x, 0, none⟩), .pointer (some ⟨y, 0, none⟩)] (.bool true))) :
    Calls Try.prog 17 #[.pointer (some ⟨x, 0, none⟩), .pointer (some ⟨y, 0, none⟩), .agg #[.int .i64 13, .int .i64 a, .int .i64 b, .int .i64 c, .string s, .string t], .agg #[.int .i64 0, .int .i64 0, .int .i64 0, .string ⟨#[]⟩]] w fun e w' => e = .returned (.bool true) ∧ Quiet w w' := by
  unfold QC at *
  have hM2 : (M == M2) = false := by simpa using hM
  have q0H : Hid (Quiet w ((w.alloc (.cells #[.int .i64 13, .int .i64 a, .int .i64 b, .int .i64 c, .string s, .string t] 28)).alloc (.cells #[.int .i64 0, .int .i64 0, .int .i64 0, .string ⟨#[]⟩] 35))) := ((Chg.refl _ _).alloc _).alloc _
  have boH : Hid (Blk ((w.alloc (.cells #[.int .i64 13, .int .i64 a, .int .i64 b, .int .i64 c, .string s, .string t] 28)).alloc (.cells #[.int .i64 0, .int .i64 0, .int .i64 0, .string ⟨#[]⟩] 35)) w.heap.size 28 [.int .i64 13, .int .i64 a, .int .i64 b, .int .i64 c, .string s, .string t]) := (Blk.new w 28 [.int .i64 13, .int .i64 a, .int .i64 b, .int .i64 c, .string s, .string t]).alloc _
  have baH : Hid (Blk ((w.alloc (.cells #[.int .i64 13, .int .i64 a, .int .i64 b, .int .i64 c, .string s, .string t] 28)).alloc (.cells #[.int .i64 0, .int .i64 0, .int .i64 0, .string ⟨#[]⟩] 35)) (w.heap.size + 1) 35 [.int .i64 0, .int .i64 0, .int .i64 0, .string ⟨#[]⟩]) := Blk.at_new (by simp)
  have hco := QW.blk (unhide boH)
  have hca := QW.blk (unhide baH)
  go_enter Try.func17, Try.ntmps17
  go_wp2
  refine wp_region_noPanic ?_
  try simp only [List.append_eq, List.cons_append, List.nil_append]
  refine wp_region_mixq [(0, true), (1, true), (2, true), (3, true), (4, true), (5, true)] [] (by kernel_rfl) (by kernel_rfl) (fun _ _ _ _ _ h => h) ?_
  simp only [pickM, pickO, List.getElem?_cons_zero, List.getElem?_cons_succ]
  repeat (first | (refine wpMix_read rfl (fun K hK => ?_)) | (refine wpMix_pure rfl (fun K hK => ?_))
          go_big_quiet_op
          first | (refine hK _ ?_; clear hK K) | (apply Exists.intro; refine ⟨fun _ => ?_, ?_⟩; (· (first | (go_at_call 33; exact Calls.in_qw (unhide hOw _ (Quiet.trans (unhide q0H) (QW.q _)))))); refine hK _ ?_; clear hK K))
  refine wpMix_nil ?_
  intro _ hw'
  obtain ⟨qq, hw''⟩ := hw'
  subst hw''
  have hqq := qq.q
  generalize qq.w = wq at *
  clear hco hca hOw
  have co := (hqq.blk (unhide boH)).cell
  have ca := (hqq.blk (unhide baH)).cell
  have qH := hide hqq
  clear hqq
  go_wp2
  refine NoPanic.normal ?_
  go_wp2_with fail
  refine (unhide hGa _ (Quiet.trans (unhide q0H) (unhide qH))).mono ?_
  rintro e w13 ⟨rfl, q13⟩
  have bn13 := Blk.new w13 35 [.int .i64 0, .int .i64 N, .int .i64 M, .string ⟨#[]⟩]
  have cn13 := bn13.cell
  have qH13 := hide (Quiet.trans (Quiet.trans (unhide qH) q13) ((Chg.refl _ _).alloc (.cells #[.int .i64 0, .int .i64 N, .int .i64 M, .string ⟨#[]⟩] 35)))
  clear q13 co ca qH
  have qH := qH13
  clear qH13
  have co := ((unhide qH).blk (unhide boH)).cell
  have ca := ((unhide qH).blk (unhide baH)).cell
  have bg := bn13.alloc (.cells #[.int .i64 0, .int .i64 0, .int .i64 0, .string ⟨#[]⟩] 35)
  have bz : Blk ((w13.alloc (.cells #[.int .i64 0, .int .i64 N, .int .i64 M, .string ⟨#[]⟩] 35)).alloc (.cells #[.int .i64 0, .int .i64 0, .int .i64 0, .string ⟨#[]⟩] 35)) (w13.heap.size + 1) 35 [.int .i64 0, .int .i64 0, .int .i64 0, .string ⟨#[]⟩] := Blk.at_new (by simp)
  have qc : Hid (Quiet w ((w13.alloc (.cells #[.int .i64 0, .int .i64 N, .int .i64 M, .string ⟨#[]⟩] 35)).alloc (.cells #[.int .i64 0, .int .i64 0, .int .i64 0, .string ⟨#[]⟩] 35))) := Quiet.trans (Quiet.trans (unhide q0H) (unhide qH)) ((Chg.refl _ _).alloc _)
  have bo9 := ((unhide qH).blk (unhide boH)).alloc (.cells #[.int .i64 0, .int .i64 0, .int .i64 0, .string ⟨#[]⟩] 35)
  have ba9 := ((unhide qH).blk (unhide baH)).alloc (.cells #[.int .i64 0, .int .i64 0, .int .i64 0, .string ⟨#[]⟩] 35)
  have hw0 : Hid (w.heap.size ≤ w13.heap.size) := by
    have h1 := (Quiet.trans (unhide q0H) (unhide qH)).size
    have h2 := ((unhide qH).blk (unhide baH)).lt
    show w.heap.size ≤ w13.heap.size
    simp at h1 h2
    have h3 := (unhide q0H).size
    omega
  go_wp2
  have hco := QW.blk bo9
  have hcg := QW.blk bg
  have bzH := hide bz
  have baH9 := hide ba9
  clear bo9 bg bz ba9 co ca cn13 bn13 qH boH baH
  refine wp_region_noPanic ?_
  try simp only [List.append_eq, List.cons_append, List.nil_append]
  refine wp_region_mixq [(0, true), (1, true), (2, true), (3, true), (4, true), (5, true), (6, true)] [] (by kernel_rfl) (by kernel_rfl) (fun _ _ _ _ _ h => h) ?_
  simp only [pickM, pickO, List.getElem?_cons_zero, List.getElem?_cons_succ]
  repeat (first | (refine wpMix_read rfl (fun K hK => ?_)) | (refine wpMix_pure rfl (fun K hK => ?_))
          go_big_quiet_op
          first | (refine hK _ ?_; clear hK K) | (apply Exists.intro; refine ⟨fun _ => ?_, ?_⟩; (· (first | (go_at_call 15; exact Calls.in_qw (unhide hGb _ (Quiet.trans (unhide qc) (QW.q _)))))); refine hK _ ?_; clear hK K))
  refine wpMix_nil ?_
  intro _ hw'
  obtain ⟨qq, hw''⟩ := hw'
  subst hw''
  have hqq := qq.q
  generalize qq.w = wq at *
  have bz2 := hqq.blk (unhide bzH)
  have ba2 := hqq.blk (unhide baH9)
  have cz := bz2.cell
  have ca := ba2.cell
  have q9 := hide (Quiet.trans (unhide qc) hqq)
  clear hqq hco hcg bz2 ba2 bzH baH9
  go_wp2
  refine NoPanic.normal ?_
  go_wp2_with fail
  refine (unhide hAl _ (unhide q9)).mono ?_
  rintro e w30 ⟨rfl, q30⟩
  go_wp2
  go_ret
  exact ⟨rfl, Quiet.trans (unhide q9) q30⟩

set_option maxRecDepth 100000 in
set_option maxHeartbeats 8000000 in
theorem kept_mul32 (w : World) (x y : Nat) (v u : Nat) (re im re2 im2 : Nat → Int) (RH : Hid (Rep w x v re2 im2)) (IH2 : Hid (Inv re2 im2)) (RH' : Hid (Rep w y u re im)) (IH : Hid (Inv re im)) (a b c : Int) (s t : ByteArray)
    (hOw : Hid (QC w 33 #[.pointer (some ⟨y, 0, none⟩), .agg #[.int .i64 7, .int .i64 a, .int .i64 b, .int .i64 c, .string s, .string t]] (.int .i64 0)))
    (hOth : Hid (QC w 35 #[.pointer (some ⟨x, 0, none⟩), .pointer (some ⟨y, 0, none⟩), .int .i64 a] (.bool true)))
    (hE6 : (ansP re im ⟨6, a, b, 0, ⟨#[]⟩, ⟨#[]⟩⟩).e = 0)
    (hA : Agree (nextP re im ⟨6, a, b, 0, ⟨#[]⟩, ⟨#[]⟩⟩).1 (nextP re im ⟨6, a, b, 0, ⟨#[]⟩, ⟨#[]⟩⟩).2 re2 im2) :
    Calls Try.prog 17 #[.pointer (some ⟨x, 0, none⟩), .pointer (some ⟨y, 0, none⟩), .agg #[.int .i64 7, .int .i64 a, .int .i64 b, .int .i64 c, .string s, .string t], .agg #[.int .i64 0, .int .i64 0, .int .i64 0, .string ⟨#[]⟩]] w fun e w' => e = .returned (.bool true) ∧ Quiet w w' := by
  unfold QC at *
  have q0H : Hid (Quiet w ((w.alloc (.cells #[.int .i64 7, .int .i64 a, .int .i64 b, .int .i64 c, .string s, .string t] 28)).alloc (.cells #[.int .i64 0, .int .i64 0, .int .i64 0, .string ⟨#[]⟩] 35))) := ((Chg.refl _ _).alloc _).alloc _
  have boH : Hid (Blk ((w.alloc (.cells #[.int .i64 7, .int .i64 a, .int .i64 b, .int .i64 c, .string s, .string t] 28)).alloc (.cells #[.int .i64 0, .int .i64 0, .int .i64 0, .string ⟨#[]⟩] 35)) w.heap.size 28 [.int .i64 7, .int .i64 a, .int .i64 b, .int .i64 c, .string s, .string t]) := (Blk.new w 28 [.int .i64 7, .int .i64 a, .int .i64 b, .int .i64 c, .string s, .string t]).alloc _
  have baH : Hid (Blk ((w.alloc (.cells #[.int .i64 7, .int .i64 a, .int .i64 b, .int .i64 c, .string s, .string t] 28)).alloc (.cells #[.int .i64 0, .int .i64 0, .int .i64 0, .string ⟨#[]⟩] 35)) (w.heap.size + 1) 35 [.int .i64 0, .int .i64 0, .int .i64 0, .string ⟨#[]⟩]) := Blk.at_new (by simp)
  have hco := QW.blk (unhide boH)
  have hca := QW.blk (unhide baH)
  go_enter Try.func17, Try.ntmps17
  go_wp2
  refine wp_region_noPanic ?_
  try simp only [List.append_eq, List.cons_append, List.nil_append]
  refine wp_region_mixq [(0, true), (1, true), (2, true), (3, true), (4, true), (5, true)] [] (by kernel_rfl) (by kernel_rfl) (fun _ _ _ _ _ h => h) ?_
  simp only [pickM, pickO, List.getElem?_cons_zero, List.getElem?_cons_succ]
  repeat (first | (refine wpMix_read rfl (fun K hK => ?_)) | (refine wpMix_pure rfl (fun K hK => ?_))
          go_big_quiet_op
          first | (refine hK _ ?_; clear hK K) | (apply Exists.intro; refine ⟨fun _ => ?_, ?_⟩; (· (first | (go_at_call 33; exact Calls.in_qw (unhide hOw _ (Quiet.trans (unhide q0H) (QW.q _)))))); refine hK _ ?_; clear hK K))
  refine wpMix_nil ?_
  intro _ hw'
  obtain ⟨qq, hw''⟩ := hw'
  subst hw''
  have hqq := qq.q
  generalize qq.w = wq at *
  clear hco hca hOw
  have co := (hqq.blk (unhide boH)).cell
  have ca := (hqq.blk (unhide baH)).cell
  have qH := hide hqq
  clear hqq
  go_wp2
  refine NoPanic.normal ?_
  go_wp2_with fail
  refine (unhide hOth _ (Quiet.trans (unhide q0H) (unhide qH))).mono ?_
  rintro e w14 ⟨rfl, q14⟩
  have qH14 := hide (Quiet.trans (unhide qH) q14)
  clear q14 co ca qH
  have qH := qH14
  clear qH14
  have co := ((unhide qH).blk (unhide boH)).cell
  have ca := ((unhide qH).blk (unhide baH)).cell
  have hcp := hide (copy_any _ y u re im ((unhide RH').quiet (Quiet.trans (unhide q0H) (unhide qH))) (unhide IH))
  unfold copyPost ptr at hcp
  go_wp2_with fail
  refine (unhide hcp).mono ?_
  clear hcp
  rintro e w20 ⟨c1, cv, rfl, q20, hfr, R1⟩
  have hfrH := hide hfr
  have st : Hid (Quiet w w20 ∧ Rep w20 c1 cv re im) := ⟨Quiet.trans (Quiet.trans (unhide q0H) (unhide qH)) q20, R1⟩
  have lb : Hid (∀ k, own c1 cv k → w.heap.size + 1 < k) := fun k hk => by
    have h1 := hfr k hk
    have h2 := ((unhide qH).blk (unhide baH)).lt
    omega
  have bo2 := q20.blk ((unhide qH).blk (unhide boH))
  clear co ca
  have co := bo2.cell
  have boH2 := hide bo2
  have hp := hide (play_any w20 c1 cv re im R1 (unhide IH) 6 a b 0)
  rw [show (ansP re im ⟨6, a, b, 0, ⟨#[]⟩, ⟨#[]⟩⟩).e = 0 from hE6] at hp
  unfold ptr at hp
  clear q20 hfr R1 bo2 qH
  go_wp2_with fail
  refine (unhide hp).mono ?_
  clear hp co
  rintro e w21 ⟨rfl, ch, R2⟩
  have q22 : Quiet w w21 := (unhide st).1.trans' ch (fun i hi h => by have := unhide lb i h; omega)
  have hal := hide (alike_true w21 c1 cv x v _ _ re2 im2 R2 (inv_next (unhide IH) _) ((unhide RH).quiet q22) (unhide IH2) hA)
  unfold ptr at hal
  have q22H := hide q22
  clear q22 ch R2 st
  go_wp2_with fail
  refine (unhide hal).mono ?_
  rintro e w23 ⟨rfl, q23⟩
  go_wp2
  go_ret
  exact ⟨rfl, Quiet.trans (unhide q22H) q23⟩
end Go.Proofs.Qxb6500362a
