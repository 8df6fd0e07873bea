/-
  THE LAW's SMALL FUNCTIONS, second part: Others, Product, Poly, Times, Points. (gen2keepB.py)
-/
import Derived.Test.Qxb6500362aKeepA
namespace Go.Proofs.Qxb6500362a
open Go.RowKit Go.Qx
set_option linter.unusedVariables false
set_option linter.unusedSimpArgs false

/-- Get, written out. -/
theorem do_get_w (w : World) (x v : Nat) (re im : Nat → Int) (R : Rep w x v re im) (I : Inv re im) (a b c : Int) (s t : ByteArray) (W : World) (q : Quiet w W) :
    Calls Try.prog 15 #[.pointer (some ⟨x, 0, none⟩), .agg #[.int .i64 3, .int .i64 a, .int .i64 b, .int .i64 c, .string s, .string t]] W fun e w' => e = .returned (.agg #[.int .i64 (getP re im a).2.2, .int .i64 (getP re im a).1, .int .i64 (getP re im a).2.1, .string ⟨#[]⟩]) ∧ Quiet W w' :=
  do_get_q W x v re im (R.quiet q) I a b c s t

theorem do_eval_w (w : World) (x v : Nat) (re im : Nat → Int) (R : Rep w x v re im) (I : Inv re im) (a b c : Int) (s t : ByteArray) (W : World) (q : Quiet w W) :
    Calls Try.prog 15 #[.pointer (some ⟨x, 0, none⟩), .agg #[.int .i64 12, .int .i64 a, .int .i64 b, .int .i64 c, .string s, .string t]] W fun e w' => e = .returned (.agg #[.int .i64 (evalP re im a b).2.2, .int .i64 (evalP re im a b).1, .int .i64 (evalP re im a b).2.1, .string ⟨#[]⟩]) ∧ Quiet W w' :=
  do_eval_q W x v re im (R.quiet q) I a b c s t

set_option maxRecDepth 100000 in
set_option maxHeartbeats 4000000 in
theorem others_true (w : World) (x v y u : Nat) (re im re' im' : Nat → Int) (R : Rep w x v re im) (I : Inv re im) (R' : Rep w y u re' im') (I' : Inv re' im') (i : Int) (hA : ∀ j : Nat, j < 4 → (j : Int) ≠ i → re j = re' j ∧ im j = im' j) :
    Calls Try.prog 35 #[ptr x, ptr y, .int .i64 i] w fun e w' => e = .returned (.bool true) ∧ Quiet w w' := by
  have g1 : Hid (∀ (k : Nat) W, Quiet w W → Calls Try.prog 15 #[.pointer (some ⟨x, 0, none⟩), .agg #[.int .i64 3, .int .i64 k, .int .i64 0, .int .i64 0, .string ⟨#[]⟩, .string ⟨#[]⟩]] W fun e w' => e = .returned (.agg #[.int .i64 (getP re im k).2.2, .int .i64 (getP re im k).1, .int .i64 (getP re im k).2.1, .string ⟨#[]⟩]) ∧ Quiet W w') := fun k W q => do_get_w w x v re im R I k 0 0 _ _ W q
  have g2 : Hid (∀ (k : Nat) W, Quiet w W → Calls Try.prog 15 #[.pointer (some ⟨y, 0, none⟩), .agg #[.int .i64 3, .int .i64 k, .int .i64 0, .int .i64 0, .string ⟨#[]⟩, .string ⟨#[]⟩]] W fun e w' => e = .returned (.agg #[.int .i64 (getP re' im' k).2.2, .int .i64 (getP re' im' k).1, .int .i64 (getP re' im' k).2.1, .string ⟨#[]⟩]) ∧ Quiet W w') := fun k W q => do_get_w w y u re' im' R' I' k 0 0 _ _ W q
  have aH := hide hA
  clear R R' hA I I'
  unfold ptr
  go_enter Try.func35, Try.ntmps35
  go_wp2
  go_loopw [7] (fun k wr => ∃ j : Nat, j ≤ 4 ∧ k = .int .i64 j ∧ Quiet w wr) (fun k _ => 5 - (intOf k).toNat)
  case atStart => exact ⟨0, by omega, rfl, Chg.refl _ _⟩
  case round =>
    obtain ⟨j, hj, rfl, qr⟩ := hrel
    by_cases hlt : j < 4
    · have j1 : (j : Int) < 4 := by omega
      have j0 : (0 : Int) ≤ (j : Int) := by omega
      by_cases hi : (j : Int) = i
      · have b1 : ((j : Int) == i) = true := by simpa using hi
        have qH := hide qr
        clear qr hi
        go_wp2
        go_roundw
        case rel => exact ⟨j + 1, by omega, by go_num, unhide qH⟩
        case measure => simp [intOf]; omega
      · have b1 : ((j : Int) == i) = false := by simpa using hi
        have h1 := unhide g1 j wr qr
        have h2 := unhide g2 j
        rw [get_in re im j hlt] at h1
        rw [get_in re' im' j hlt] at h2
        obtain ⟨e1, e2⟩ := unhide aH j hlt hi
        rw [← e1, ← e2] at h2
        generalize re j = a at *
        generalize im j = b at *
        have h1H := hide h1
        have h2H := hide h2
        have qH := hide qr
        clear h1 h2 e1 e2 qr hi
        go_wp2_with fail
        refine (unhide h1H).mono ?_
        clear h1H
        rintro e w1 ⟨rfl, q1⟩
        have hq := hide (Quiet.trans (Quiet.trans (unhide qH) q1) ((Chg.refl _ _).alloc (.cells #[.int .i64 0, .int .i64 a, .int .i64 b, .string ⟨#[]⟩] 35)))
        have bx := Blk.new w1 35 [.int .i64 0, .int .i64 a, .int .i64 b, .string ⟨#[]⟩]
        have hc := QW.blk bx
        clear bx q1
        go_wp2
        refine wp_region_noPanic ?_
        try simp only [List.append_eq, List.cons_append, List.nil_append]
        refine wp_region_mixq [(0, true), (1, true), (2, true), (3, true), (4, true), (5, true)] [] (by kernel_rfl) (by kernel_rfl) (fun _ _ _ _ _ h => h) ?_
        simp only [pickM, pickO, List.getElem?_cons_zero, List.getElem?_cons_succ]
        repeat (first | (refine wpMix_read rfl (fun K hK => ?_)) | (refine wpMix_pure rfl (fun K hK => ?_))
                go_big_quiet_op
                first | (refine hK _ ?_; clear hK K) | (apply Exists.intro; refine ⟨fun _ => ?_, ?_⟩; (· (first | (go_at_call 15; exact Calls.in_qw (unhide h2H _ (Quiet.trans (unhide hq) (QW.q _)))))); refine hK _ ?_; clear hK K))
        refine wpMix_nil ?_
        intro _ hw'
        obtain ⟨qq, hw''⟩ := hw'
        subst hw''
        have hqq := qq.q
        generalize qq.w = wq at *
        have hqf := hide (Quiet.trans (unhide hq) hqq)
        clear hc hqq
        go_wp2
        refine NoPanic.normal ?_
        go_wp2
        go_roundw
        case rel => exact ⟨j + 1, by omega, by go_num, unhide hqf⟩
        case measure => simp [intOf]; omega
    · have j1 : ¬ (j : Int) < 4 := by omega
      go_wp2
      go_ret
      exact ⟨rfl, qr⟩
end Go.Proofs.Qxb6500362a
