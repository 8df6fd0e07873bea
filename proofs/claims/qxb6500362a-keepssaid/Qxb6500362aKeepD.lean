/-
  THE LAW's SMALL FUNCTIONS, fourth part: Times, Points, OwedDft. (gen2keepD.py)
-/
import Derived.Test.Qxb6500362aKeepC
namespace Go.Proofs.Qxb6500362a
open Go.RowKit Go.Qx
set_option linter.unusedVariables false
set_option linter.unusedSimpArgs false


set_option maxRecDepth 100000 in
set_option maxHeartbeats 4000000 in
theorem times_true (w : World) (x v y u : Nat) (re im re' im' : Nat → Int) (R : Rep w x v re im) (I : Inv re im) (R' : Rep w y u re' im') (I' : Inv re' im') (ok a b c J : Int) (s t : ByteArray) (ha : 0 ≤ a ∧ a < 4) (hJ : (a + 1).tmod 4 = J)
    (h1 : (aP (re, im) 2 J b c).e = 0) (h2 : (aP (sP (re, im) 2 J b c) 6 a J 0).e = 0)
    (h3 : getP (sP (sP (re, im) 2 J b c) 6 a J 0).1 (sP (sP (re, im) 2 J b c) 6 a J 0).2 a = getP re' im' a) :
    Calls Try.prog 39 #[ptr x, ptr y, .agg #[.int .i64 ok, .int .i64 a, .int .i64 b, .int .i64 c, .string s, .string t]] w fun e w' => e = .returned (.bool true) ∧ Quiet w w' := by
  have q0 : Quiet w (w.alloc (.cells #[.int .i64 ok, .int .i64 a, .int .i64 b, .int .i64 c, .string s, .string t] 28)) := (Chg.refl _ _).alloc _
  have hc := copy_any _ x v re im (R.quiet q0) I
  have bo := Blk.new w 28 [.int .i64 ok, .int .i64 a, .int .i64 b, .int .i64 c, .string s, .string t]
  unfold copyPost at hc
  have I1 := sP_inv (S := (re, im)) I 2 J b c
  have I2 := sP_inv I1 6 a J 0
  have gM : Hid (∀ W, Quiet w W → Calls Try.prog 15 #[.pointer (some ⟨y, 0, none⟩), .agg #[.int .i64 3, .int .i64 a, .int .i64 0, .int .i64 0, .string ⟨#[]⟩, .string ⟨#[]⟩]] W fun e w' => e = .returned (.agg #[.int .i64 (getP re' im' a).2.2, .int .i64 (getP re' im' a).1, .int .i64 (getP re' im' a).2.1, .string ⟨#[]⟩]) ∧ Quiet W w') := fun W q => do_get_w w y u re' im' R' I' a 0 0 _ _ W q
  have wA : wrap64 (a + 1) = a + 1 := by unfold wrap64; omega
  have boH := hide bo
  have q0H := hide q0
  have fH := hide (And.intro h1 (And.intro h2 h3))
  have IH := hide (And.intro I (And.intro I1 I2))
  clear R R' bo q0 h1 h2 h3 I I1 I2 I' ha
  unfold ptr at *
  go_enter Try.func39, Try.ntmps39
  go_wp2_with fail
  refine hc.mono ?_
  clear hc
  rintro e w1 ⟨c1, cv, rfl, q1, hfr, R1⟩
  have st : Hid (Quiet w w1 ∧ Blk w1 w.heap.size 28 [.int .i64 ok, .int .i64 a, .int .i64 b, .int .i64 c, .string s, .string t] ∧ Rep w1 c1 cv re im) := ⟨(unhide q0H).trans q1, q1.blk (unhide boH), R1⟩
  have hfr' : Hid (∀ k, own c1 cv k → w.heap.size < k) := fun k hk => by have := hfr k hk; simp at this; omega
  clear q1 hfr R1 boH q0H
  have co := (unhide st).2.1.cell
  have hp := hide (play_any w1 c1 cv re im (unhide st).2.2 (unhide IH).1 2 J b c)
  rw [show (ansP re im ⟨2, J, b, c, ⟨#[]⟩, ⟨#[]⟩⟩).e = 0 from (unhide fH).1] at hp
  unfold ptr at hp
  go_wp2_with fail
  refine (unhide hp).mono ?_
  clear hp co
  rintro e w2 ⟨rfl, ch2, R2⟩
  have st2 : Hid (Quiet w w2 ∧ Blk w2 w.heap.size 28 [.int .i64 ok, .int .i64 a, .int .i64 b, .int .i64 c, .string s, .string t] ∧ Rep w2 c1 cv (sP (re, im) 2 J b c).1 (sP (re, im) 2 J b c).2) :=
    ⟨(unhide st).1.trans' ch2 (fun i hi h => by have := unhide hfr' i h; omega), ch2.blk (unhide st).2.1 (fun h => by have := unhide hfr' _ h; omega), R2⟩
  clear ch2 R2 st
  have co := (unhide st2).2.1.cell
  have hp := hide (play_any w2 c1 cv _ _ (unhide st2).2.2 (unhide IH).2.1 6 a J 0)
  rw [show (ansP (sP (re, im) 2 J b c).1 (sP (re, im) 2 J b c).2 ⟨6, a, J, 0, ⟨#[]⟩, ⟨#[]⟩⟩).e = 0 from (unhide fH).2.1] at hp
  unfold ptr at hp
  go_wp2_with fail
  refine (unhide hp).mono ?_
  clear hp co
  rintro e w3 ⟨rfl, ch3, R3⟩
  have st3 : Hid (Quiet w w3 ∧ Blk w3 w.heap.size 28 [.int .i64 ok, .int .i64 a, .int .i64 b, .int .i64 c, .string s, .string t] ∧ Rep w3 c1 cv (sP (sP (re, im) 2 J b c) 6 a J 0).1 (sP (sP (re, im) 2 J b c) 6 a J 0).2) :=
    ⟨(unhide st2).1.trans' ch3 (fun i hi h => by have := unhide hfr' i h; omega), ch3.blk (unhide st2).2.1 (fun h => by have := unhide hfr' _ h; omega), R3⟩
  clear ch3 R3 st2
  have co := (unhide st3).2.1.cell
  have hp := hide (do_get_w w3 c1 cv _ _ (unhide st3).2.2 (unhide IH).2.2 a 0 0 ⟨#[]⟩ ⟨#[]⟩ w3 (Quiet.refl _))
  rw [(unhide fH).2.2] at hp
  generalize (getP re' im' a).2.2 = E at *
  generalize (getP re' im' a).1 = N at *
  generalize (getP re' im' a).2.1 = M at *
  go_wp2_with fail
  refine (unhide hp).mono ?_
  clear hp co
  rintro e w4 ⟨rfl, q4⟩
  have hq := hide (Quiet.trans (Quiet.trans (unhide st3).1 q4) ((Chg.refl _ _).alloc (.cells #[.int .i64 E, .int .i64 N, .int .i64 M, .string ⟨#[]⟩] 35)))
  have bx := Blk.new w4 35 [.int .i64 E, .int .i64 N, .int .i64 M, .string ⟨#[]⟩]
  have bo5 := (q4.blk (unhide st3).2.1).alloc (.cells #[.int .i64 E, .int .i64 N, .int .i64 M, .string ⟨#[]⟩] 35)
  have hcx := QW.blk bx
  have hco := QW.blk bo5
  clear bx bo5 q4 st3 fH IH
  go_wp2
  refine wp_region_noPanic ?_
  try simp only [List.append_eq, List.cons_append, List.nil_append]
  refine wp_region_mixq [(0, true), (1, true), (2, true), (3, true), (4, true), (5, true), (6, true), (7, true)] [] (by kernel_rfl) (by kernel_rfl) (fun _ _ _ _ _ h => h) ?_
  simp only [pickM, pickO, List.getElem?_cons_zero, List.getElem?_cons_succ]
  repeat (first | (refine wpMix_read rfl (fun K hK => ?_)) | (refine wpMix_pure rfl (fun K hK => ?_))
          go_big_quiet_op
          first | (refine hK _ ?_; clear hK K) | (apply Exists.intro; refine ⟨fun _ => ?_, ?_⟩; (· (first | (go_at_call 15; exact Calls.in_qw (unhide gM _ (Quiet.trans (unhide hq) (QW.q _)))))); refine hK _ ?_; clear hK K))
  refine wpMix_nil ?_
  intro _ hw'
  obtain ⟨qq, hw''⟩ := hw'
  subst hw''
  have hqq := qq.q
  generalize qq.w = wq at *
  have hqf := hide (Quiet.trans (unhide hq) hqq)
  clear hcx hco hqq gM
  go_wp2
  refine NoPanic.normal ?_
  go_wp2
  go_ret
  exact ⟨rfl, unhide hqf⟩

def pxF (k : Nat) : Int := if k = 0 then 1 else if k = 2 then -1 else 0
def pyF (k : Nat) : Int := if k = 1 then -1 else if k = 3 then 1 else 0

set_option maxRecDepth 100000 in
set_option maxHeartbeats 4000000 in
theorem points_true (w : World) (x v y u : Nat) (re im re' im' : Nat → Int) (R : Rep w x v re im) (I : Inv re im) (R' : Rep w y u re' im') (I' : Inv re' im') (hP : ∀ k, k < 4 → evalP re' im' (pxF k) (pyF k) = (re k, im k, 0)) :
    Calls Try.prog 40 #[ptr x, ptr y] w fun e w' => e = .returned (.bool true) ∧ Quiet w w' := by
  have g1 : Hid (∀ (k : Nat) W, Quiet w W → Calls Try.prog 15 #[.pointer (some ⟨x, 0, none⟩), .agg #[.int .i64 3, .int .i64 k, .int .i64 0, .int .i64 0, .string ⟨#[]⟩, .string ⟨#[]⟩]] W fun e w' => e = .returned (.agg #[.int .i64 (getP re im k).2.2, .int .i64 (getP re im k).1, .int .i64 (getP re im k).2.1, .string ⟨#[]⟩]) ∧ Quiet W w') := fun k W q => do_get_w w x v re im R I k 0 0 _ _ W q
  have g2 : Hid (∀ (k : Nat) W, k < 4 → Quiet w W → Calls Try.prog 15 #[.pointer (some ⟨y, 0, none⟩), .agg #[.int .i64 12, .int .i64 (pxF k), .int .i64 (pyF k), .int .i64 0, .string ⟨#[]⟩, .string ⟨#[]⟩]] W fun e w' => e = .returned (.agg #[.int .i64 0, .int .i64 (re k), .int .i64 (im k), .string ⟨#[]⟩]) ∧ Quiet W w') := fun k W hk q => by
    have := do_eval_w w y u re' im' R' I' (pxF k) (pyF k) 0 ⟨#[]⟩ ⟨#[]⟩ W q
    rw [hP k hk] at this
    exact this
  clear R R' I I' hP
  have q0 : Quiet w ((w.alloc (.cells #[.int .i64 1, .int .i64 0, .int .i64 (-1), .int .i64 0] 3)).alloc (.cells #[.int .i64 0, .int .i64 (-1), .int .i64 0, .int .i64 1] 3)) := ((Chg.refl _ _).alloc _).alloc _
  have bp : Blk ((w.alloc (.cells #[.int .i64 1, .int .i64 0, .int .i64 (-1), .int .i64 0] 3)).alloc (.cells #[.int .i64 0, .int .i64 (-1), .int .i64 0, .int .i64 1] 3)) w.heap.size 3 (rowI pxF) := (Blk.new w 3 (rowI pxF)).alloc _
  have bq : Blk ((w.alloc (.cells #[.int .i64 1, .int .i64 0, .int .i64 (-1), .int .i64 0] 3)).alloc (.cells #[.int .i64 0, .int .i64 (-1), .int .i64 0, .int .i64 1] 3)) (w.heap.size + 1) 3 (rowI pyF) := Blk.at_new (by simp)
  have stH := hide (And.intro q0 (And.intro bp bq))
  clear q0 bp bq
  unfold ptr
  go_enter Try.func40, Try.ntmps40
  go_wp2
  go_loopw [7] (fun k wr => ∃ j : Nat, j ≤ 4 ∧ k = .int .i64 j ∧ Quiet w wr ∧ Blk wr w.heap.size 3 (rowI pxF) ∧ Blk wr (w.heap.size + 1) 3 (rowI pyF)) (fun k _ => 5 - (intOf k).toNat)
  case atStart => exact ⟨0, by omega, rfl, unhide stH⟩
  case round =>
    clear stH
    obtain ⟨j, hj, rfl, qr, bp, bq⟩ := hrel
    by_cases hlt : j < 4
    · have j1 : (j : Int) < 4 := by omega
      have j0 : (0 : Int) ≤ (j : Int) := by omega
      have h1 := unhide g1 j wr qr
      have h2 := unhide g2 j
      rw [get_in re im j hlt] at h1
      have cp := (bp.cell j).trans (rowI_get pxF j hlt)
      have cq := (bq.cell j).trans (rowI_get pyF j hlt)
      generalize re j = a at *
      generalize im j = b at *
      generalize pxF j = pj at *
      generalize pyF j = qj at *
      have h1H := hide h1
      have h2H := hide h2
      have sH := hide (And.intro qr (And.intro bp bq))
      clear h1 h2 qr bp bq
      go_wp2_with fail
      refine (unhide h1H).mono ?_
      clear h1H
      rintro e w1 ⟨rfl, q1⟩
      have q2 : Quiet wr (w1.alloc (.cells #[.int .i64 0, .int .i64 a, .int .i64 b, .string ⟨#[]⟩] 35)) := q1.trans ((Chg.refl _ _).alloc _)
      have hq := hide (Quiet.trans (unhide sH).1 q2)
      have bx := Blk.new w1 35 [.int .i64 0, .int .i64 a, .int .i64 b, .string ⟨#[]⟩]
      have hc := QW.blk bx
      have cp2 := fun (q : QW (w1.alloc (.cells #[.int .i64 0, .int .i64 a, .int .i64 b, .string ⟨#[]⟩] 35))) => (Quiet.trans q2 q.q).cell cp
      have cq2 := fun (q : QW (w1.alloc (.cells #[.int .i64 0, .int .i64 a, .int .i64 b, .string ⟨#[]⟩] 35))) => (Quiet.trans q2 q.q).cell cq
      have q2H := hide q2
      clear bx q1 q2 cp cq
      go_wp2
      refine wp_region_noPanic ?_
      try simp only [List.append_eq, List.cons_append, List.nil_append]
      refine wp_region_mixq [(0, true), (1, true), (2, true), (3, true), (4, true), (5, true), (6, true), (7, true), (8, true), (9, true), (10, true), (11, true), (12, true)] [] (by kernel_rfl) (by kernel_rfl) (fun _ _ _ _ _ h => h) ?_
      simp only [pickM, pickO, List.getElem?_cons_zero, List.getElem?_cons_succ]
      repeat (first | (refine wpMix_read rfl (fun K hK => ?_)) | (refine wpMix_pure rfl (fun K hK => ?_))
              go_big_quiet_op
              first | (refine hK _ ?_; clear hK K) | (apply Exists.intro; refine ⟨fun _ => ?_, ?_⟩; (· (first | (go_at_call 15; exact Calls.in_qw (unhide h2H _ hlt (Quiet.trans (unhide hq) (QW.q _)))))); refine hK _ ?_; clear hK K))
      refine wpMix_nil ?_
      intro _ hw'
      obtain ⟨qq, hw''⟩ := hw'
      subst hw''
      have hqq := qq.q
      generalize qq.w = wq at *
      have hqf := hide (Quiet.trans (unhide q2H) hqq)
      clear hc hqq cp2 cq2 h2H
      go_wp2
      refine NoPanic.normal ?_
      go_wp2
      go_roundw
      case rel => exact ⟨j + 1, by omega, by go_num, Quiet.trans (unhide sH).1 (unhide hqf), (unhide hqf).blk (unhide sH).2.1, (unhide hqf).blk (unhide sH).2.2⟩
      case measure => simp [intOf]; omega
    · have j1 : ¬ (j : Int) < 4 := by omega
      go_wp2
      go_ret
      exact ⟨rfl, qr⟩
end Go.Proofs.Qxb6500362a
