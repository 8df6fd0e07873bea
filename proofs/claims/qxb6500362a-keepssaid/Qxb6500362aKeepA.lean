/-
  THE LAW's SMALL FUNCTIONS: Copy, Alike, Undone, Others, Ranged, Product, Poly, Points, Times, OwedDft: each looks, or plays on a bench of its own. (gen2keepA.py)
-/
import Derived.Test.Qxb6500362aFact
import Derived.Test.Qxb6500362aQq
import Derived.Test.Qxb6500362aMod
namespace Go.Proofs.Qxb6500362a
open Go.RowKit Go.Qx
set_option linter.unusedVariables false
set_option linter.unusedSimpArgs false

theorem do_get_q (w : World) (x v : Nat) (re im : Nat → Int) (R : Rep w x v re im) (I : Inv re im) (a b c : Int) (s t : ByteArray) :
    Calls Try.prog 15 #[ptr x, opv 3 a b c s t] w fun e w' => e = .returned (ansv (getP re im a).2.2 (getP re im a).1 (getP re im a).2.1 ⟨#[]⟩) ∧ Quiet w w' :=
  (do_get_of w x a b c s t _ _ _ (fun _ => True) (fun _ => False) (fun _ h => h.elim) (fun W q => (get_any W x v re im (R.quiet q) I a).mono fun e w' ⟨g1, g2⟩ => ⟨g1, g2 ▸ Chg.refl _ _, trivial⟩)).mono fun e w' ⟨h1, h2⟩ => ⟨h1, h2.1⟩

theorem do_eval_q (w : World) (x v : Nat) (re im : Nat → Int) (R : Rep w x v re im) (I : Inv re im) (a b c : Int) (s t : ByteArray) :
    Calls Try.prog 15 #[ptr x, opv 12 a b c s t] w fun e w' => e = .returned (ansv (evalP re im a b).2.2 (evalP re im a b).1 (evalP re im a b).2.1 ⟨#[]⟩) ∧ Quiet w w' :=
  (do_eval_of w x a b c s t _ _ _ (fun _ => True) (fun _ => False) (fun _ h => h.elim) (fun W q => (eval_any W x v re im (R.quiet q) I a b).mono fun e w' ⟨g1, g2⟩ => ⟨g1, g2 ▸ Chg.refl _ _, trivial⟩)).mono fun e w' ⟨h1, h2⟩ => ⟨h1, h2.1⟩

theorem get_in (re im : Nat → Int) (k : Nat) (hk : k < 4) : getP re im k = (re k, im k, 0) := by
  have : cellsP (k : Int) k = true := by simp [cellsP]; omega
  simp [getP, this]

/-- The two agree on the four cells. -/
def Agree (re im re' im' : Nat → Int) : Prop := ∀ j, j < 4 → re j = re' j ∧ im j = im' j

theorem Rep.ext {w : World} {x v : Nat} {re im re' im' : Nat → Int} (h : Rep w x v re im) (hA : Agree re im re' im') : Rep w x v re' im' := by
  obtain ⟨a, b, h1, h2⟩ := h.row
  exact ⟨h.blk, ⟨a, b, h1, fun i hi => by rw [← (hA i hi).1, ← (hA i hi).2]; exact h2 i hi⟩, h.xv⟩

theorem show_agree {re im re' im' : Nat → Int} (hA : Agree re im re' im') : showP re im = showP re' im' := by
  have h : ∀ k, k ≤ 4 → showTo re im k = showTo re' im' k := by
    intro k
    induction k with
    | zero => intro _; rfl
    | succ k ih =>
      intro hk
      show showTo re im k ++ cellT (re k) (im k) = showTo re' im' k ++ cellT (re' k) (im' k)
      rw [ih (by omega), (hA k (by omega)).1, (hA k (by omega)).2]
  exact h 4 (by omega)

/-- The first k of f. -/
def cutF (f : Nat → Int) (k j : Nat) : Int := if j < k then f j else 0

theorem cutF_next (f : Nat → Int) (k : Nat) : upd (cutF f k) k (f k) = cutF f (k + 1) := by
  funext j
  unfold upd cutF
  by_cases h : j = k
  · subst h; simp
  · rw [if_neg h]
    by_cases h2 : j < k
    · rw [if_pos h2, if_pos (by omega)]
    · rw [if_neg h2, if_neg (by omega)]

def copyPost (w : World) (re im : Nat → Int) (e : Ending) (w' : World) : Prop := ∃ c cv, e = .returned (.pointer (some ⟨c, 0, none⟩)) ∧ Quiet w w' ∧ (∀ k, own c cv k → w.heap.size ≤ k) ∧ Rep w' c cv re im

set_option maxHeartbeats 2000000 in
theorem copy_any (w : World) (x v : Nat) (re im : Nat → Int) (R : Rep w x v re im) (I : Inv re im) : Calls Try.prog 16 #[ptr x] w (copyPost w re im) := by
  have hn := new_any w
  unfold newPost at hn
  have RH := hide R
  have IH := hide I
  clear R I
  unfold ptr
  go_enter Try.func16, Try.ntmps16
  go_wp2_with fail
  refine hn.mono ?_
  clear hn
  rintro e w1 ⟨c, cv, rfl, q1, hfr, R1⟩
  have st : Hid (Quiet w w1 ∧ Rep w1 c cv (cutF re 0) (cutF im 0)) := ⟨q1, R1.ext (fun j _ => ⟨by simp [cutF], by simp [cutF]⟩)⟩
  have hfrH := hide hfr
  clear q1 hfr R1
  go_wp2
  go_loopw [4] (fun i wr => ∃ k : Nat, k ≤ 4 ∧ i = .int .i64 k ∧ Quiet w wr ∧ Rep wr c cv (cutF re k) (cutF im k)) (fun i _ => 5 - (intOf i).toNat)
  case atStart => exact ⟨0, by omega, rfl, (unhide st).1, (unhide st).2⟩
  case round =>
    clear st
    obtain ⟨k, hk, rfl, qr, Rc⟩ := hrel
    by_cases hlt : k < 4
    · have k0 : (0 : Int) ≤ (k : Int) := by omega
      have k1 : (k : Int) < 4 := by omega
      have hg := hide (get_any wr x v re im ((unhide RH).quiet qr) (unhide IH) k)
      rw [get_in re im k hlt] at hg
      have hcp : cellsP (k : Int) k = true := by simp [cellsP]; omega
      have hin : inP (re k) (im k) 67108864 = true := by
        have h1 := (unhide IH).r k hlt
        have h2 := (unhide IH).m k hlt
        simp only [inP, decide_eq_true_eq]; omega
      have hs := set_any wr c cv _ _ Rc k (re k) (im k)
      unfold repPost at hs
      rw [show setE k (re k) (im k) = 0 by simp [setE, hcp, putE, hin], show setF (cutF re k) k (re k) (im k) (re k) = cutF re (k + 1) by simp [setF, hcp, putF, hin, cutF_next], show setF (cutF im k) k (re k) (im k) (im k) = cutF im (k + 1) by simp [setF, hcp, putF, hin, cutF_next]] at hs
      have hsH := hide hs
      have qH := hide qr
      clear hs qr Rc hcp hin
      generalize re k = rk at *
      generalize im k = ik at *
      unfold ptr at *
      go_wp2_with fail
      refine (unhide hg).mono ?_
      rintro e w2 ⟨rfl, rfl⟩
      go_wp2_with fail
      refine (unhide hsH).mono ?_
      rintro e w3 ⟨rfl, ch, R3⟩
      have fin := hide (And.intro ((unhide qH).trans' ch (fun i hi h => by have := unhide hfrH i h; omega)) R3)
      clear ch R3
      go_wp2
      go_roundw
      case rel => exact ⟨k + 1, by omega, by go_num, (unhide fin).1, (unhide fin).2⟩
      case measure => simp [intOf]; omega
    · have k1 : ¬ (k : Int) < 4 := by omega
      obtain rfl : k = 4 := by omega
      go_wp2
      go_ret
      exact ⟨c, cv, rfl, qr, unhide hfrH, Rc.ext (fun j hj => ⟨by simp [cutF, hj], by simp [cutF, hj]⟩)⟩

theorem alike_true (w : World) (x v y u : Nat) (re im re' im' : Nat → Int) (R : Rep w x v re im) (I : Inv re im) (R' : Rep w y u re' im') (I' : Inv re' im') (hA : Agree re im re' im') :
    Calls Try.prog 34 #[ptr x, ptr y] w fun e w' => e = .returned (.bool true) ∧ Quiet w w' := by
  have h1 := show_any w x v re im R I
  unfold ptr at h1 ⊢
  go_enter Try.func34, Try.ntmps34
  go_wp2_with fail
  refine h1.mono ?_
  rintro e w1 ⟨rfl, q1⟩
  have h2 := show_any w1 y u re' im' (R'.quiet q1) I'
  rw [← show_agree hA] at h2
  unfold ptr at h2
  generalize str (showP re im) = X at *
  have hX : (X.toList == X.toList) = true := by simp
  have qH := hide q1
  clear q1 R R' h1 hA
  go_wp2_with fail
  refine h2.mono ?_
  rintro e w2 ⟨rfl, q2⟩
  go_wp2
  go_ret
  exact ⟨rfl, Quiet.trans (unhide qH) q2⟩

/-- n times the step. -/
def stepN (S : (Nat → Int) × (Nat → Int)) (k a b c : Int) : Nat → (Nat → Int) × (Nat → Int)
  | 0 => S
  | n + 1 => sP (stepN S k a b c n) k a b c

theorem stepN_inv {S : (Nat → Int) × (Nat → Int)} (I : Inv S.1 S.2) (k a b c : Int) : ∀ n, Inv (stepN S k a b c n).1 (stepN S k a b c n).2
  | 0 => I
  | n + 1 => sP_inv (stepN_inv I k a b c n) k a b c

set_option maxHeartbeats 2000000 in
theorem undone_true (w : World) (x v y u : Nat) (re im re' im' : Nat → Int) (R : Rep w x v re im) (I : Inv re im) (R' : Rep w y u re' im') (I' : Inv re' im') (k : Int) (n : Nat) (hn : n ≤ 3) (ok a b c : Int) (s t : ByteArray)
    (hE : ∀ i, i < n → (aP (stepN (re, im) k a b c i) k a b c).e = 0) (hA : Agree (stepN (re, im) k a b c n).1 (stepN (re, im) k a b c n).2 re' im') :
    Calls Try.prog 36 #[ptr x, ptr y, .int .i64 k, .int .i64 n, .agg #[.int .i64 ok, .int .i64 a, .int .i64 b, .int .i64 c, .string s, .string t]] w fun e w' => e = .returned (.bool true) ∧ Quiet w w' := by
  have q0 : Quiet w (w.alloc (.cells #[.int .i64 ok, .int .i64 a, .int .i64 b, .int .i64 c, .string s, .string t] 28)) := (Chg.refl _ _).alloc _
  have hc := copy_any _ x v re im (R.quiet q0) I
  have bo := Blk.new w 28 [.int .i64 ok, .int .i64 a, .int .i64 b, .int .i64 c, .string s, .string t]
  unfold copyPost at hc
  have RH := hide R
  have RH' := hide R'
  have boH := hide bo
  have q0H := hide q0
  have eH := hide (And.intro hE hA)
  clear R R' bo q0 hE hA
  unfold ptr at *
  have n0 : (n : Int) ≤ 3 := by omega
  go_enter Try.func36, Try.ntmps36
  go_wp2_with fail
  refine hc.mono ?_
  clear hc
  rintro e w1 ⟨c1, cv, rfl, q1, hfr, R1⟩
  have st : Hid (Quiet w w1 ∧ Blk w1 w.heap.size 28 [.int .i64 ok, .int .i64 a, .int .i64 b, .int .i64 c, .string s, .string t] ∧ Rep w1 c1 cv (stepN (re, im) k a b c 0).1 (stepN (re, im) k a b c 0).2) := ⟨(unhide q0H).trans q1, q1.blk (unhide boH), R1⟩
  have hfr' : Hid (∀ k, own c1 cv k → w.heap.size < k) := fun k hk => by have := hfr k hk; simp at this; omega
  clear q1 hfr R1 boH q0H
  go_wp2
  go_loopw [12] (fun i wr => ∃ j : Nat, j ≤ n ∧ i = .int .i64 j ∧ Quiet w wr ∧ Blk wr w.heap.size 28 [.int .i64 ok, .int .i64 a, .int .i64 b, .int .i64 c, .string s, .string t] ∧ Rep wr c1 cv (stepN (re, im) k a b c j).1 (stepN (re, im) k a b c j).2) (fun i _ => n + 1 - (intOf i).toNat)
  case atStart => exact ⟨0, by omega, rfl, unhide st⟩
  case round =>
    clear st
    obtain ⟨j, hj, rfl, qr, bo, Rc⟩ := hrel
    have Ij := stepN_inv (S := (re, im)) I k a b c j
    have IjH := hide Ij
    by_cases hlt : j < n
    · have j1 : (j : Int) < (n : Int) := by omega
      have j2 : decide (j < n) = true := by simpa using hlt
      have hp := play_any wr c1 cv _ _ Rc Ij k a b c
      have he := (unhide eH).1 j hlt
      unfold aP at he
      rw [he] at hp
      have hpH := hide hp
      have co := bo.cell
      have qH := hide (And.intro qr bo)
      clear hp qr Rc Ij he bo
      unfold ptr at *
      go_wp2_with fail
      refine (unhide hpH).mono ?_
      clear hpH co
      rintro e w3 ⟨rfl, ch, R3⟩
      have fin : Hid (Quiet w w3 ∧ Blk w3 w.heap.size 28 [.int .i64 ok, .int .i64 a, .int .i64 b, .int .i64 c, .string s, .string t] ∧ Rep w3 c1 cv (stepN (re, im) k a b c (j + 1)).1 (stepN (re, im) k a b c (j + 1)).2) :=
        ⟨(unhide qH).1.trans' ch (fun i hi h => by have := unhide hfr' i h; omega), ch.blk (unhide qH).2 (fun h => by have := unhide hfr' _ h; omega), R3⟩
      clear ch R3
      go_wp2
      go_roundw
      case rel => exact ⟨j + 1, by omega, by go_num, unhide fin⟩
      case measure => simp [intOf]; omega
    · obtain rfl : j = n := by omega
      have j1 : ¬ (j : Int) < (j : Int) := by omega
      have j2 : decide (j < j) = false := by simp
      have ha := hide (alike_true wr c1 cv y u _ _ _ _ Rc (unhide IjH) ((unhide RH').quiet qr) I' (unhide eH).2)
      have qH := hide qr
      clear qr bo Rc Ij
      unfold ptr at *
      go_wp2_with fail
      refine (unhide ha).mono ?_
      rintro e w3 ⟨rfl, q3⟩
      go_wp2
      go_ret
      exact ⟨rfl, (unhide qH).trans q3⟩

theorem ranged_any (w : World) (a b c : Int) (hc : 0 ≤ c ∧ c ≤ 9223372036854775807) : Calls Try.prog 52 #[.int .i64 a, .int .i64 b, .int .i64 c] w fun e w' => e = .returned (.int .i64 (if inP a b c = true then 0 else 2)) ∧ w' = w := by
  have hf := fits_any w a b c hc
  cases h : inP a b c with
  | true =>
    rw [h] at hf
    go_enter Try.func52, Try.ntmps52
    go_wp2_with fail
    refine hf.mono ?_
    rintro e w' ⟨rfl, rfl⟩
    go_wp2
    go_ret
    exact ⟨rfl, rfl⟩
  | false =>
    rw [h] at hf
    go_enter Try.func52, Try.ntmps52
    go_wp2_with fail
    refine hf.mono ?_
    rintro e w' ⟨rfl, rfl⟩
    go_wp2
    go_ret
    exact ⟨rfl, rfl⟩
end Go.Proofs.Qxb6500362a
