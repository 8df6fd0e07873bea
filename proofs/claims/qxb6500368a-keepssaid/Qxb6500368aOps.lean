/-
  THE REAL BENCH: reg, At, Spent, Forward, Inverse.
-/
import Derived.Test.Qxb6500368aNew
namespace Go.Proofs.Qxb6500368a
open Go.RowKit Go.Qx
set_option linter.unusedVariables false
set_option linter.unusedSimpArgs false

section
variable {w : World} {x v : Nat} {c : Nat → Int} {n : Nat → Nat} {wk : Nat}
theorem Rep.hd (h : Rep w x v c n wk) : w.cell? ⟨x, 0, none⟩ = some (.slice (some ⟨v, 0, none⟩) 48 48) := h.own.cell 0
theorem Rep.len (h : Rep w x v c n wk) (r : Nat) (hr : r < 3) : w.cell? ⟨x, 1 + r, none⟩ = some (.int .i64 (n r)) := (h.own.cell (1 + r)).trans (bench_n _ _ _ _ _ _ r hr)
theorem Rep.work (h : Rep w x v c n wk) : w.cell? ⟨x, 25, none⟩ = some (.int .i64 wk) := h.own.cell 25
theorem Rep.at (h : Rep w x v c n wk) (i : Nat) (hi : i < 48) : w.cell? ⟨v, i, none⟩ = some (.int .u64 (c i)) := (h.row.cell i).trans (ints_get _ _ _ _ hi)
end

set_option maxHeartbeats 1000000 in
theorem rreg_any (w : World) (x v : Nat) (c : Nat → Int) (n : Nat → Nat) (wk : Nat) (R : Rep w x v c n wk) (r : Nat) (hr : r < 3) (hn : n r ≤ 16) :
    Calls Try.prog 37 #[ptr x, .int .i64 r] w fun e w' => e = .returned (.slice (some ⟨v, 16 * r, none⟩) (n r) (48 - 16 * r)) ∧ Quiet w w' := by
  have c0 := R.hd
  have c1 := R.len r hr
  generalize n r = m at *
  clear R
  unfold ptr
  rcases (by omega : r = 0 ∨ r = 1 ∨ r = 2) with rfl | rfl | rfl
  · have h1 : (0 : Int) ≤ (m : Int) := by omega
    have h2 : (m : Int) ≤ 48 := by omega
    go_enter Try.func37, Try.ntmps37
    go_wp2
    go_quiet (fail)
    go_wp2
    go_ret
    exact ⟨rfl, (Chg.refl _ _).drewN _⟩
  · have h1 : (16 : Int) ≤ 16 + (m : Int) := by omega
    have h2 : 16 + (m : Int) ≤ 48 := by omega
    have e : Hid ((16 + (m : Int)).toNat - 16 = m) := by show _ = _; omega
    go_enter Try.func37, Try.ntmps37
    go_wp2
    go_quiet (fail)
    go_wp2
    go_ret
    exact ⟨by show Ending.returned (.slice _ ((16 + (m : Int)).toNat - 16) _) = _; rw [unhide e], (Chg.refl _ _).drewN _⟩
  · have h1 : (32 : Int) ≤ 32 + (m : Int) := by omega
    have h2 : 32 + (m : Int) ≤ 48 := by omega
    have e : Hid ((32 + (m : Int)).toNat - 32 = m) := by show _ = _; omega
    go_enter Try.func37, Try.ntmps37
    go_wp2
    go_quiet (fail)
    go_wp2
    go_ret
    exact ⟨by show Ending.returned (.slice _ ((32 + (m : Int)).toNat - 32) _) = _; rw [unhide e], (Chg.refl _ _).drewN _⟩

def atP (c : Nat → Int) (n : Nat → Nat) (r i : Int) : Int × Int := if regP r = true then (if 0 ≤ i ∧ i < n r.toNat then (c (16 * r.toNat + i.toNat), 0) else (0, 5)) else (0, 4)

set_option maxHeartbeats 1000000 in
theorem at_any (w : World) (x v : Nat) (c : Nat → Int) (n : Nat → Nat) (wk : Nat) (R : Rep w x v c n wk) (I : Inv c n wk) (r i : Int) :
    Calls Try.prog 17 #[ptr x, .int .i64 r, .int .i64 i] w fun e w' => e = .returned (.tuple #[.int .i64 (atP c n r i).1, .int .i64 (atP c n r i).2]) ∧ w' = w := by
  have hc := reg_any w r
  rcases reg_cases r with ⟨k, rfl, hk, e0⟩ | e0
  · rw [e0] at hc
    have c0 := R.hd
    have c1 := R.len k hk
    have hn := I.n k hk
    by_cases h0 : 0 ≤ i
    · by_cases h1 : i < n k
      · obtain ⟨j, rfl⟩ : ∃ j : Nat, i = j := ⟨i.toNat, by omega⟩
        have e1 : Hid (atP c n k j = (c (16 * k + j), 0)) := by
          show _ = _
          unfold atP
          rw [if_pos e0, if_pos (by simpa using h1)]
          rfl
        rw [unhide e1]
        have cc := R.at (16 * k + j) (by omega)
        have hb := I.c (16 * k + j) (by omega)
        generalize hz : c (16 * k + j) = z at *
        obtain ⟨hb1, hb2⟩ := hb
        unfold pP at hb2
        have wz : IntKind.i64.wrap z = z := by rw [IntKind.wrap_i64]; omega
        have wz2 : wrap64 z = z := by unfold wrap64; omega
        have ek : (k : Int) * 16 + (j : Int) = ((16 * k + j : Nat) : Int) := by omega
        generalize 16 * k + j = q at *
        have q0 : (0 : Int) ≤ (q : Int) := by omega
        have q1 : (q : Int) < 48 := by omega
        generalize n k = m at *
        clear e1 R I hz e0
        unfold ptr
        go_enter Try.func17, Try.ntmps17
        go_wp2_with fail
        refine hc.mono ?_
        rintro e w' ⟨rfl, hw'⟩
        subst hw'
        go_wp2
        go_ret2
        exact ⟨rfl, rfl⟩
      · have e1 : Hid (atP c n k i = (0, 5)) := by
          show _ = _
          unfold atP
          rw [if_pos e0, if_neg (by simp; omega)]
        rw [unhide e1]
        generalize n k = m at *
        clear e1 R I e0
        unfold ptr
        go_enter Try.func17, Try.ntmps17
        go_wp2_with fail
        refine hc.mono ?_
        rintro e w' ⟨rfl, hw'⟩
        subst hw'
        go_wp2
        go_ret2
        exact ⟨rfl, rfl⟩
    · have e1 : Hid (atP c n k i = (0, 5)) := by
        show _ = _
        unfold atP
        rw [if_pos e0, if_neg (by omega)]
      rw [unhide e1]
      clear e1 R I e0
      unfold ptr
      go_enter Try.func17, Try.ntmps17
      go_wp2_with fail
      refine hc.mono ?_
      rintro e w' ⟨rfl, hw'⟩
      subst hw'
      go_wp2
      go_ret2
      exact ⟨rfl, rfl⟩
  · rw [e0] at hc
    have e1 : Hid (atP c n r i = (0, 4)) := by show _ = _; simp [atP, e0]
    rw [unhide e1]
    clear e1 R I e0
    unfold ptr
    go_enter Try.func17, Try.ntmps17
    go_wp2_with fail
    refine hc.mono ?_
    rintro e w' ⟨rfl, hw'⟩
    subst hw'
    go_wp2
    go_ret2
    exact ⟨rfl, rfl⟩

theorem spent_any (w : World) (x v : Nat) (c : Nat → Int) (n : Nat → Nat) (wk : Nat) (R : Rep w x v c n wk) : Calls Try.prog 21 #[ptr x] w fun e w' => e = .returned (.int .i64 wk) ∧ w' = w := by
  have c0 := R.work
  clear R
  unfold ptr
  go_enter Try.func21, Try.ntmps21
  go_wp2
  go_ret
  exact ⟨rfl, rfl⟩

/-! ### Forward, Inverse -/
def turnE (n : Nat → Nat) (r : Int) : Int := if regP r = true then (if log2P (n r.toNat) < 0 then 2 else 0) else 4
def turnC (c : Nat → Int) (n : Nat → Nat) (r : Int) (inv : Bool) : Nat → Int := if turnE n r = 0 then win c (16 * r.toNat) (n r.toNat) (netP (ceilP (n r.toNat)) inv (fun p => c (16 * r.toNat + p))) else c
def turnW (n : Nat → Nat) (wk : Nat) (r : Int) (inv : Bool) : Nat := if turnE n r = 0 then ceilP (n r.toNat) * (n r.toNat / 2) + (if inv then n r.toNat else 0) else wk

theorem log2_ok {m : Nat} (h : ¬ log2P m < 0) : m = 2 ^ ceilP m := by
  unfold log2P at h
  split at h
  · assumption
  · omega

theorem log2_nonneg {m : Nat} (h : ¬ log2P m < 0) : log2P m = ceilP m := by
  unfold log2P at *
  split at h
  · rename_i h2; rw [if_pos h2]
  · omega

def repPost (w : World) (x v : Nat) (E : Int) (c : Nat → Int) (n : Nat → Nat) (wk : Nat) (e : Ending) (w' : World) : Prop := e = .returned (.int .i64 E) ∧ Chg (own x v) w w' ∧ Rep w' x v c n wk

theorem transform_any (w0 w : World) (x v : Nat) (n : Nat → Int) (b off N cap : Nat) (c : Nat → Int) (k : Nat) (hk : k ≤ 4) (hN : off + 2 ^ k ≤ N) (hbx : b ≠ x) (wk : Nat) (hwk : wk ≤ 1000000) (M : MemT w0 w x v n b off N (2 ^ k) c (fun p => c (off + p)) wk) (inv : Bool) :
    Calls Try.prog 38 #[ptr x, .slice (some ⟨b, off, none⟩) (2 ^ k) cap, .bool inv] w fun e w' => e = .returned (.tuple #[]) ∧ MemT w0 w' x v n b off N (2 ^ k) c (netP k inv (fun p => c (off + p))) (wk + k * (2 ^ k / 2) + (if inv then 2 ^ k else 0)) := by
  cases inv with
  | true => exact transform_t w0 w x v n b off N cap c k hk hN hbx wk hwk M
  | false => exact transform_f w0 w x v n b off N cap c k hk hN hbx wk hwk M

set_option maxHeartbeats 1000000 in
theorem turn_any (w : World) (x v : Nat) (c : Nat → Int) (n : Nat → Nat) (wk : Nat) (R : Rep w x v c n wk) (I : Inv c n wk) (r : Int) (inv : Bool) :
    Calls Try.prog 34 #[ptr x, .int .i64 r, .bool inv] w (repPost w x v (turnE n r) (turnC c n r inv) n (turnW n wk r inv)) := by
  have hc := reg_any w r
  have RH := hide R
  rcases reg_cases r with ⟨k, rfl, hk, e0⟩ | e0
  · rw [e0] at hc
    have c1 := R.len k hk
    have hn := I.n k hk
    have hl := log2_any w (n k) (by omega)
    by_cases hlog : log2P (n k) < 0
    · have e1 : Hid (turnE n k = 2) := by show _ = _; simp [turnE, e0, hlog]
      have e2 : Hid (turnC c n k inv = c) := by show _ = _; simp [turnC, unhide e1]
      have e3 : Hid (turnW n wk k inv = wk) := by show _ = _; simp [turnW, unhide e1]
      rw [unhide e1, unhide e2, unhide e3]
      generalize log2P (n k) = L at *
      generalize n k = m at *
      clear e1 e2 e3 R I e0
      unfold ptr repPost
      go_enter Try.func34, Try.ntmps34
      go_wp2_with fail
      refine hc.mono ?_
      rintro e w' ⟨rfl, hw'⟩
      subst hw'
      go_wp2_with fail
      refine hl.mono ?_
      rintro e w' ⟨rfl, hw'⟩
      subst hw'
      go_wp2
      go_ret
      exact ⟨rfl, Chg.refl _ _, unhide RH⟩
    · have hm := log2_ok hlog
      have e1 : Hid (turnE n k = 0) := by show _ = _; simp [turnE, e0, hlog]
      have e2 : Hid (turnC c n k inv = win c (16 * k) (n k) (netP (ceilP (n k)) inv (fun p => c (16 * k + p)))) := by show _ = _; simp [turnC, unhide e1]
      have e3 : Hid (turnW n wk k inv = ceilP (n k) * (n k / 2) + (if inv then n k else 0)) := by show _ = _; simp [turnW, unhide e1]
      rw [unhide e1, unhide e2, unhide e3]
      have B0 := R.own.set 25 (.int .i64 0)
      rw [set_wk] at B0
      have R0 : Rep (w.setCell ⟨x, 25, none⟩ (.int .i64 0)) x v c n 0 := ⟨B0, R.row.set_other (a := ⟨x, 25, none⟩) (Ne.symm R.xv) _, R.xv⟩
      have hreg := rreg_any _ x v c n 0 R0 k hk hn
      have c25 := R.work
      have f25 := R.own.frozen 25
      have hck := ceil_le (n k)
      have hR0H := hide R0
      have hIH := hide I
      have htr : Hid (∀ w2, Quiet (w.setCell ⟨x, 25, none⟩ (.int .i64 0)) w2 → Calls Try.prog 38 #[ptr x, .slice (some ⟨v, 16 * k, none⟩) (n k) (48 - 16 * k), .bool inv] w2 fun e w' => e = .returned (.tuple #[]) ∧ MemT w w' x v (fun r => (n r : Int)) v (16 * k) 48 (n k) c (netP (ceilP (n k)) inv (fun p => c (16 * k + p))) (ceilP (n k) * (n k / 2) + (if inv then n k else 0))) := by
        intro w2 q2
        have R2 := R0.quiet q2
        have M : MemT w w2 x v (fun r => (n r : Int)) v (16 * k) 48 (2 ^ ceilP (n k)) c (fun p => c (16 * k + p)) 0 :=
          ⟨((Chg.refl _ w).setCell (p := ⟨x, 25, none⟩) (.inl (.inr rfl)) _).trans (q2.chg _), by rw [win_self]; exact R2.row, R2.own, fun i hi => I.c _ (by omega)⟩
        have := transform_any w w2 x v _ v (16 * k) 48 (48 - 16 * k) c (ceilP (n k)) hck (by omega) (Ne.symm R.xv) 0 (by omega) M inv
        rw [← hm] at this
        simp only [Nat.zero_add] at this
        exact this
      have hlog' : log2P (n k) = (ceilP (n k) : Int) := log2_nonneg hlog
      rw [hlog'] at hl
      generalize ceilP (n k) = kk at *
      generalize netP kk inv (fun p => c (16 * k + p)) = yy at *
      generalize hwn : kk * (n k / 2) + (if inv then n k else 0) = wn at *
      generalize hmm : n k = m at *
      have kk0 : ¬ (kk : Int) < 0 := by omega
      clear e1 e2 e3 R I e0 B0 R0 hlog hlog' hwn hmm hm
      have hregH := hide hreg
      clear hreg
      unfold ptr repPost at *
      go_enter Try.func34, Try.ntmps34
      go_wp2_with fail
      refine hc.mono ?_
      rintro e w' ⟨rfl, hw'⟩
      subst hw'
      go_wp2_with fail
      refine hl.mono ?_
      rintro e w' ⟨rfl, hw'⟩
      subst hw'
      go_wp2_with fail
      refine (unhide hregH).mono ?_
      clear hregH
      rintro e w2 ⟨rfl, q2⟩
      have h38 := hide (unhide htr w2 q2)
      clear htr
      go_wp2_with fail
      refine (unhide h38).mono ?_
      rintro e w3 ⟨rfl, M3⟩
      have M3H := hide M3
      clear M3 q2
      go_wp2
      go_ret
      have M := unhide M3H
      exact ⟨rfl, M.chg.mono (fun i _ h => h.elim .inr .inl), M.own, M.row, (unhide RH).xv⟩
  · rw [e0] at hc
    have e1 : Hid (turnE n r = 4) := by show _ = _; simp [turnE, e0]
    have e2 : Hid (turnC c n r inv = c) := by show _ = _; simp [turnC, unhide e1]
    have e3 : Hid (turnW n wk r inv = wk) := by show _ = _; simp [turnW, unhide e1]
    rw [unhide e1, unhide e2, unhide e3]
    clear e1 e2 e3 R I e0
    unfold ptr repPost
    go_enter Try.func34, Try.ntmps34
    go_wp2_with fail
    refine hc.mono ?_
    rintro e w' ⟨rfl, hw'⟩
    subst hw'
    go_wp2
    go_ret
    exact ⟨rfl, Chg.refl _ _, unhide RH⟩

theorem forward_any (w : World) (x v : Nat) (c : Nat → Int) (n : Nat → Nat) (wk : Nat) (R : Rep w x v c n wk) (I : Inv c n wk) (r : Int) :
    Calls Try.prog 18 #[ptr x, .int .i64 r] w (repPost w x v (turnE n r) (turnC c n r false) n (turnW n wk r false)) := by
  have h := turn_any w x v c n wk R I r false
  unfold ptr repPost at *
  go_enter Try.func18, Try.ntmps18
  go_wp2_with fail
  refine h.mono ?_
  rintro e w' ⟨rfl, h1, h2⟩
  go_wp2
  go_ret
  exact ⟨rfl, h1, h2⟩

theorem inverse_any (w : World) (x v : Nat) (c : Nat → Int) (n : Nat → Nat) (wk : Nat) (R : Rep w x v c n wk) (I : Inv c n wk) (r : Int) :
    Calls Try.prog 19 #[ptr x, .int .i64 r] w (repPost w x v (turnE n r) (turnC c n r true) n (turnW n wk r true)) := by
  have h := turn_any w x v c n wk R I r true
  unfold ptr repPost at *
  go_enter Try.func19, Try.ntmps19
  go_wp2_with fail
  refine h.mono ?_
  rintro e w' ⟨rfl, h1, h2⟩
  go_wp2
  go_ret
  exact ⟨rfl, h1, h2⟩
end Go.Proofs.Qxb6500368a
