/-
  A router: mend, wire, hear.
-/
import Derived.Test.Qxb6500364aBest
namespace Go.Proofs.Qxb6500364a
open Go.RowKit Go.Qx
set_option linter.unusedVariables false
set_option linter.unusedSimpArgs false

def mend1 (s : Nat) (x : Nd) (d : Nat) : Nd := { x with d := upd x.d d (bestP s x.c x.h d).1, p := upd x.p d (bestP s x.c x.h d).2 }

def ndPost (w : World) (n s : Nat) (x : Nd) (e : Ending) (w' : World) : Prop := e = .returned (.tuple #[]) ∧ Chg (fun k => k = n) w w' ∧ Blk w' n 58 (ndC s x)

set_option maxRecDepth 100000 in
set_option maxHeartbeats 2000000 in
theorem mend_any (w : World) (n s : Nat) (x : Nd) (hb : Blk w n 58 (ndC s x)) (o : NdOk x) (hs : s < 5) (d : Nat) (hd : d < 5) : Calls Try.prog 39 #[ptr n, .int .i64 d] w (ndPost w n s (mend1 s x d)) := by
  have hbest := best_any w.drew n s x hb.drew o hs d hd
  have fin : Hid (∀ V, Quiet w V → ∀ W, W = (V.setCell ⟨n, 31 + d, none⟩ (.int .i64 (bestP s x.c x.h d).1)).setCell ⟨n, 36 + d, none⟩ (.int .i64 (bestP s x.c x.h d).2) → Chg (fun k => k = n) w W ∧ Blk W n 58 (ndC s (mend1 s x d))) := by
    intro V q W hW
    subst hW
    have h1 := (q.blk hb).set (31 + d) (.int .i64 (bestP s x.c x.h d).1)
    rw [set_d s x d hd] at h1
    have h2 := h1.set (36 + d) (.int .i64 (bestP s x.c x.h d).2)
    rw [set_p s _ d hd] at h2
    exact ⟨((q.chg (fun k => k = n)).setCell (p := ⟨n, 31 + d, none⟩) (.inl rfl) _).setCell (p := ⟨n, 36 + d, none⟩) (.inl rfl) _, h2⟩
  have post : Hid (ndPost w n s (mend1 s x d) = fun e w' => e = .returned (.tuple #[]) ∧ Chg (fun k => k = n) w w' ∧ Blk w' n 58 (ndC s (mend1 s x d))) := rfl
  rw [unhide post]
  clear post
  unfold ptr at *
  generalize (bestP s x.c x.h d).1 = B1 at *
  generalize (bestP s x.c x.h d).2 = B2 at *
  have d0 : (0 : Int) ≤ (d : Int) := by omega
  have d1 : (d : Int) < 5 := by omega
  have hbH := hide hb
  clear hb
  go_enter Try.func39, Try.ntmps39
  go_wp2
  go_region_held3 (fun w' => True) (trivial) (first | (go_at_call 46; (with_reducible refine hbest.mono ?_); rintro e w1 ⟨rfl, q1⟩; have b1 := q1.blk (unhide hbH).drew; have z1 := cell_d b1 d hd; have z2 := cell_p b1 d hd; have f1 := b1.frozen (31 + d); have f2 := b1.frozen (36 + d); have qH := hide q1; clear b1 q1))
  rename_i hHeld
  clear hHeld
  obtain ⟨y1, y2⟩ := unhide fin _ (Quiet.trans ((Chg.refl _ _).drew) (unhide qH)) _ rfl
  go_end0
  exact ⟨rfl, y1, y2⟩

/-- Every column mended, up to k. -/
def mendTo (s : Nat) (x : Nd) (k : Nat) : Nd := { x with d := fun d => if d < k then (bestP s x.c x.h d).1 else x.d d, p := fun d => if d < k then (bestP s x.c x.h d).2 else x.p d }

theorem mendTo_zero (s : Nat) (x : Nd) : ndC s (mendTo s x 0) = ndC s x := by
  refine ndC_ext (fun _ _ => rfl) (fun _ _ _ _ => rfl) ?_ ?_ <;> (intro d hd; simp [mendTo])

theorem mendTo_succ (s : Nat) (x : Nd) (k : Nat) : ndC s (mend1 s (mendTo s x k) k) = ndC s (mendTo s x (k + 1)) := by
  refine ndC_ext (fun _ _ => rfl) (fun _ _ _ _ => rfl) ?_ ?_
  · intro d hd
    show upd (fun d => if d < k then (bestP s x.c x.h d).1 else x.d d) k (bestP s x.c x.h k).1 d = if d < k + 1 then (bestP s x.c x.h d).1 else x.d d
    unfold upd
    by_cases e : d = k
    · subst e; simp
    · rw [if_neg e]
      dsimp only
      by_cases e2 : d < k
      · rw [if_pos e2, if_pos (by omega)]
      · rw [if_neg e2, if_neg (by omega)]
  · intro d hd
    show upd (fun d => if d < k then (bestP s x.c x.h d).2 else x.p d) k (bestP s x.c x.h k).2 d = if d < k + 1 then (bestP s x.c x.h d).2 else x.p d
    unfold upd
    by_cases e : d = k
    · subst e; simp
    · rw [if_neg e]
      dsimp only
      by_cases e2 : d < k
      · rw [if_pos e2, if_pos (by omega)]
      · rw [if_neg e2, if_neg (by omega)]

/-- A router whose kept columns are true. -/
def mended (s : Nat) (c : Nat → Int) (h : Nat → Nat → Int) : Nd := ⟨c, h, fun d => (bestP s c h d).1, fun d => (bestP s c h d).2⟩

theorem mendTo_all (s : Nat) (x : Nd) : ndC s (mendTo s x 5) = ndC s (mended s x.c x.h) := by
  refine ndC_ext (fun _ _ => rfl) (fun _ _ _ _ => rfl) ?_ ?_ <;> (intro d hd; simp [mendTo, mended, hd])

def wireH (x : Nd) (b : Nat) (c : Int) : Nat → Nat → Int := if c = 0 then upd x.h b (fun _ => 16) else x.h

theorem wire_ok {x : Nd} (o : NdOk x) (b : Nat) (c : Int) (hc : 0 ≤ c ∧ c ≤ 16) (d p : Nat → Int) : NdOk ⟨upd x.c b c, wireH x b c, d, p⟩ := by
  refine ⟨?_, ?_⟩
  · intro b' h
    show 0 ≤ upd x.c b c b' ∧ upd x.c b c b' ≤ 16
    unfold upd
    split
    · exact hc
    · exact o.c b' h
  · intro b' d' h h'
    show 0 ≤ wireH x b c b' d' ∧ wireH x b c b' d' ≤ 16
    unfold wireH
    split
    · unfold upd
      split
      · simp
      · exact o.h b' d' h h'
    · exact o.h b' d' h h'

/-- The loop of mends. -/
theorem set5_h (s : Nat) (x : Nd) (b : Nat) (hb : b < 5) : ((((((ndC s x).set (6 + b * 5) (.int .i64 16)).set (6 + b * 5 + 1) (.int .i64 16)).set (6 + b * 5 + 2) (.int .i64 16)).set (6 + b * 5 + 3) (.int .i64 16)).set (6 + b * 5 + 4) (.int .i64 16)) = ndC s { x with h := upd x.h b (fun _ => 16) } := by
  have e0 := set_h s x b 0 hb (by omega) 16
  rw [Nat.add_zero] at e0
  rw [e0, set_h s _ b 1 hb (by omega) 16, set_h s _ b 2 hb (by omega) 16, set_h s _ b 3 hb (by omega) 16, set_h s _ b 4 hb (by omega) 16]
  refine ndC_ext (fun _ _ => rfl) ?_ (fun _ _ => rfl) (fun _ _ => rfl)
  intro b' d h1 h2
  by_cases e : b' = b
  · subst e
    simp only [upd, if_true]
    have : d = 0 ∨ d = 1 ∨ d = 2 ∨ d = 3 ∨ d = 4 := by omega
    rcases this with rfl | rfl | rfl | rfl | rfl <;> simp
  · simp [upd, e]

set_option maxRecDepth 100000 in
set_option maxHeartbeats 2000000 in
theorem wire_any (w : World) (n s : Nat) (x : Nd) (hb : Blk w n 58 (ndC s x)) (o : NdOk x) (hs : s < 5) (b : Nat) (hb5 : b < 5) (c : Int) (hc : 0 ≤ c ∧ c ≤ 16) : Calls Try.prog 22 #[ptr n, .int .i64 b, .int .i64 c] w (ndPost w n s (mended s (upd x.c b c) (wireH x b c))) := by
  have ok := fun d p => wire_ok o b c hc d p
  have post : Hid (ndPost w n s (mended s (upd x.c b c) (wireH x b c)) = fun e w' => e = .returned (.tuple #[]) ∧ Chg (fun k => k = n) w w' ∧ Blk w' n 58 (ndC s (mended s (upd x.c b c) (wireH x b c)))) := rfl
  rw [unhide post]
  clear post
  have hloop : Hid (∀ k V, k < 5 → Blk V n 58 (ndC s (mendTo s ⟨upd x.c b c, wireH x b c, x.d, x.p⟩ k)) → Calls Try.prog 39 #[.pointer (some ⟨n, 0, none⟩), .int .i64 k] V fun e w' => e = .returned (.tuple #[]) ∧ Chg (fun k => k = n) V w' ∧ Blk w' n 58 (ndC s (mendTo s ⟨upd x.c b c, wireH x b c, x.d, x.p⟩ (k + 1)))) := by
    intro k V hk hV
    refine (mend_any V n s _ hV ⟨(ok x.d x.p).c, (ok x.d x.p).h⟩ hs k hk).mono ?_
    rintro e w' ⟨h1, h2, h3⟩
    rw [mendTo_succ] at h3
    exact ⟨h1, h2, h3⟩
  have b0 : (0 : Int) ≤ (b : Int) := by omega
  have b1 : (b : Int) < 5 := by omega
  have a1 := cell_c hb b hb5
  have f1 := hb.frozen (1 + b)
  have h1 := hb.set (1 + b) (.int .i64 c)
  rw [set_c s x b hb5] at h1
  have ch1 : Chg (fun k => k = n) w (w.setCell ⟨n, 1 + b, none⟩ (.int .i64 c)) := (Chg.refl (fun k => k = n) w).setCell (p := ⟨n, 1 + b, none⟩) (.inl rfl) _
  unfold ptr
  generalize hX : (⟨upd x.c b c, wireH x b c, x.d, x.p⟩ : Nd) = X at *
  have hm5 : Hid (ndC s (mendTo s X 5) = ndC s (mended s (upd x.c b c) (wireH x b c))) := by
    show _ = _
    rw [mendTo_all, ← hX]
  by_cases hc0 : c = 0
  · subst hc0
    go_enter Try.func22, Try.ntmps22
    go_wp2
    generalize w.setCell ⟨n, 1 + b, none⟩ (.int .i64 0) = W at *
    have hfar := far_any W.drew
    unfold vecV at hfar
    have hH := hide h1
    clear h1
    go_region_held3 (fun w' => True) (trivial) (first | (go_at_call 38; (with_reducible refine hfar.mono ?_); rintro e w1 ⟨rfl, q1⟩; have b1 := q1.blk (unhide hH).drew; have z0 := cell_h b1 b 0 hb5 (by omega); have z1 := cell_h b1 b 1 hb5 (by omega); have z2 := cell_h b1 b 2 hb5 (by omega); have z3 := cell_h b1 b 3 hb5 (by omega); have z4 := cell_h b1 b 4 hb5 (by omega); have f0 := b1.frozen (6 + b * 5); have f1 := b1.frozen (6 + b * 5 + 1); have f2 := b1.frozen (6 + b * 5 + 2); have f3 := b1.frozen (6 + b * 5 + 3); have f4 := b1.frozen (6 + b * 5 + 4); rw [Nat.add_zero] at z0; have qH := hide q1; clear b1 q1))
    rename_i hHeld
    clear hHeld
    have hz : Hid (Blk (((((w1.setCell ⟨n, 6 + b * 5, none⟩ (.int .i64 16)).setCell ⟨n, 6 + b * 5 + 1, none⟩ (.int .i64 16)).setCell ⟨n, 6 + b * 5 + 2, none⟩ (.int .i64 16)).setCell ⟨n, 6 + b * 5 + 3, none⟩ (.int .i64 16)).setCell ⟨n, 6 + b * 5 + 4, none⟩ (.int .i64 16)) n 58 (ndC s X)) := by
      have := ((((((unhide qH).blk (unhide hH).drew).set (6 + b * 5) (.int .i64 16)).set (6 + b * 5 + 1) (.int .i64 16)).set (6 + b * 5 + 2) (.int .i64 16)).set (6 + b * 5 + 3) (.int .i64 16)).set (6 + b * 5 + 4) (.int .i64 16)
      rw [set5_h s _ b hb5] at this
      rw [← hX]
      exact this
    have chz : Hid (Chg (fun k => k = n) w (((((w1.setCell ⟨n, 6 + b * 5, none⟩ (.int .i64 16)).setCell ⟨n, 6 + b * 5 + 1, none⟩ (.int .i64 16)).setCell ⟨n, 6 + b * 5 + 2, none⟩ (.int .i64 16)).setCell ⟨n, 6 + b * 5 + 3, none⟩ (.int .i64 16)).setCell ⟨n, 6 + b * 5 + 4, none⟩ (.int .i64 16))) :=
      ((((((ch1.drew).trans ((unhide qH).chg (fun k => k = n))).setCell (p := ⟨n, 6 + b * 5, none⟩) (.inl rfl) _).setCell (p := ⟨n, 6 + b * 5 + 1, none⟩) (.inl rfl) _).setCell (p := ⟨n, 6 + b * 5 + 2, none⟩) (.inl rfl) _).setCell (p := ⟨n, 6 + b * 5 + 3, none⟩) (.inl rfl) _).setCell (p := ⟨n, 6 + b * 5 + 4, none⟩) (.inl rfl) _
    generalize (((((w1.setCell ⟨n, 6 + b * 5, none⟩ (.int .i64 16)).setCell ⟨n, 6 + b * 5 + 1, none⟩ (.int .i64 16)).setCell ⟨n, 6 + b * 5 + 2, none⟩ (.int .i64 16)).setCell ⟨n, 6 + b * 5 + 3, none⟩ (.int .i64 16)).setCell ⟨n, 6 + b * 5 + 4, none⟩ (.int .i64 16)) = Wz at *
    clear z0 z1 z2 z3 z4 f0 f1 f2 f3 f4 qH hH hfar ch1 a1 ok hX
    go_wp2
    go_loopw [21] (fun i wr => ∃ k : Nat, k ≤ 5 ∧ i = .int .i64 k ∧ Chg (fun k => k = n) w wr ∧ Blk wr n 58 (ndC s (mendTo s X k))) (fun i _ => 6 - (intOf i).toNat)
    case atStart => exact ⟨0, by omega, rfl, unhide chz, by rw [mendTo_zero]; exact unhide hz⟩
    case round =>
      obtain ⟨k, hk, rfl, hc, hbk⟩ := hrel
      by_cases hlt : k < 5
      · have k0 : (0 : Int) ≤ (k : Int) := by omega
        have k1 : (k : Int) < 5 := by omega
        have hcall := hide (unhide hloop k wr hlt hbk)
        go_wp2_with fail
        refine (unhide hcall).mono ?_
        rintro e w2 ⟨rfl, c2, b2⟩
        have cH := hide (hc.trans c2)
        have bH := hide b2
        clear hcall c2 b2 hc hbk
        go_wp2
        go_roundw
        case rel => exact ⟨k + 1, by omega, by go_num, unhide cH, unhide bH⟩
        case measure => simp [intOf]; omega
      · have k1 : ¬ (k : Int) < 5 := by omega
        obtain rfl : k = 5 := by omega
        rw [unhide hm5] at hbk
        go_wp2
        go_end0
        exact ⟨rfl, hc, hbk⟩
  · have hX2 : ndC s { x with c := upd x.c b c } = ndC s X := by
      rw [← hX]
      unfold wireH
      rw [if_neg hc0]
    rw [hX2] at h1
    have hz := hide h1
    have chz := hide ch1
    have nz : (c == 0) = false := by simpa using hc0
    clear h1 ch1 hX2 hX ok hc0
    go_enter Try.func22, Try.ntmps22
    go_wp2
    go_loopw [21] (fun i wr => ∃ k : Nat, k ≤ 5 ∧ i = .int .i64 k ∧ Chg (fun k => k = n) w wr ∧ Blk wr n 58 (ndC s (mendTo s X k))) (fun i _ => 6 - (intOf i).toNat)
    case atStart => exact ⟨0, by omega, rfl, unhide chz, by rw [mendTo_zero]; exact unhide hz⟩
    case round =>
      obtain ⟨k, hk, rfl, hc, hbk⟩ := hrel
      by_cases hlt : k < 5
      · have k0 : (0 : Int) ≤ (k : Int) := by omega
        have k1 : (k : Int) < 5 := by omega
        have hcall := hide (unhide hloop k wr hlt hbk)
        go_wp2_with fail
        refine (unhide hcall).mono ?_
        rintro e w2 ⟨rfl, c2, b2⟩
        have cH := hide (hc.trans c2)
        have bH := hide b2
        clear hcall c2 b2 hc hbk
        go_wp2
        go_roundw
        case rel => exact ⟨k + 1, by omega, by go_num, unhide cH, unhide bH⟩
        case measure => simp [intOf]; omega
      · have k1 : ¬ (k : Int) < 5 := by omega
        obtain rfl : k = 5 := by omega
        rw [unhide hm5] at hbk
        go_wp2
        go_end0
        exact ⟨rfl, hc, hbk⟩
end Go.Proofs.Qxb6500364a
