/-
  THE REAL TURTLE: Seen, Turn, New, Forward.
-/
import Derived.Test.Qxb6500366aSmall
namespace Go.Proofs.Qxb6500366a
open Go.RowKit Go.Qx
set_option linter.unusedVariables false
set_option linter.unusedSimpArgs false

theorem inP_small {p : Pt} : inP p = true ↔ Small p := by
  unfold inP Small; simp

def seenP (r : Run) (p : Pt) : Int := if inP p = true then valAt p r.l else 0

set_option maxHeartbeats 1000000 in
theorem seen_any (w : World) (x tb mb : Nat) (r : Run) (tr : List Pt) (d : Pt) (R : RepR w x tb mb r tr d) (n m : Int) : Calls Try.prog 31 #[ptr x, .int .i64 n, .int .i64 m] w fun e w' => e = .returned (.int .i64 (seenP r (n, m))) ∧ w' = w := by
  have hf := fits_any w n m
  obtain ⟨vp, vd, vl, vh, vo, h1, h2, h3, h4, h5, B⟩ := R.own
  have c3 := B.cell 3
  simp [turC] at c3
  cases hi : inP (n, m) with
  | false =>
    rw [hi] at hf
    rw [show seenP r (n, m) = 0 by simp [seenP, hi]]
    clear R B h1 h2 h3 h4 h5 hi
    unfold ptr
    go_enter Try.func31, Try.ntmps31
    go_wp2_with fail
    refine hf.mono ?_
    rintro e w' ⟨rfl, hw'⟩
    subst hw'
    go_wp2
    go_ret
    exact ⟨rfl, rfl⟩
  | true =>
    rw [hi] at hf
    have hs := inP_small.1 hi
    unfold Small at hs
    have hk := MapR.look R.map und46 und44 (zero3 _) (key := .complex .f64 (floatOfInt .f64 n) (floatOfInt .f64 m)) (p := (n, m)) ⟨_, _, rfl, w64_of n (by simp only at hs; omega), w64_of m (by simp only at hs; omega)⟩
    rw [show seenP r (n, m) = valAt (n, m) r.l by simp [seenP, hi]]
    generalize valAt (n, m) r.l = V at *
    clear R B h1 h2 h3 h4 h5 hi hs
    unfold ptr
    go_enter Try.func31, Try.ntmps31
    go_wp2_with fail
    refine hf.mono ?_
    rintro e w' ⟨rfl, hw'⟩
    subst hw'
    go_wp2
    go_ret
    exact ⟨rfl, rfl⟩

/-- A quarter turn. -/
def quart (d : Pt) : Nat → Pt
  | 0 => d
  | j + 1 => (-(quart d j).2, (quart d j).1)
def modP (k : Int) : Nat := (k % 4).toNat
theorem modP_spec (k : Int) : (((k.tmod 4) + 4).tmod 4 = modP k) ∧ modP k < 4 := by
  unfold modP
  have h1 : -4 < k.tmod 4 ∧ k.tmod 4 < 4 ∧ (k.tmod 4) % 4 = k % 4 := by
    rcases Int.le_total 0 k with h | h
    · rw [Int.tmod_eq_emod_of_nonneg h]; omega
    · have : k.tmod 4 = -((-k).tmod 4) := by rw [Int.neg_tmod]; omega
      rw [this, Int.tmod_eq_emod_of_nonneg (by omega)]; omega
  rw [Int.tmod_eq_emod_of_nonneg (by omega)]
  omega

def turnPost (w : World) (x tb mb : Nat) (r : Run) (tr : List Pt) (d : Pt) (e : Ending) (w' : World) : Prop := e = .returned (.tuple #[]) ∧ Chg (own x tb mb) w w' ∧ RepR w' x tb mb r tr d

theorem RepR.dir {w : World} {x tb mb : Nat} {r : Run} {tr : List Pt} {d d' : Pt} (R : RepR w x tb mb r tr d) {v : Value} (hv : CW v d') : RepR (w.setCell ⟨x, 1, none⟩ v) x tb mb r tr d' := by
  obtain ⟨vp, vd, vl, vh, vo, h1, h2, h3, h4, h5, B⟩ := R.own
  obtain ⟨cs, BT, h6, h7⟩ := R.row
  refine ⟨⟨vp, v, vl, vh, vo, h1, hv, h3, h4, h5, B.set 1 v⟩, ⟨cs, BT.set_other (a := ⟨x, 1, none⟩) (Ne.symm R.xt) _, h6, h7⟩, ?_, R.few, R.xt, R.xm, R.tm⟩
  exact R.map.of_chg (S := fun k => k = x) (Chg.setCell (Chg.refl (fun k => k = x) _) (p := ⟨x, 1, none⟩) (.inl rfl) _) (fun e => R.xm e.symm)

set_option maxHeartbeats 2000000 in
theorem turn_any (w : World) (x tb mb : Nat) (r : Run) (tr : List Pt) (d : Pt) (R : RepR w x tb mb r tr d) (hd : Small d) (k : Int) : Calls Try.prog 25 #[ptr x, .int .i64 k] w (turnPost w x tb mb r tr (quart d (modP k))) := by
  have RH := hide R
  obtain ⟨hm, hlt⟩ := modP_spec k
  have hb : -4 < k.tmod 4 ∧ k.tmod 4 < 4 := by
    have h1 := Int.lt_tmod_of_pos k (show (0 : Int) < 4 by decide)
    have h2 := Int.tmod_lt_of_pos k (show (0 : Int) < 4 by decide)
    omega
  have w1 : wrap64 (k.tmod 4 + 4) = k.tmod 4 + 4 := by unfold wrap64; omega
  have w2 : wrap64 (k.tmod 4) = k.tmod 4 := by unfold wrap64; omega
  obtain ⟨vp, vd, vl, vh, vo, h1, h2, h3, h4, h5, B⟩ := R.own
  obtain ⟨a, b, rfl, A, Bb⟩ := h2
  have c1 := B.cell 1
  have f1 := B.frozen 1
  simp [turC] at c1
  obtain ⟨d1, d2⟩ := d
  obtain ⟨s1, s2, s3, s4⟩ := hd
  simp only at A Bb s1 s2 s3 s4
  have hC : ∀ v, Hid (Chg (own x tb mb) w (w.setCell ⟨x, 1, none⟩ v)) := fun v => Chg.setCell (Chg.refl _ _) (p := ⟨x, 1, none⟩) (.inl (.inl rfl)) _
  unfold ptr turnPost
  rcases (by omega : modP k = 0 ∨ modP k = 1 ∨ modP k = 2 ∨ modP k = 3) with e | e | e | e
  · rw [e] at hm ⊢
    clear R B h1 h3 h4 h5 hlt e A Bb s1 s2 s3 s4 hb
    go_enter Try.func25, Try.ntmps25
    go_wp2
    go_end0
    exact ⟨rfl, Chg.refl _ _, unhide RH⟩
  · rw [e] at hm ⊢
    obtain ⟨p, q, hmul, P1, P2⟩ := cmul_whole A Bb w_zero w_one (by simp) (by simp; omega) (by simp; omega) (by simp) (by simp; omega) (by simp; omega)
    have hmul' := fun t W => hmul Try.prog t W
    have hR : Hid (RepR (w.setCell ⟨x, 1, none⟩ (.complex .f64 p q)) x tb mb r tr (quart (d1, d2) 1)) := R.dir ⟨p, q, rfl, by simpa [quart] using P1, by simpa [quart] using P2⟩
    clear R B h1 h3 h4 h5 hlt e A Bb s1 s2 s3 s4 hb hmul P1 P2
    go_enter Try.func25, Try.ntmps25
    go_wp2
    go_end0
    exact ⟨rfl, unhide (hC _), unhide hR⟩
  · rw [e] at hm ⊢
    obtain ⟨p, q, hmul, P1, P2⟩ := cmul_whole A Bb w_mone w_zero (by simp; omega) (by simp) (by simp) (by simp; omega) (by simp; omega) (by simp; omega)
    have hmul' := fun t W => hmul Try.prog t W
    have hR : Hid (RepR (w.setCell ⟨x, 1, none⟩ (.complex .f64 p q)) x tb mb r tr (quart (d1, d2) 2)) := R.dir ⟨p, q, rfl, by simpa [quart] using P1, by simpa [quart] using P2⟩
    clear R B h1 h3 h4 h5 hlt e A Bb s1 s2 s3 s4 hb hmul P1 P2
    go_enter Try.func25, Try.ntmps25
    go_wp2
    go_end0
    exact ⟨rfl, unhide (hC _), unhide hR⟩
  · rw [e] at hm ⊢
    obtain ⟨p, q, hmul, P1, P2⟩ := cmul_whole A Bb w_zero w_mone (by simp) (by simp; omega) (by simp; omega) (by simp) (by simp; omega) (by simp; omega)
    have hmul' := fun t W => hmul Try.prog t W
    have hR : Hid (RepR (w.setCell ⟨x, 1, none⟩ (.complex .f64 p q)) x tb mb r tr (quart (d1, d2) 3)) := R.dir ⟨p, q, rfl, by simpa [quart] using P1, by simpa [quart] using P2⟩
    clear R B h1 h3 h4 h5 hlt e A Bb s1 s2 s3 s4 hb hmul P1 P2
    go_enter Try.func25, Try.ntmps25
    go_wp2
    go_end0
    exact ⟨rfl, unhide (hC _), unhide hR⟩

theorem make45one (W : World) : ∃ F : Array Value, (Instr.makeSlice 45 (.int .i64 1) (.int .i64 1)).run Try.prog W = .ok (.slice (some ⟨W.heap.size, 0, none⟩) 1 1) (W.alloc (.cells F 44)) ∧ F.toList = [.complex .f64 0 0] := by
  obtain ⟨i, hi, hz0, hz1, hz2⟩ := info_parts info44
  have := run_make (P := Try.prog) W 45 44 i _ und45 hi hz0 .i64 .i64 1 1 (by omega) (by omega) (by rw [hz2]; omega) (by omega)
  rw [hz1] at this
  exact ⟨_, this, by rw [show (Value.complex .f64 0 0).cells = #[Value.complex .f64 0 0] from rfl, toList_madeCells_one]; rfl⟩

def newPost (w : World) (e : Ending) (w' : World) : Prop := ∃ x tb mb, e = .returned (.pointer (some ⟨x, 0, none⟩)) ∧ Quiet w w' ∧ (∀ k, own x tb mb k → w.heap.size ≤ k) ∧ Rep w' x tb mb [(0, 0)] (1, 0)

set_option maxHeartbeats 2000000 in
theorem new_any (w : World) : Calls Try.prog 11 #[] w (newPost w) := by
  obtain ⟨F, hmk, hF⟩ := make45one (w.alloc (.cells #[.complex .f64 0 0, .complex .f64 4607182418800017408 0, .slice none 0 0, .map none, .int .i64 0, .complex .f64 0 0, .complex .f64 0 0, .complex .f64 0 0] 48))
  have hz : (w.alloc (.cells #[.complex .f64 0 0, .complex .f64 4607182418800017408 0, .slice none 0 0, .map none, .int .i64 0, .complex .f64 0 0, .complex .f64 0 0, .complex .f64 0 0] 48)).heap.size = w.heap.size + 1 := by simp
  rw [hz] at hmk
  have hag := hide (again_any ((w.alloc (.cells #[.complex .f64 0 0, .complex .f64 4607182418800017408 0, .slice none 0 0, .map none, .int .i64 0, .complex .f64 0 0, .complex .f64 0 0, .complex .f64 0 0] 48)).alloc (.cells F 44)) w.heap.size (w.heap.size + 1) 0 1 (.complex .f64 0 0) (.complex .f64 4607182418800017408 0) (.slice none 0 0) (.map none) 0 (.complex .f64 0 0) (.complex .f64 0 0) (.complex .f64 0 0) [(0, 0)] (1, 0)
    ((Blk.new w 48 [.complex .f64 0 0, .complex .f64 4607182418800017408 0, .slice none 0 0, .map none, .int .i64 0, .complex .f64 0 0, .complex .f64 0 0, .complex .f64 0 0]).alloc _) ⟨_, _, rfl, w_one, w_zero⟩
    (fun i hi => by
      have e : i = 0 := by simp at hi; omega
      subst e
      refine ⟨.complex .f64 0 0, ?_, ⟨_, _, rfl, w_zero, w_zero⟩⟩
      have hb := Blk.new (w.alloc (.cells #[.complex .f64 0 0, .complex .f64 4607182418800017408 0, .slice none 0 0, .map none, .int .i64 0, .complex .f64 0 0, .complex .f64 0 0, .complex .f64 0 0] 48)) 44 F.toList
      rw [Array.toArray_toList, hz] at hb
      have h0 := hb.cell 0
      exact h0.trans (by rw [hF]; rfl))
    (by omega) (by simp) (by simp) (by intro p hp; simp at hp; subst hp; unfold Small; decide))
  unfold againPost ptr at hag
  unfold newPost
  clear hF hz
  go_enter Try.func11, Try.ntmps11
  go_wp2_with fail
  refine (unhide hag).mono ?_
  clear hag hmk
  rintro e w1 ⟨tb, mb, rfl, ch, ht, hm, R⟩
  have fin : Hid (∃ x tb mb, (Ending.returned (.pointer (some ⟨w.heap.size, 0, none⟩)) = .returned (.pointer (some ⟨x, 0, none⟩))) ∧ Quiet w w1 ∧ (∀ k, own x tb mb k → w.heap.size ≤ k) ∧ Rep w1 x tb mb [(0, 0)] (1, 0)) := by
    refine ⟨w.heap.size, tb, mb, rfl, ?_, ?_, R⟩
    · exact Chg.trans' (Chg.alloc (Chg.alloc (Chg.refl (fun _ => False) w) _) _) ch (fun i hi e => by omega)
    · simp at ht hm
      rintro k (rfl | rfl | rfl) <;> omega
  clear ch ht hm R
  go_wp2
  go_ret
  exact unhide fin

/-! ### Forward -/
def goalP (q : Pt) (n : Int) (d : Pt) : Pt := (q.1 + (n * d.1 - 0 * d.2), q.2 + (n * d.2 + 0 * d.1))
/-- What Forward answers. -/
def fwE (tr : List Pt) (r : Run) (d : Pt) (n : Int) : Int := if n < -2097152 ∨ 2097152 < n then 1 else if inP (goalP r.pos n d) = false then 1 else if 24 ≤ tr.length then 2 else 0
def fwT (tr : List Pt) (r : Run) (d : Pt) (n : Int) : List Pt := if fwE tr r d n = 0 then tr ++ [goalP r.pos n d] else tr
def fwR (tr : List Pt) (r : Run) (d : Pt) (n : Int) : Run := if fwE tr r d n = 0 then pushR r (goalP r.pos n d) else r
def errPost (w : World) (x tb mb : Nat) (r : Run) (tr : List Pt) (d : Pt) (E : Int) (e : Ending) (w' : World) : Prop := e = .returned (.int .i64 E) ∧ Chg (own x tb mb) w w' ∧ RepR w' x tb mb r tr d

set_option maxHeartbeats 4000000 in
theorem forward_any (w : World) (x tb mb : Nat) (tr : List Pt) (d : Pt) (R : Rep w x tb mb tr d) (I : Inv tr d) (n : Int) : Calls Try.prog 24 #[ptr x, .int .i64 n] w (errPost w x tb mb (fwR tr (runOf tr) d n) (fwT tr (runOf tr) d n) d (fwE tr (runOf tr) d n)) := by
  have bd := I.bd
  have ft := bd.fits I.few
  have hds := I.dsmall
  have R : RepR w x tb mb (runOf tr) tr d := R
  generalize runOf tr = r at *
  have RH := hide R
  by_cases hn1 : n < -2097152
  · have e1 : Hid (fwE tr r d n = 1) := by show _ = _; simp [fwE, hn1]
    rw [show fwR tr r d n = r by simp [fwR, unhide e1], show fwT tr r d n = tr by simp [fwT, unhide e1], unhide e1]
    clear R I bd ft hds e1
    unfold ptr errPost
    go_enter Try.func24, Try.ntmps24
    go_wp2
    go_ret
    exact ⟨rfl, Chg.refl _ _, unhide RH⟩
  by_cases hn2 : 2097152 < n
  · have e1 : Hid (fwE tr r d n = 1) := by show _ = _; simp [fwE, hn2]
    rw [show fwR tr r d n = r by simp [fwR, unhide e1], show fwT tr r d n = tr by simp [fwT, unhide e1], unhide e1]
    clear R I bd ft hds e1
    unfold ptr errPost
    go_enter Try.func24, Try.ntmps24
    go_wp2
    go_ret
    exact ⟨rfl, Chg.refl _ _, unhide RH⟩
  obtain ⟨vp, vd, vl, vh, vo, h1, h2, h3, h4, h5, B⟩ := R.own
  obtain ⟨a, b, rfl, A, Bb⟩ := h1
  obtain ⟨c1, c2, rfl, C1, C2⟩ := h2
  have hps := bd.pos
  have hdd := I.dir
  have wn : W64 (floatOfInt .f64 n) n := w64_of n (by omega)
  have hpos := hps
  obtain ⟨p1, p2, p3, p4⟩ := hpos
  obtain ⟨e, f, hmul, E1, E2⟩ : ∃ e f, (∀ (P : Program) (t : TypeId) (W : World), (binOp .mul t (.complex .f64 (floatOfInt .f64 n) 0) (.complex .f64 c1 c2)).run P W = .ok (.complex .f64 e f) W) ∧ W64 e (n * d.1 - 0 * d.2) ∧ W64 f (n * d.2 + 0 * d.1) := by
    rcases hdd with rfl | rfl | rfl | rfl <;> exact cmul_whole wn w_zero C1 C2 (by simp <;> omega) (by simp) (by simp <;> omega) (by simp) (by simp <;> omega) (by simp <;> omega)
  obtain ⟨g, h, hadd, G1, G2⟩ : ∃ g h, (∀ (P : Program) (t : TypeId) (W : World), (binOp .add t (.complex .f64 a b) (.complex .f64 e f)).run P W = .ok (.complex .f64 g h) W) ∧ W64 g (r.pos.1 + (n * d.1 - 0 * d.2)) ∧ W64 h (r.pos.2 + (n * d.2 + 0 * d.1)) := by
    rcases hdd with rfl | rfl | rfl | rfl <;> exact cadd_whole A Bb E1 E2 (by simp <;> omega) (by simp <;> omega)
  have hmul' := fun t W => hmul Try.prog t W
  have hadd' := fun t W => hadd Try.prog t W
  have hgoal : CW (.complex .f64 g h) (goalP r.pos n d) := ⟨g, h, rfl, G1, G2⟩
  have hwi := fun W => within_any W g h _ _ G1 G2
  have y0 := B.cell 0
  have y1 := B.cell 1
  have y2 := B.cell 2
  simp [turC] at y0 y1 y2
  have hgoalH := hide hgoal
  have keep := hide (⟨bd, ft, hps⟩ : _ ∧ _ ∧ _)
  have few := hide I.few
  clear B h3 h4 h5 A Bb C1 C2 E1 E2 G1 G2 hmul hadd wn hdd hps bd ft hds I R hgoal p1 p2 p3 p4
  cases hi : inP (goalP r.pos n d) with
  | false =>
    have hi2 : inP (r.pos.1 + (n * d.1 - 0 * d.2), r.pos.2 + (n * d.2 + 0 * d.1)) = false := hi
    rw [hi2] at hwi
    have e1 : Hid (fwE tr r d n = 1) := by show _ = _; simp [fwE, hn1, hn2, hi]
    rw [show fwR tr r d n = r by simp [fwR, unhide e1], show fwT tr r d n = tr by simp [fwT, unhide e1], unhide e1]
    have hwH := hide hwi
    clear e1 hi hi2 hwi hgoalH keep
    unfold ptr errPost
    go_enter Try.func24, Try.ntmps24
    go_wp2
    go_quiet (fail)
    go_wp2_with fail
    refine (unhide hwH _).mono ?_
    rintro e w' ⟨rfl, hw'⟩
    subst hw'
    go_wp2
    go_ret
    exact ⟨rfl, (Chg.refl _ _).drewN _, (unhide RH).quiet ((Chg.refl _ _).drewN _)⟩
  | true =>
    have hi2 : inP (r.pos.1 + (n * d.1 - 0 * d.2), r.pos.2 + (n * d.2 + 0 * d.1)) = true := hi
    rw [hi2] at hwi
    have hwH := hide hwi
    by_cases hl : 24 ≤ tr.length
    · have e1 : Hid (fwE tr r d n = 2) := by show _ = _; simp [fwE, hn1, hn2, hi, hl]
      rw [show fwR tr r d n = r by simp [fwR, unhide e1], show fwT tr r d n = tr by simp [fwT, unhide e1], unhide e1]
      have g24 : (24 : Int) ≤ (tr.length : Int) := by omega
      clear e1 hi hi2 hwi hgoalH keep
      unfold ptr errPost
      go_enter Try.func24, Try.ntmps24
      go_wp2
      go_quiet (fail)
      go_wp2_with fail
      refine (unhide hwH _).mono ?_
      rintro e w' ⟨rfl, hw'⟩
      subst hw'
      go_wp2
      go_ret
      exact ⟨rfl, (Chg.refl _ _).drewN _, (unhide RH).quiet ((Chg.refl _ _).drewN _)⟩
    · have e1 : Hid (fwE tr r d n = 0) := by show _ = _; simp [fwE, hn1, hn2, hi, hl]
      rw [show fwR tr r d n = pushR r (goalP r.pos n d) by simp [fwR, unhide e1], show fwT tr r d n = tr ++ [goalP r.pos n d] by simp [fwT, unhide e1], unhide e1]
      have g24 : ¬ (24 : Int) ≤ (tr.length : Int) := by omega
      have hpsh : Hid (∀ m, Calls Try.prog 43 #[ptr x, .complex .f64 g h] (w.drewN m) (pushPost (w.drewN m) x tb mb (pushR r (goalP r.pos n d)) (tr ++ [goalP r.pos n d]) d)) := fun m =>
        push_any (w.drewN m) x tb mb r tr d ((unhide RH).quiet ((Chg.refl _ _).drewN _)) _ _ (unhide hgoalH) (inP_small.1 hi) (unhide keep).2.2 (unhide keep).2.1.1 (unhide keep).2.1.2.1 ((unhide keep).2.1.2.2 _) (by omega)
      unfold pushPost at hpsh
      clear e1 hi hi2 hwi hgoalH keep
      unfold ptr errPost at *
      go_enter Try.func24, Try.ntmps24
      go_wp2
      go_quiet (fail)
      go_wp2_with fail
      refine (unhide hwH _).mono ?_
      rintro e w' ⟨rfl, hw'⟩
      subst hw'
      go_wp2_with fail
      refine (unhide hpsh _).mono ?_
      rintro e w5 ⟨rfl, ch5, R5⟩
      have fin : Hid (Chg (own x tb mb) w w5 ∧ RepR w5 x tb mb (pushR r (goalP r.pos n d)) (tr ++ [goalP r.pos n d]) d) := ⟨Chg.trans ((Chg.refl _ _).drewN _) ch5, R5⟩
      clear ch5 R5 hpsh
      go_wp2
      go_ret
      exact ⟨rfl, (unhide fin).1, (unhide fin).2⟩
end Go.Proofs.Qxb6500366a
