/-
  THE BOOK: Truth, Arrives, Settled.
-/
import Derived.Test.Qxb6500364aKFoot
import Derived.Test.Qxb6500364aKNew
import Derived.BigQuiet
import Derived.Deep.RegionHeld3
namespace Go.Proofs.Qxb6500364a
open Go.RowKit Go.Qx
set_option linter.unusedVariables false
set_option linter.unusedSimpArgs false

/-- A table while it is laid anew, m places done. -/
def tabTo (f t : Nat → Nat → Int) (m : Nat) : Nat → Nat → Int := fun a b => if a * 5 + b < m then f a b else t a b
theorem tab_same (f t : Nat → Nat → Int) (a b : Nat) (ha : a < 5) (hb : b < 5) (h : f a b = t a b) : grid iv (tabTo f t (a * 5 + b)) = grid iv (tabTo f t (a * 5 + b + 1)) := by
  refine grid_congr iv ?_
  intro x y hx hy
  congr 1
  unfold tabTo
  by_cases e : x * 5 + y < a * 5 + b
  · rw [if_pos e, if_pos (by omega)]
  · rw [if_neg e]
    by_cases e2 : x * 5 + y < a * 5 + b + 1
    · rw [if_pos e2]
      obtain rfl : x = a := by omega
      obtain rfl : y = b := by omega
      exact h.symm
    · rw [if_neg e2]
theorem tab_set (f t : Nat → Nat → Int) (a b : Nat) (ha : a < 5) (hb : b < 5) : (grid iv (tabTo f t (a * 5 + b))).set (a * 5 + b) (iv (f a b)) = grid iv (tabTo f t (a * 5 + b + 1)) := by
  rw [grid_set iv _ a b ha hb]
  refine grid_congr iv ?_
  intro x y hx hy
  congr 1
  unfold upd tabTo
  by_cases e1 : x = a
  · rw [if_pos e1]
    by_cases e2 : y = b
    · rw [if_pos e2, if_pos (by omega), e1, e2]
    · rw [if_neg e2, e1]
      by_cases e3 : a * 5 + y < a * 5 + b
      · rw [if_pos e3, if_pos (by omega)]
      · rw [if_neg e3, if_neg (by omega)]
  · rw [if_neg e1]
    by_cases e3 : x * 5 + y < a * 5 + b
    · rw [if_pos e3, if_pos (by omega)]
    · rw [if_neg e3, if_neg (by omega)]
theorem tab_none (f t : Nat → Nat → Int) : tabTo f t 0 = t := by
  funext a b; unfold tabTo; rw [if_neg (by omega)]
theorem tab_all (f t : Nat → Nat → Int) : grid iv (tabTo f t 25) = grid iv f := by
  refine grid_congr iv ?_
  intro a b ha hb
  unfold tabTo; rw [if_pos (by omega)]
/-- The table at t, in a new block. -/
structure TAt (w wr : World) (t : Nat) (T : Nat → Nat → Int) : Prop where
  qq : Quiet w wr
  bt : Blk wr t 3 (grid iv T)
  new : w.heap.size ≤ t
theorem TAt.set {w wr : World} {t : Nat} {T : Nat → Nat → Int} (h : TAt w wr t T) (a b : Nat) (ha : a < 5) (hb : b < 5) (v : Int) : TAt w (wr.setCell ⟨t, a * 5 + b, none⟩ (.int .i64 v)) t (upd T a (upd (T a) b v)) := by
  have h1 := h.bt.set (a * 5 + b) (iv v)
  rw [grid_set iv T a b ha hb v] at h1
  exact ⟨h.qq.setCell (p := ⟨t, a * 5 + b, none⟩) (.inr h.new) _, h1, h.new⟩
theorem TAt.step {w wr : World} {t : Nat} {f g : Nat → Nat → Int} {a b : Nat} (h : TAt w wr t (tabTo f g (a * 5 + b))) (ha : a < 5) (hb : b < 5) : TAt w (wr.setCell ⟨t, a * 5 + b, none⟩ (.int .i64 (f a b))) t (tabTo f g (a * 5 + b + 1)) := by
  have h1 := h.bt.set (a * 5 + b) (iv (f a b))
  rw [tab_set f g a b ha hb] at h1
  exact ⟨h.qq.setCell (p := ⟨t, a * 5 + b, none⟩) (.inr h.new) _, h1, h.new⟩
theorem TAt.step2 {w wr : World} {t : Nat} {f g : Nat → Nat → Int} {a b : Nat} (h : TAt w wr t (tabTo f g (a * 5 + b))) (ha : a < 5) (hb : b < 5) (v : Value) : TAt w ((wr.setCell ⟨t, a * 5 + b, none⟩ v).setCell ⟨t, a * 5 + b, none⟩ (.int .i64 (f a b))) t (tabTo f g (a * 5 + b + 1)) := by
  have h1 := (h.bt.set (a * 5 + b) v).set (a * 5 + b) (iv (f a b))
  rw [List.set_set, tab_set f g a b ha hb] at h1
  exact ⟨(h.qq.setCell (p := ⟨t, a * 5 + b, none⟩) (.inr h.new) _).setCell (p := ⟨t, a * 5 + b, none⟩) (.inr h.new) _, h1, h.new⟩
theorem TAt.all {w wr : World} {t : Nat} {f g : Nat → Nat → Int} (h : TAt w wr t (tabTo f g 25)) : TAt w wr t f :=
  ⟨h.qq, by have := h.bt; rw [tab_all] at this; exact this, h.new⟩
theorem TAt.keep {w wr : World} {t : Nat} {f g : Nat → Nat → Int} {a b : Nat} (h : TAt w wr t (tabTo f g (a * 5 + b))) (ha : a < 5) (hb : b < 5) (e : f a b = g a b) : TAt w wr t (tabTo f g (a * 5 + b + 1)) :=
  ⟨h.qq, by have := h.bt; rw [tab_same f g a b ha hb e] at this; exact this, h.new⟩
theorem TAt.get {w wr : World} {t : Nat} {T : Nat → Nat → Int} (h : TAt w wr t T) (a b : Nat) (ha : a < 5) (hb : b < 5) : wr.cell? ⟨t, a * 5 + b, none⟩ = some (.int .i64 (T a b)) := (h.bt.cell _).trans (grid_get iv T a b ha hb)
theorem TAt.drew {w wr : World} {t : Nat} {T : Nat → Nat → Int} (h : TAt w wr t T) : TAt w wr.drew t T := ⟨h.qq.drew, h.bt.drew, h.new⟩
theorem TAt.drewN {w wr : World} {t : Nat} {T : Nat → Nat → Int} (h : TAt w wr t T) (n : Nat) : TAt w (wr.drewN n) t T := ⟨h.qq.drewN n, h.bt.drewN n, h.new⟩

set_option maxRecDepth 100000 in
set_option maxHeartbeats 4000000 in
theorem truth_any (w : World) (g p q m f : Nat) (C : Nat → Nat → Int) (H : Nat → Nat → Nat → Int) (M F : Nat → Nat → Bool) (r : Nat) (R : RepG w g p q m f C H M F r) (I : Inv C H) :
    Calls Try.prog 30 #[.pointer (some ⟨g, 0, none⟩)] w fun e w' => ∃ t, e = .returned (.slice (some ⟨t, 0, none⟩) 25 25) ∧ TAt w w' t (fw C 5) := by
  have RH := hide R
  have IH := hide I
  have hm1 := make39
  generalize hF : (grid iv (fun _ _ => 0)).toArray = F at hm1
  have hFH := hide hF
  clear hF R I
  go_enter Try.func30, Try.ntmps30
  go_wp2
  obtain ⟨t, ht⟩ : ∃ t, w.heap.size = t := ⟨_, rfl⟩
  have T0 : TAt w (w.alloc (.cells F 3)) t (tabTo (fw0 C) (fun _ _ => 0) 0) := by
    refine ⟨(Chg.refl _ _).alloc _, ?_, by omega⟩
    rw [tab_none, ← ht, ← unhide hFH]
    exact Blk.new w 3 _
  rw [ht]
  obtain ⟨w1, hw1⟩ : ∃ W, w.alloc (.cells F 3) = W := ⟨_, rfl⟩
  rw [hw1] at T0 ⊢
  have T0H := hide T0
  clear T0 hw1 hm1 hFH ht
  go_loopw [4] (fun i wr => ∃ k : Nat, k ≤ 25 ∧ i = .int .i64 k ∧ TAt w wr t (tabTo (fw0 C) (fun _ _ => 0) k)) (fun i _ => 26 - (intOf i).toNat)
  case atStart => exact ⟨0, by omega, rfl, unhide T0H⟩
  case round =>
    obtain ⟨i, hi, rfl, T⟩ := hrel
    clear T0H
    by_cases hlt : i < 25
    · obtain ⟨a, b, ha, hb, rfl⟩ : ∃ a b, a < 5 ∧ b < 5 ∧ i = a * 5 + b := ⟨i / 5, i % 5, by omega, by omega, by omega⟩
      have t1 : (((a * 5 + b : Nat)) : Int).tdiv 5 = (a : Int) := by rw [Int.tdiv_eq_ediv_of_nonneg (by omega)]; omega
      have t2 : (((a * 5 + b : Nat)) : Int).tmod 5 = (b : Int) := by rw [Int.tmod_eq_emod_of_nonneg (by omega)]; omega
      have R2 := (unhide RH).quiet T.qq
      have c0 := R2.cells.1
      have cc := R2.c a b ha hb
      have ct := T.get a b ha hb
      have fr := T.bt.frozen (a * 5 + b)
      have i0 : (0 : Int) ≤ ((a * 5 + b : Nat) : Int) := by omega
      have i1 : ((a * 5 + b : Nat) : Int) < 25 := by omega
      have w11 : IntKind.i64.wrap (((a * 5 + b : Nat) : Int) + 1) = ((a * 5 + b + 1 : Nat) : Int) := by rw [IntKind.wrap_i64]; omega
      have tn : ((a * 5 + b : Nat) : Int).toNat = a * 5 + b := by omega
      have TH := hide T
      have hn : t < wr.heap.size := T.bt.lt
      generalize hN : a * 5 + b = N at *
      have NH := hide hN
      obtain ⟨u, hu⟩ : ∃ u, tabTo (fw0 C) (fun _ _ => 0) N a b = u := ⟨_, rfl⟩
      rw [hu] at ct
      generalize hcv : C a b = cv at *
      have cvH := hide hcv
      clear R2 T hN hu hcv
      by_cases hz : cv = 0
      · subst hz
        by_cases hab : a = b
        · subst hab
          have e1 : ((a : Int) == (a : Int)) = true := by simp
          go_wp2
          go_roundw
          case rel =>
            refine ⟨N + 1, by omega, by first | rfl | go_num, ?_⟩
            have T := unhide TH
            rw [← unhide NH] at T ⊢
            have := T.step ha ha
            rw [show fw0 C a a = 0 by unfold fw0; rw [if_neg (fun h => h.2 rfl)]; exact unhide cvH] at this
            exact this
          case measure => simp [intOf]; omega
        · have e1 : ((a : Int) == (b : Int)) = false := by simp; omega
          go_wp2
          go_roundw
          case rel =>
            refine ⟨N + 1, by omega, by first | rfl | go_num, ?_⟩
            have T := unhide TH
            rw [← unhide NH] at T ⊢
            have := T.step2 ha hb (.int .i64 0)
            rw [show fw0 C a b = 16 by unfold fw0; rw [if_pos ⟨unhide cvH, hab⟩]] at this
            exact this
          case measure => simp [intOf]; omega
      · have e2 : (cv == 0) = false := by simpa using hz
        go_wp2
        go_roundw
        case rel =>
          refine ⟨N + 1, by omega, by first | rfl | go_num, ?_⟩
          have T := unhide TH
          rw [← unhide NH] at T ⊢
          have := T.step ha hb
          rw [show fw0 C a b = cv by unfold fw0; rw [if_neg (fun h => hz ((unhide cvH).symm.trans h.1))]; exact unhide cvH] at this
          exact this
        case measure => simp [intOf]; omega
    · obtain rfl : i = 25 := by omega
      have i1 : ¬ ((25 : Nat) : Int) < 25 := by omega
      have TH := hide T.all
      clear T
      go_wp2
      go_loopw [5] (fun i wr => ∃ k : Nat, k ≤ 5 ∧ i = .int .i64 k ∧ TAt w wr t (fw C k)) (fun i _ => 6 - (intOf i).toNat)
      case atStart => exact ⟨0, by omega, rfl, unhide TH⟩
      case round =>
        obtain ⟨k, hk, rfl, T⟩ := hrel
        clear TH
        by_cases hk5 : k < 5
        · have k0 : (0 : Int) ≤ (k : Int) := by omega
          have k1 : (k : Int) < 5 := by omega
          have FO := fw_ok (unhide IH) k (by omega)
          have TS : Hid (TAt w wr t (tabTo (fwS k (fw C k)) (fw C k) 0)) := by show TAt _ _ _ _; rw [tab_none]; exact T
          have FOH := hide FO
          have hkS : Hid (fw C (k + 1) = fwS k (fw C k)) := rfl
          generalize fw C k = G at *
          clear T FO
          go_wp2
          go_loopw [6] (fun i wr => ∃ n : Nat, n ≤ 25 ∧ i = .int .i64 n ∧ TAt w wr t (tabTo (fwS k G) G n)) (fun i _ => 26 - (intOf i).toNat)
          case atStart => exact ⟨0, by omega, rfl, unhide TS⟩
          case round =>
            obtain ⟨i, hi, rfl, T⟩ := hrel
            clear TS
            by_cases hlt : i < 25
            · obtain ⟨a, b, ha, hb, rfl⟩ : ∃ a b, a < 5 ∧ b < 5 ∧ i = a * 5 + b := ⟨i / 5, i % 5, by omega, by omega, by omega⟩
              have t1 : (((a * 5 + b : Nat)) : Int).tdiv 5 = (a : Int) := by rw [Int.tdiv_eq_ediv_of_nonneg (by omega)]; omega
              have t2 : (((a * 5 + b : Nat)) : Int).tmod 5 = (b : Int) := by rw [Int.tmod_eq_emod_of_nonneg (by omega)]; omega
              obtain ⟨f1, f2, f3⟩ := fwM_read hk5 (unhide FOH) (a * 5 + b) a b ha hb rfl
              have g1 := (T.get a k ha hk5).trans (congrArg (fun v => some (Value.int .i64 v)) f1)
              have g2 := (T.get k b hk5 hb).trans (congrArg (fun v => some (Value.int .i64 v)) f2)
              have g3 := (T.get a b ha hb).trans (congrArg (fun v => some (Value.int .i64 v)) f3)
              obtain ⟨r1, r1'⟩ := (unhide FOH).rng a k ha hk5
              obtain ⟨r2, r2'⟩ := (unhide FOH).rng k b hk5 hb
              obtain ⟨r3, r3'⟩ := (unhide FOH).rng a b ha hb
              have fr := T.bt.frozen (a * 5 + b)
              have i0 : (0 : Int) ≤ ((a * 5 + b : Nat) : Int) := by omega
              have i1 : ((a * 5 + b : Nat) : Int) < 25 := by omega
              have w11 : IntKind.i64.wrap (((a * 5 + b : Nat) : Int) + 1) = ((a * 5 + b + 1 : Nat) : Int) := by rw [IntKind.wrap_i64]; omega
              have tn : ((a * 5 + b : Nat) : Int).toNat = a * 5 + b := by omega
              have x1 : IntKind.i64.wrap ((a : Int) * 5) = (a : Int) * 5 := by rw [IntKind.wrap_i64]; omega
              have x2 : IntKind.i64.wrap ((a : Int) * 5 + (k : Int)) = (a : Int) * 5 + (k : Int) := by rw [IntKind.wrap_i64]; omega
              have x3 : (0 : Int) ≤ (a : Int) * 5 + (k : Int) := by omega
              have x4 : (a : Int) * 5 + (k : Int) < 25 := by omega
              have x5 : ((a : Int) * 5 + (k : Int)).toNat = a * 5 + k := by omega
              have y1 : IntKind.i64.wrap ((k : Int) * 5) = (k : Int) * 5 := by rw [IntKind.wrap_i64]; omega
              have y2 : IntKind.i64.wrap ((k : Int) * 5 + (b : Int)) = (k : Int) * 5 + (b : Int) := by rw [IntKind.wrap_i64]; omega
              have y3 : (0 : Int) ≤ (k : Int) * 5 + (b : Int) := by omega
              have y4 : (k : Int) * 5 + (b : Int) < 25 := by omega
              have y5 : ((k : Int) * 5 + (b : Int)).toNat = k * 5 + b := by omega
              have s1 : Hid (G a k + G k b < G a b → ∀ nq, TAt w ((wr.drewN nq).setCell ⟨t, a * 5 + b, none⟩ (.int .i64 (G a k + G k b))) t (tabTo (fwS k G) G (a * 5 + b + 1))) := by
                intro h nq
                have := (T.drewN nq).step ha hb
                rw [show fwS k G a b = G a k + G k b by unfold fwS; rw [if_pos h]] at this
                exact this
              have s2 : Hid (¬ G a k + G k b < G a b → TAt w wr t (tabTo (fwS k G) G (a * 5 + b + 1))) := by
                intro h
                refine T.keep ha hb ?_
                unfold fwS; rw [if_neg h]
              clear T f1 f2 f3
              generalize G a k = u1 at *
              generalize G k b = u2 at *
              generalize G a b = u3 at *
              have w12 : IntKind.i64.wrap (u1 + u2) = u1 + u2 := by rw [IntKind.wrap_i64]; omega
              generalize hN : a * 5 + b = N at *
              have NH := hide hN
              clear hN
              by_cases hc : u1 + u2 < u3
              · have hc' : (u1 + u2 < u3) = True := eq_true hc
                have s3 := hide (unhide s1 hc)
                clear hc s1 s2
                go_wp2
                go_quiet (fail)
                have g1' : (wr.drewN nq).cell? ⟨t, a * 5 + k, none⟩ = some (.int .i64 u1) := g1
                have g2' : (wr.drewN nq).cell? ⟨t, k * 5 + b, none⟩ = some (.int .i64 u2) := g2
                have g3' : (wr.drewN nq).cell? ⟨t, N, none⟩ = some (.int .i64 u3) := g3
                have fr' : (wr.drewN nq).frozen? ⟨t, N, none⟩ = false := fr
                have s4 := hide (unhide s3 nq)
                obtain ⟨W3, hW3⟩ : ∃ W, wr.drewN nq = W := ⟨_, rfl⟩
                rw [hW3] at g1' g2' g3' fr' s4 ⊢
                clear g1 g2 g3 fr s3 hW3
                go_wp2
                go_region
                go_wp2
                go_roundw
                case rel => exact ⟨N + 1, by omega, by first | rfl | go_num, (unhide s4).drew⟩
                case measure => simp [intOf]; omega
              · have hc' : (u1 + u2 < u3) = False := eq_false hc
                have s3 := hide (unhide s2 hc)
                clear hc s1 s2
                go_wp2
                go_quiet (fail)
                go_wp2
                go_roundw
                case rel => exact ⟨N + 1, by omega, by first | rfl | go_num, (unhide s3).drewN _⟩
                case measure => simp [intOf]; omega
            · obtain rfl : i = 25 := by omega
              have i1 : ¬ ((25 : Nat) : Int) < 25 := by omega
              have TH := hide T.all
              clear T
              go_wp2
              go_roundw
              case rel => exact ⟨k + 1, by omega, by go_num, by rw [unhide hkS]; exact unhide TH⟩
              case measure => simp [intOf]; omega
        · obtain rfl : k = 5 := by omega
          have i1 : ¬ ((5 : Nat) : Int) < 5 := by omega
          have TH := hide T
          clear T
          go_wp2
          go_ret
          exact ⟨t, rfl, unhide TH⟩

/-! ### Going by the hops -/
/-- How many nodes lie nearer than x. -/
def nearer (t : Nat → Int) (x : Int) : Nat := (if t 0 < x then 1 else 0) + (if t 1 < x then 1 else 0) + (if t 2 < x then 1 else 0) + (if t 3 < x then 1 else 0) + (if t 4 < x then 1 else 0)
theorem ind_mono (t x y : Int) (h : x ≤ y) : (if t < x then 1 else 0 : Nat) ≤ (if t < y then 1 else 0 : Nat) := by
  by_cases h1 : t < x
  · rw [if_pos h1, if_pos (by omega)]; omega
  · rw [if_neg h1]; omega
theorem ind_lt (t y : Int) (h : t < y) : (if t < t then 1 else 0 : Nat) < (if t < y then 1 else 0 : Nat) := by
  rw [if_neg (by omega), if_pos h]; omega
theorem nearer_lt (t : Nat → Int) (b : Nat) (hb : b < 5) (y : Int) (h : t b < y) : nearer t (t b) < nearer t y := by
  have m0 := ind_mono (t 0) (t b) y (by omega)
  have m1 := ind_mono (t 1) (t b) y (by omega)
  have m2 := ind_mono (t 2) (t b) y (by omega)
  have m3 := ind_mono (t 3) (t b) y (by omega)
  have m4 := ind_mono (t 4) (t b) y (by omega)
  unfold nearer
  have l := ind_lt (t b) y h
  have : b = 0 ∨ b = 1 ∨ b = 2 ∨ b = 3 ∨ b = 4 := by omega
  rcases this with rfl | rfl | rfl | rfl | rfl <;> omega
theorem nearer_top (t : Nat → Int) (a : Nat) (ha : a < 5) : nearer t (t a) ≤ 4 := by
  unfold nearer
  have h : ∀ x : Int, (if x < t a then 1 else 0 : Nat) ≤ 1 := by intro x; split <;> omega
  have h0 := h (t 0)
  have h1 := h (t 1)
  have h2 := h (t 2)
  have h3 := h (t 3)
  have h4 := h (t 4)
  have hz : (if t a < t a then 1 else 0 : Nat) = 0 := if_neg (by omega)
  have : a = 0 ∨ a = 1 ∨ a = 2 ∨ a = 3 ∨ a = 4 := by omega
  rcases this with rfl | rfl | rfl | rfl | rfl <;> omega

set_option maxRecDepth 100000 in
set_option maxHeartbeats 4000000 in
theorem arrives_any (w : World) (g p q m f : Nat) (C T : Nat → Nat → Int) (H : Nat → Nat → Nat → Int) (M F : Nat → Nat → Bool) (r : Nat) (R : RepG w g p q m f C H M F r) (I : Inv C H) (B : Bell C T) (Nr : Near C T H M 16) (a d : Nat) (ha : a < 5) (hd : d < 5) (ht : T a d < 16) :
    Calls Try.prog 31 #[.pointer (some ⟨g, 0, none⟩), .string (str (showP C H)), .int .i64 a, .int .i64 d, .int .i64 (T a d)] w fun e w' => e = .returned (.bool true) ∧ Quiet w w' := by
  have RH := hide R
  have hstep : Hid (∀ a : Nat, a < 5 → a ≠ d → T a d < 16 → ∃ b : Nat, b < 5 ∧ (bestP a (C a) (H a) d).2 = b ∧ 0 < C a b ∧ C a b ≤ 16 ∧ T a d = C a b + T b d ∧ nearer (fun x => T x d) (T b d) < nearer (fun x => T x d) (T a d)) := by
    intro a ha hne ht
    obtain ⟨b, hb, h1, h2, h3⟩ := hop_step B I Nr ha hd hne ht
    exact ⟨b, hb, h1, h2, (I.c a b ha hb).2, h3, nearer_lt (fun x => T x d) b hb _ (by show T b d < T a d; omega)⟩
  have hdg : Hid (T d d = 0) := B.diag d hd
  have hrg : Hid (∀ a, a < 5 → 0 ≤ T a d ∧ T a d ≤ 16) := fun a ha => B.rng a d ha hd
  have hhop : Hid (∀ a : Nat, a < 5 → ∀ W, (Instr.index 9 (.string (str (showP C H))) (.int .i64 (((a : Int) * 5 + d) * 9 + 1))).run Try.prog W = .ok (.int .u8 (48 + (bestP a (C a) (H a) d).2)) W) := fun a ha => show_hop C H I a d ha hd
  have htop : Hid (nearer (fun x => T x d) (T a d) ≤ 4) := nearer_top (fun x => T x d) a ha
  have ht0 := hide ht
  have sz := show_size C H
  generalize str (showP C H) = S at *
  clear R I B Nr ht
  have d0 : (0 : Int) ≤ (d : Int) := by omega
  have d1 : (d : Int) < 5 := by omega
  go_enter Try.func31, Try.ntmps31
  go_wp2
  go_loopw [2, 4, 11] (fun av lv kv wr => ∃ a k : Nat, a < 5 ∧ 1 ≤ k ∧ k ≤ 5 ∧ av = .int .i64 a ∧ lv = .int .i64 (T a d) ∧ kv = .int .i64 k ∧ T a d < 16 ∧ nearer (fun x => T x d) (T a d) + k ≤ 5 ∧ Quiet w wr) (fun _ _ kv _ => 6 - (intOf kv).toNat)
  case atStart => exact ⟨a, 1, ha, by omega, by omega, rfl, rfl, rfl, unhide ht0, by have := unhide htop; omega, Chg.refl _ _⟩
  case round =>
    obtain ⟨x, k, hx, hk1, hk5, rfl, rfl, rfl, htx, hnr, qq⟩ := hrel
    have qH := hide qq
    by_cases hxd : x = d
    · subst hxd
      have e1 : ((x : Int) == (x : Int)) = true := by simp
      have e2 : T x x = 0 := unhide hdg
      rw [e2]
      by_cases hk : k < 5
      · have k1 : (k : Int) < 5 := by omega
        go_wp2
        go_ret
        exact ⟨rfl, unhide qH⟩
      · have k1 : ¬ (k : Int) < 5 := by omega
        go_wp2
        go_ret
        exact ⟨rfl, unhide qH⟩
    · obtain ⟨b, hb, h1, h2, h3, h4, h5⟩ := unhide hstep x hx hxd htx
      have hk : k < 5 := by omega
      have hr := unhide hrg b hb
      have k0 : (0 : Int) ≤ (k : Int) := by omega
      have k1 : (k : Int) < 5 := by omega
      have e1 : ((x : Int) == (d : Int)) = false := by simp; omega
      have hh := unhide hhop x hx
      rw [h1] at hh
      have R2 := (unhide RH).quiet qq
      have c0 := R2.cells.1
      have cc := R2.c x b hx hb
      have b0 : (0 : Int) ≤ (b : Int) := by omega
      have b1 : (b : Int) < 5 := by omega
      have x0 : (0 : Int) ≤ (x : Int) := by omega
      have x1 : (x : Int) < 5 := by omega
      have y1 : IntKind.i64.wrap ((x : Int) * 5) = (x : Int) * 5 := by rw [IntKind.wrap_i64]; omega
      have y2 : IntKind.i64.wrap ((x : Int) * 5 + (d : Int)) = (x : Int) * 5 + (d : Int) := by rw [IntKind.wrap_i64]; omega
      have y3 : IntKind.i64.wrap (((x : Int) * 5 + (d : Int)) * 9) = ((x : Int) * 5 + (d : Int)) * 9 := by rw [IntKind.wrap_i64]; omega
      have y4 : IntKind.i64.wrap (((x : Int) * 5 + (d : Int)) * 9 + 1) = ((x : Int) * 5 + (d : Int)) * 9 + 1 := by rw [IntKind.wrap_i64]; omega
      have z2 : IntKind.i64.wrap ((x : Int) * 5 + (b : Int)) = (x : Int) * 5 + (b : Int) := by rw [IntKind.wrap_i64]; omega
      have z3 : (0 : Int) ≤ (x : Int) * 5 + (b : Int) := by omega
      have z4 : (x : Int) * 5 + (b : Int) < 25 := by omega
      have z5 : ((x : Int) * 5 + (b : Int)).toNat = x * 5 + b := by omega
      have z6 : IntKind.i64.wrap (48 + (b : Int)) = 48 + (b : Int) := by rw [IntKind.wrap_i64]; omega
      have z7 : IntKind.i64.wrap (48 + (b : Int) - 48) = (b : Int) := by rw [IntKind.wrap_i64]; omega
      have hH := hide (show T b d < 16 ∧ nearer (fun x => T x d) (T b d) + (k + 1) ≤ 5 by omega)
      have h6 : T x d - C x b = T b d := by omega
      have h7 : IntKind.i64.wrap (T x d - C x b) = T b d := by rw [IntKind.wrap_i64]; omega
      have h8 : (C x b == 0) = false := by simp; omega
      have hlt9 : Hid (k < 5) := hk
      generalize C x b = cv at *
      generalize T x d = tx at *
      generalize hTb : T b d = tb at *
      have hTH := hide hTb
      clear R2 h1 h4 h5 hnr htx hTb hxd qq hk hk5
      go_wp2
      go_quiet (fail)
      go_wp2
      go_roundw
      case rel =>
        refine ⟨b, k + 1, hb, by omega, by have := unhide hlt9; omega, rfl, ?_, by go_num, ?_, ?_, (unhide qH).drewN _⟩
        · rw [unhide hTH]
        · rw [unhide hTH]; exact (unhide hH).1
        · have := (unhide hH).2; rw [unhide hTH]; exact this
      case measure => simp [intOf]; omega

set_option maxRecDepth 100000 in
set_option maxHeartbeats 4000000 in
theorem settled_any (w : World) (g p q m f : Nat) (C : Nat → Nat → Int) (H : Nat → Nat → Nat → Int) (M F : Nat → Nat → Bool) (r : Nat) (R : RepG w g p q m f C H M F r) (I : Inv C H) (Nr : Near C (fw C 5) H M 16) :
    Calls Try.prog 18 #[.pointer (some ⟨g, 0, none⟩), .string (str (showP C H))] w fun e w' => e = .returned (.bool true) ∧ Quiet w w' := by
  have B := fw_bell I
  have RH := hide R
  have IH := hide I
  have BH := hide B
  have NH := hide Nr
  have ctr := truth_any w g p q m f C H M F r R I
  have harr : Hid (∀ W, Quiet w W → ∀ a d : Nat, a < 5 → d < 5 → fw C 5 a d < 16 → Calls Try.prog 31 #[.pointer (some ⟨g, 0, none⟩), .string (str (showP C H)), .int .i64 a, .int .i64 d, .int .i64 (fw C 5 a d)] W fun e w' => e = .returned (.bool true) ∧ Quiet W w') := fun W qq a d ha hd ht => arrives_any W g p q m f C (fw C 5) H M F r (R.quiet qq) I B Nr a d ha hd ht
  have hdist : Hid (∀ a b : Nat, a < 5 → b < 5 → ∀ W, (Instr.index 9 (.string (str (showP C H))) (.int .i64 (((a : Int) * 5 + b) * 9))).run Try.prog W = .ok (.int .u8 (48 + fw C 5 a b)) W) := by
    intro a b ha hb W
    have h := show_dist C H I a b ha hb W
    have h2 := near_vec B I Nr ha hb
    unfold vecP at h2
    rw [h2] at h
    exact h
  have hrg : Hid (∀ a b, a < 5 → b < 5 → 0 ≤ fw C 5 a b ∧ fw C 5 a b ≤ 16) := fun a b ha hb => B.rng a b ha hb
  have sz := show_size C H
  generalize str (showP C H) = S at *
  generalize fw C 5 = T at *
  clear R I B Nr BH NH RH IH
  go_enter Try.func18, Try.ntmps18
  go_wp2_with fail
  refine ctr.mono ?_
  clear ctr
  rintro e w1 ⟨t, rfl, T1⟩
  have T1H := hide T1
  clear T1
  go_wp2
  go_loopw [6] (fun k wr => ∃ i : Nat, i ≤ 25 ∧ k = .int .i64 i ∧ TAt w wr t T) (fun k _ => 26 - (intOf k).toNat)
  case atStart => exact ⟨0, by omega, rfl, unhide T1H⟩
  case round =>
    obtain ⟨i, hi, rfl, T2⟩ := hrel
    clear T1H
    by_cases hlt : i < 25
    · obtain ⟨a, b, ha, hb, rfl⟩ : ∃ a b, a < 5 ∧ b < 5 ∧ i = a * 5 + b := ⟨i / 5, i % 5, by omega, by omega, by omega⟩
      have t1 : (((a * 5 + b : Nat)) : Int).tdiv 5 = (a : Int) := by rw [Int.tdiv_eq_ediv_of_nonneg (by omega)]; omega
      have t2 : (((a * 5 + b : Nat)) : Int).tmod 5 = (b : Int) := by rw [Int.tmod_eq_emod_of_nonneg (by omega)]; omega
      have ecast : ((a * 5 + b : Nat) : Int) = (a : Int) * 5 + (b : Int) := by omega
      have hd := unhide hdist a b ha hb
      rw [← ecast] at hd
      have ct := T2.get a b ha hb
      obtain ⟨r1, r2⟩ := unhide hrg a b ha hb
      have i0 : (0 : Int) ≤ ((a * 5 + b : Nat) : Int) := by omega
      have i1 : ((a * 5 + b : Nat) : Int) < 25 := by omega
      have w11 : IntKind.i64.wrap (((a * 5 + b : Nat) : Int) + 1) = ((a * 5 + b + 1 : Nat) : Int) := by rw [IntKind.wrap_i64]; omega
      have w9 : IntKind.i64.wrap (((a * 5 + b : Nat) : Int) * 9) = ((a * 5 + b : Nat) : Int) * 9 := by rw [IntKind.wrap_i64]; omega
      have tn : ((a * 5 + b : Nat) : Int).toNat = a * 5 + b := by omega
      have har := hide (fun W (qq : Quiet w W) (h : T a b < 16) => unhide harr W qq a b ha hb h)
      have T2H := hide T2
      clear ecast T2
      generalize T a b = tv at *
      generalize a * 5 + b = N at *
      have wv : IntKind.i64.wrap (48 + tv) = 48 + tv := by rw [IntKind.wrap_i64]; omega
      have wv2 : IntKind.i64.wrap (48 + tv - 48) = tv := by rw [IntKind.wrap_i64]; omega
      have etv : (tv == tv) = true := by simp
      go_wp2
      go_quiet (fail)
      have T3 := (unhide T2H).drewN nq
      have ct' : (wr.drewN nq).cell? ⟨t, N, none⟩ = some (.int .i64 tv) := ct
      obtain ⟨W3, hW3⟩ : ∃ W, wr.drewN nq = W := ⟨_, rfl⟩
      rw [hW3] at T3 ct' ⊢
      have T3H := hide T3
      clear T3 hW3 ct hd T2H
      by_cases hc : tv < 16
      · have hc' : (tv < 16) = True := eq_true hc
        have hd' : decide (tv < 16) = true := decide_eq_true hc
        have cal := hide (unhide har W3 (unhide T3H).qq hc)
        clear hc har
        go_wp2_with fail
        refine (unhide cal).mono ?_
        rintro e w5 ⟨rfl, q5⟩
        have T5 : TAt w w5 t T := ⟨(unhide T3H).qq.trans q5, Quiet.blk q5 (unhide T3H).bt, (unhide T3H).new⟩
        have T5H := hide T5
        clear cal T5 q5
        go_wp2
        go_roundw
        case rel => exact ⟨N + 1, by omega, by first | rfl | go_num, unhide T5H⟩
        case measure => simp [intOf]; omega
      · have hc' : (tv < 16) = False := eq_false hc
        have hd' : decide (tv < 16) = false := decide_eq_false hc
        clear hc har
        go_wp2
        go_roundw
        case rel => exact ⟨N + 1, by omega, by first | rfl | go_num, unhide T3H⟩
        case measure => simp [intOf]; omega
    · obtain rfl : i = 25 := by omega
      have i1 : ¬ ((25 : Nat) : Int) < 25 := by omega
      have TH := hide T2.qq
      clear T2
      go_wp2
      go_ret
      exact ⟨rfl, unhide TH⟩
end Go.Proofs.Qxb6500364a
