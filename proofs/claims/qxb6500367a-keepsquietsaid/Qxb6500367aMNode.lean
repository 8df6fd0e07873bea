/-
  The abstract node: New, Show, Check, Step whole; the real node's Step under the invariant, its New where it refuses.
-/
import Derived.Test.Qxb6500367aLaw
import Derived.Test.Qxb6500367aMStepB
import Derived.Test.Qxb6500367aMStepC
import Derived.Test.Qxb6500367aStep
namespace Go.Proofs.Qxb6500367a
open Go.RowKit Go.Qx
set_option linter.unusedSimpArgs false
set_option linter.unusedVariables false

/-- New refuses. -/
def refuses (n id : Int) : Prop := n < 1 ∨ 4 < n ∨ id < 0 ∨ n ≤ id

set_option maxRecDepth 100000 in
theorem new_bad (w : World) (n id : Int) (h : refuses n id) : Calls Try.prog 19 #[.int .i64 n, .int .i64 id] w fun e w' => e = .returned (.tuple #[.pointer none, .int .i64 1]) ∧ Quiet w w' := by
  unfold refuses at h
  have h' : n < 1 ∨ (1 ≤ n ∧ 4 < n) ∨ (1 ≤ n ∧ n ≤ 4 ∧ id < 0) ∨ (1 ≤ n ∧ n ≤ 4 ∧ 0 ≤ id ∧ n ≤ id) := by omega
  clear h
  rcases h' with h | ⟨h, h2⟩ | ⟨h, h2, h3⟩ | ⟨h, h2, h3, h4⟩
  all_goals
    go_enter Try.func19, Try.ntmps19
    go_wp2
    go_ret2
    exact ⟨rfl, Chg.refl _ _⟩

set_option maxRecDepth 100000 in
theorem mnew_bad (w : World) (n id : Int) (h : refuses n id) : Calls Try.prog 29 #[.int .i64 n, .int .i64 id] w fun e w' => e = .returned (.tuple #[.pointer none, .int .i64 1]) ∧ Quiet w w' := by
  unfold refuses at h
  have h' : n < 1 ∨ (1 ≤ n ∧ 4 < n) ∨ (1 ≤ n ∧ n ≤ 4 ∧ id < 0) ∨ (1 ≤ n ∧ n ≤ 4 ∧ 0 ≤ id ∧ n ≤ id) := by omega
  clear h
  rcases h' with h | ⟨h, h2⟩ | ⟨h, h2, h3⟩ | ⟨h, h2, h3, h4⟩
  all_goals
    go_enter Try.func29, Try.ntmps29
    go_wp2
    go_ret2
    exact ⟨rfl, Chg.refl _ _⟩

theorem info3 : (Try.prog.info? 3).map (fun i => (i.zero, i.size, i.bytes)) = some (some (.int .i64 0), 1, 8) := by kernel_rfl

theorem made3 (n : Nat) (h : n ≤ 4) : madeCells (Value.int .i64 0).cells (n * 1) = (List.replicate n (Value.int .i64 0)).toArray := by
  match n, h with
  | 0, _ => show _ = _; kernel_rfl
  | 1, _ => show _ = _; kernel_rfl
  | 2, _ => show _ = _; kernel_rfl
  | 3, _ => show _ = _; kernel_rfl
  | 4, _ => show _ = _; kernel_rfl

theorem make87 (W : World) (n : Nat) (h : n ≤ 4) : (Instr.makeSlice 87 (.int .i64 n) (.int .i64 n)).run Try.prog W = .ok (.slice (some ⟨W.heap.size, 0, none⟩) n n) (W.alloc (.cells (List.replicate n (Value.int .i64 0)).toArray 3)) := by
  obtain ⟨i, hi, hz0, hz1, hz2⟩ := info_parts info3
  have := run_make (P := Try.prog) W 87 3 i _ Try.underlying87 hi hz0 .i64 .i64 n n (by omega) (by omega) (by rw [hz2]; omega) (by omega)
  rw [hz1] at this
  simp only [Int.toNat_zero, Int.toNat_natCast] at this
  rw [this, made3 n h]

theorem reqOf_nil (n : Nat) : reqOf n [] = List.replicate n 0 := by
  unfold reqOf
  simp only [heldP]
  rw [List.map_const', List.length_range]

set_option maxRecDepth 100000 in
set_option maxHeartbeats 2000000 in
theorem mnew_ok (w : World) (n id : Nat) (h1 : 1 ≤ n) (h2 : n ≤ 4) (h3 : id < n) : Calls Try.prog 29 #[.int .i64 n, .int .i64 id] w fun e w' => ∃ m c, e = .returned (.tuple #[ptr m, .int .i64 0]) ∧ Quiet w w' ∧ (∀ k, ownM m c k → w.heap.size ≤ k) ∧ RepM w' m c (modelOf (newP n id)) := by
  have i1 : (1 : Int) ≤ (n : Int) := by omega
  have i2 : (n : Int) ≤ 4 := by omega
  have i3 : (0 : Int) ≤ (id : Int) := by omega
  have i4 : (id : Int) < (n : Int) := by omega
  have i5 : (0 : Int) ≤ (n : Int) := by omega
  have hm1 := fun W => make87 W n h2
  go_enter Try.func29, Try.ntmps29
  go_wp2
  go_ret2
  rw [show Array.replicate n (Value.int .i64 0) = (List.replicate n (Value.int .i64 0)).toArray by simp]
  refine ⟨w.heap.size + 1, w.heap.size, rfl, ((Chg.refl _ _).alloc _).alloc _, ?_, ?_⟩
  · rintro k (rfl | rfl) <;> omega
  · refine ⟨?_, ?_, by omega, h1, h2, h3, by simp [modelOf, newP, reqOf]⟩
    · simp only [modelOf, newP, bits_rep]
      exact Blk.at_new (by simp)
    · simp only [modelOf, newP, reqOf_nil, List.map_replicate]
      exact (Blk.new _ _ _).alloc _

/-! ### Show -/
def mtailTo (l : List UInt8) (r : List Int) (k : Nat) : List UInt8 := (List.range k).foldl (fun l (j : Nat) => field l (r.getD j 0)) l

theorem mtailTo_succ (l : List UInt8) (r : List Int) (k : Nat) : mtailTo l r (k + 1) = field (mtailTo l r k) (r.getD k 0) := by
  unfold mtailTo; rw [List.range_succ, List.foldl_append]; rfl

structure ShowsM (x : Md) : Prop where
  clock : In64 x.clock
  phase : In64 x.phase
  ack : In64 x.ack
  req : ∀ j, j < x.n → In64 (x.req.getD j 0)

set_option maxRecDepth 100000 in
set_option maxHeartbeats 2000000 in
theorem mshow_any (w : World) (m c : Nat) (x : Md) (R : RepM w m c x) (hS : ShowsM x) : Calls Try.prog 48 #[ptr m] w fun e w' => e = .returned (.string (str (mshowP x))) ∧ Quiet w w' := by
  obtain ⟨c0, c1, c2, c3, c4, c5⟩ := R.cells
  have hn4 := R.n4
  have hil := R.il
  obtain ⟨⟨a1, a2⟩, ⟨a3, a4⟩, ⟨a5, a6⟩, hq⟩ := hS
  have hlb := leastTo_bound x.req x.n
  have l1 := field_length [] x.id
  have l2 := field_length (field [] x.id) x.clock
  have l3 := field_length (field (field [] x.id) x.clock) x.phase
  have l4 := field_length (field (field (field [] x.id) x.clock) x.phase) x.ack
  have l5 := field_length (field (field (field (field [] x.id) x.clock) x.phase) x.ack) (leastTo x.req x.n)
  have hnil : (str []) = ⟨#[]⟩ := rfl
  unfold ptr
  have hF1 := field_any w [] x.id (by simp) (by omega) (by omega)
  rw [hnil] at hF1
  clear hnil
  go_enter Try.func48, Try.ntmps48
  go_wp2_with fail
  refine hF1.mono ?_
  rintro e w1 ⟨rfl, q1⟩
  have d2 := Quiet.cell q1 c2
  go_wp2_with fail
  refine (field_any w1 _ x.clock (by simp at l1; omega) (by omega) (by omega)).mono ?_
  rintro e w2 ⟨rfl, q2'⟩
  have q2 := Quiet.trans q1 q2'
  have d3 := Quiet.cell q2 c3
  go_wp2_with fail
  refine (field_any w2 _ x.phase (by simp at l1; omega) (by omega) (by omega)).mono ?_
  rintro e w3 ⟨rfl, q3'⟩
  have q3 := Quiet.trans q2 q3'
  have d4 := Quiet.cell q3 c4
  go_wp2_with fail
  refine (field_any w3 _ x.ack (by simp at l1; omega) (by omega) (by omega)).mono ?_
  rintro e w4 ⟨rfl, q4'⟩
  have q4 := Quiet.trans q3 q4'
  go_wp2_with fail
  refine (least_any w4 m c x (R.quiet q4)).mono ?_
  rintro e w5 ⟨rfl, q5'⟩
  have q5 := Quiet.trans q4 q5'
  go_wp2_with fail
  refine (field_any w5 _ (leastTo x.req x.n) (by simp at l1; omega) (by omega) (by omega)).mono ?_
  rintro e w6 ⟨rfl, q6'⟩
  have q6 := Quiet.trans q5 q6'
  have hsh : Hid (mshowP x = mtailTo (field (field (field (field (field [] x.id) x.clock) x.phase) x.ack) (leastTo x.req x.n)) x.req x.n) := rfl
  have hl6 : (field (field (field (field (field [] x.id) x.clock) x.phase) x.ack) (leastTo x.req x.n)).length ≤ 105 := by simp at l1; omega
  generalize field (field (field (field (field [] x.id) x.clock) x.phase) x.ack) (leastTo x.req x.n) = L at hsh hl6 ⊢
  clear l1 l2 l3 l4 l5 hlb
  go_wp2
  go_loopw [3, 5] (fun v i wr => ∃ k : Nat, k ≤ x.n ∧ i = .int .i64 k ∧ v = .string (str (mtailTo L x.req k)) ∧ (mtailTo L x.req k).length ≤ 105 + k * 21 ∧ Quiet w wr) (fun _ i _ => 5 - (intOf i).toNat)
  case atStart => exact ⟨0, Nat.zero_le _, rfl, rfl, hl6, q6⟩
  case round =>
    obtain ⟨k, hk, rfl, rfl, hlk, qk⟩ := hrel
    have i0 : (0 : Int) ≤ (k : Int) := by omega
    have Rk := R.quiet qk
    obtain ⟨k0, _, _, _, _, k5⟩ := Rk.cells
    by_cases hlt : k < x.n
    · have i1 : (k : Int) < (x.n : Int) := by omega
      have hhi := hq k hlt
      have hts := hide (mtailTo_succ L x.req k)
      have hfl := field_length (mtailTo L x.req k) (x.req.getD k 0)
      have hr := Rk.r k hlt
      generalize x.req.getD k 0 = rk at *
      go_wp2_with fail
      refine (field_any _ _ rk (by omega) hhi.1 hhi.2).mono ?_
      rintro e w8 ⟨rfl, q8⟩
      go_wp2
      go_roundw
      case rel => exact ⟨k + 1, by omega, by go_num, by rw [unhide hts], by rw [unhide hts]; omega, Quiet.trans qk q8⟩
      case measure => simp [intOf]; omega
    · have i1 : ¬ (k : Int) < (x.n : Int) := by omega
      have hkn : Hid (k = x.n) := by show _ = _; omega
      go_wp2
      go_ret
      refine ⟨?_, qk⟩
      rw [unhide hsh, ← unhide hkn]
      rfl

theorem Inv.showsM {s : Nd} (h : Inv s) : ShowsM (modelOf s) := by
  have hs := h.shows
  have hb := h.bit s.id h.il
  refine ⟨hs.clock, hs.phase, ?_, ?_⟩
  · have := hb.b0; have := hb.b1
    exact ⟨by show _ ≤ bitsP s.got 0; omega, by show bitsP s.got 0 ≤ _; omega⟩
  · intro j hj
    show In64 ((reqOf s.n s.q).getD j 0)
    rw [reqOf_get s.n s.q j hj]
    exact heldP_in s.q j hs.q

/-! ### Check -/
set_option maxRecDepth 100000 in
set_option maxHeartbeats 2000000 in
theorem mcheck_any (w : World) (m c : Nat) (s : Nd) (R : RepM w m c (modelOf s)) (h : Inv s) : Calls Try.prog 49 #[ptr m] w fun e w' => e = .returned (.bool true) ∧ Quiet w w' := by
  obtain ⟨c0, c1, c2, c3, c4, c5⟩ := R.cells
  have hri := R.r s.id h.il
  have hb := h.bit s.id h.il
  have hil := h.il
  have hz := h.idle
  have hz0 := h.idle0
  rw [h.mine] at hz
  rw [h.cnt] at hz0
  have e1 := reqOf_get s.n s.q s.id h.il
  have hbz := hb.zero
  simp only [modelOf] at c0 c1 c2 c3 c4 c5 hri
  rw [e1] at hri
  have hc0 := h.c0
  have hc1 := h.c1
  have j0 : (0 : Int) ≤ (s.id : Int) := by omega
  have j1 : (s.id : Int) < (s.n : Int) := by omega
  clear hb e1 R
  have hh : (s.phase == 0) = (heldP s.q s.id == 0) := by
    rw [Bool.eq_iff_iff, beq_iff_eq, beq_iff_eq]; exact hz
  have hk : s.phase = 0 → bitsP s.got 0 = 0 := fun h => hbz (hz0 h)
  clear hz hz0 hbz h
  generalize heldP s.q s.id = hv at *
  generalize bitsP s.got 0 = ak at *
  unfold ptr
  by_cases hp : s.phase = 0
  · have ha := hk hp
    subst ha
    have b1 : (s.phase == 0) = true := by simpa using hp
    have b2 : (hv == 0) = true := by rw [← hh]; exact b1
    have b3 : (s.phase != 0) = false := by rw [bne, b1]; rfl
    clear hh hk hp
    go_enter Try.func49, Try.ntmps49
    go_wp2
    go_big_quiet (fail)
    go_wp2
    go_ret
    exact ⟨rfl, (Chg.refl _ _).drewN _⟩
  · have b1 : (s.phase == 0) = false := by simpa using hp
    have b2 : (hv == 0) = false := by rw [← hh]; exact b1
    have b3 : (s.phase != 0) = true := by rw [bne, b1]; rfl
    clear hh hk hp
    go_enter Try.func49, Try.ntmps49
    go_wp2
    go_big_quiet (fail)
    go_wp2
    go_ret
    exact ⟨rfl, (Chg.refl _ _).drewN _⟩

/-! ### Step -/
theorem mstep_any (w : World) (m c : Nat) (s : Nd) (h : Inv s) (R : RepM w m c (modelOf s)) (k f t : Int) : Calls Try.prog 50 #[ptr m, .int .i64 k, .int .i64 f, .int .i64 t] w (mstepPost w m c (mstepP (modelOf s) k f t)) := by
  have hb := h.bit s.id h.il
  have hv := vet_any w m c (modelOf s) R k f t hb.b0 hb.b1
  unfold mstepP
  by_cases hE : vetP (modelOf s) k f t = 0
  · rw [if_neg (by simpa using hE)]
    rw [hE] at hv
    have hE2 := hE
    unfold vetP at hE2
    have h1 : ¬ (k < 1 ∨ 5 < k) := by intro c; rw [if_pos c] at hE2; omega
    rw [if_neg h1] at hE2
    have h2 : ¬ (3 ≤ k ∧ (f < 0 ∨ ((modelOf s).n : Int) ≤ f ∨ f = (modelOf s).id)) := by intro c; rw [if_pos c] at hE2; omega
    rw [if_neg h2] at hE2
    have h3 : ¬ 1152921504606846976 < (modelOf s).clock := by intro c; rw [if_pos c] at hE2; omega
    rw [if_neg h3] at hE2
    have h4 : ¬ (3 ≤ k ∧ (t < 1 ∨ 1152921504606846976 < t)) := by intro c; rw [if_pos c] at hE2; omega
    rw [if_neg h4] at hE2
    have hk : k = 1 ∨ k = 2 ∨ k = 3 ∨ k = 4 ∨ k = 5 := by omega
    have c0 : 0 ≤ (modelOf s).clock := h.c0
    have c1 : (modelOf s).clock ≤ 1152921504606846976 := by omega
    rcases hk with rfl | rfl | rfl | rfl | rfl
    · exact mstep_1 w m c _ R f t c0 c1 hv
    · exact mstep_2 w m c _ R f t c0 c1 hv
    · obtain ⟨g, rfl⟩ : ∃ g : Nat, f = g := ⟨f.toNat, by omega⟩
      by_cases hc : (modelOf s).clock < t
      · exact mstep_3a w m c _ R g t c0 c1 (by omega) (by omega) (by omega) hc hv
      · exact mstep_3b w m c _ R g t c0 c1 (by omega) (by omega) (by omega) (by omega) hv
    · obtain ⟨g, rfl⟩ : ∃ g : Nat, f = g := ⟨f.toNat, by omega⟩
      have hgn : g < s.n := by show g < (modelOf s).n; omega
      have hbg := h.bit g hgn
      have hgf : s.got.getD g false = false := by
        have hfit : fitsP (modelOf s) 4 g t = true := by
          cases hx : fitsP (modelOf s) 4 g t with
          | true => rfl
          | false => rw [hx] at hE2; simp at hE2
        rw [← hbg.ack]
        cases hx : ackOf (bitsP s.got 0) g with
        | false => rfl
        | true => simp [fitsP, modelOf, hx] at hfit
      have hor := (hbg.set hgf).2.2.1
      by_cases hc : (modelOf s).clock < t
      · exact mstep_4a w m c _ R g t c0 c1 (by omega) (by omega) (by omega) hc hor hv
      · exact mstep_4b w m c _ R g t c0 c1 (by omega) (by omega) (by omega) (by omega) hor hv
    · obtain ⟨g, rfl⟩ : ∃ g : Nat, f = g := ⟨f.toNat, by omega⟩
      by_cases hc : (modelOf s).clock < t
      · exact mstep_5a w m c _ R g t c0 c1 (by omega) (by omega) (by omega) hc hv
      · exact mstep_5b w m c _ R g t c0 c1 (by omega) (by omega) (by omega) (by omega) hv
  · rw [if_pos hE]
    exact mstep_bad w m c _ R k f t _ (by simpa using hE) hv

theorem rstep_any (w : World) (x a b : Nat) (s : Nd) (h : Inv s) (r : Rep w x a b s) (k f t : Int) : Calls Try.prog 20 #[ptr x, .int .i64 k, .int .i64 f, .int .i64 t] w (stepPost w x a b (stepP s k f t)) := by
  by_cases h1 : k < 1 ∨ 5 < k
  · have : stepP s k f t = ((0, 0, 2), s) := by unfold stepP errP; simp [h1]
    rw [this]
    exact step_kind w x a b s r k f t h1
  · by_cases h2 : 3 ≤ k ∧ (f < 0 ∨ (s.n : Int) ≤ f ∨ f = s.id)
    · have : stepP s k f t = ((0, 0, 3), s) := by unfold stepP errP; simp [h1, h2]
      rw [this]
      exact step_peer w x a b s r k f t h2.1 (by omega) h2.2
    · exact step_any w x a b s r k f t (h.fits k f (by omega))
end Go.Proofs.Qxb6500367a
