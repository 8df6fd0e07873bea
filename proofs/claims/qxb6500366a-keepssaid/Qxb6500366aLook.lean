/-
  THE REAL TURTLE: Reach, Area2, Pair, Show. (gen6look.py)
-/
import Derived.Test.Qxb6500366aMove
namespace Go.Proofs.Qxb6500366a
open Go.RowKit Go.Qx
set_option linter.unusedVariables false
set_option linter.unusedSimpArgs false

def reachP (r : Run) (k : Int) : Int := if modP k = 1 then r.hi.2 else if modP k = 2 then -r.lo.1 else if modP k = 3 then -r.lo.2 else r.hi.1

set_option maxHeartbeats 2000000 in
theorem reach_any (w : World) (x tb mb : Nat) (r : Run) (tr : List Pt) (d : Pt) (R : RepR w x tb mb r tr d) (hlo : Small r.lo) (hhi : Small r.hi) (k : Int) : Calls Try.prog 33 #[ptr x, .int .i64 k] w fun e w' => e = .returned (.int .i64 (reachP r k)) ∧ w' = w := by
  obtain ⟨hm, hlt⟩ := modP_spec k
  have hb : -4 < k.tmod 4 ∧ k.tmod 4 < 4 := by
    have h1 := Int.lt_tmod_of_pos k (show (0 : Int) < 4 by decide)
    have h2 := Int.tmod_lt_of_pos k (show (0 : Int) < 4 by decide)
    omega
  have w1 : wrap64 (k.tmod 4 + 4) = k.tmod 4 + 4 := by unfold wrap64; omega
  have w2 : wrap64 (k.tmod 4) = k.tmod 4 := by unfold wrap64; omega
  obtain ⟨vp, vd, vl, vh, vo, h1, h2, h3, h4, h5, B⟩ := R.own
  obtain ⟨l1, l2, rfl, L1, L2⟩ := h3
  obtain ⟨g1, g2, rfl, G1, G2⟩ := h4
  have c5 := B.cell 5
  have c6 := B.cell 6
  simp [turC] at c5 c6
  obtain ⟨a1, a2, a3, a4⟩ := hlo
  obtain ⟨b1, b2, b3, b4⟩ := hhi
  have k1 := toInt_run G2 (by omega)
  have k2 := toInt_run (w64_neg L1) (by omega)
  have k3 := toInt_run (w64_neg L2) (by omega)
  have k4 := toInt_run G1 (by omega)
  have n1 : ∀ W, (Op.unary .neg (.float .f64 l1)).run Try.prog W = .ok (.float .f64 (Op.negFloat .f64 l1)) W := fun W => rfl
  have n2 : ∀ W, (Op.unary .neg (.float .f64 l2)).run Try.prog W = .ok (.float .f64 (Op.negFloat .f64 l2)) W := fun W => rfl
  unfold reachP
  clear R B h1 h2 h5 L1 L2 G1 G2 a1 a2 a3 a4 b1 b2 b3 b4 hb
  generalize r.hi.1 = X1 at *
  generalize r.hi.2 = X2 at *
  generalize -r.lo.1 = X3 at *
  generalize -r.lo.2 = X4 at *
  unfold ptr
  rcases (by omega : modP k = 0 ∨ modP k = 1 ∨ modP k = 2 ∨ modP k = 3) with e | e | e | e
  all_goals
    rw [e] at hm ⊢
    clear e hlt
    simp only [Nat.reduceEqDiff, if_true, if_false, Nat.zero_ne_one, reduceIte]
    go_enter Try.func33, Try.ntmps33
    go_wp2
    go_ret
    exact ⟨by first | rfl | simp, rfl⟩

def areaP (r : Run) (p : Pt) : Int := (opP r.op r.pos p).2

set_option maxRecDepth 100000 in
set_option maxHeartbeats 2000000 in
theorem area_any (w : World) (x tb mb : Nat) (r : Run) (tr : List Pt) (d : Pt) (R : RepR w x tb mb r tr d) (hq : Small r.pos) (ho : Fit 2251799813685248 r.op) (h0 : 0 < tr.length) (hp : Small tr[0]) : Calls Try.prog 21 #[ptr x] w fun e w' => e = .returned (.int .i64 (areaP r tr[0])) ∧ Quiet w w' := by
  obtain ⟨vp, vd, vl, vh, vo, h1, h2, h3, h4, h5, B⟩ := R.own
  obtain ⟨cs, BT, hcs, hrow⟩ := R.row
  obtain ⟨v, hv, cv⟩ := hrow 0 h0
  obtain ⟨q1, q2, rfl, Q1, Q2⟩ := h1
  obtain ⟨o1, o2, rfl, O1, O2⟩ := h5
  obtain ⟨c1, c2, rfl, C1, C2⟩ := cv
  obtain ⟨me, mf, mg, mh, hmul, hadd, hop⟩ := term_whole Q1 Q2 C1 C2 O1 O2 hq hp ho
  have hmul' := fun t W => hmul Try.prog t W
  have hadd' := fun t W => hadd Try.prog t W
  have hcj := fun W => conj_any W q1 q2
  obtain ⟨u1, u2, hu, U1, U2⟩ := hop
  cases hu
  have hbd : -9223372036854775808 ≤ (opP r.op r.pos tr[0]).2 ∧ (opP r.op r.pos tr[0]).2 ≤ 9223372036854775807 := by
    obtain ⟨a1, a2, a3, a4⟩ := hq
    obtain ⟨b1, b2, b3, b4⟩ := hp
    obtain ⟨x1, x2, x3, x4⟩ := ho
    have m3 := mul_abs (c := 1048576) (d := 1048576) ⟨a1, a2⟩ ⟨b3, b4⟩ (by decide) (by decide)
    have m4 := mul_abs (a := -r.pos.2) (c := 1048576) (d := 1048576) (by omega) ⟨b1, b2⟩ (by decide) (by decide)
    unfold opP
    simp only
    omega
  have hti := toInt_run U2 hbd
  have y0 := B.cell 0
  have y2 := B.cell 2
  have y7 := B.cell 7
  have t0 := (BT.cell 0).trans hv
  simp [turC] at y0 y2 y7
  have l0 : (0 : Int) < (tr.length : Int) := by omega
  unfold areaP
  generalize (opP r.op r.pos tr[0]).2 = RES at *
  clear R B BT h2 h3 h4 hrow hv Q1 Q2 O1 O2 C1 C2 hmul hadd U1 U2 hbd hq ho hp
  unfold ptr
  go_enter Try.func21, Try.ntmps21
  go_wp2
  refine wp_region_noPanic ?_
  try simp only [List.append_eq, List.cons_append, List.nil_append]
  refine wp_region_mix [(0, true), (1, true), (2, true), (3, true), (4, true), (5, true), (6, true), (7, true), (8, true), (9, true), (10, true), (11, true), (12, true), (13, true), (14, true), (15, true), (16, true)] [17, 18, 19] (by kernel_rfl) (by kernel_rfl) (fun _ _ _ _ _ h => h) ?_
  simp only [pickM, pickO, List.getElem?_cons_zero, List.getElem?_cons_succ]
  repeat (first | (refine wpMix_read rfl (fun K hK => ?_)) | (refine wpMix_pure rfl (fun K hK => ?_))
          go_big_quiet_op
          first | (refine hK _ ?_; clear hK K) | (apply Exists.intro; refine ⟨fun _ => ?_, ?_⟩; (· (first | (go_at_call 44; exact Calls.quiet_of_same (hcj _)))); refine hK _ ?_; clear hK K))
  refine wpMix_nil ?_
  intro _ hw'
  obtain ⟨nq, hw''⟩ := hw'
  subst hw''
  go_wp2
  refine NoPanic.normal ?_
  go_wp2
  go_ret
  exact ⟨rfl, (Chg.refl _ _).drewN _⟩

def pairL (p : Pt) : List UInt8 := itoa p.1 ++ ([44] ++ (itoa p.2 ++ [59]))
theorem pairL_len (p : Pt) : (pairL p).length ≤ 42 := by
  have h1 := itoa_length p.1
  have h2 := itoa_length p.2
  simp [pairL]; omega

theorem pair_any (w : World) (p : Pt) (hp : -9223372036854775808 ≤ p.1 ∧ p.1 ≤ 9223372036854775807 ∧ -9223372036854775808 ≤ p.2 ∧ p.2 ≤ 9223372036854775807) : Calls Try.prog 10 #[.int .i64 p.1, .int .i64 p.2] w fun e w' => e = .returned (.string (str (pairL p))) ∧ Quiet w w' := by
  have i1 := hide (itoa_any p.1 w hp.1 hp.2.1)
  have i2 := hide (fun W => itoa_any p.2 W hp.2.2.1 hp.2.2.2)
  have l1 := itoa_length p.1
  have l2 := itoa_length p.2
  have z1 : (str (itoa p.1)).size ≤ 100 := by rw [str_size]; omega
  have z2 : (str (itoa p.2)).size ≤ 100 := by rw [str_size]; omega
  have hT : Hid (str (pairL p) = ((str (itoa p.1) ++ ⟨#[44]⟩) ++ str (itoa p.2)) ++ ⟨#[59]⟩) := by
    show _ = _
    rw [show (⟨#[44]⟩ : ByteArray) = str [44] from rfl, show (⟨#[59]⟩ : ByteArray) = str [59] from rfl]
    simp only [str_append, List.append_assoc, pairL]
  rw [unhide hT]
  clear hT l1 l2 hp
  generalize p.1 = X at *
  generalize p.2 = Y at *
  generalize str (itoa X) = s1 at *
  generalize str (itoa Y) = s2 at *
  go_enter Try.func10, Try.ntmps10
  go_wp2_with fail
  refine (unhide i1).mono ?_
  clear i1
  rintro e w1 ⟨rfl, q1⟩
  have q1H := hide q1
  clear q1
  go_wp2_with fail
  refine (unhide i2 _).mono ?_
  clear i2
  rintro e w2 ⟨rfl, q2⟩
  have q2H : Hid (Quiet w w2) := (unhide q1H).trans q2
  clear q2 q1H
  go_wp2
  go_ret
  exact ⟨rfl, unhide q2H⟩
end Go.Proofs.Qxb6500366a
