/-
  THE REAL TURTLE: Show, Reset. (gen6show.py)
-/
import Derived.Test.Qxb6500366aLook
namespace Go.Proofs.Qxb6500366a
open Go.RowKit Go.Qx
set_option linter.unusedVariables false
set_option linter.unusedSimpArgs false

def showTo (d : Pt) (tr : List Pt) : Nat → List UInt8
  | 0 => pairL d
  | i + 1 => showTo d tr i ++ pairL (tr.getD i (0, 0))
theorem showTo_len (d : Pt) (tr : List Pt) : ∀ i, (showTo d tr i).length ≤ 42 * (i + 1)
  | 0 => by have := pairL_len d; simp [showTo]; omega
  | i + 1 => by
    have h1 := showTo_len d tr i
    have h2 := pairL_len (tr.getD i (0, 0))
    simp only [showTo, List.length_append]
    omega

theorem Small.i64 {p : Pt} (h : Small p) : -9223372036854775808 ≤ p.1 ∧ p.1 ≤ 9223372036854775807 ∧ -9223372036854775808 ≤ p.2 ∧ p.2 ≤ 9223372036854775807 := by
  obtain ⟨h1, h2, h3, h4⟩ := h
  omega

set_option maxRecDepth 100000 in
set_option maxHeartbeats 4000000 in
theorem show_any (w : World) (x tb mb : Nat) (r : Run) (tr : List Pt) (d : Pt) (R : RepR w x tb mb r tr d) (hd : Small d) (hs : ∀ p ∈ tr, Small p) : Calls Try.prog 36 #[ptr x] w fun e w' => e = .returned (.string (str (showTo d tr tr.length))) ∧ Quiet w w' := by
  obtain ⟨vp, vd, vl, vh, vo, h1, h2, h3, h4, h5, B⟩ := R.own
  obtain ⟨cs, BT, hcs, hrow⟩ := R.row
  obtain ⟨a, b, rfl, A, Bb⟩ := h2
  have k1 := toInt_run A ⟨hd.i64.1, hd.i64.2.1⟩
  have k2 := toInt_run Bb ⟨hd.i64.2.2.1, hd.i64.2.2.2⟩
  have hpr := hide (fun W => pair_any W d hd.i64)
  have hc1 : ∀ q : QW w, q.w.cell? ⟨x, 1, none⟩ = some (.complex .f64 a b) := fun q => (QW.blk B q 1).trans rfl
  have few := R.few
  have BH := hide B
  have BTH := hide BT
  have rowH := hide hrow
  have hsH := hide hs
  have hS0 : Hid (showTo d tr 0 = pairL d) := rfl
  clear R B BT h1 h3 h4 h5 A Bb hrow hs hd
  generalize d.1 = D1 at *
  generalize d.2 = D2 at *
  unfold ptr
  go_enter Try.func36, Try.ntmps36
  go_wp2
  refine wp_region_noPanic ?_
  try simp only [List.append_eq, List.cons_append, List.nil_append]
  refine wp_region_mixq [(0, true), (1, true), (2, true), (3, true), (4, true), (5, true), (6, true), (7, true), (8, true), (9, true), (10, true), (11, true), (12, true), (13, true)] [] (by kernel_rfl) (by kernel_rfl) (fun _ _ _ _ _ h => h) ?_
  simp only [pickM, pickO, List.getElem?_cons_zero, List.getElem?_cons_succ]
  repeat (first | (refine wpMix_read rfl (fun K hK => ?_)) | (refine wpMix_pure rfl (fun K hK => ?_))
          go_big_quiet_op
          first | (refine hK _ ?_; clear hK K) | (apply Exists.intro; refine ⟨fun _ => ?_, ?_⟩; (· (first | (go_at_call 10; exact Calls.in_qw (unhide hpr _)))); refine hK _ ?_; clear hK K))
  refine wpMix_nil ?_
  intro _ hw'
  obtain ⟨qq, hw''⟩ := hw'
  subst hw''
  have hqq := qq.q
  generalize qq.w = wq at *
  have q1H := hide hqq
  clear hc1 k1 k2 hqq hpr
  have y2 := ((unhide q1H).blk (unhide BH)).cell 2
  simp [turC] at y2
  go_wp2
  refine NoPanic.normal ?_
  go_wp2
  go_loopw [3, 24] (fun s z wr => ∃ i : Nat, i ≤ tr.length ∧ z = .int .i64 i ∧ s = .string (str (showTo d tr i)) ∧ Quiet w wr) (fun _ z _ => tr.length + 1 - (intOf z).toNat)
  case atStart => exact ⟨0, by omega, rfl, by rw [unhide hS0], unhide q1H⟩
  case round =>
    clear q1H y2
    obtain ⟨i, hi, rfl, rfl, q⟩ := hrel
    by_cases hlt : i < tr.length
    · have g1 : (i : Int) < (tr.length : Int) := by omega
      have i0 : (0 : Int) ≤ (i : Int) := by omega
      obtain ⟨u, hu, cu⟩ := unhide rowH i hlt
      have hsm := unhide hsH _ (List.getElem_mem hlt)
      have hu2 := ((q.blk (unhide BTH)).cell i).trans hu
      obtain ⟨ua, ub, rfl, U1, U2⟩ := cu
      have k1 := toInt_run U1 ⟨hsm.i64.1, hsm.i64.2.1⟩
      have k2 := toInt_run U2 ⟨hsm.i64.2.2.1, hsm.i64.2.2.2⟩
      have hpr := hide (pair_any wr _ hsm.i64)
      have hgd : tr.getD i (0, 0) = tr[i] := by rw [List.getD_eq_getElem?_getD, List.getElem?_eq_getElem hlt]; rfl
      have hsuc : Hid (str (showTo d tr (i + 1)) = str (showTo d tr i) ++ str (pairL tr[i])) := by
        show _ = _
        rw [showTo, hgd, str_append]
      have hl1 := showTo_len d tr i
      have hl2 := pairL_len tr[i]
      have z1 : (str (showTo d tr i)).size ≤ 2000 := by rw [str_size]; omega
      have z2 : (str (pairL tr[i])).size ≤ 2000 := by rw [str_size]; omega
      have wi : wrap64 ((i : Int) + 1) = (i : Int) + 1 := wrap_small (i + 1) (by omega)
      have hltH := hide hlt
      have qH := hide q
      clear hl1 hl2 hgd hsm U1 U2 hu q hi
      generalize tr[i] = ti at *
      clear hlt
      generalize ti.1 = X at *
      generalize ti.2 = Y at *
      generalize str (showTo d tr i) = s1 at *
      generalize str (pairL ti) = s2 at *
      go_wp2_with fail
      refine (unhide hpr).mono ?_
      clear hpr k1 k2 hu2
      rintro e w3 ⟨rfl, q3⟩
      have q3H : Hid (Quiet w w3) := (unhide qH).trans q3
      clear q3 qH
      go_wp2
      go_roundw
      case rel => exact ⟨i + 1, unhide hltH, by simp; try exact wi, by rw [unhide hsuc], unhide q3H⟩
      case measure =>
        have h := unhide hltH
        first
          | exact meas_plain h
          | exact meas_next h wi
    · have g1 : ¬ (i : Int) < (tr.length : Int) := by omega
      obtain rfl : i = tr.length := by omega
      have qH := hide q
      clear q hlt hi
      go_wp2
      go_ret
      exact ⟨rfl, unhide qH⟩

end Go.Proofs.Qxb6500366a
