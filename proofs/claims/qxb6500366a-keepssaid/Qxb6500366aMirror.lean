/-
  THE REAL TURTLE: Mirror. (gen6mirror.py)
-/
import Derived.Test.Qxb6500366aReset
namespace Go.Proofs.Qxb6500366a
open Go.RowKit Go.Qx
set_option linter.unusedVariables false
set_option linter.unusedSimpArgs false

def conjP (p : Pt) : Pt := (p.1, -p.2)
theorem conj_cw {a b : Nat} {p : Pt} (h : CW (.complex .f64 a b) p) : CW (.complex .f64 a (Op.negFloat .f64 b)) (conjP p) := by
  obtain ⟨a', b', e, A, B⟩ := h
  cases e
  exact ⟨_, _, rfl, A, w64_neg B⟩
theorem conj_small {p : Pt} (h : Small p) : Small (conjP p) := by
  obtain ⟨h1, h2, h3, h4⟩ := h
  unfold Small conjP
  simp only
  omega

/-- The first i turned over. -/
def mirTo (tr : List Pt) (i : Nat) (q : Nat) : Pt := if q < i then conjP (tr.getD q (0, 0)) else tr.getD q (0, 0)

structure Mir (w wr : World) (x tb mb : Nat) (vp vd : Value) (k : Int) (vl vh vo : Value) (tr : List Pt) (i : Nat) : Prop where
  chg : Chg (own x tb mb) w wr
  own : Blk wr x 48 (turC vp vd (.slice (some ⟨tb, 0, none⟩) tr.length 24) (.map (some mb)) k vl vh vo)
  row : ∃ cs, Blk wr tb 44 cs ∧ cs.length = 24 ∧ ∀ q, q < tr.length → ∃ v, cs[q]? = some v ∧ CW v (mirTo tr i q)

theorem Mir.next {w wr : World} {x tb mb : Nat} {vp vd : Value} {k : Int} {vl vh vo : Value} {tr : List Pt} {i : Nat} (h : Mir w wr x tb mb vp vd k vl vh vo tr i) (hxt : x ≠ tb) (hi : i < tr.length) (hf : tr.length ≤ 24) (m : Nat) {v : Value} (hv : CW v (conjP (tr.getD i (0, 0)))) : Mir w ((wr.drewN m).setCell ⟨tb, i, none⟩ v) x tb mb vp vd k vl vh vo tr (i + 1) := by
  obtain ⟨cs, B, hl, hr⟩ := h.row
  refine ⟨Chg.setCell (h.chg.drewN m) (p := ⟨tb, i, none⟩) (.inl (.inr (.inl rfl))) _, (h.own.drewN m).set_other (a := ⟨tb, i, none⟩) hxt _, cs.set i v, (B.drewN m).set i v, by simpa using hl, ?_⟩
  intro q hq
  by_cases e : q = i
  · subst e
    refine ⟨v, by rw [List.getElem?_set_self (by omega)], ?_⟩
    unfold mirTo
    rw [if_pos (by omega)]; exact hv
  · obtain ⟨u, h1, h2⟩ := hr q hq
    refine ⟨u, by rw [List.getElem?_set_ne (fun e' => e e'.symm)]; exact h1, ?_⟩
    unfold mirTo at h2 ⊢
    by_cases h3 : q < i
    · rw [if_pos h3] at h2; rw [if_pos (by omega)]; exact h2
    · rw [if_neg h3] at h2; rw [if_neg (by omega)]; exact h2

set_option maxRecDepth 100000 in
set_option maxHeartbeats 4000000 in
theorem mirror_any (w : World) (x tb mb : Nat) (tr : List Pt) (d : Pt) (R : Rep w x tb mb tr d) (I : Inv tr d) : Calls Try.prog 26 #[ptr x] w fun e w' => ∃ tb' mb', e = .returned (.tuple #[]) ∧ Chg (own x tb mb) w w' ∧ w.heap.size ≤ tb' ∧ w.heap.size ≤ mb' ∧ Rep w' x tb' mb' (tr.map conjP) (conjP d) := by
  obtain ⟨vp, vd, vl, vh, vo, h1, h2, h3, h4, h5, B⟩ := R.own
  obtain ⟨cs, BT, hcs, hrow⟩ := R.row
  have hxt := R.xt
  have h0 := I.one
  have few := I.few
  have y2 := B.cell 2
  simp [turC] at y2
  have M0 : Hid (Mir w w x tb mb vp vd (runOf tr).k vl vh vo tr 0) := ⟨Chg.refl _ _, B, cs, BT, hcs, fun q hq => by
    obtain ⟨v, hv, cv⟩ := hrow q hq
    refine ⟨v, hv, ?_⟩
    unfold mirTo
    rw [if_neg (by omega), List.getD_eq_getElem?_getD, List.getElem?_eq_getElem hq]; exact cv⟩
  have h2H := hide h2
  have smH := hide I.small
  have fH := hide (⟨hxt, h0, few⟩ : _ ∧ _ ∧ _)
  generalize (runOf tr).k = kk at *
  clear R I B BT h1 h2 h3 h4 h5 hrow hcs hxt h0 few
  unfold ptr
  go_enter Try.func26, Try.ntmps26
  go_wp2
  clear y2
  go_loopw [8] (fun z wr => ∃ i : Nat, i ≤ tr.length ∧ z = .int .i64 i ∧ Mir w wr x tb mb vp vd kk vl vh vo tr i) (fun z _ => tr.length + 1 - (intOf z).toNat)
  case atStart => exact ⟨0, by omega, rfl, unhide M0⟩
  case round =>
    clear M0
    obtain ⟨i, hi, rfl, M⟩ := hrel
    by_cases hlt : i < tr.length
    · have g1 : (i : Int) < (tr.length : Int) := by omega
      have i0 : (0 : Int) ≤ (i : Int) := by omega
      obtain ⟨cs, B, hl, hr⟩ := M.row
      obtain ⟨u, hu, cu⟩ := hr i hlt
      have cu' : CW u (tr.getD i (0, 0)) := by
        unfold mirTo at cu
        rw [if_neg (by omega)] at cu; exact cu
      have hc := (B.cell i).trans hu
      have fz := B.frozen i
      have y2 := M.own.cell 2
      simp [turC] at y2
      obtain ⟨ua, ub, rfl, U1, U2⟩ := cu'
      have hcj := fun W => conj_any W ua ub
      have few := (unhide fH).2.2
      have MN : Hid (∀ m, Mir w ((wr.drewN m).setCell ⟨tb, i, none⟩ (.complex .f64 ua (Op.negFloat .f64 ub))) x tb mb vp vd kk vl vh vo tr (i + 1)) := fun m => M.next (unhide fH).1 hlt (unhide fH).2.2 m (conj_cw ⟨ua, ub, rfl, U1, U2⟩)
      have lt5 : i + 1 < 1073741824 := by omega
      have hltH := hide hlt
      clear M B hr hu U1 U2 hl hi hlt few cu
      have wi : wrap64 ((i : Int) + 1) = (i : Int) + 1 := wrap_small (i + 1) lt5
      clear lt5
      generalize Op.negFloat .f64 ub = nb at *
      go_wp2
      refine wp_region_noPanic ?_
      try simp only [List.append_eq, List.cons_append, List.nil_append]
      refine wp_region_mix [(0, true), (1, true), (2, true), (3, true), (4, true), (5, true), (6, true), (7, true), (8, true), (9, true), (10, true), (11, true), (12, true), (13, true)] [14] (by kernel_rfl) (by kernel_rfl) (fun _ _ _ _ _ h => h) ?_
      simp only [pickM, pickO, List.getElem?_cons_zero, List.getElem?_cons_succ]
      repeat (first | (refine wpMix_read rfl (fun K hK => ?_)) | (refine wpMix_pure rfl (fun K hK => ?_))
              go_big_quiet_op
              first | (refine hK _ ?_; clear hK K) | (apply Exists.intro; refine ⟨fun _ => ?_, ?_⟩; (· (first | (go_at_call 44; exact Calls.quiet_of_same (hcj _)))); refine hK _ ?_; clear hK K))
      refine wpMix_nil ?_
      intro _ hw'
      obtain ⟨nq, hw''⟩ := hw'
      subst hw''
      go_wp2
      refine NoPanic.normal ?_
      go_wp2
      go_roundw
      case rel => exact ⟨i + 1, unhide hltH, by simp; try exact wi, unhide MN _⟩
      case measure =>
        have h := unhide hltH
        first
          | exact meas_plain h
          | exact meas_next h wi
    · have g1 : ¬ (i : Int) < (tr.length : Int) := by omega
      obtain rfl : i = tr.length := by omega
      obtain ⟨cs, B, hl, hr⟩ := M.row
      have h2 := unhide h2H
      obtain ⟨da, db, rfl, D1, D2⟩ := h2
      have y1 := M.own.cell 1
      have f1 := M.own.frozen 1
      have y2 := M.own.cell 2
      simp [turC] at y1 y2
      have hcj := hide (conj_any wr da db)
      have B1 := M.own.set 1 (.complex .f64 da (Op.negFloat .f64 db))
      have T1 := B.set_other (a := ⟨x, 1, none⟩) (Ne.symm (unhide fH).1) (.complex .f64 da (Op.negFloat .f64 db))
      have hag := hide (again_any (wr.setCell ⟨x, 1, none⟩ (.complex .f64 da (Op.negFloat .f64 db))) x tb 0 24 vp (.complex .f64 da (Op.negFloat .f64 db)) _ _ _ vl vh vo (tr.map conjP) (conjP d) B1 (conj_cw ⟨da, db, rfl, D1, D2⟩)
        (fun q hq => by
          rw [List.length_map] at hq
          obtain ⟨u, hu, cu⟩ := hr q hq
          refine ⟨u, ?_, ?_⟩
          · rw [Nat.zero_add]; exact (T1.cell q).trans hu
          · unfold mirTo at cu
            rw [if_pos hq, List.getD_eq_getElem?_getD, List.getElem?_eq_getElem hq] at cu
            rw [List.getElem_map]; exact cu)
        (Ne.symm (unhide fH).1) (by rw [List.length_map]; exact (unhide fH).2.1) (by rw [List.length_map]; exact (unhide fH).2.2)
        (by intro p hp; obtain ⟨q, hq, rfl⟩ := List.mem_map.1 hp; exact conj_small (unhide smH q hq)))
      unfold againPost ptr at hag
      rw [List.length_map] at hag
      have CH : Hid (Chg (own x tb mb) w (wr.setCell ⟨x, 1, none⟩ (.complex .f64 da (Op.negFloat .f64 db)))) := M.chg.setCell (p := ⟨x, 1, none⟩) (.inl (.inl rfl)) _
      have szH : Hid (w.heap.size ≤ (wr.setCell ⟨x, 1, none⟩ (.complex .f64 da (Op.negFloat .f64 db))).heap.size) := (unhide CH).size
      clear M B hl hr D1 D2 B1 T1 hi hlt h2H
      generalize Op.negFloat .f64 db = nb at *
      go_wp2_with fail
      refine (unhide hcj).mono ?_
      clear hcj
      rintro e w' ⟨rfl, hw'⟩
      subst hw'
      go_wp2_with fail
      refine (unhide hag).mono ?_
      clear hag
      rintro e w5 ⟨tb', mb', rfl, ch, ht, hm, R5⟩
      have fin : Hid (Chg (own x tb mb) w w5 ∧ w.heap.size ≤ tb' ∧ w.heap.size ≤ mb' ∧ Rep w5 x tb' mb' (tr.map conjP) (conjP d)) := ⟨(unhide CH).trans (ch.mono (fun k _ hk => .inl hk)), Nat.le_trans (unhide szH) ht, Nat.le_trans (unhide szH) hm, R5⟩
      clear ch ht hm R5
      go_wp2
      go_end0
      exact ⟨tb', mb', rfl, (unhide fin).1, (unhide fin).2.1, (unhide fin).2.2.1, (unhide fin).2.2.2⟩
end Go.Proofs.Qxb6500366a
