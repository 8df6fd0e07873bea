/-
  THE MODEL TURTLE: how it lies in memory; New, last, At, Heading, Unit, Undo, spin, Turn. (gen6mod.py)
-/
import Derived.Test.Qxb6500366aLaw
import Derived.Test.Qxb6500366aUndo
namespace Go.Proofs.Qxb6500366a
open Go.RowKit Go.Qx
set_option linter.unusedVariables false
set_option linter.unusedSimpArgs false

structure RepM (w : World) (m rb : Nat) (tr : List Pt) (d : Pt) : Prop where
  own : Blk w m 77 [.slice (some ⟨rb, 0, none⟩) tr.length 24, .int .i64 d.1, .int .i64 d.2]
  row : ∃ cs, Blk w rb 75 cs ∧ cs.length = 48 ∧ ∀ i (h : i < tr.length), cs[i * 2]? = some (.int .i64 tr[i].1) ∧ cs[i * 2 + 1]? = some (.int .i64 tr[i].2)
  few : tr.length ≤ 24
  ne : m ≠ rb

def ownM (m rb k : Nat) : Prop := k = m ∨ k = rb
def ptv (p : Pt) : Value := .agg #[.int .i64 p.1, .int .i64 p.2]

theorem RepM.of_chg {S : Nat → Prop} {w w' : World} {m rb : Nat} {tr : List Pt} {d : Pt} (h : RepM w m rb tr d) (c : Chg S w w') (hS : ∀ k, S k → ¬ ownM m rb k) : RepM w' m rb tr d := by
  obtain ⟨cs, B2, h6, h7⟩ := h.row
  exact ⟨c.blk h.own (fun k => hS _ k (.inl rfl)), ⟨cs, c.blk B2 (fun k => hS _ k (.inr rfl)), h6, h7⟩, h.few, h.ne⟩
theorem RepM.quiet {w w' : World} {m rb : Nat} {tr : List Pt} {d : Pt} (h : RepM w m rb tr d) (c : Quiet w w') : RepM w' m rb tr d := h.of_chg c (fun _ f => f.elim)
theorem RepM.at {w : World} {m rb : Nat} {tr : List Pt} {d : Pt} (h : RepM w m rb tr d) (i : Nat) (hi : i < tr.length) : w.cell? ⟨rb, i * 2, none⟩ = some (.int .i64 tr[i].1) ∧ w.cell? ⟨rb, i * 2 + 1, none⟩ = some (.int .i64 tr[i].2) := by
  obtain ⟨cs, B2, h6, h7⟩ := h.row
  exact ⟨(B2.cell _).trans (h7 i hi).1, (B2.cell _).trans (h7 i hi).2⟩

theorem und73 : Try.prog.underlying 73 = some (.slice 75) := by kernel_rfl
theorem info75 : (Try.prog.info? 75).map (fun i => (i.zero, i.size, i.bytes)) = some (some (.agg #[.int .i64 0, .int .i64 0]), 2, 16) := by kernel_rfl
theorem made75 : madeCells (Value.agg #[Value.int .i64 0, Value.int .i64 0]).cells (24 * 2) = (List.replicate 48 (Value.int .i64 0)).toArray := by kernel_rfl
theorem make73 (W : World) : ∃ F : Array Value, (Instr.makeSlice 73 (.int .i64 1) (.int .i64 24)).run Try.prog W = .ok (.slice (some ⟨W.heap.size, 0, none⟩) 1 24) (W.alloc (.cells F 75)) ∧ F.toList.length = 48 ∧ F.toList[0]? = some (.int .i64 0) ∧ F.toList[1]? = some (.int .i64 0) := by
  obtain ⟨i, hi, hz0, hz1, hz2⟩ := info_parts info75
  have := run_make (P := Try.prog) W 73 75 i _ und73 hi hz0 .i64 .i64 1 24 (by omega) (by omega) (by rw [hz2]; omega) (by omega)
  rw [hz1, show Int.toNat 24 * 2 = 24 * 2 from rfl, made75] at this
  exact ⟨_, this, rfl, rfl, rfl⟩

def newMPost (w : World) (e : Ending) (w' : World) : Prop := ∃ m rb, e = .returned (.pointer (some ⟨m, 0, none⟩)) ∧ Quiet w w' ∧ (∀ k, ownM m rb k → w.heap.size ≤ k) ∧ RepM w' m rb [(0, 0)] (1, 0)

theorem newM_any (w : World) : Calls Try.prog 40 #[] w (newMPost w) := by
  obtain ⟨F, hmk, hF, hF0, hF1⟩ := make73 w
  have hFH := hide (⟨hF, hF0, hF1⟩ : _ ∧ _ ∧ _)
  clear hF hF0 hF1
  go_enter Try.func40, Try.ntmps40
  go_wp2
  go_ret
  obtain ⟨hF, hF0, hF1⟩ := unhide hFH
  refine ⟨w.heap.size + 1, w.heap.size, by simp, Chg.alloc (Chg.alloc (Chg.refl (fun _ => False) w) _) _, ?_, ?_, ?_, by simp, by omega⟩
  · rintro k (rfl | rfl) <;> omega
  · have hb := Blk.new (w.alloc (.cells F 75)) 77 [.slice (some ⟨w.heap.size, 0, none⟩) 1 24, .int .i64 1, .int .i64 0]
    rw [show (w.alloc (.cells F 75)).heap.size = w.heap.size + 1 by simp] at hb
    exact hb
  · have hb := Blk.new w 75 F.toList
    rw [Array.toArray_toList] at hb
    refine ⟨F.toList, hb.alloc _, hF, fun i hi => ?_⟩
    have e : i = 0 := by simp at hi; omega
    subst e
    exact ⟨hF0, hF1⟩

set_option maxHeartbeats 1000000 in
theorem last_any (w : World) (m rb : Nat) (tr : List Pt) (d : Pt) (R : RepM w m rb tr d) (h0 : 0 < tr.length) : Calls Try.prog 62 #[ptr m] w fun e w' => e = .returned (ptv tr[tr.length - 1]) ∧ Quiet w w' := by
  have few := R.few
  obtain ⟨r0, r1⟩ := R.at (tr.length - 1) (by omega)
  have c0 := R.own.cell 0
  simp at c0
  obtain ⟨b, hb⟩ : ∃ b, tr.length - 1 = b := ⟨_, rfl⟩
  have v5 : wrap64 ((tr.length : Int) - 1) = (b : Int) := by unfold wrap64; omega
  have v6 : IntKind.i64.wrap ((tr.length : Int) - 1) = (b : Int) := by rw [IntKind.wrap_i64]; omega
  have g4 : (b : Int) < (tr.length : Int) := by omega
  have g3 : (0 : Int) ≤ (b : Int) := by omega
  have qH : Hid (Quiet w (w.alloc (.cells #[.int .i64 0, .int .i64 0] 75))) := Chg.alloc (Chg.refl (fun _ => False) w) _
  have BH : Hid (Blk (w.alloc (.cells #[.int .i64 0, .int .i64 0] 75)) w.heap.size 75 [.int .i64 0, .int .i64 0]) := Blk.new w 75 [.int .i64 0, .int .i64 0]
  obtain ⟨W1, hW1⟩ : ∃ W, (w.alloc (.cells #[.int .i64 0, .int .i64 0] 75)) = W := ⟨_, rfl⟩
  rw [hW1] at qH BH
  unfold ptv ptr
  generalize tr[tr.length - 1] = p at *
  rw [hb] at r0 r1
  replace r0 := Quiet.cell (unhide qH) r0
  replace r1 := Quiet.cell (unhide qH) r1
  replace c0 := Quiet.cell (unhide qH) c0
  have y0 := (unhide BH).cell 0
  have y1 := (unhide BH).cell 1
  have f0 := (unhide BH).frozen 0
  have f1 := (unhide BH).frozen 1
  simp at y0 y1
  clear R few h0
  have hbH := hide hb
  clear hb
  go_enter Try.func62, Try.ntmps62
  go_wp2
  refine wp_region_noPanic ?_
  try simp only [List.append_eq, List.cons_append, List.nil_append]
  refine wp_region_mix [(0, true), (1, true), (2, true), (3, true), (4, true), (5, true), (6, true), (7, true), (8, true), (9, true), (10, true), (11, true)] [12] (by kernel_rfl) (by kernel_rfl) (fun _ _ _ _ _ h => h) ?_
  simp only [pickM, pickO, List.getElem?_cons_zero, List.getElem?_cons_succ]
  repeat (first | (refine wpMix_read rfl (fun K hK => ?_)) | (refine wpMix_pure rfl (fun K hK => ?_))
          go_big_quiet_op
          first | (refine hK _ ?_; clear hK K))
  refine wpMix_nil ?_
  intro _ hw'
  obtain ⟨nq, hw''⟩ := hw'
  subst hw''
  go_wp2
  refine NoPanic.normal ?_
  go_wp2
  refine bodyPost_ret (v := .agg #[.int .i64 p.1, .int .i64 p.2]) (results_blk (u := 75) (cs := [.int .i64 p.1, .int .i64 p.2]) Try.results62 rfl Try.isAgg75 Try.sizeOf75 ((((unhide BH).drewN nq).set 0 _).set 1 _)) rfl ⟨rfl, ?_⟩
  exact (((unhide qH).drewN nq).setCell (p := ⟨w.heap.size, 0, none⟩) (.inr (Nat.le_refl _)) _).setCell (p := ⟨w.heap.size, 1, none⟩) (.inr (Nat.le_refl _)) _

set_option maxHeartbeats 1000000 in
theorem atM_any (w : World) (m rb : Nat) (tr : List Pt) (d : Pt) (R : RepM w m rb tr d) (h0 : 0 < tr.length) : Calls Try.prog 48 #[ptr m] w fun e w' => e = .returned (.tuple #[.int .i64 tr[tr.length - 1].1, .int .i64 tr[tr.length - 1].2]) ∧ Quiet w w' := by
  have few := R.few
  obtain ⟨r0, r1⟩ := R.at (tr.length - 1) (by omega)
  have c0 := R.own.cell 0
  simp at c0
  obtain ⟨b, hb⟩ : ∃ b, tr.length - 1 = b := ⟨_, rfl⟩
  have v5 : wrap64 ((tr.length : Int) - 1) = (b : Int) := by unfold wrap64; omega
  have v6 : IntKind.i64.wrap ((tr.length : Int) - 1) = (b : Int) := by rw [IntKind.wrap_i64]; omega
  have g4 : (b : Int) < (tr.length : Int) := by omega
  have g3 : (0 : Int) ≤ (b : Int) := by omega
  generalize tr[tr.length - 1] = p at *
  rw [hb] at r0 r1
  clear R few h0 hb
  unfold ptr
  go_enter Try.func48, Try.ntmps48
  go_wp2
  go_quiet (fail)
  go_wp2
  go_ret2
  exact ⟨rfl, (Chg.refl _ _).drewN _⟩

set_option maxHeartbeats 1000000 in
theorem headM_any (w : World) (m rb : Nat) (tr : List Pt) (d : Pt) (R : RepM w m rb tr d) : Calls Try.prog 54 #[ptr m] w fun e w' => e = .returned (.tuple #[.int .i64 d.1, .int .i64 d.2]) ∧ Quiet w w' := by
  have c1 := R.own.cell 1
  have c2 := R.own.cell 2
  simp at c1 c2
  clear R
  unfold ptr
  go_enter Try.func54, Try.ntmps54
  go_wp2
  go_quiet (fail)
  go_wp2
  go_ret2
  exact ⟨rfl, (Chg.refl _ _).drewN _⟩

theorem unit_any (w : World) (d : Pt) (h : d = (1, 0) ∨ d = (0, 1) ∨ d = (-1, 0) ∨ d = (0, -1)) : Calls Try.prog 65 #[.int .i64 d.1, .int .i64 d.2] w fun e w' => e = .returned (.bool true) ∧ w' = w := by
  rcases h with rfl | rfl | rfl | rfl
  all_goals
    go_enter Try.func65, Try.ntmps65
    go_wp2
    go_ret
    exact ⟨rfl, rfl⟩

def errPostM (w : World) (m rb : Nat) (tr : List Pt) (d : Pt) (E : Int) (e : Ending) (w' : World) : Prop := e = .returned (.int .i64 E) ∧ Chg (ownM m rb) w w' ∧ RepM w' m rb tr d

set_option maxHeartbeats 1000000 in
theorem undoM_any (w : World) (m rb : Nat) (tr : List Pt) (d : Pt) (R : RepM w m rb tr d) : Calls Try.prog 52 #[ptr m] w (errPostM w m rb (unT tr) d (unE tr)) := by
  have few := R.few
  have RH := hide R
  have c0 := R.own.cell 0
  have f0 := R.own.frozen 0
  simp at c0
  unfold unE unT
  by_cases h : tr.length < 2
  · rw [if_pos h, if_pos h]
    have g1 : (tr.length : Int) < 2 := by omega
    clear R few h
    unfold ptr errPostM
    go_enter Try.func52, Try.ntmps52
    go_wp2
    go_ret
    exact ⟨rfl, Chg.refl _ _, unhide RH⟩
  · rw [if_neg h, if_neg h]
    obtain ⟨b, hb⟩ : ∃ b, tr.length - 1 = b := ⟨_, rfl⟩
    have v5 : wrap64 ((tr.length : Int) - 1) = (b : Int) := by unfold wrap64; omega
    have v6 : IntKind.i64.wrap ((tr.length : Int) - 1) = (b : Int) := by rw [IntKind.wrap_i64]; omega
    have g1 : ¬ (tr.length : Int) < 2 := by omega
    have g3 : (0 : Int) ≤ (b : Int) := by omega
    have g4 : (b : Int) ≤ 24 := by omega
    have g5 : b ≤ 24 := by omega
    have g6 : ¬ 24 = b := by omega
    have fin : Hid (∀ n, Chg (ownM m rb) w ((w.drewN n).setCell ⟨m, 0, none⟩ (.slice (some ⟨rb, 0, none⟩) b 24)) ∧ RepM ((w.drewN n).setCell ⟨m, 0, none⟩ (.slice (some ⟨rb, 0, none⟩) b 24)) m rb tr.dropLast d) := fun n => by
      have hl : tr.dropLast.length = b := by rw [List.length_dropLast]; exact hb
      have cS : Chg (fun k => k = m) w ((w.drewN n).setCell ⟨m, 0, none⟩ (.slice (some ⟨rb, 0, none⟩) b 24)) := ((Chg.refl (fun k => k = m) w).drewN n).setCell (p := ⟨m, 0, none⟩) (.inl rfl) _
      obtain ⟨cs, B2, h6, h7⟩ := R.row
      refine ⟨cS.mono (fun k _ hk => .inl hk), ?_, ⟨cs, cS.blk B2 (fun e => R.ne e.symm), h6, ?_⟩, by omega, R.ne⟩
      · rw [hl]; exact (R.own.drewN n).set 0 _
      · intro i hi
        have hi' : i < tr.length := by omega
        rw [List.getElem_dropLast]
        exact h7 i hi'
    clear R few h hb RH
    unfold ptr errPostM
    go_enter Try.func52, Try.ntmps52
    go_wp2
    refine wp_region_noPanic ?_
    try simp only [List.append_eq, List.cons_append, List.nil_append]
    refine wp_region_mix [(0, true), (1, true), (2, true), (3, true), (4, true), (5, true), (6, true), (7, true), (8, true), (9, true), (10, true), (11, true), (12, true), (13, true)] [14] (by kernel_rfl) (by kernel_rfl) (fun _ _ _ _ _ h => h) ?_
    simp only [pickM, pickO, List.getElem?_cons_zero, List.getElem?_cons_succ]
    repeat (first | (refine wpMix_read rfl (fun K hK => ?_)) | (refine wpMix_pure rfl (fun K hK => ?_))
            go_big_quiet_op
            first | (refine hK _ ?_; clear hK K))
    refine wpMix_nil ?_
    intro _ hw'
    obtain ⟨nq, hw''⟩ := hw'
    subst hw''
    go_wp2
    refine NoPanic.normal ?_
    go_wp2
    go_ret
    exact ⟨rfl, unhide fin _⟩

theorem small_quart {d : Pt} (h : Small d) : ∀ j, Small (quart d j)
  | 0 => h
  | j + 1 => by
    obtain ⟨h1, h2, h3, h4⟩ := small_quart h j
    unfold Small quart
    simp only
    omega
theorem meas_down {j : Nat} (h : 0 < j) : (intOf (.int .i64 ((j - 1 : Nat) : Int))).toNat < (intOf (.int .i64 (j : Int))).toNat := by
  show ((j - 1 : Nat) : Int).toNat < (j : Int).toNat
  omega

set_option maxHeartbeats 2000000 in
theorem spin_any (w : World) (d : Pt) (hd : Small d) (k : Int) : Calls Try.prog 63 #[ptv d, .int .i64 k] w fun e w' => e = .returned (ptv (quart d (modP k))) ∧ Quiet w w' := by
  obtain ⟨hm, hlt⟩ := modP_spec k
  have hb : -4 < k.tmod 4 ∧ k.tmod 4 < 4 := by
    have h1 := Int.lt_tmod_of_pos k (show (0 : Int) < 4 by decide)
    have h2 := Int.tmod_lt_of_pos k (show (0 : Int) < 4 by decide)
    omega
  have w1 : wrap64 (k.tmod 4 + 4) = k.tmod 4 + 4 := by unfold wrap64; omega
  have w2 : wrap64 (k.tmod 4) = k.tmod 4 := by unfold wrap64; omega
  generalize modP k = r at *
  have w3 : wrap64 (r : Int) = (r : Int) := wrap_small r (by omega)
  have q0 : Hid (Quiet w ((w.alloc (.cells #[.int .i64 d.1, .int .i64 d.2] 75)).alloc (.cells #[.int .i64 0, .int .i64 0] 75))) := Chg.alloc (Chg.alloc (Chg.refl (fun _ => False) w) _) _
  have B0 : Hid (Blk ((w.alloc (.cells #[.int .i64 d.1, .int .i64 d.2] 75)).alloc (.cells #[.int .i64 0, .int .i64 0] 75)) w.heap.size 75 [.int .i64 d.1, .int .i64 d.2]) := (Blk.new w 75 [.int .i64 d.1, .int .i64 d.2]).alloc _
  have Z0 : Hid (Blk ((w.alloc (.cells #[.int .i64 d.1, .int .i64 d.2] 75)).alloc (.cells #[.int .i64 0, .int .i64 0] 75)) (w.heap.size + 1) 75 [.int .i64 0, .int .i64 0]) := by
    have h := Blk.new (w.alloc (.cells #[.int .i64 d.1, .int .i64 d.2] 75)) 75 [.int .i64 0, .int .i64 0]
    rw [show (w.alloc (.cells #[.int .i64 d.1, .int .i64 d.2] 75)).heap.size = w.heap.size + 1 by simp] at h
    exact h
  have dH := hide hd
  have rH := hide hlt
  clear hd hb hlt
  unfold ptv
  go_enter Try.func63, Try.ntmps63
  go_wp2
  generalize (w.alloc (.cells #[.int .i64 d.1, .int .i64 d.2] 75)).alloc (.cells #[.int .i64 0, .int .i64 0] 75) = W0 at *
  clear hm w1 w2 w3
  go_loopw [5] (fun z wr => ∃ j : Nat, j ≤ r ∧ z = .int .i64 (j : Int) ∧ Quiet w wr ∧ Blk wr w.heap.size 75 [.int .i64 (quart d (r - j)).1, .int .i64 (quart d (r - j)).2] ∧ Blk wr (w.heap.size + 1) 75 [.int .i64 0, .int .i64 0]) (fun z _ => (intOf z).toNat)
  case atStart => exact ⟨r, Nat.le_refl _, rfl, unhide q0, by rw [Nat.sub_self]; exact unhide B0, unhide Z0⟩
  case round =>
    clear q0 B0 Z0
    obtain ⟨j, hj, rfl, Q, B, Z⟩ := hrel
    by_cases hlt : 0 < j
    · have g1 : (0 : Int) < (j : Int) := by omega
      have c0 := B.cell 0
      have c1 := B.cell 1
      have f0 := B.frozen 0
      have f1 := B.frozen 1
      simp at c0 c1
      have sm := small_quart (unhide dH) (r - j)
      obtain ⟨s1, s2, s3, s4⟩ := sm
      have e1 : (quart d (r - (j - 1))).1 = -(quart d (r - j)).2 ∧ (quart d (r - (j - 1))).2 = (quart d (r - j)).1 := by
        rw [show r - (j - 1) = (r - j) + 1 by omega]; exact ⟨rfl, rfl⟩
      have e1H := hide e1
      have n1 : wrap64 (-(quart d (r - j)).2) = -(quart d (r - j)).2 := by unfold wrap64; omega
      have r4 := unhide rH
      have n2 : wrap64 ((j : Int) - 1) = ((j - 1 : Nat) : Int) := by unfold wrap64; omega
      have QH := hide Q
      have BH := hide B
      have ZH := hide Z
      have hltH := hide hlt
      have hjH := hide hj
      clear Q B Z s1 s2 s3 s4 e1 r4 hj hlt
      generalize (quart d (r - j)).1 = X at *
      generalize (quart d (r - j)).2 = Y at *
      go_wp2
      go_roundw
      case rel =>
        have hj := unhide hjH
        refine ⟨j - 1, by omega, by first | rfl | (rw [n2]) | simp, ((unhide QH).setCell (p := ⟨w.heap.size, 0, none⟩) (.inr (Nat.le_refl _)) _).setCell (p := ⟨w.heap.size, 1, none⟩) (.inr (Nat.le_refl _)) _, ?_, ?_⟩
        · rw [(unhide e1H).1, (unhide e1H).2]
          exact ((unhide BH).set 0 _).set 1 _
        · exact ((unhide ZH).set_other (a := ⟨w.heap.size, 0, none⟩) (by simp) _).set_other (a := ⟨w.heap.size, 1, none⟩) (by simp) _
      case measure =>
        have h := unhide hltH
        first
          | exact meas_down h
          | (rw [n2]; exact meas_down h)
    · have g1 : ¬ (0 : Int) < (j : Int) := by omega
      obtain rfl : j = 0 := by omega
      rw [Nat.sub_zero] at B
      have c0 := B.cell 0
      have c1 := B.cell 1
      have z0 := Z.cell 0
      have z1 := Z.cell 1
      have f0 := Z.frozen 0
      have f1 := Z.frozen 1
      simp at c0 c1 z0 z1
      have QH := hide Q
      have ZH := hide Z
      clear Q B Z hlt hj
      generalize hX : (quart d r).1 = X at *
      generalize hY : (quart d r).2 = Y at *
      have hXH := hide hX
      have hYH := hide hY
      clear hX hY
      go_wp2
      refine bodyPost_ret (v := .agg #[.int .i64 X, .int .i64 Y]) (results_blk (u := 75) (cs := [.int .i64 X, .int .i64 Y]) Try.results63 rfl Try.isAgg75 Try.sizeOf75 (((unhide ZH).set 0 _).set 1 _)) rfl ⟨by rw [unhide hXH, unhide hYH], ?_⟩
      exact ((unhide QH).setCell (p := ⟨w.heap.size + 1, 0, none⟩) (.inr (Nat.le_succ _)) _).setCell (p := ⟨w.heap.size + 1, 1, none⟩) (.inr (Nat.le_succ _)) _

def voidPostM (w : World) (m rb : Nat) (tr : List Pt) (d : Pt) (e : Ending) (w' : World) : Prop := e = .returned (.tuple #[]) ∧ Chg (ownM m rb) w w' ∧ RepM w' m rb tr d

set_option maxHeartbeats 1000000 in
theorem turnM_any (w : World) (m rb : Nat) (tr : List Pt) (d : Pt) (R : RepM w m rb tr d) (hd : Small d) (k : Int) : Calls Try.prog 50 #[ptr m, .int .i64 k] w (voidPostM w m rb tr (quart d (modP k))) := by
  have RH := hide R
  have c1 := R.own.cell 1
  have c2 := R.own.cell 2
  simp at c1 c2
  have hs := hide (spin_any w d hd k)
  unfold ptv at hs
  unfold ptr voidPostM
  generalize quart d (modP k) = q at *
  clear R hd
  go_enter Try.func50, Try.ntmps50
  go_wp2_with fail
  refine (unhide hs).mono ?_
  clear hs c1 c2
  rintro e w1 ⟨rfl, Q⟩
  have R1 := (unhide RH).quiet Q
  have c1 := R1.own.cell 1
  have c2 := R1.own.cell 2
  have f1 := R1.own.frozen 1
  have f2 := R1.own.frozen 2
  simp at c1 c2
  have fin : Hid (Chg (ownM m rb) w ((w1.setCell ⟨m, 1, none⟩ (.int .i64 q.1)).setCell ⟨m, 2, none⟩ (.int .i64 q.2)) ∧ RepM ((w1.setCell ⟨m, 1, none⟩ (.int .i64 q.1)).setCell ⟨m, 2, none⟩ (.int .i64 q.2)) m rb tr q) := by
    have cS : Chg (fun k => k = m) w1 ((w1.setCell ⟨m, 1, none⟩ (.int .i64 q.1)).setCell ⟨m, 2, none⟩ (.int .i64 q.2)) := ((Chg.refl (fun k => k = m) w1).setCell (p := ⟨m, 1, none⟩) (.inl rfl) _).setCell (p := ⟨m, 2, none⟩) (.inl rfl) _
    obtain ⟨cs, B2, h6, h7⟩ := R1.row
    exact ⟨Chg.trans (Quiet.chg Q _) (cS.mono (fun k _ hk => .inl hk)), (R1.own.set 1 _).set 2 _, ⟨cs, cS.blk B2 (fun e => R1.ne e.symm), h6, h7⟩, R1.few, R1.ne⟩
  clear R1 Q RH
  go_wp2
  go_end0
  exact ⟨rfl, unhide fin⟩
end Go.Proofs.Qxb6500366a
