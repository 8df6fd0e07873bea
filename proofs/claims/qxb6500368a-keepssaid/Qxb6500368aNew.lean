/-
  THE REAL BENCH: what it stands for; New. (gen8new.py)
-/
import Derived.Test.Qxb6500368aTr
namespace Go.Proofs.Qxb6500368a
open Go.RowKit Go.Qx
set_option linter.unusedVariables false
set_option linter.unusedSimpArgs false

/-- The real bench at x, its coefficients at v. -/
structure Rep (w : World) (x v : Nat) (c : Nat → Int) (n : Nat → Nat) (wk : Nat) : Prop where
  own : Blk w x 47 (tabC v (fun r => (n r : Int)) wk)
  row : Blk w v 42 (ints .u64 c 48)
  xv : x ≠ v

def own (x v k : Nat) : Prop := k = x ∨ k = v

theorem Rep.of_chg {S : Nat → Prop} {w w' : World} {x v : Nat} {c : Nat → Int} {n : Nat → Nat} {wk : Nat} (h : Rep w x v c n wk) (ch : Chg S w w') (hS : ∀ k, S k → ¬ Qxb6500368a.own x v k) : Rep w' x v c n wk :=
  ⟨ch.blk h.own (fun k => hS _ k (.inl rfl)), ch.blk h.row (fun k => hS _ k (.inr rfl)), h.xv⟩
theorem Rep.quiet {w w' : World} {x v : Nat} {c : Nat → Int} {n : Nat → Nat} {wk : Nat} (h : Rep w x v c n wk) (q : Quiet w w') : Rep w' x v c n wk := h.of_chg q (fun _ f => f.elim)
theorem Rep.lts {w : World} {x v : Nat} {c : Nat → Int} {n : Nat → Nat} {wk : Nat} (h : Rep w x v c n wk) : ∀ k, Qxb6500368a.own x v k → k < w.heap.size := by
  rintro k (rfl | rfl)
  · exact h.own.lt
  · exact h.row.lt

structure Inv (c : Nat → Int) (n : Nat → Nat) (wk : Nat) : Prop where
  c : ∀ i, i < 48 → 0 ≤ c i ∧ c i < pP
  n : ∀ r, r < 3 → n r ≤ 16
  wk : wk ≤ 1000

/-- The first j of a table. -/
def cutT (T : Nat → Int) (j : Nat) : Nat → Int := fun r => if r < j then T r else 0
theorem cutT_next (T : Nat → Int) (j : Nat) : updF (cutT T j) j (T j) = cutT T (j + 1) := by
  funext r
  unfold updF cutT
  by_cases h : r = j
  · subst h; simp
  · rw [if_neg h]
    by_cases h2 : r < j
    · rw [if_pos h2, if_pos (by omega)]
    · rw [if_neg h2, if_neg (by omega)]
theorem cutT_at (T : Nat → Int) {j r : Nat} (h : r < j) : cutT T j r = T r := by simp [cutT, h]

theorem bench_congr (v : Nat) (n n' rt rt' it it' nv nv' : Nat → Int) (wk : Int) (h0 : ∀ r, r < 3 → n r = n' r) (h1 : ∀ r, r < 8 → rt r = rt' r) (h2 : ∀ r, r < 8 → it r = it' r) (h3 : ∀ r, r < 5 → nv r = nv' r) : benchC v n rt it nv wk = benchC v n' rt' it' nv' wk := by
  unfold benchC
  simp only [h0 0 (by decide), h0 1 (by decide), h0 2 (by decide), h1 0 (by decide), h1 1 (by decide), h1 2 (by decide), h1 3 (by decide), h1 4 (by decide), h1 5 (by decide), h1 6 (by decide), h1 7 (by decide),
    h2 0 (by decide), h2 1 (by decide), h2 2 (by decide), h2 3 (by decide), h2 4 (by decide), h2 5 (by decide), h2 6 (by decide), h2 7 (by decide), h3 0 (by decide), h3 1 (by decide), h3 2 (by decide), h3 3 (by decide), h3 4 (by decide)]

theorem info42 : (Try.prog.info? 42).map (fun i => (i.zero, i.size, i.bytes)) = some (some (.int .u64 0), 1, 8) := by kernel_rfl
theorem made48 : madeCells (Value.int .u64 0).cells (48 * 1) = (ints .u64 (fun _ => 0) 48).toArray := by kernel_rfl

theorem make41 (W : World) : (Instr.makeSlice 41 (.int .i64 48) (.int .i64 48)).run Try.prog W = .ok (.slice (some ⟨W.heap.size, 0, none⟩) 48 48) (W.alloc (.cells (ints .u64 (fun _ => 0) 48).toArray 42)) := by
  obtain ⟨i, hi, hz0, hz1, hz2⟩ := info_parts info42
  have := run_make (P := Try.prog) W 41 42 i _ Try.underlying41 hi hz0 .i64 .i64 48 48 (by omega) (by omega) (by rw [hz2]; omega) (by omega)
  rw [hz1] at this
  rw [this]
  exact congrArg (fun x => Result.ok _ (W.alloc (.cells x 42))) made48

theorem sq_w : sqP 31 1 3 62390272 = w16 := by decide +kernel
theorem sq_iw : sqP 31 1 w16 998244351 = iw16 := by decide +kernel
theorem w_in : 0 ≤ w16 ∧ w16 < pP := by decide
theorem iw_in : 0 ≤ iw16 ∧ iw16 < pP := by decide

def newPost (w : World) (e : Ending) (w' : World) : Prop := ∃ x v, e = .returned (.pointer (some ⟨x, 0, none⟩)) ∧ Quiet w w' ∧ (∀ k, own x v k → w.heap.size ≤ k) ∧ Rep w' x v (fun _ => 0) (fun _ => 0) 0

set_option maxRecDepth 100000 in
set_option maxHeartbeats 4000000 in
theorem new_any (w : World) : Calls Try.prog 9 #[] w (newPost w) := by
  have hm := make41
  generalize hF : (ints .u64 (fun _ => 0) 48).toArray = F at hm
  have hFH := hide hF
  clear hF
  have B0 : Hid (Blk ((w.alloc (.cells F 42)).alloc (.cells (benchC w.heap.size (fun _ => 0) (cutT rootT 1) (cutT irootT 1) (cutT ninvT 1) 0).toArray 47)) (w.heap.size + 1) 47 (benchC w.heap.size (fun _ => 0) (cutT rootT 1) (cutT irootT 1) (cutT ninvT 1) ((0 : Nat) : Int))) := Blk.at_new (by simp)
  have V0 : Hid (Blk ((w.alloc (.cells F 42)).alloc (.cells (benchC w.heap.size (fun _ => 0) (cutT rootT 1) (cutT irootT 1) (cutT ninvT 1) 0).toArray 47)) w.heap.size 42 (ints .u64 (fun _ => 0) 48)) := by
    rw [← unhide hFH]; exact (Blk.new w 42 _).alloc _
  have Q0 : Hid (Quiet w ((w.alloc (.cells F 42)).alloc (.cells (benchC w.heap.size (fun _ => 0) (cutT rootT 1) (cutT irootT 1) (cutT ninvT 1) 0).toArray 47))) := ((Chg.refl _ _).alloc _).alloc _
  go_enter Try.func9, Try.ntmps9
  go_wp2_with fail
  refine (rpow_any _ (w.heap.size + 1) w.heap.size (fun _ => 0) (cutT rootT 1) (cutT irootT 1) (cutT ninvT 1) 0 (unhide B0) (by omega) 3 62390272 (by decide) (by decide)).mono ?_
  rintro e w1 ⟨rfl, ch1, wk1, hwk1, B1⟩
  rw [sq_w]
  have hp2 := hide (rpow_any w1 (w.heap.size + 1) w.heap.size (fun _ => 0) (cutT rootT 1) (cutT irootT 1) (cutT ninvT 1) wk1 B1 (by omega) w16 998244351 w_in (by decide))
  rw [sq_iw] at hp2
  have V1 := hide (ch1.blk (unhide V0) (by omega))
  have Q1 : Hid (Quiet w w1) := (unhide Q0).trans' ch1 (fun i hi h => by omega)
  unfold ptr at hp2
  clear ch1 B1 B0 V0 Q0
  generalize hW16 : w16 = W16 at *
  have hW16H := hide hW16
  clear hW16
  go_wp2_with fail
  refine (unhide hp2).mono ?_
  clear hp2
  rintro e w2 ⟨rfl, ch2, wk2, hwk2, B2⟩
  have V2 := hide (ch2.blk (unhide V1) (by omega))
  have Q2 : Hid (Quiet w w2) := (unhide Q1).trans' ch2 (fun i hi h => by omega)
  have B2H := hide B2
  clear ch2 V1 Q1 B2
  generalize hI16 : iw16 = I16 at *
  have hI16H := hide hI16
  clear hI16
  go_wp2
  go_loopw [4] (fun z wr => ∃ (j wk : Nat), 1 ≤ j ∧ j ≤ 8 ∧ z = .int .i64 j ∧ wk ≤ 200 + 2 * j ∧ Quiet w wr ∧ Blk wr w.heap.size 42 (ints .u64 (fun _ => 0) 48) ∧ Blk wr (w.heap.size + 1) 47 (benchC w.heap.size (fun _ => 0) (cutT rootT j) (cutT irootT j) (cutT ninvT 1) wk)) (fun z _ => 9 - (intOf z).toNat)
  case atStart => exact ⟨1, wk2, by omega, by omega, rfl, by omega, unhide Q2, unhide V2, unhide B2H⟩
  case round =>
    obtain ⟨j, wk, hj1, hj8, rfl, hwk, q, V, B⟩ := hrel
    clear Q2 V2 B2H
    by_cases hlt : j < 8
    · have g1 : (j : Int) < 8 := by omega
      obtain ⟨i, hi⟩ : ∃ i : Nat, j = i + 1 := ⟨j - 1, by omega⟩
      have ei : (j : Int) - 1 = (i : Int) := by omega
      have i0 : (0 : Int) ≤ (i : Int) := by omega
      have i8 : (i : Int) < 8 := by omega
      have j0 : (0 : Int) ≤ (j : Int) := by omega
      have er : rootT j = rootT i * W16 % pP := by rw [hi, ← unhide hW16H]; rfl
      have ei2 : irootT j = irootT i * I16 % pP := by rw [hi, ← unhide hI16H]; rfl
      have c1 := (B.cell (4 + i)).trans (bench_rt w.heap.size (fun _ => 0) (cutT rootT j) (cutT irootT j) (cutT ninvT 1) wk i (by omega))
      rw [cutT_at rootT (by omega)] at c1
      have w16in : 0 ≤ W16 ∧ W16 < pP := by rw [← unhide hW16H]; exact w_in
      have iw16in : 0 ≤ I16 ∧ I16 < pP := by rw [← unhide hI16H]; exact iw_in
      have hmul : Hid (∀ nq, Calls Try.prog 15 #[ptr (w.heap.size + 1), .int .u64 (rootT i), .int .u64 W16] (wr.drewN nq) fun e w' => e = .returned (.int .u64 (rootT j)) ∧ w' = (wr.drewN nq).setCell ⟨w.heap.size + 1, 25, none⟩ (.int .i64 ((wk : Int) + 1))) := fun nq => by
        rw [er]
        exact mul_any (wr.drewN nq) _ w.heap.size _ _ _ _ wk (B.drewN nq) (by omega) _ _ (powT_in _ i) w16in
      have B2 : Hid (∀ nq, Blk (((wr.drewN nq).setCell ⟨w.heap.size + 1, 25, none⟩ (.int .i64 ((wk : Int) + 1))).setCell ⟨w.heap.size + 1, 4 + j, none⟩ (.int .u64 (rootT j))) (w.heap.size + 1) 47 (benchC w.heap.size (fun _ => 0) (cutT rootT (j + 1)) (cutT irootT j) (cutT ninvT 1) ((wk + 1 : Nat) : Int))) := fun nq => by
        have h1 := ((B.drewN nq).set 25 (.int .i64 ((wk : Int) + 1))).set (4 + j) (.int .u64 (rootT j))
        rw [set_wk, set_rt _ _ _ _ _ _ j hlt, cutT_next] at h1
        exact h1
      have V2 : Hid (∀ nq, Blk (((wr.drewN nq).setCell ⟨w.heap.size + 1, 25, none⟩ (.int .i64 ((wk : Int) + 1))).setCell ⟨w.heap.size + 1, 4 + j, none⟩ (.int .u64 (rootT j))) w.heap.size 42 (ints .u64 (fun _ => 0) 48)) := fun nq => (((V.drewN nq).set_other (a := ⟨w.heap.size + 1, 25, none⟩) (by simp) _).set_other (a := ⟨w.heap.size + 1, 4 + j, none⟩) (by simp) _)
      have Q2 : Hid (∀ nq, Quiet w (((wr.drewN nq).setCell ⟨w.heap.size + 1, 25, none⟩ (.int .i64 ((wk : Int) + 1))).setCell ⟨w.heap.size + 1, 4 + j, none⟩ (.int .u64 (rootT j)))) := fun nq => ((Chg.drewN q nq).setCell (p := ⟨w.heap.size + 1, 25, none⟩) (.inr (by simp)) _).setCell (p := ⟨w.heap.size + 1, 4 + j, none⟩) (.inr (by simp)) _
      have c2 := B.cell (4 + j)
      rw [bench_rt _ _ _ _ _ _ j hlt] at c2
      have fz := B.frozen
      have hiH := hide hi
      clear B V q er hi
      unfold ptr at *
      generalize rootT j = rj at *
      generalize rootT i = ri at *
      go_wp2
      refine wp_region_noPanic ?_
      try simp only [List.append_eq, List.cons_append, List.nil_append]
      refine wp_region_mix [(0, false), (1, false), (2, true), (3, true), (4, true), (5, true), (6, true), (7, true), (8, true), (9, true), (10, true), (12, false), (13, false)] [11, 14, 15] (by kernel_rfl) (by kernel_rfl) (fun _ _ _ _ _ h => h) ?_
      simp only [pickM, pickO, List.getElem?_cons_zero, List.getElem?_cons_succ]
      repeat (first | (refine wpMix_read rfl (fun K hK => ?_)) | (refine wpMix_pure rfl (fun K hK => ?_))
              go_big_quiet_op
              first | (refine hK _ ?_; clear hK K))
      refine wpMix_nil ?_
      intro _ hw'
      obtain ⟨nq, hw''⟩ := hw'
      subst hw''
      go_wp2_with fail
      refine (unhide hmul nq).mono ?_
      rintro e w5 ⟨rfl, hw5⟩
      subst hw5
      go_wp2
      refine NoPanic.normal ?_
      have B5 := unhide B2 nq
      have V5 := unhide V2 nq
      have Q5 := unhide Q2 nq
      generalize ((wr.drewN nq).setCell ⟨w.heap.size + 1, 25, none⟩ (.int .i64 ((wk : Int) + 1))).setCell ⟨w.heap.size + 1, 4 + j, none⟩ (.int .u64 rj) = W5 at *
      clear B2 V2 Q2 hmul c1 c2 fz
      have c1 := (B5.cell (12 + i)).trans (bench_it w.heap.size (fun _ => 0) (cutT rootT (j + 1)) (cutT irootT j) (cutT ninvT 1) _ i (by omega))
      rw [cutT_at irootT (by have := unhide hiH; omega)] at c1
      have hmul : Hid (∀ nq, Calls Try.prog 15 #[ptr (w.heap.size + 1), .int .u64 (irootT i), .int .u64 I16] (W5.drewN nq) fun e w' => e = .returned (.int .u64 (irootT j)) ∧ w' = (W5.drewN nq).setCell ⟨w.heap.size + 1, 25, none⟩ (.int .i64 ((wk : Int) + 1 + 1))) := fun nq => by
        rw [ei2]
        exact mul_any (W5.drewN nq) _ w.heap.size _ _ _ _ ((wk + 1 : Nat) : Int) (B5.drewN nq) (by omega) _ _ (powT_in _ i) iw16in
      have B2 : Hid (∀ nq, Blk (((W5.drewN nq).setCell ⟨w.heap.size + 1, 25, none⟩ (.int .i64 ((wk : Int) + 1 + 1))).setCell ⟨w.heap.size + 1, 12 + j, none⟩ (.int .u64 (irootT j))) (w.heap.size + 1) 47 (benchC w.heap.size (fun _ => 0) (cutT rootT (j + 1)) (cutT irootT (j + 1)) (cutT ninvT 1) ((wk + 2 : Nat) : Int))) := fun nq => by
        have h1 := ((B5.drewN nq).set 25 (.int .i64 ((wk : Int) + 1 + 1))).set (12 + j) (.int .u64 (irootT j))
        rw [set_wk, set_it _ _ _ _ _ _ j hlt, cutT_next] at h1
        exact h1
      have V2 : Hid (∀ nq, Blk (((W5.drewN nq).setCell ⟨w.heap.size + 1, 25, none⟩ (.int .i64 ((wk : Int) + 1 + 1))).setCell ⟨w.heap.size + 1, 12 + j, none⟩ (.int .u64 (irootT j))) w.heap.size 42 (ints .u64 (fun _ => 0) 48)) := fun nq => (((V5.drewN nq).set_other (a := ⟨w.heap.size + 1, 25, none⟩) (by simp) _).set_other (a := ⟨w.heap.size + 1, 12 + j, none⟩) (by simp) _)
      have Q2 : Hid (∀ nq, Quiet w (((W5.drewN nq).setCell ⟨w.heap.size + 1, 25, none⟩ (.int .i64 ((wk : Int) + 1 + 1))).setCell ⟨w.heap.size + 1, 12 + j, none⟩ (.int .u64 (irootT j)))) := fun nq => ((Chg.drewN Q5 nq).setCell (p := ⟨w.heap.size + 1, 25, none⟩) (.inr (by simp)) _).setCell (p := ⟨w.heap.size + 1, 12 + j, none⟩) (.inr (by simp)) _
      have c2 := B5.cell (12 + j)
      rw [bench_it _ _ _ _ _ _ j hlt] at c2
      have fz := B5.frozen
      clear B5 V5 Q5 ei2
      unfold ptr at *
      generalize irootT j = rj2 at *
      generalize irootT i = ri2 at *
      go_wp2
      refine wp_region_noPanic ?_
      try simp only [List.append_eq, List.cons_append, List.nil_append]
      refine wp_region_mix [(0, false), (1, false), (2, true), (3, true), (4, true), (5, true), (6, true), (7, true), (8, true), (9, true), (10, true), (12, false), (13, false)] [11, 14, 15] (by kernel_rfl) (by kernel_rfl) (fun _ _ _ _ _ h => h) ?_
      simp only [pickM, pickO, List.getElem?_cons_zero, List.getElem?_cons_succ]
      repeat (first | (refine wpMix_read rfl (fun K hK => ?_)) | (refine wpMix_pure rfl (fun K hK => ?_))
              go_big_quiet_op
              first | (refine hK _ ?_; clear hK K))
      refine wpMix_nil ?_
      intro _ hw'
      obtain ⟨nq, hw''⟩ := hw'
      subst hw''
      go_wp2_with fail
      refine (unhide hmul nq).mono ?_
      rintro e w5 ⟨rfl, hw5⟩
      subst hw5
      go_wp2
      refine NoPanic.normal ?_
      have B6 := hide (unhide B2 nq)
      have V6 := hide (unhide V2 nq)
      have Q6 := hide (unhide Q2 nq)
      generalize ((W5.drewN nq).setCell ⟨w.heap.size + 1, 25, none⟩ (.int .i64 ((wk : Int) + 1 + 1))).setCell ⟨w.heap.size + 1, 12 + j, none⟩ (.int .u64 rj2) = W6 at *
      clear B2 V2 Q2 hmul c1 c2 fz
      go_wp2
      go_roundw
      case rel => exact ⟨j + 1, wk + 2, by omega, by omega, by go_num, by omega, unhide Q6, unhide V6, unhide B6⟩
      case measure => simp [intOf]; omega
    · have g1 : ¬ (j : Int) < 8 := by omega
      obtain rfl : j = 8 := by omega
      have BH := hide B
      have VH := hide V
      have qH := hide q
      clear B V q
      go_wp2
      go_loopw [5] (fun z wr => ∃ (j wk : Nat), 1 ≤ j ∧ j ≤ 5 ∧ z = .int .i64 j ∧ wk ≤ 300 + j ∧ Quiet w wr ∧ Blk wr w.heap.size 42 (ints .u64 (fun _ => 0) 48) ∧ Blk wr (w.heap.size + 1) 47 (benchC w.heap.size (fun _ => 0) (cutT rootT 8) (cutT irootT 8) (cutT ninvT j) wk)) (fun z _ => 6 - (intOf z).toNat)
      case atStart => exact ⟨1, wk, by omega, by omega, rfl, by omega, unhide qH, unhide VH, unhide BH⟩
      case round =>
        clear qH VH BH
        obtain ⟨j, wk, hj1, hj8, rfl, hwk, q, V, B⟩ := hrel
        by_cases hlt : j < 5
        · have g1 : (j : Int) < 5 := by omega
          obtain ⟨i, hi⟩ : ∃ i : Nat, j = i + 1 := ⟨j - 1, by omega⟩
          have ei : (j : Int) - 1 = (i : Int) := by omega
          have i0 : (0 : Int) ≤ (i : Int) := by omega
          have i8 : (i : Int) < 5 := by omega
          have j0 : (0 : Int) ≤ (j : Int) := by omega
          have er : ninvT j = ninvT i * 499122177 % pP := by rw [hi]; rfl
          have c1 := (B.cell (20 + i)).trans (bench_nv w.heap.size (fun _ => 0) (cutT rootT 8) (cutT irootT 8) (cutT ninvT j) wk i (by omega))
          rw [cutT_at ninvT (by omega)] at c1
          have hmul : Hid (∀ nq, Calls Try.prog 15 #[ptr (w.heap.size + 1), .int .u64 (ninvT i), .int .u64 499122177] (wr.drewN nq) fun e w' => e = .returned (.int .u64 (ninvT j)) ∧ w' = (wr.drewN nq).setCell ⟨w.heap.size + 1, 25, none⟩ (.int .i64 ((wk : Int) + 1))) := fun nq => by
            rw [er]
            exact mul_any (wr.drewN nq) _ w.heap.size _ _ _ _ wk (B.drewN nq) (by omega) _ _ (powT_in _ i) (by decide)
          have B2 : Hid (∀ nq, Blk (((wr.drewN nq).setCell ⟨w.heap.size + 1, 25, none⟩ (.int .i64 ((wk : Int) + 1))).setCell ⟨w.heap.size + 1, 20 + j, none⟩ (.int .u64 (ninvT j))) (w.heap.size + 1) 47 (benchC w.heap.size (fun _ => 0) (cutT rootT 8) (cutT irootT 8) (cutT ninvT (j + 1)) ((wk + 1 : Nat) : Int))) := fun nq => by
            have h1 := ((B.drewN nq).set 25 (.int .i64 ((wk : Int) + 1))).set (20 + j) (.int .u64 (ninvT j))
            rw [set_wk, set_nv _ _ _ _ _ _ j hlt, cutT_next] at h1
            exact h1
          have V2 : Hid (∀ nq, Blk (((wr.drewN nq).setCell ⟨w.heap.size + 1, 25, none⟩ (.int .i64 ((wk : Int) + 1))).setCell ⟨w.heap.size + 1, 20 + j, none⟩ (.int .u64 (ninvT j))) w.heap.size 42 (ints .u64 (fun _ => 0) 48)) := fun nq => (((V.drewN nq).set_other (a := ⟨w.heap.size + 1, 25, none⟩) (by simp) _).set_other (a := ⟨w.heap.size + 1, 20 + j, none⟩) (by simp) _)
          have Q2 : Hid (∀ nq, Quiet w (((wr.drewN nq).setCell ⟨w.heap.size + 1, 25, none⟩ (.int .i64 ((wk : Int) + 1))).setCell ⟨w.heap.size + 1, 20 + j, none⟩ (.int .u64 (ninvT j)))) := fun nq => ((Chg.drewN q nq).setCell (p := ⟨w.heap.size + 1, 25, none⟩) (.inr (by simp)) _).setCell (p := ⟨w.heap.size + 1, 20 + j, none⟩) (.inr (by simp)) _
          have c2 := B.cell (20 + j)
          rw [bench_nv _ _ _ _ _ _ j hlt] at c2
          have fz := B.frozen
          clear B V q er hi
          unfold ptr at *
          generalize ninvT j = rj at *
          generalize ninvT i = ri at *
          go_wp2
          refine wp_region_noPanic ?_
          try simp only [List.append_eq, List.cons_append, List.nil_append]
          refine wp_region_mix [(0, false), (1, false), (2, true), (3, true), (4, true), (5, true), (6, true), (7, true), (8, true), (9, true), (11, false), (12, false)] [10, 13, 14] (by kernel_rfl) (by kernel_rfl) (fun _ _ _ _ _ h => h) ?_
          simp only [pickM, pickO, List.getElem?_cons_zero, List.getElem?_cons_succ]
          repeat (first | (refine wpMix_read rfl (fun K hK => ?_)) | (refine wpMix_pure rfl (fun K hK => ?_))
                  go_big_quiet_op
                  first | (refine hK _ ?_; clear hK K))
          refine wpMix_nil ?_
          intro _ hw'
          obtain ⟨nq, hw''⟩ := hw'
          subst hw''
          go_wp2_with fail
          refine (unhide hmul nq).mono ?_
          rintro e w5 ⟨rfl, hw5⟩
          subst hw5
          go_wp2
          refine NoPanic.normal ?_
          have B6 := hide (unhide B2 nq)
          have V6 := hide (unhide V2 nq)
          have Q6 := hide (unhide Q2 nq)
          generalize ((wr.drewN nq).setCell ⟨w.heap.size + 1, 25, none⟩ (.int .i64 ((wk : Int) + 1))).setCell ⟨w.heap.size + 1, 20 + j, none⟩ (.int .u64 rj) = W6 at *
          clear B2 V2 Q2 hmul c1 c2 fz
          go_wp2
          go_roundw
          case rel => exact ⟨j + 1, wk + 1, by omega, by omega, by go_num, by omega, unhide Q6, unhide V6, unhide B6⟩
          case measure => simp [intOf]; omega
        · have g1 : ¬ (j : Int) < 5 := by omega
          obtain rfl : j = 5 := by omega
          have c25 := (B.cell 25).trans (bench_wk _ _ _ _ _ _)
          have f25 := B.frozen 25
          have fin : Hid (newPost w (.returned (.pointer (some ⟨w.heap.size + 1, 0, none⟩))) (wr.setCell ⟨w.heap.size + 1, 25, none⟩ (.int .i64 0))) := by
            refine ⟨w.heap.size + 1, w.heap.size, rfl, Chg.setCell q (p := ⟨w.heap.size + 1, 25, none⟩) (.inr (by simp)) _, ?_, ?_, V.set_other (a := ⟨w.heap.size + 1, 25, none⟩) (by simp) _, by omega⟩
            · rintro k (rfl | rfl) <;> omega
            · have h1 := B.set 25 (.int .i64 0)
              rw [set_wk] at h1
              rw [bench_congr w.heap.size (fun _ => 0) (fun _ => 0) (cutT rootT 8) rootT (cutT irootT 8) irootT (cutT ninvT 5) ninvT 0 (fun _ _ => rfl) (fun r hr => cutT_at _ hr) (fun r hr => cutT_at _ hr) (fun r hr => cutT_at _ hr)] at h1
              exact h1
          clear B V q
          go_wp2
          go_ret
          exact unhide fin
end Go.Proofs.Qxb6500368a
