/-
  THE MODEL'S BENCH: how it lies in memory; New, At, Spent, Check, Show, reg.
-/
import Derived.Test.Qxb6500368aShow
namespace Go.Proofs.Qxb6500368a
open Go.RowKit Go.Qx
set_option linter.unusedVariables false
set_option linter.unusedSimpArgs false

/-- The model's bench at m, its coefficients at a, its lengths at b. -/
structure RepM (w : World) (m a b : Nat) (c : Nat → Int) (n : Nat → Nat) (wk : Nat) : Prop where
  own : Blk w m 81 [.slice (some ⟨a, 0, none⟩) 48 48, .slice (some ⟨b, 0, none⟩) 3 3, .int .i64 (wk : Int)]
  row : Blk w a 3 (ints .i64 c 48)
  lens : Blk w b 3 (ints .i64 (fun r => (n r : Int)) 3)
  ma : m ≠ a
  mb : m ≠ b
  ab : a ≠ b

def ownM (m a b k : Nat) : Prop := k = m ∨ k = a ∨ k = b

section
variable {w w' : World} {m a b : Nat} {c : Nat → Int} {n : Nat → Nat} {wk : Nat}
theorem RepM.of_chg {S : Nat → Prop} (h : RepM w m a b c n wk) (ch : Chg S w w') (hS : ∀ k, S k → ¬ ownM m a b k) : RepM w' m a b c n wk :=
  ⟨ch.blk h.own (fun k => hS _ k (.inl rfl)), ch.blk h.row (fun k => hS _ k (.inr (.inl rfl))), ch.blk h.lens (fun k => hS _ k (.inr (.inr rfl))), h.ma, h.mb, h.ab⟩
theorem RepM.quiet (h : RepM w m a b c n wk) (q : Quiet w w') : RepM w' m a b c n wk := h.of_chg q (fun _ f => f.elim)
theorem RepM.lts (h : RepM w m a b c n wk) : ∀ k, ownM m a b k → k < w.heap.size := by
  rintro k (rfl | rfl | rfl)
  · exact h.own.lt
  · exact h.row.lt
  · exact h.lens.lt
theorem RepM.c0 (h : RepM w m a b c n wk) : w.cell? ⟨m, 0, none⟩ = some (.slice (some ⟨a, 0, none⟩) 48 48) := h.own.cell 0
theorem RepM.c1 (h : RepM w m a b c n wk) : w.cell? ⟨m, 1, none⟩ = some (.slice (some ⟨b, 0, none⟩) 3 3) := h.own.cell 1
theorem RepM.c2 (h : RepM w m a b c n wk) : w.cell? ⟨m, 2, none⟩ = some (.int .i64 (wk : Int)) := h.own.cell 2
theorem RepM.at (h : RepM w m a b c n wk) (i : Nat) (hi : i < 48) : w.cell? ⟨a, i, none⟩ = some (.int .i64 (c i)) := (h.row.cell i).trans (ints_get _ _ _ _ hi)
theorem RepM.len (h : RepM w m a b c n wk) (r : Nat) (hr : r < 3) : w.cell? ⟨b, r, none⟩ = some (.int .i64 (n r)) := (h.lens.cell r).trans (ints_get _ _ _ _ hr)
end

theorem info3 : (Try.prog.info? 3).map (fun i => (i.zero, i.size, i.bytes)) = some (some (.int .i64 0), 1, 8) := by kernel_rfl
theorem made48i : madeCells (Value.int .i64 0).cells (48 * 1) = (ints .i64 (fun _ => 0) 48).toArray := by kernel_rfl
theorem made_intsi : ∀ k, k ≤ 16 → madeCells (Value.int .i64 0).cells (k * 1) = (ints .i64 (fun _ => 0) k).toArray := by
  intro k hk
  rcases (by omega : k = 0 ∨ k = 1 ∨ k = 2 ∨ k = 3 ∨ k = 4 ∨ k = 5 ∨ k = 6 ∨ k = 7 ∨ k = 8 ∨ k = 9 ∨ k = 10 ∨ k = 11 ∨ k = 12 ∨ k = 13 ∨ k = 14 ∨ k = 15 ∨ k = 16) with rfl | rfl | rfl | rfl | rfl | rfl | rfl | rfl | rfl | rfl | rfl | rfl | rfl | rfl | rfl | rfl | rfl <;> kernel_rfl
theorem make58 (W : World) : (Instr.makeSlice 58 (.int .i64 48) (.int .i64 48)).run Try.prog W = .ok (.slice (some ⟨W.heap.size, 0, none⟩) 48 48) (W.alloc (.cells (ints .i64 (fun _ => 0) 48).toArray 3)) := by
  obtain ⟨i, hi, hz0, hz1, hz2⟩ := info_parts info3
  have := run_make (P := Try.prog) W 58 3 i _ Try.underlying58 hi hz0 .i64 .i64 48 48 (by omega) (by omega) (by rw [hz2]; omega) (by omega)
  rw [hz1] at this
  rw [this]
  exact congrArg (fun x => Result.ok _ (W.alloc (.cells x 3))) made48i
theorem make58k (W : World) (k : Nat) (hk : k ≤ 16) : (Instr.makeSlice 58 (.int .i64 k) (.int .i64 k)).run Try.prog W = .ok (.slice (some ⟨W.heap.size, 0, none⟩) k k) (W.alloc (.cells (ints .i64 (fun _ => 0) k).toArray 3)) := by
  obtain ⟨i, hi, hz0, hz1, hz2⟩ := info_parts info3
  have := run_make (P := Try.prog) W 58 3 i _ Try.underlying58 hi hz0 .i64 .i64 k k (by omega) (by omega) (by rw [hz2]; omega) (by omega)
  rw [hz1] at this
  rw [this]
  exact congrArg (fun x => Result.ok _ (W.alloc (.cells x 3))) (made_intsi k hk)

def newPostM (w : World) (e : Ending) (w' : World) : Prop := ∃ m a b, e = .returned (.pointer (some ⟨m, 0, none⟩)) ∧ Quiet w w' ∧ (∀ k, ownM m a b k → w.heap.size ≤ k) ∧ RepM w' m a b (fun _ => 0) (fun _ => 0) 0

theorem newM_fin (w : World) (F G : Array Value) (hF : F = (ints .i64 (fun _ => 0) 48).toArray) (hG : G = (ints .i64 (fun _ => 0) 3).toArray) (a b : Nat) (h : a = w.heap.size ∧ b = w.heap.size + 1 ∨ a = w.heap.size + 1 ∧ b = w.heap.size) (W : World)
    (hW : W = ((w.alloc (.cells F 3)).alloc (.cells G 3)) ∧ a = w.heap.size ∨ W = ((w.alloc (.cells G 3)).alloc (.cells F 3)) ∧ a = w.heap.size + 1) :
    newPostM w (.returned (.pointer (some ⟨w.heap.size + 2, 0, none⟩))) (W.alloc (.cells #[.slice (some ⟨a, 0, none⟩) 48 48, .slice (some ⟨b, 0, none⟩) 3 3, .int .i64 0] 81)) := by
  subst hF hG
  refine ⟨w.heap.size + 2, a, b, rfl, ?_, ?_, ?_, ?_, ?_, by omega, by omega, by omega⟩
  · rcases hW with ⟨rfl, _⟩ | ⟨rfl, _⟩ <;> exact (((Chg.refl _ _).alloc _).alloc _).alloc _
  · rintro k (rfl | rfl | rfl) <;> omega
  · rcases hW with ⟨rfl, _⟩ | ⟨rfl, _⟩ <;> exact Blk.at_new (by simp)
  · rcases hW with ⟨rfl, h1⟩ | ⟨rfl, h1⟩
    · rw [h1]; exact ((Blk.new w 3 _).alloc _).alloc _
    · rw [h1]; exact Blk.alloc (Blk.at_new (by simp)) _
  · rcases hW with ⟨rfl, h1⟩ | ⟨rfl, h1⟩
    · rw [show b = w.heap.size + 1 by omega]; exact Blk.alloc (Blk.at_new (by simp)) _
    · rw [show b = w.heap.size by omega]; exact ((Blk.new w 3 _).alloc _).alloc _

theorem newPostM_drew {w w' : World} {e : Ending} (h : newPostM w e w') : newPostM w e w'.drew := by
  obtain ⟨m, a, b, h1, h2, h3, h4⟩ := h
  exact ⟨m, a, b, h1, Chg.drew h2, h3, h4.quiet ((Chg.refl _ _).drew)⟩

set_option maxHeartbeats 1000000 in
theorem mnew_any (w : World) : Calls Try.prog 30 #[] w (newPostM w) := by
  have h1 := make58
  have h2 : ∀ W : World, (Instr.makeSlice 58 (.int .i64 3) (.int .i64 3)).run Try.prog W = .ok (.slice (some ⟨W.heap.size, 0, none⟩) 3 3) (W.alloc (.cells (ints .i64 (fun _ => 0) 3).toArray 3)) := fun W => make58k W 3 (by decide)
  generalize hF : (ints .i64 (fun _ => 0) 48).toArray = F at h1
  generalize hG : (ints .i64 (fun _ => 0) 3).toArray = G at h2
  have hFH := hide hF
  have hGH := hide hG
  clear hF hG
  go_enter Try.func30, Try.ntmps30
  go_wp2
  go_region
  all_goals
    go_wp2
    go_ret
    first
      | exact newPostM_drew (newM_fin w F G (unhide hFH).symm (unhide hGH).symm _ _ (.inl ⟨rfl, rfl⟩) _ (.inl ⟨rfl, rfl⟩))
      | exact newPostM_drew (newM_fin w F G (unhide hFH).symm (unhide hGH).symm _ _ (.inr ⟨rfl, rfl⟩) _ (.inr ⟨rfl, rfl⟩))

theorem spentM_any (w : World) (m a b : Nat) (c : Nat → Int) (n : Nat → Nat) (wk : Nat) (R : RepM w m a b c n wk) : Calls Try.prog 47 #[ptr m] w fun e w' => e = .returned (.int .i64 wk) ∧ w' = w := by
  have h := R.c2
  clear R
  unfold ptr
  go_enter Try.func47, Try.ntmps47
  go_wp2
  go_ret
  exact ⟨rfl, rfl⟩

theorem checkM_any (w : World) (m : Nat) : Calls Try.prog 48 #[ptr m] w fun e w' => e = .returned (.bool true) ∧ w' = w := by
  unfold ptr
  go_enter Try.func48, Try.ntmps48
  go_wp2
  go_ret
  exact ⟨rfl, rfl⟩

set_option maxHeartbeats 1000000 in
theorem mreg_any (w : World) (m a b : Nat) (c : Nat → Int) (n : Nat → Nat) (wk : Nat) (R : RepM w m a b c n wk) (r : Nat) (hr : r < 3) (hn : n r ≤ 16) :
    Calls Try.prog 54 #[ptr m, .int .i64 r] w fun e w' => e = .returned (.slice (some ⟨a, 16 * r, none⟩) (n r) (48 - 16 * r)) ∧ Quiet w w' := by
  have c0 := R.c0
  have c1 := R.c1
  have c2 := R.len r hr
  generalize n r = l at *
  clear R
  unfold ptr
  rcases (by omega : r = 0 ∨ r = 1 ∨ r = 2) with rfl | rfl | rfl
  · have h1 : (0 : Int) ≤ (l : Int) := by omega
    have h2 : (l : Int) ≤ 48 := by omega
    go_enter Try.func54, Try.ntmps54
    go_wp2
    go_quiet (fail)
    go_wp2
    go_ret
    exact ⟨rfl, (Chg.refl _ _).drewN _⟩
  · have h1 : (16 : Int) ≤ 16 + (l : Int) := by omega
    have h2 : 16 + (l : Int) ≤ 48 := by omega
    have e : Hid ((16 + (l : Int)).toNat - 16 = l) := by show _ = _; omega
    go_enter Try.func54, Try.ntmps54
    go_wp2
    go_quiet (fail)
    go_wp2
    go_ret
    exact ⟨by show Ending.returned (.slice _ ((16 + (l : Int)).toNat - 16) _) = _; rw [unhide e], (Chg.refl _ _).drewN _⟩
  · have h1 : (32 : Int) ≤ 32 + (l : Int) := by omega
    have h2 : 32 + (l : Int) ≤ 48 := by omega
    have e : Hid ((32 + (l : Int)).toNat - 32 = l) := by show _ = _; omega
    go_enter Try.func54, Try.ntmps54
    go_wp2
    go_quiet (fail)
    go_wp2
    go_ret
    exact ⟨by show Ending.returned (.slice _ ((32 + (l : Int)).toNat - 32) _) = _; rw [unhide e], (Chg.refl _ _).drewN _⟩

set_option maxHeartbeats 1000000 in
theorem mat_any (w : World) (m a b : Nat) (c : Nat → Int) (n : Nat → Nat) (wk : Nat) (R : RepM w m a b c n wk) (I : Inv c n wk) (r i : Int) :
    Calls Try.prog 43 #[ptr m, .int .i64 r, .int .i64 i] w fun e w' => e = .returned (.tuple #[.int .i64 (atP c n r i).1, .int .i64 (atP c n r i).2]) ∧ w' = w := by
  have hc := reg_any w r
  rcases reg_cases r with ⟨k, rfl, hk, e0⟩ | e0
  · rw [e0] at hc
    have c0 := R.c0
    have c1 := R.c1
    have c2 := R.len k hk
    have hn := I.n k hk
    have k0 : (0 : Int) ≤ (k : Int) := by omega
    have k3 : (k : Int) < 3 := by omega
    by_cases h0 : 0 ≤ i
    · by_cases h1 : i < n k
      · obtain ⟨j, rfl⟩ : ∃ j : Nat, i = j := ⟨i.toNat, by omega⟩
        have e1 : Hid (atP c n k j = (c (16 * k + j), 0)) := by
          show _ = _
          unfold atP
          rw [if_pos e0, if_pos (by simpa using h1)]
          rfl
        rw [unhide e1]
        have cc := R.at (16 * k + j) (by omega)
        have ek : (k : Int) * 16 + (j : Int) = ((16 * k + j : Nat) : Int) := by omega
        have q1 : ((16 * k + j : Nat) : Int) < 48 := by omega
        generalize 16 * k + j = q at *
        have q0 : (0 : Int) ≤ (q : Int) := by omega
        generalize c q = z at *
        generalize n k = l at *
        clear e1 R I e0
        unfold ptr
        go_enter Try.func43, Try.ntmps43
        go_wp2_with fail
        refine hc.mono ?_
        rintro e w' ⟨rfl, hw'⟩
        subst hw'
        go_wp2
        go_ret2
        exact ⟨rfl, rfl⟩
      · have e1 : Hid (atP c n k i = (0, 5)) := by
          show _ = _
          unfold atP
          rw [if_pos e0, if_neg (by simp; omega)]
        rw [unhide e1]
        generalize n k = l at *
        clear e1 R I e0
        unfold ptr
        go_enter Try.func43, Try.ntmps43
        go_wp2_with fail
        refine hc.mono ?_
        rintro e w' ⟨rfl, hw'⟩
        subst hw'
        go_wp2
        go_ret2
        exact ⟨rfl, rfl⟩
    · have e1 : Hid (atP c n k i = (0, 5)) := by
        show _ = _
        unfold atP
        rw [if_pos e0, if_neg (by omega)]
      rw [unhide e1]
      clear e1 R I e0
      unfold ptr
      go_enter Try.func43, Try.ntmps43
      go_wp2_with fail
      refine hc.mono ?_
      rintro e w' ⟨rfl, hw'⟩
      subst hw'
      go_wp2
      go_ret2
      exact ⟨rfl, rfl⟩
  · rw [e0] at hc
    have e1 : Hid (atP c n r i = (0, 4)) := by show _ = _; simp [atP, e0]
    rw [unhide e1]
    clear e1 R I e0
    unfold ptr
    go_enter Try.func43, Try.ntmps43
    go_wp2_with fail
    refine hc.mono ?_
    rintro e w' ⟨rfl, hw'⟩
    subst hw'
    go_wp2
    go_ret2
    exact ⟨rfl, rfl⟩

set_option maxRecDepth 100000 in
set_option maxHeartbeats 4000000 in
theorem mshow_any (w : World) (m a b : Nat) (c : Nat → Int) (n : Nat → Nat) (wk : Nat) (R : RepM w m a b c n wk) (I : Inv c n wk) : Calls Try.prog 32 #[ptr m] w fun e w' => e = .returned (.string (str (showTo c n wk 3))) ∧ Quiet w w' := by
  have c25 := R.c2
  have hwk := I.wk
  have hit := hide (itoa_any (wk : Int) w (by omega) (by omega))
  have hlen := hide (showTo_len c n wk I.n)
  have RH := hide R
  have IH := hide I
  clear R I hwk
  unfold ptr
  go_enter Try.func32, Try.ntmps32
  go_wp2_with fail
  refine (unhide hit).mono ?_
  clear hit c25
  rintro e w1 ⟨rfl, q1⟩
  have q1H := hide q1
  clear q1
  go_wp2
  go_loopw [3, 4] (fun s i wr => ∃ r : Nat, r ≤ 3 ∧ i = .int .i64 r ∧ s = .string (str (showTo c n wk r)) ∧ Quiet w wr) (fun _ i _ => 3 + 1 - (intOf i).toNat)
  case atStart => exact ⟨0, by omega, rfl, rfl, unhide q1H⟩
  case round =>
    clear q1H
    obtain ⟨r, hr, rfl, rfl, q⟩ := hrel
    by_cases hlt : r < 3
    · have g1 : (r : Int) < 3 := by omega
      have hl := unhide hlen r (by omega)
      have z1 : (str (showTo c n wk r)).size ≤ 2000 := by rw [str_size]; omega
      have hT : Hid (str (showTo c n wk r) ++ ⟨#[59]⟩ = str (showTo c n wk r ++ [59])) := by
        show _ = _
        rw [show (⟨#[59]⟩ : ByteArray) = str [59] from rfl, str_append]
      have hl2 : Hid ((showTo c n wk r ++ [59]).length ≤ 1200) := by show _ ≤ _; simp; omega
      have hsuc : Hid (showTo c n wk (r + 1) = rowTo c r (showTo c n wk r ++ [59]) (n r)) := rfl
      have hn := hide ((unhide IH).n r hlt)
      have hltH := hide hlt
      have qH := hide q
      have wi : wrap64 ((r : Int) + 1) = (r : Int) + 1 := by unfold wrap64; omega
      clear hl hlt hr q
      generalize showTo c n wk r ++ [59] = S0 at *
      generalize str (showTo c n wk r) = s1 at *
      go_wp2
      rw [unhide hT]
      clear hT z1
      go_loopw [3, 5] (fun s i wr => ∃ j : Nat, j ≤ n r ∧ i = .int .i64 j ∧ s = .string (str (rowTo c r S0 j)) ∧ Quiet w wr) (fun _ i _ => n r + 1 - (intOf i).toNat)
      case atStart => exact ⟨0, by omega, rfl, rfl, unhide qH⟩
      case round =>
        clear qH
        obtain ⟨j, hj, rfl, rfl, q⟩ := hrel
        have Rq := (unhide RH).quiet q
        have c0 := Rq.c0
        have c1 := Rq.c1
        have c2 := Rq.len r (unhide hltH)
        have r0 : (0 : Int) ≤ (r : Int) := by omega
        by_cases hlt : j < n r
        · have g2 : (j : Int) < (n r : Int) := by omega
          have j0 : (0 : Int) ≤ (j : Int) := by omega
          have hrl := unhide hltH
          have hnr := unhide hn
          have cc := Rq.at (16 * r + j) (by omega)
          have hb := (unhide IH).c (16 * r + j) (by omega)
          have ek : (r : Int) * 16 + (j : Int) = ((16 * r + j : Nat) : Int) := by omega
          have q1 : ((16 * r + j : Nat) : Int) < 48 := by omega
          have q0 : (0 : Int) ≤ ((16 * r + j : Nat) : Int) := by omega
          have hit := hide (itoa_any (c (16 * r + j)) wr (by omega) (by unfold pP at hb; omega))
          have hil := itoa_length (c (16 * r + j))
          have hsuc2 : Hid (str (rowTo c r S0 (j + 1)) = (str (rowTo c r S0 j) ++ ⟨#[32]⟩) ++ str (itoa (c (16 * r + j)))) := by
            show _ = _
            rw [show (⟨#[32]⟩ : ByteArray) = str [32] from rfl, rowTo]
            simp only [str_append, List.append_assoc]
          have hl := rowTo_len c r S0 j
          have hl2' := unhide hl2
          have z1 : (str (rowTo c r S0 j)).size ≤ 2000 := by rw [str_size]; omega
          have z2 : (str (itoa (c (16 * r + j)))).size ≤ 2000 := by rw [str_size]; omega
          have wi2 : wrap64 ((j : Int) + 1) = (j : Int) + 1 := by unfold wrap64; omega
          have hjH := hide hlt
          have qH := hide q
          clear hl hl2' hil hb hlt hj hrl hnr q Rq
          generalize c (16 * r + j) = z at *
          generalize 16 * r + j = p at *
          generalize str (rowTo c r S0 j) = s1 at *
          generalize str (itoa z) = s2 at *
          go_wp2_with fail
          refine (unhide hit).mono ?_
          clear hit
          rintro e w3 ⟨rfl, q3⟩
          have q3H : Hid (Quiet w w3) := (unhide qH).trans q3
          clear q3 qH cc c0 c1 c2
          go_wp2
          go_roundw
          case rel => exact ⟨j + 1, unhide hjH, by simp; try exact wi2, by rw [unhide hsuc2], unhide q3H⟩
          case measure =>
            have h := unhide hjH
            show n r + 1 - ((j : Int) + 1).toNat < n r + 1 - (j : Int).toNat
            omega
        · have g2 : ¬ (j : Int) < (n r : Int) := by omega
          have hjn : Hid (j = n r) := by show _ = _; omega
          have qH := hide q
          clear hlt hj q Rq
          go_wp2
          go_roundw
          case rel => exact ⟨r + 1, unhide hltH, by simp, by rw [unhide hsuc, ← unhide hjn], unhide qH⟩
          case measure =>
            have h := unhide hltH
            show 3 + 1 - ((r : Int) + 1).toNat < 3 + 1 - (r : Int).toNat
            omega
    · have g1 : ¬ (r : Int) < 3 := by omega
      obtain rfl : r = 3 := by omega
      have qH := hide q
      clear q
      go_wp2
      go_ret
      exact ⟨rfl, unhide qH⟩
end Go.Proofs.Qxb6500368a
