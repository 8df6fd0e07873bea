/-
  367 Keeps: Post, with the wire's contents. (gen7post.py)
-/
import Derived.Test.Qxb6500367aKGh
namespace Go.Proofs.Qxb6500367a
open Go.RowKit Go.Qx
set_option linter.unusedSimpArgs false
set_option linter.unusedVariables false

theorem sendAll_succ (j i : Nat) (k c : Int) : sendAll (j + 1) i k c = sendAll j i k c ++ (if j ≠ i then [⟨k, i, j, c⟩] else []) := by
  unfold sendAll
  rw [List.range_succ, List.filter_append, List.map_append]
  congr 1
  by_cases h : j = i
  · simp [h]
  · simp [h]
theorem rfl_len {α : Type} (l : List α) (x : α) : (l ++ [x]).length = l.length + 1 := by simp
theorem sendAll_le (j i : Nat) (k c : Int) (m : Nat) (h : j ≤ m) : (sendAll j i k c).length ≤ (sendAll m i k c).length := by
  induction m with
  | zero => have : j = 0 := by omega
            subst this; exact Nat.le_refl _
  | succ m ih =>
    by_cases e : j = m + 1
    · subst e; exact Nat.le_refl _
    · have := ih (by omega)
      rw [sendAll_succ, List.length_append]; omega
theorem mcells_one (W : List M4) : ∀ u ∈ mcells W, u.oneCell' = true := by
  induction W with
  | nil => intro u h; simp [mcells] at h
  | cons m r ih =>
    intro u h
    simp only [mcells, List.mem_cons] at h
    rcases h with rfl | rfl | rfl | rfl | h
    · rfl
    · rfl
    · rfl
    · rfl
    · exact ih u h

/-- The wire behind some posting; v0: its slice before. -/
def PW (w : World) (v0 : Value) (w' : World) (v : Value) (W : List M4) : Prop :=
  Row w' 82 4 v W.length (mcells W) ∧ Chg (fun x => v0.ownBlock = some x) w w' ∧ ∀ g, v.ownBlock = some g → v0.ownBlock = some g ∨ w.heap.size < g
theorem PW.quiet {w : World} {v0 : Value} {w1 w2 : World} {v : Value} {W : List M4} (h : PW w v0 w1 v W) (q : Quiet w1 w2) : PW w v0 w2 v W := ⟨h.1.quiet q, h.2.1.trans (q.chg _), h.2.2⟩

set_option maxRecDepth 100000 in
set_option maxHeartbeats 8000000 in
theorem post_1 (w : World) (v : Value) (W : List M4) (hw : Row w 82 4 v W.length (mcells W)) (m : Nat) (hm : m ≤ 4) (a : Nat) (b c : Int) (S T : ByteArray) (cl : Int) (h36 : (W ++ sendAll m a 3 cl).length ≤ 36) :
    Calls Try.prog 32 #[v, .int .i64 m, .agg #[.int .i64 1, .int .i64 a, .int .i64 b, .int .i64 c, .string S, .string T], .int .i64 cl] w fun e w' => ∃ v', e = .returned v' ∧ PW w v w' v' (W ++ sendAll m a 3 cl) := by
  obtain ⟨i0, hi0, hz0, hz1, hz2⟩ := info_parts info82
  have hp1 : PW w v (w.alloc (.cells #[.int .i64 1, .int .i64 a, .int .i64 b, .int .i64 c, .string S, .string T] 44)) v (W ++ sendAll 0 a 3 cl) := by
    refine ⟨?_, (Chg.refl _ _).alloc _, fun g h => .inl h⟩
    have : sendAll 0 a 3 cl = [] := rfl
    rw [this, List.append_nil]
    exact hw.quiet ((Chg.refl _ _).alloc _)
  have hp1H := hide hp1
  clear hp1
  have hwl : Hid (∀ b', v.ownBlock = some b' → b' < w.heap.size) := fun b' h => hw.lt h
  have hB := Blk.new w 44 [.int .i64 1, .int .i64 a, .int .i64 b, .int .i64 c, .string S, .string T]
  rw [List.length_append] at h36
  clear hw
  go_enter Try.func32, Try.ntmps32
  go_wp2
  go_loopw [0, 10] (fun u i wr => ∃ j : Nat, j ≤ m ∧ i = .int .i64 j ∧ PW w v wr u (W ++ sendAll j a 3 cl) ∧ Blk wr w.heap.size 44 [.int .i64 1, .int .i64 a, .int .i64 b, .int .i64 c, .string S, .string T]) (fun _ i _ => 5 - (intOf i).toNat)
  case atStart => exact ⟨0, Nat.zero_le _, rfl, unhide hp1H, hB⟩
  case round =>
    clear hB hp1H
    obtain ⟨j, hj, rfl, ⟨hrow, ch, ho⟩, hB⟩ := hrel
    obtain ⟨ao, cap, rfl⟩ := hrow.shape
    have i0' : (0 : Int) ≤ (j : Int) := by omega
    have o0 := hB.cell 0
    have o1 := hB.cell 1
    have o2 := hB.cell 2
    simp at o0 o1 o2
    by_cases hlt : j < m
    · have i1 : (j : Int) < (m : Int) := by omega
      have wj : IntKind.i64.wrap ((j : Int) + 1) = (j : Int) + 1 := by rw [IntKind.wrap_i64]; omega
      have hsl := sendAll_le (j + 1) a 3 cl m (by omega)
      by_cases e1 : j = a
      · have b1 : ((j : Int) == (a : Int)) = true := by simp; omega
        have b2 : ((j : Int) != (a : Int)) = false := by rw [bne, b1]; rfl
        have fin : Hid (∃ q : Nat, q ≤ m ∧ Value.int .i64 ((j : Int) + 1) = .int .i64 q ∧ PW w v wr (.slice ao (W ++ sendAll j a 3 cl).length cap) (W ++ sendAll q a 3 cl) ∧ Blk wr w.heap.size 44 [.int .i64 1, .int .i64 a, .int .i64 b, .int .i64 c, .string S, .string T]) := by
          refine ⟨j + 1, by omega, by go_num, ?_, hB⟩
          rw [sendAll_succ, if_neg (by simp [e1]), List.append_nil]
          exact ⟨hrow, ch, ho⟩
        clear e1 hrow ch ho hB
        go_wp2
        go_roundw
        case rel => exact unhide fin
        case measure => simp [intOf]; omega
      · have b1 : ((j : Int) == (a : Int)) = false := by simp; omega
        have b2 : ((j : Int) != (a : Int)) = true := by rw [bne, b1]; rfl
        have hn36 : (W ++ sendAll j a 3 cl).length < 36 := by
          rw [sendAll_succ, if_pos e1, List.length_append] at hsl
          rw [List.length_append]
          simp at hsl
          omega
        have app : Hid (∀ V g cap', Quiet wr V → ∀ U, Row U 82 4 (.slice (some ⟨g, 0, none⟩) ((W ++ sendAll j a 3 cl).length + 1) cap') ((W ++ sendAll j a 3 cl).length + 1) (mcells (W ++ sendAll j a 3 cl) ++ [.int .i64 3, .int .i64 a, .int .i64 j, .int .i64 cl]) → Chg (fun x => (Value.slice ao (W ++ sendAll j a 3 cl).length cap).ownBlock = some x) V U → ((Value.slice ao (W ++ sendAll j a 3 cl).length cap).ownBlock = some g ∨ g = wr.heap.size + 1) → ∃ q : Nat, q ≤ m ∧ Value.int .i64 ((j : Int) + 1) = .int .i64 q ∧ PW w v U (.slice (some ⟨g, 0, none⟩) ((W ++ sendAll j a 3 cl).length + 1) cap') (W ++ sendAll q a 3 cl) ∧ Blk U w.heap.size 44 [.int .i64 1, .int .i64 a, .int .i64 b, .int .i64 c, .string S, .string T]) := by
          intro V g cap' q U hr hc hg
          have hsz := q.size
          have hsz2 := ch.size
          have hBl := hB.lt
          refine ⟨j + 1, by omega, by go_num, ⟨?_, ?_, ?_⟩, ?_⟩
          · have e9 : W ++ sendAll (j + 1) a 3 cl = (W ++ sendAll j a 3 cl) ++ [⟨3, a, j, cl⟩] := by rw [sendAll_succ, if_pos e1, List.append_assoc]
            have e8 : ((W ++ sendAll j a 3 cl) ++ [(⟨3, a, j, cl⟩ : M4)]).length = (W ++ sendAll j a 3 cl).length + 1 := rfl_len _ _
            rw [e9, e8, mcells_append]
            exact hr
          · refine Chg.trans' (ch.trans (q.chg _)) hc ?_
            intro i hi hb
            rcases ho i hb with h | h
            · exact h
            · omega
          · intro g' hg'
            have hgg : g = g' := by simpa [Value.ownBlock] using hg'
            subst hgg
            rcases hg with h | h
            · exact ho _ h
            · right; omega
          · refine hc.blk (q.blk hB) ?_
            intro hb
            rcases ho _ hb with h | h
            · have := unhide hwl _ h; omega
            · omega
        have d4 : (((W ++ sendAll j a 3 cl).length : Nat) : Int) < 36 := by omega
        clear e1 hsl
        generalize mcells (W ++ sendAll j a 3 cl) = xs at *
        generalize (W ++ sendAll j a 3 cl).length = n' at *
        go_wp2_with (at_builtin; refine wpList_append_row rfl (.tmp 51) (.tmp 58) 46 rfl 82 i0 _ 4 32 Try.underlying46 hi0 hz0 hz1 hz2 rfl (by omega) (.slice ao n' cap) n' xs rfl (hrow.quiet ((Chg.refl _ _).alloc _)) ⟨wr.heap.size, 0, none⟩ 1 1 [.int .i64 3, .int .i64 a, .int .i64 j, .int .i64 cl] rfl rfl (news_new _ _ _) (one_ints [3, a, j, cl]) (by omega) (by unfold maxLen; omega) (by omega) _ rfl ?_)
        intro g cap' U hr hc hg hgl
        have fin := unhide app _ g cap' ((Chg.refl _ wr).alloc _) U hr hc hg
        have finH := hide fin
        clear fin hr hc hg hgl hrow app
        go_wp2
        go_roundw
        case rel => exact unhide finH
        case measure => simp [intOf]; omega
    · have i1 : ¬ (j : Int) < (m : Int) := by omega
      have hjm : j = m := by omega
      subst hjm
      have hfin : Hid (PW w v wr (.slice ao (W ++ sendAll j a 3 cl).length cap) (W ++ sendAll j a 3 cl)) := ⟨hrow, ch, ho⟩
      clear hrow ch ho hB
      generalize (W ++ sendAll j a 3 cl).length = n' at *
      go_wp2
      go_ret
      exact ⟨_, rfl, unhide hfin⟩

set_option maxRecDepth 100000 in
set_option maxHeartbeats 8000000 in
theorem post_2 (w : World) (v : Value) (W : List M4) (hw : Row w 82 4 v W.length (mcells W)) (m : Nat) (hm : m ≤ 4) (a : Nat) (b c : Int) (S T : ByteArray) (cl : Int) (h36 : (W ++ sendAll m a 5 cl).length ≤ 36) :
    Calls Try.prog 32 #[v, .int .i64 m, .agg #[.int .i64 2, .int .i64 a, .int .i64 b, .int .i64 c, .string S, .string T], .int .i64 cl] w fun e w' => ∃ v', e = .returned v' ∧ PW w v w' v' (W ++ sendAll m a 5 cl) := by
  obtain ⟨i0, hi0, hz0, hz1, hz2⟩ := info_parts info82
  have hp1 : PW w v (w.alloc (.cells #[.int .i64 2, .int .i64 a, .int .i64 b, .int .i64 c, .string S, .string T] 44)) v (W ++ sendAll 0 a 5 cl) := by
    refine ⟨?_, (Chg.refl _ _).alloc _, fun g h => .inl h⟩
    have : sendAll 0 a 5 cl = [] := rfl
    rw [this, List.append_nil]
    exact hw.quiet ((Chg.refl _ _).alloc _)
  have hp1H := hide hp1
  clear hp1
  have hwl : Hid (∀ b', v.ownBlock = some b' → b' < w.heap.size) := fun b' h => hw.lt h
  have hB := Blk.new w 44 [.int .i64 2, .int .i64 a, .int .i64 b, .int .i64 c, .string S, .string T]
  rw [List.length_append] at h36
  clear hw
  go_enter Try.func32, Try.ntmps32
  go_wp2
  go_loopw [0, 10] (fun u i wr => ∃ j : Nat, j ≤ m ∧ i = .int .i64 j ∧ PW w v wr u (W ++ sendAll j a 5 cl) ∧ Blk wr w.heap.size 44 [.int .i64 2, .int .i64 a, .int .i64 b, .int .i64 c, .string S, .string T]) (fun _ i _ => 5 - (intOf i).toNat)
  case atStart => exact ⟨0, Nat.zero_le _, rfl, unhide hp1H, hB⟩
  case round =>
    clear hB hp1H
    obtain ⟨j, hj, rfl, ⟨hrow, ch, ho⟩, hB⟩ := hrel
    obtain ⟨ao, cap, rfl⟩ := hrow.shape
    have i0' : (0 : Int) ≤ (j : Int) := by omega
    have o0 := hB.cell 0
    have o1 := hB.cell 1
    have o2 := hB.cell 2
    simp at o0 o1 o2
    by_cases hlt : j < m
    · have i1 : (j : Int) < (m : Int) := by omega
      have wj : IntKind.i64.wrap ((j : Int) + 1) = (j : Int) + 1 := by rw [IntKind.wrap_i64]; omega
      have hsl := sendAll_le (j + 1) a 5 cl m (by omega)
      by_cases e1 : j = a
      · have b1 : ((j : Int) == (a : Int)) = true := by simp; omega
        have b2 : ((j : Int) != (a : Int)) = false := by rw [bne, b1]; rfl
        have fin : Hid (∃ q : Nat, q ≤ m ∧ Value.int .i64 ((j : Int) + 1) = .int .i64 q ∧ PW w v wr (.slice ao (W ++ sendAll j a 5 cl).length cap) (W ++ sendAll q a 5 cl) ∧ Blk wr w.heap.size 44 [.int .i64 2, .int .i64 a, .int .i64 b, .int .i64 c, .string S, .string T]) := by
          refine ⟨j + 1, by omega, by go_num, ?_, hB⟩
          rw [sendAll_succ, if_neg (by simp [e1]), List.append_nil]
          exact ⟨hrow, ch, ho⟩
        clear e1 hrow ch ho hB
        go_wp2
        go_roundw
        case rel => exact unhide fin
        case measure => simp [intOf]; omega
      · have b1 : ((j : Int) == (a : Int)) = false := by simp; omega
        have b2 : ((j : Int) != (a : Int)) = true := by rw [bne, b1]; rfl
        have hn36 : (W ++ sendAll j a 5 cl).length < 36 := by
          rw [sendAll_succ, if_pos e1, List.length_append] at hsl
          rw [List.length_append]
          simp at hsl
          omega
        have app : Hid (∀ V g cap', Quiet wr V → ∀ U, Row U 82 4 (.slice (some ⟨g, 0, none⟩) ((W ++ sendAll j a 5 cl).length + 1) cap') ((W ++ sendAll j a 5 cl).length + 1) (mcells (W ++ sendAll j a 5 cl) ++ [.int .i64 5, .int .i64 a, .int .i64 j, .int .i64 cl]) → Chg (fun x => (Value.slice ao (W ++ sendAll j a 5 cl).length cap).ownBlock = some x) V U → ((Value.slice ao (W ++ sendAll j a 5 cl).length cap).ownBlock = some g ∨ g = wr.heap.size + 1) → ∃ q : Nat, q ≤ m ∧ Value.int .i64 ((j : Int) + 1) = .int .i64 q ∧ PW w v U (.slice (some ⟨g, 0, none⟩) ((W ++ sendAll j a 5 cl).length + 1) cap') (W ++ sendAll q a 5 cl) ∧ Blk U w.heap.size 44 [.int .i64 2, .int .i64 a, .int .i64 b, .int .i64 c, .string S, .string T]) := by
          intro V g cap' q U hr hc hg
          have hsz := q.size
          have hsz2 := ch.size
          have hBl := hB.lt
          refine ⟨j + 1, by omega, by go_num, ⟨?_, ?_, ?_⟩, ?_⟩
          · have e9 : W ++ sendAll (j + 1) a 5 cl = (W ++ sendAll j a 5 cl) ++ [⟨5, a, j, cl⟩] := by rw [sendAll_succ, if_pos e1, List.append_assoc]
            have e8 : ((W ++ sendAll j a 5 cl) ++ [(⟨5, a, j, cl⟩ : M4)]).length = (W ++ sendAll j a 5 cl).length + 1 := rfl_len _ _
            rw [e9, e8, mcells_append]
            exact hr
          · refine Chg.trans' (ch.trans (q.chg _)) hc ?_
            intro i hi hb
            rcases ho i hb with h | h
            · exact h
            · omega
          · intro g' hg'
            have hgg : g = g' := by simpa [Value.ownBlock] using hg'
            subst hgg
            rcases hg with h | h
            · exact ho _ h
            · right; omega
          · refine hc.blk (q.blk hB) ?_
            intro hb
            rcases ho _ hb with h | h
            · have := unhide hwl _ h; omega
            · omega
        have d4 : (((W ++ sendAll j a 5 cl).length : Nat) : Int) < 36 := by omega
        clear e1 hsl
        generalize mcells (W ++ sendAll j a 5 cl) = xs at *
        generalize (W ++ sendAll j a 5 cl).length = n' at *
        go_wp2_with (at_builtin; refine wpList_append_row rfl (.tmp 51) (.tmp 58) 46 rfl 82 i0 _ 4 32 Try.underlying46 hi0 hz0 hz1 hz2 rfl (by omega) (.slice ao n' cap) n' xs rfl (hrow.quiet ((Chg.refl _ _).alloc _)) ⟨wr.heap.size, 0, none⟩ 1 1 [.int .i64 5, .int .i64 a, .int .i64 j, .int .i64 cl] rfl rfl (news_new _ _ _) (one_ints [5, a, j, cl]) (by omega) (by unfold maxLen; omega) (by omega) _ rfl ?_)
        intro g cap' U hr hc hg hgl
        have fin := unhide app _ g cap' ((Chg.refl _ wr).alloc _) U hr hc hg
        have finH := hide fin
        clear fin hr hc hg hgl hrow app
        go_wp2
        go_roundw
        case rel => exact unhide finH
        case measure => simp [intOf]; omega
    · have i1 : ¬ (j : Int) < (m : Int) := by omega
      have hjm : j = m := by omega
      subst hjm
      have hfin : Hid (PW w v wr (.slice ao (W ++ sendAll j a 5 cl).length cap) (W ++ sendAll j a 5 cl)) := ⟨hrow, ch, ho⟩
      clear hrow ch ho hB
      generalize (W ++ sendAll j a 5 cl).length = n' at *
      go_wp2
      go_ret
      exact ⟨_, rfl, unhide hfin⟩

/-- The answer to b, once the loop is past b. -/
def ackTo (j a b : Nat) (cl : Int) : List M4 := if b < j then [⟨4, a, b, cl⟩] else []
theorem ackTo_succ (j a b : Nat) (cl : Int) : ackTo (j + 1) a b cl = ackTo j a b cl ++ (if j = b then [⟨4, a, b, cl⟩] else []) := by
  unfold ackTo
  by_cases h : j = b
  · subst h; rw [if_pos (by omega), if_neg (by omega), if_pos rfl]; rfl
  · rw [if_neg h, List.append_nil]
    by_cases h2 : b < j
    · rw [if_pos (by omega), if_pos h2]
    · rw [if_neg (by omega), if_neg h2]
theorem ackTo_le (j a b : Nat) (cl : Int) (m : Nat) (h : j ≤ m) : (ackTo j a b cl).length ≤ (ackTo m a b cl).length := by
  unfold ackTo
  by_cases h2 : b < j
  · rw [if_pos h2, if_pos (by omega)]; exact Nat.le_refl _
  · rw [if_neg h2]; simp

set_option maxRecDepth 100000 in
theorem post_4 (w : World) (v : Value) (W : List M4) (hw : Row w 82 4 v W.length (mcells W)) (m : Nat) (k a b c : Int) (hk : k = 4 ∨ k = 5) (S T : ByteArray) (cl : Int) :
    Calls Try.prog 32 #[v, .int .i64 m, .agg #[.int .i64 k, .int .i64 a, .int .i64 b, .int .i64 c, .string S, .string T], .int .i64 cl] w fun e w' => ∃ v', e = .returned v' ∧ PW w v w' v' W := by
  have hp1 : Hid (PW w v (w.alloc (.cells #[.int .i64 k, .int .i64 a, .int .i64 b, .int .i64 c, .string S, .string T] 44)) v W) := ⟨hw.quiet ((Chg.refl _ _).alloc _), (Chg.refl _ _).alloc _, fun g h => .inl h⟩
  clear hw
  rcases hk with rfl | rfl
  all_goals
    go_enter Try.func32, Try.ntmps32
    go_wp2
    go_ret
    exact ⟨v, rfl, unhide hp1⟩

set_option maxRecDepth 100000 in
set_option maxHeartbeats 8000000 in
theorem post_3 (w : World) (v : Value) (W : List M4) (hw : Row w 82 4 v W.length (mcells W)) (m : Nat) (hm : m ≤ 4) (a : Nat) (b : Nat) (hab : b ≠ a) (hbm : b < m) (c : Int) (S T : ByteArray) (cl : Int) (h36 : (W ++ ackTo m a b cl).length ≤ 36) :
    Calls Try.prog 32 #[v, .int .i64 m, .agg #[.int .i64 3, .int .i64 a, .int .i64 b, .int .i64 c, .string S, .string T], .int .i64 cl] w fun e w' => ∃ v', e = .returned v' ∧ PW w v w' v' (W ++ ackTo m a b cl) := by
  obtain ⟨i0, hi0, hz0, hz1, hz2⟩ := info_parts info82
  have hp1 : PW w v (w.alloc (.cells #[.int .i64 3, .int .i64 a, .int .i64 b, .int .i64 c, .string S, .string T] 44)) v (W ++ ackTo 0 a b cl) := by
    refine ⟨?_, (Chg.refl _ _).alloc _, fun g h => .inl h⟩
    have : ackTo 0 a b cl = [] := by unfold ackTo; rw [if_neg (by omega)]
    rw [this, List.append_nil]
    exact hw.quiet ((Chg.refl _ _).alloc _)
  have hp1H := hide hp1
  clear hp1
  have hwl : Hid (∀ b', v.ownBlock = some b' → b' < w.heap.size) := fun b' h => hw.lt h
  have hB := Blk.new w 44 [.int .i64 3, .int .i64 a, .int .i64 b, .int .i64 c, .string S, .string T]
  rw [List.length_append] at h36
  clear hw
  go_enter Try.func32, Try.ntmps32
  go_wp2
  go_loopw [0, 10] (fun u i wr => ∃ j : Nat, j ≤ m ∧ i = .int .i64 j ∧ PW w v wr u (W ++ ackTo j a b cl) ∧ Blk wr w.heap.size 44 [.int .i64 3, .int .i64 a, .int .i64 b, .int .i64 c, .string S, .string T]) (fun _ i _ => 5 - (intOf i).toNat)
  case atStart => exact ⟨0, Nat.zero_le _, rfl, unhide hp1H, hB⟩
  case round =>
    clear hB hp1H
    obtain ⟨j, hj, rfl, ⟨hrow, ch, ho⟩, hB⟩ := hrel
    obtain ⟨ao, cap, rfl⟩ := hrow.shape
    have i0' : (0 : Int) ≤ (j : Int) := by omega
    have o0 := hB.cell 0
    have o1 := hB.cell 1
    have o2 := hB.cell 2
    simp at o0 o1 o2
    by_cases hlt : j < m
    · have i1 : (j : Int) < (m : Int) := by omega
      have wj : IntKind.i64.wrap ((j : Int) + 1) = (j : Int) + 1 := by rw [IntKind.wrap_i64]; omega
      have hsl := ackTo_le (j + 1) a b cl m (by omega)
      by_cases e1 : j ≠ b
      · have c1 : ((j : Int) == (b : Int)) = false := by simp; omega
        have fin : Hid (∃ q : Nat, q ≤ m ∧ Value.int .i64 ((j : Int) + 1) = .int .i64 q ∧ PW w v wr (.slice ao (W ++ ackTo j a b cl).length cap) (W ++ ackTo q a b cl) ∧ Blk wr w.heap.size 44 [.int .i64 3, .int .i64 a, .int .i64 b, .int .i64 c, .string S, .string T]) := by
          refine ⟨j + 1, by omega, by go_num, ?_, hB⟩
          rw [ackTo_succ, if_neg (by omega), List.append_nil]
          exact ⟨hrow, ch, ho⟩
        clear hrow ch ho hB
        by_cases e2 : j = a
        · have b1 : ((j : Int) == (a : Int)) = true := by simp; omega
          have b2 : ((j : Int) != (a : Int)) = false := by rw [bne, b1]; rfl
          clear e1 e2
          go_wp2
          go_roundw
          case rel => exact unhide fin
          case measure => simp [intOf]; omega
        · have b1 : ((j : Int) == (a : Int)) = false := by simp; omega
          have b2 : ((j : Int) != (a : Int)) = true := by rw [bne, b1]; rfl
          clear e1 e2
          go_wp2
          go_roundw
          case rel => exact unhide fin
          case measure => simp [intOf]; omega
      · replace e1 : j = b := by omega
        have b1 : ((j : Int) == (a : Int)) = false := by simp; omega
        have b2 : ((j : Int) != (a : Int)) = true := by rw [bne, b1]; rfl
        have c1 : ((j : Int) == (b : Int)) = true := by simp; omega
        have hn36 : (W ++ ackTo j a b cl).length < 36 := by
          rw [ackTo_succ, if_pos e1, List.length_append] at hsl
          rw [List.length_append]
          simp at hsl
          omega
        have app : Hid (∀ V g cap', Quiet wr V → ∀ U, Row U 82 4 (.slice (some ⟨g, 0, none⟩) ((W ++ ackTo j a b cl).length + 1) cap') ((W ++ ackTo j a b cl).length + 1) (mcells (W ++ ackTo j a b cl) ++ [.int .i64 4, .int .i64 a, .int .i64 j, .int .i64 cl]) → Chg (fun x => (Value.slice ao (W ++ ackTo j a b cl).length cap).ownBlock = some x) V U → ((Value.slice ao (W ++ ackTo j a b cl).length cap).ownBlock = some g ∨ g = wr.heap.size + 1) → ∃ q : Nat, q ≤ m ∧ Value.int .i64 ((j : Int) + 1) = .int .i64 q ∧ PW w v U (.slice (some ⟨g, 0, none⟩) ((W ++ ackTo j a b cl).length + 1) cap') (W ++ ackTo q a b cl) ∧ Blk U w.heap.size 44 [.int .i64 3, .int .i64 a, .int .i64 b, .int .i64 c, .string S, .string T]) := by
          intro V g cap' q U hr hc hg
          have hsz := q.size
          have hsz2 := ch.size
          have hBl := hB.lt
          refine ⟨j + 1, by omega, by go_num, ⟨?_, ?_, ?_⟩, ?_⟩
          · have e9 : W ++ ackTo (j + 1) a b cl = (W ++ ackTo j a b cl) ++ [⟨4, a, j, cl⟩] := by rw [ackTo_succ, if_pos e1, List.append_assoc, e1]
            have e8 : ((W ++ ackTo j a b cl) ++ [(⟨4, a, j, cl⟩ : M4)]).length = (W ++ ackTo j a b cl).length + 1 := rfl_len _ _
            rw [e9, e8, mcells_append]
            exact hr
          · refine Chg.trans' (ch.trans (q.chg _)) hc ?_
            intro i hi hb
            rcases ho i hb with h | h
            · exact h
            · omega
          · intro g' hg'
            have hgg : g = g' := by simpa [Value.ownBlock] using hg'
            subst hgg
            rcases hg with h | h
            · exact ho _ h
            · right; omega
          · refine hc.blk (q.blk hB) ?_
            intro hb
            rcases ho _ hb with h | h
            · have := unhide hwl _ h; omega
            · omega
        have d4 : (((W ++ ackTo j a b cl).length : Nat) : Int) < 36 := by omega
        clear e1 hsl
        generalize mcells (W ++ ackTo j a b cl) = xs at *
        generalize (W ++ ackTo j a b cl).length = n' at *
        go_wp2_with (at_builtin; refine wpList_append_row rfl (.tmp 51) (.tmp 58) 46 rfl 82 i0 _ 4 32 Try.underlying46 hi0 hz0 hz1 hz2 rfl (by omega) (.slice ao n' cap) n' xs rfl (hrow.quiet ((Chg.refl _ _).alloc _)) ⟨wr.heap.size, 0, none⟩ 1 1 [.int .i64 4, .int .i64 a, .int .i64 j, .int .i64 cl] rfl rfl (news_new _ _ _) (one_ints [4, a, j, cl]) (by omega) (by unfold maxLen; omega) (by omega) _ rfl ?_)
        intro g cap' U hr hc hg hgl
        have fin := unhide app _ g cap' ((Chg.refl _ wr).alloc _) U hr hc hg
        have finH := hide fin
        clear fin hr hc hg hgl hrow app
        go_wp2
        go_roundw
        case rel => exact unhide finH
        case measure => simp [intOf]; omega
    · have i1 : ¬ (j : Int) < (m : Int) := by omega
      have hjm : j = m := by omega
      subst hjm
      have hfin : Hid (PW w v wr (.slice ao (W ++ ackTo j a b cl).length cap) (W ++ ackTo j a b cl)) := ⟨hrow, ch, ho⟩
      clear hrow ch ho hB
      generalize (W ++ ackTo j a b cl).length = n' at *
      go_wp2
      go_ret
      exact ⟨_, rfl, unhide hfin⟩
end Go.Proofs.Qxb6500367a
