/-
  The law's wire: Post, Take.
-/
import Derived.Test.Qxb6500367aShow
import Derived.Test.Qxb6500367aDrop
namespace Go.Qx
open Go.RowKit
/-- append onto a slice that owns its row, at a plain step. -/
theorem wpList_append_row {P : Program} {w : World} {ops : Array Oper} {rest : List Oper} {o : Oper} {a : Act} {Q : Exit → Act → World → Prop} (hgd : o.guard = none) (s x : Operand) (t : TypeId)
    (ho : o.op = .call { callee := .builtin .append, args := #[s, x], argTypes := #[t, t] })
    (e : TypeId) (i : TypeInfo) (z : Value) (size bytes : Nat) (ht : P.underlying t = some (.slice e)) (hi : P.info? e = some i) (hz : i.zero = some z)
    (hsize : i.size = size) (hby : i.bytes = bytes) (hzs : z.cells.size = size) (hsz : 0 < size)
    (v : Value) (n : Nat) (xs : List Value) (hs : a.eval s = v) (hown : Row w e size v n xs)
    (ad : Addr) (m c : Nat) (news : List Value) (hx : a.eval x = .slice (some ad) m c) (hl : news.length = m * size) (hnews : ∀ j u, news[j]? = some u → w.cell? (ad.add j) = some u) (h1 : ∀ u ∈ news, u.oneCell' = true)
    (hm : 0 < m) (h63 : n + m ≤ maxLen) (hbytes : (n + m) * bytes ≤ 140737488355328) (H : Nat) (hH : w.heap.size = H)
    (h : ∀ g cap w', Row w' e size (.slice (some ⟨g, 0, none⟩) (n + m) cap) (n + m) (xs ++ news) → Chg (fun x => v.ownBlock = some x) w w' → (v.ownBlock = some g ∨ g = H) → g < w'.heap.size → wpList P ops Q rest (a.put o.dst (.slice (some ⟨g, 0, none⟩) (n + m) cap)) w') : wpList P ops Q (o :: rest) a w :=
  wpList_append_lies (P := P) w hgd s x t ho 0 e i z size bytes ht hi hz hsize hby hzs hsz v n xs hs hown ad m c news hx hl hnews h1 hm h63 hbytes (Nat.zero_le _) H hH
    (fun g cap w' h2 h3 h4 h5 => h g cap w' h2 (Chg.of_grown h3) h4 h5)
theorem Row.shape {w : World} {e : TypeId} {size : Nat} {v : Value} {n : Nat} {xs : List Value} (h : Row w e size v n xs) : ∃ ao cap, v = .slice ao n cap := by
  rcases h.form with ⟨rfl, rfl, _⟩ | ⟨g, cap, sp, rfl, _⟩
  · exact ⟨_, _, rfl⟩
  · exact ⟨_, _, rfl⟩

end Go.Qx
namespace Go.Proofs.Qxb6500367a
open Go.RowKit Go.Qx
set_option linter.unusedSimpArgs false
set_option linter.unusedVariables false

/-- A wire of n messages. -/
def Wire (w : World) (v : Value) (n : Nat) : Prop := n ≤ 36 ∧ ∃ xs : List Int, Row w 82 4 v n (xs.map (Value.int .i64))

theorem Wire.of_chg {S : Nat → Prop} {w w' : World} {v : Value} {n : Nat} (h : Wire w v n) (c : Chg S w w') (hS : ∀ b, v.ownBlock = some b → ¬ S b) : Wire w' v n := by
  obtain ⟨h1, xs, h2⟩ := h
  exact ⟨h1, xs, h2.of_chg c hS⟩

theorem Wire.quiet {w w' : World} {v : Value} {n : Nat} (h : Wire w v n) (c : Quiet w w') : Wire w' v n := h.of_chg c (fun _ _ => id)

theorem Wire.lt {w : World} {v : Value} {n : Nat} (h : Wire w v n) {b : Nat} (hb : v.ownBlock = some b) : b < w.heap.size := by
  obtain ⟨_, xs, h2⟩ := h
  exact h2.lt hb

theorem info82 : (Try.prog.info? 82).map (fun i => (i.zero, i.size, i.bytes)) = some (some (.agg #[.int .i64 0, .int .i64 0, .int .i64 0, .int .i64 0]), 4, 32) := by kernel_rfl


theorem news_new (w : World) (t : TypeId) (cs : List Value) : ∀ j u, cs[j]? = some u → (w.alloc (.cells cs.toArray t)).cell? ((⟨w.heap.size, 0, none⟩ : Addr).add j) = some u := by
  intro j u hj
  have h := (Blk.new w t cs).cell j
  rw [show (⟨w.heap.size, 0, none⟩ : Addr).add j = ⟨w.heap.size, j, none⟩ by unfold Addr.add; split <;> simp_all, h]
  exact hj

theorem one_ints (xs : List Int) : ∀ u ∈ xs.map (Value.int .i64), u.oneCell' = true := by
  intro u hu
  obtain ⟨x, _, rfl⟩ := List.mem_map.1 hu
  rfl

/-- A step of the script as a value. -/
def opv (k a b c : Int) (s t : ByteArray) : Value := .agg #[.int .i64 k, .int .i64 a, .int .i64 b, .int .i64 c, .string s, .string t]

def postRel (w : World) (v0 : Value) (w' : World) (v : Value) : Prop :=
  ∃ n, Wire w' v n ∧ Chg (fun x => v0.ownBlock = some x) w w' ∧ ∀ g, v.ownBlock = some g → v0.ownBlock = some g ∨ w.heap.size < g

theorem postRel.quiet {w : World} {v0 : Value} {w1 w2 : World} {v : Value} (h : postRel w v0 w1 v) (q : Quiet w1 w2) : postRel w v0 w2 v := by
  obtain ⟨n, h1, h2, h3⟩ := h
  exact ⟨n, h1.quiet q, h2.trans (q.chg _), h3⟩

set_option maxRecDepth 100000 in
set_option maxHeartbeats 4000000 in
theorem post_any (w : World) (v : Value) (n : Nat) (hw : Wire w v n) (m : Nat) (hm : m ≤ 4) (k a b c : Int) (S T : ByteArray) (cl : Int) :
    Calls Try.prog 32 #[v, .int .i64 m, opv k a b c S T, .int .i64 cl] w fun e w' => ∃ v', e = .returned v' ∧ postRel w v w' v' := by
  have hp0 : postRel w v w v := ⟨n, hw, Chg.refl _ _, fun g h => .inl h⟩
  obtain ⟨i0, hi0, hz0, hz1, hz2⟩ := info_parts info82
  unfold opv
  have hp1 := hp0.quiet ((Chg.refl _ _).alloc (.cells #[.int .i64 k, .int .i64 a, .int .i64 b, .int .i64 c, .string S, .string T] 44))
  have hp1H := hide hp1
  clear hp1 hp0
  by_cases hk : k < 1 ∨ 3 < k
  · have hk' : k < 1 ∨ (1 ≤ k ∧ 3 < k) := by omega
    clear hk
    rcases hk' with h | ⟨h, h2⟩
    all_goals
      go_enter Try.func32, Try.ntmps32
      go_wp2
      go_ret
      exact ⟨v, rfl, unhide hp1H⟩
  · have hk' : k = 1 ∨ k = 2 ∨ k = 3 := by omega
    clear hk
    have hB := Blk.new w 44 [.int .i64 k, .int .i64 a, .int .i64 b, .int .i64 c, .string S, .string T]
    rcases hk' with rfl | rfl | rfl
    · go_enter Try.func32, Try.ntmps32
      go_wp2
      go_loopw [0, 10] (fun u i wr => ∃ j : Nat, j ≤ m ∧ i = .int .i64 j ∧ postRel w v wr u ∧ Blk wr w.heap.size 44 [.int .i64 1, .int .i64 a, .int .i64 b, .int .i64 c, .string S, .string T]) (fun _ i _ => 5 - (intOf i).toNat)
      case atStart => exact ⟨0, Nat.zero_le _, rfl, unhide hp1H, hB⟩
      case round =>
        clear hB hp1H
        obtain ⟨j, hj, rfl, ⟨n', ⟨h36, xs, hrow⟩, ch, ho⟩, hB⟩ := hrel
        obtain ⟨ao, cap, rfl⟩ := hrow.shape
        have i0' : (0 : Int) ≤ (j : Int) := by omega
        have o0 := hB.cell 0
        have o1 := hB.cell 1
        have o2 := hB.cell 2
        simp at o0 o1 o2
        by_cases hlt : j < m
        · have i1 : (j : Int) < (m : Int) := by omega
          have same : Hid (∀ V, Quiet wr V → ∃ q : Nat, q ≤ m ∧ Value.int .i64 ((j : Int) + 1) = .int .i64 q ∧ postRel w v V (.slice ao n' cap) ∧ Blk V w.heap.size 44 [.int .i64 1, .int .i64 a, .int .i64 b, .int .i64 c, .string S, .string T]) := by
            intro V q
            exact ⟨j + 1, by omega, by go_num, ⟨n', Wire.quiet ⟨h36, xs, hrow⟩ q, ch.trans (q.chg _), ho⟩, q.blk hB⟩
          by_cases e1 : (j : Int) = a
          · have b1 : ((j : Int) == a) = true := by simpa using e1
            have b2 : ((j : Int) != a) = false := by rw [bne, b1]; rfl
            clear e1
            go_wp2
            go_roundw
            case rel => exact unhide same _ (Chg.refl _ _)
            case measure => simp [intOf]; omega
          · have b1 : ((j : Int) == a) = false := by simpa using e1
            have b2 : ((j : Int) != a) = true := by rw [bne, b1]; rfl
            clear e1
            have app : Hid (∀ V g cap', Quiet wr V → ∀ W, Row W 82 4 (.slice (some ⟨g, 0, none⟩) (n' + 1) cap') (n' + 1) (xs.map (Value.int .i64) ++ [.int .i64 3, .int .i64 a, .int .i64 j, .int .i64 cl]) → Chg (fun x => (Value.slice ao n' cap).ownBlock = some x) V W → ((Value.slice ao n' cap).ownBlock = some g ∨ g = wr.heap.size + 1) → n' < 36 → ∃ q : Nat, q ≤ m ∧ Value.int .i64 ((j : Int) + 1) = .int .i64 q ∧ postRel w v W (.slice (some ⟨g, 0, none⟩) (n' + 1) cap') ∧ Blk W w.heap.size 44 [.int .i64 1, .int .i64 a, .int .i64 b, .int .i64 c, .string S, .string T]) := by
              intro V g cap' q W hr hc hg hn
              have hsz := q.size
              have hsz2 := ch.size
              have hBl := hB.lt
              refine ⟨j + 1, by omega, by go_num, ⟨n' + 1, ⟨by omega, xs ++ [3, a, j, cl], by rw [List.map_append]; exact hr⟩, ?_, ?_⟩, ?_⟩
              · refine Chg.trans' (ch.trans (q.chg _)) hc ?_
                intro i hi hb
                rcases ho i hb with h | h
                · exact h
                · omega
              · intro g' hg'
                have hgg : g = g' := by simpa [Value.ownBlock] using hg'
                subst hgg
                rcases hg with h | h
                · exact ho _ h
                · right; omega
              · refine hc.blk (q.blk hB) ?_
                intro hb
                rcases ho _ hb with h | h
                · have := hw.lt h; omega
                · omega
            by_cases e3 : n' < 36
            · have d3 : decide ((n' : Int) < 36) = true := by simp; omega
              have d4 : (n' : Int) < 36 := by omega
              clear d3
              go_wp2_with (at_builtin; refine wpList_append_row rfl (.tmp 51) (.tmp 58) 46 rfl 82 i0 _ 4 32 Try.underlying46 hi0 hz0 hz1 hz2 rfl (by omega) (.slice ao n' cap) n' (xs.map (Value.int .i64)) rfl (hrow.quiet ((Chg.refl _ _).alloc _)) ⟨wr.heap.size, 0, none⟩ 1 1 [.int .i64 3, .int .i64 a, .int .i64 j, .int .i64 cl] rfl rfl (news_new _ _ _) (one_ints [3, a, j, cl]) (by omega) (by unfold maxLen; omega) (by omega) _ rfl ?_)
              intro g cap' W hr hc hg hgl
              have fin := unhide app _ g cap' ((Chg.refl _ wr).alloc _) W hr hc hg e3
              have finH := hide fin
              clear fin hr hc hg hgl hrow
              go_wp2
              go_roundw
              case rel => exact unhide finH
              case measure => simp [intOf]; omega
            · have d3 : decide ((n' : Int) < 36) = false := by simp; omega
              have d4 : ¬ (n' : Int) < 36 := by omega
              clear e3
              by_cases e2 : (j : Int) = b
              · have b3 : ((j : Int) == b) = true := by simpa using e2
                clear e2
                go_wp2
                go_roundw
                case rel => exact unhide same _ (Chg.refl _ _)
                case measure => simp [intOf]; omega
              · have b3 : ((j : Int) == b) = false := by simpa using e2
                clear e2
                go_wp2
                go_roundw
                case rel => exact unhide same _ (Chg.refl _ _)
                case measure => simp [intOf]; omega
        · have i1 : ¬ (j : Int) < (m : Int) := by omega
          go_wp2
          go_ret
          exact ⟨_, rfl, n', ⟨h36, xs, hrow⟩, ch, ho⟩
    · go_enter Try.func32, Try.ntmps32
      go_wp2
      go_loopw [0, 10] (fun u i wr => ∃ j : Nat, j ≤ m ∧ i = .int .i64 j ∧ postRel w v wr u ∧ Blk wr w.heap.size 44 [.int .i64 2, .int .i64 a, .int .i64 b, .int .i64 c, .string S, .string T]) (fun _ i _ => 5 - (intOf i).toNat)
      case atStart => exact ⟨0, Nat.zero_le _, rfl, unhide hp1H, hB⟩
      case round =>
        clear hB hp1H
        obtain ⟨j, hj, rfl, ⟨n', ⟨h36, xs, hrow⟩, ch, ho⟩, hB⟩ := hrel
        obtain ⟨ao, cap, rfl⟩ := hrow.shape
        have i0' : (0 : Int) ≤ (j : Int) := by omega
        have o0 := hB.cell 0
        have o1 := hB.cell 1
        have o2 := hB.cell 2
        simp at o0 o1 o2
        by_cases hlt : j < m
        · have i1 : (j : Int) < (m : Int) := by omega
          have same : Hid (∀ V, Quiet wr V → ∃ q : Nat, q ≤ m ∧ Value.int .i64 ((j : Int) + 1) = .int .i64 q ∧ postRel w v V (.slice ao n' cap) ∧ Blk V w.heap.size 44 [.int .i64 2, .int .i64 a, .int .i64 b, .int .i64 c, .string S, .string T]) := by
            intro V q
            exact ⟨j + 1, by omega, by go_num, ⟨n', Wire.quiet ⟨h36, xs, hrow⟩ q, ch.trans (q.chg _), ho⟩, q.blk hB⟩
          by_cases e1 : (j : Int) = a
          · have b1 : ((j : Int) == a) = true := by simpa using e1
            have b2 : ((j : Int) != a) = false := by rw [bne, b1]; rfl
            clear e1
            go_wp2
            go_roundw
            case rel => exact unhide same _ (Chg.refl _ _)
            case measure => simp [intOf]; omega
          · have b1 : ((j : Int) == a) = false := by simpa using e1
            have b2 : ((j : Int) != a) = true := by rw [bne, b1]; rfl
            clear e1
            have app : Hid (∀ V g cap', Quiet wr V → ∀ W, Row W 82 4 (.slice (some ⟨g, 0, none⟩) (n' + 1) cap') (n' + 1) (xs.map (Value.int .i64) ++ [.int .i64 5, .int .i64 a, .int .i64 j, .int .i64 cl]) → Chg (fun x => (Value.slice ao n' cap).ownBlock = some x) V W → ((Value.slice ao n' cap).ownBlock = some g ∨ g = wr.heap.size + 1) → n' < 36 → ∃ q : Nat, q ≤ m ∧ Value.int .i64 ((j : Int) + 1) = .int .i64 q ∧ postRel w v W (.slice (some ⟨g, 0, none⟩) (n' + 1) cap') ∧ Blk W w.heap.size 44 [.int .i64 2, .int .i64 a, .int .i64 b, .int .i64 c, .string S, .string T]) := by
              intro V g cap' q W hr hc hg hn
              have hsz := q.size
              have hsz2 := ch.size
              have hBl := hB.lt
              refine ⟨j + 1, by omega, by go_num, ⟨n' + 1, ⟨by omega, xs ++ [5, a, j, cl], by rw [List.map_append]; exact hr⟩, ?_, ?_⟩, ?_⟩
              · refine Chg.trans' (ch.trans (q.chg _)) hc ?_
                intro i hi hb
                rcases ho i hb with h | h
                · exact h
                · omega
              · intro g' hg'
                have hgg : g = g' := by simpa [Value.ownBlock] using hg'
                subst hgg
                rcases hg with h | h
                · exact ho _ h
                · right; omega
              · refine hc.blk (q.blk hB) ?_
                intro hb
                rcases ho _ hb with h | h
                · have := hw.lt h; omega
                · omega
            by_cases e3 : n' < 36
            · have d3 : decide ((n' : Int) < 36) = true := by simp; omega
              have d4 : (n' : Int) < 36 := by omega
              clear d3
              go_wp2_with (at_builtin; refine wpList_append_row rfl (.tmp 51) (.tmp 58) 46 rfl 82 i0 _ 4 32 Try.underlying46 hi0 hz0 hz1 hz2 rfl (by omega) (.slice ao n' cap) n' (xs.map (Value.int .i64)) rfl (hrow.quiet ((Chg.refl _ _).alloc _)) ⟨wr.heap.size, 0, none⟩ 1 1 [.int .i64 5, .int .i64 a, .int .i64 j, .int .i64 cl] rfl rfl (news_new _ _ _) (one_ints [5, a, j, cl]) (by omega) (by unfold maxLen; omega) (by omega) _ rfl ?_)
              intro g cap' W hr hc hg hgl
              have fin := unhide app _ g cap' ((Chg.refl _ wr).alloc _) W hr hc hg e3
              have finH := hide fin
              clear fin hr hc hg hgl hrow
              go_wp2
              go_roundw
              case rel => exact unhide finH
              case measure => simp [intOf]; omega
            · have d3 : decide ((n' : Int) < 36) = false := by simp; omega
              have d4 : ¬ (n' : Int) < 36 := by omega
              clear e3
              by_cases e2 : (j : Int) = b
              · have b3 : ((j : Int) == b) = true := by simpa using e2
                clear e2
                go_wp2
                go_roundw
                case rel => exact unhide same _ (Chg.refl _ _)
                case measure => simp [intOf]; omega
              · have b3 : ((j : Int) == b) = false := by simpa using e2
                clear e2
                go_wp2
                go_roundw
                case rel => exact unhide same _ (Chg.refl _ _)
                case measure => simp [intOf]; omega
        · have i1 : ¬ (j : Int) < (m : Int) := by omega
          go_wp2
          go_ret
          exact ⟨_, rfl, n', ⟨h36, xs, hrow⟩, ch, ho⟩
    · go_enter Try.func32, Try.ntmps32
      go_wp2
      go_loopw [0, 10] (fun u i wr => ∃ j : Nat, j ≤ m ∧ i = .int .i64 j ∧ postRel w v wr u ∧ Blk wr w.heap.size 44 [.int .i64 3, .int .i64 a, .int .i64 b, .int .i64 c, .string S, .string T]) (fun _ i _ => 5 - (intOf i).toNat)
      case atStart => exact ⟨0, Nat.zero_le _, rfl, unhide hp1H, hB⟩
      case round =>
        clear hB hp1H
        obtain ⟨j, hj, rfl, ⟨n', ⟨h36, xs, hrow⟩, ch, ho⟩, hB⟩ := hrel
        obtain ⟨ao, cap, rfl⟩ := hrow.shape
        have i0' : (0 : Int) ≤ (j : Int) := by omega
        have o0 := hB.cell 0
        have o1 := hB.cell 1
        have o2 := hB.cell 2
        simp at o0 o1 o2
        by_cases hlt : j < m
        · have i1 : (j : Int) < (m : Int) := by omega
          have same : Hid (∀ V, Quiet wr V → ∃ q : Nat, q ≤ m ∧ Value.int .i64 ((j : Int) + 1) = .int .i64 q ∧ postRel w v V (.slice ao n' cap) ∧ Blk V w.heap.size 44 [.int .i64 3, .int .i64 a, .int .i64 b, .int .i64 c, .string S, .string T]) := by
            intro V q
            exact ⟨j + 1, by omega, by go_num, ⟨n', Wire.quiet ⟨h36, xs, hrow⟩ q, ch.trans (q.chg _), ho⟩, q.blk hB⟩
          by_cases e1 : (j : Int) = a
          · have b1 : ((j : Int) == a) = true := by simpa using e1
            have b2 : ((j : Int) != a) = false := by rw [bne, b1]; rfl
            clear e1
            go_wp2
            go_roundw
            case rel => exact unhide same _ (Chg.refl _ _)
            case measure => simp [intOf]; omega
          · have b1 : ((j : Int) == a) = false := by simpa using e1
            have b2 : ((j : Int) != a) = true := by rw [bne, b1]; rfl
            clear e1
            have app : Hid (∀ V g cap', Quiet wr V → ∀ W, Row W 82 4 (.slice (some ⟨g, 0, none⟩) (n' + 1) cap') (n' + 1) (xs.map (Value.int .i64) ++ [.int .i64 4, .int .i64 a, .int .i64 j, .int .i64 cl]) → Chg (fun x => (Value.slice ao n' cap).ownBlock = some x) V W → ((Value.slice ao n' cap).ownBlock = some g ∨ g = wr.heap.size + 1) → n' < 36 → ∃ q : Nat, q ≤ m ∧ Value.int .i64 ((j : Int) + 1) = .int .i64 q ∧ postRel w v W (.slice (some ⟨g, 0, none⟩) (n' + 1) cap') ∧ Blk W w.heap.size 44 [.int .i64 3, .int .i64 a, .int .i64 b, .int .i64 c, .string S, .string T]) := by
              intro V g cap' q W hr hc hg hn
              have hsz := q.size
              have hsz2 := ch.size
              have hBl := hB.lt
              refine ⟨j + 1, by omega, by go_num, ⟨n' + 1, ⟨by omega, xs ++ [4, a, j, cl], by rw [List.map_append]; exact hr⟩, ?_, ?_⟩, ?_⟩
              · refine Chg.trans' (ch.trans (q.chg _)) hc ?_
                intro i hi hb
                rcases ho i hb with h | h
                · exact h
                · omega
              · intro g' hg'
                have hgg : g = g' := by simpa [Value.ownBlock] using hg'
                subst hgg
                rcases hg with h | h
                · exact ho _ h
                · right; omega
              · refine hc.blk (q.blk hB) ?_
                intro hb
                rcases ho _ hb with h | h
                · have := hw.lt h; omega
                · omega
            by_cases e3 : n' < 36
            · have d3 : decide ((n' : Int) < 36) = true := by simp; omega
              have d4 : (n' : Int) < 36 := by omega
              by_cases e2 : (j : Int) = b
              · have b3 : ((j : Int) == b) = true := by simpa using e2
                clear e2
                clear d3
                go_wp2_with (at_builtin; refine wpList_append_row rfl (.tmp 51) (.tmp 58) 46 rfl 82 i0 _ 4 32 Try.underlying46 hi0 hz0 hz1 hz2 rfl (by omega) (.slice ao n' cap) n' (xs.map (Value.int .i64)) rfl (hrow.quiet ((Chg.refl _ _).alloc _)) ⟨wr.heap.size, 0, none⟩ 1 1 [.int .i64 4, .int .i64 a, .int .i64 j, .int .i64 cl] rfl rfl (news_new _ _ _) (one_ints [4, a, j, cl]) (by omega) (by unfold maxLen; omega) (by omega) _ rfl ?_)
                intro g cap' W hr hc hg hgl
                have fin := unhide app _ g cap' ((Chg.refl _ wr).alloc _) W hr hc hg e3
                have finH := hide fin
                clear fin hr hc hg hgl hrow
                go_wp2
                go_roundw
                case rel => exact unhide finH
                case measure => simp [intOf]; omega
              · have b3 : ((j : Int) == b) = false := by simpa using e2
                clear e2 d4
                go_wp2
                go_roundw
                case rel => exact unhide same _ (Chg.refl _ _)
                case measure => simp [intOf]; omega
            · have d3 : decide ((n' : Int) < 36) = false := by simp; omega
              have d4 : ¬ (n' : Int) < 36 := by omega
              clear e3
              by_cases e2 : (j : Int) = b
              · have b3 : ((j : Int) == b) = true := by simpa using e2
                clear e2
                go_wp2
                go_roundw
                case rel => exact unhide same _ (Chg.refl _ _)
                case measure => simp [intOf]; omega
              · have b3 : ((j : Int) == b) = false := by simpa using e2
                clear e2
                go_wp2
                go_roundw
                case rel => exact unhide same _ (Chg.refl _ _)
                case measure => simp [intOf]; omega
        · have i1 : ¬ (j : Int) < (m : Int) := by omega
          go_wp2
          go_ret
          exact ⟨_, rfl, n', ⟨h36, xs, hrow⟩, ch, ho⟩
end Go.Proofs.Qxb6500367a
