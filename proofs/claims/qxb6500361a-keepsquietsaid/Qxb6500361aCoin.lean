/-
  The purse: New, Feed, Height, Show; Ground, Feed, Coins of the law.
-/
import Derived.Test.Qxb6500361aProg
import Derived.Test.Qxb6500361aPlain
import Derived.KernelRfl
namespace Go.Proofs.Qxb6500361a
open Go.RowKit Go.Qx
set_option linter.unusedSimpArgs false
set_option linter.unusedVariables false

/-- P3: the height drawn, and what is left. -/
def toss : Nat → List UInt8 → Nat × List UInt8
  | 0, l => (1, l)
  | _ + 1, [] => (1, [])
  | k + 1, c :: l => if c = 72 then ((toss k l).1 + 1, (toss k l).2) else (1, l)

theorem toss_bounds : ∀ (k : Nat) (l : List UInt8), 1 ≤ (toss k l).1 ∧ (toss k l).1 ≤ k + 1 ∧ (toss k l).2.length ≤ l.length
  | 0, l => by simp [toss]
  | k + 1, [] => by simp [toss]
  | k + 1, c :: l => by
    have := toss_bounds k l
    unfold toss
    split
    · simp; omega
    · simp

theorem ground_any (w : World) : Calls Try.prog 13 #[] w fun e w' => e = .returned (ptr w.heap.size) ∧ w' = w.alloc (.cells #[.string ⟨#[]⟩] 72) := by
  go_enter Try.func13, Try.ntmps13
  go_wp2
  go_ret
  exact ⟨rfl, rfl⟩

theorem coins_any (w : World) (c : Nat) (s : ByteArray) (h : Blk w c 72 [.string s]) : Calls Try.prog 19 #[ptr c] w fun e w' => e = .returned (.string s) ∧ w' = w := by
  have hc := h.cell
  unfold ptr
  go_enter Try.func19, Try.ntmps19
  go_wp2
  go_ret
  exact ⟨rfl, rfl⟩

def feedErr (s t : ByteArray) : Int := if 32 < t.size then 1 else if 32 < s.size + t.size then 2 else 0
def feedNew (s t : ByteArray) : ByteArray := if 32 < t.size then s else if 32 < s.size + t.size then s else s ++ t

theorem feed_any (w : World) (c : Nat) (s t : ByteArray) (h : Blk w c 72 [.string s]) (hs : s.size ≤ 32) (ht : t.size ≤ maxLen) :
    Calls Try.prog 14 #[ptr c, .string t] w fun e w' => e = .returned (.int .i64 (feedErr s t)) ∧ Chg (· = c) w w' ∧ Blk w' c 72 [.string (feedNew s t)] := by
  have hc := h.cell
  have hf := h.frozen
  unfold ptr
  unfold maxLen at ht
  by_cases h1 : 32 < t.size
  · have e1 : feedErr s t = 1 := by simp [feedErr, h1]
    have e2 : feedNew s t = s := by simp [feedNew, h1]
    rw [e1, e2]
    clear e1 e2
    go_enter Try.func14, Try.ntmps14
    go_wp2
    go_ret
    exact ⟨rfl, Chg.refl _ _, h⟩
  · by_cases h2 : 32 < s.size + t.size
    · have e1 : feedErr s t = 2 := by simp [feedErr, h1, h2]
      have e2 : feedNew s t = s := by simp [feedNew, h1, h2]
      rw [e1, e2]
      clear e1 e2
      go_enter Try.func14, Try.ntmps14
      go_wp2
      go_ret
      exact ⟨rfl, Chg.refl _ _, h⟩
    · have e1 : feedErr s t = 0 := by simp [feedErr, h1, h2]
      have e2 : feedNew s t = s ++ t := by simp [feedNew, h1, h2]
      rw [e1, e2]
      clear e1 e2
      go_enter Try.func14, Try.ntmps14
      go_wp2
      go_ret
      exact ⟨rfl, (Chg.refl (· = c) _).setCell (.inl rfl) _, h.set 0 _⟩

set_option maxHeartbeats 400000 in
theorem height_any (w : World) (c : Nat) (s : ByteArray) (h : Blk w c 72 [.string s]) (hs : s.size ≤ 32) :
    Calls Try.prog 26 #[ptr c] w fun e w' => e = .returned (.int .i64 (toss 7 s.data.toList).1) ∧ Chg (· = c) w w' ∧ Blk w' c 72 [.string ⟨(toss 7 s.data.toList).2.toArray⟩] := by
  unfold ptr
  go_enter Try.func26, Try.ntmps26
  go_wp2
  go_loopw [3] (fun h wr => ∃ (k : Nat) (l : List UInt8), k ≤ 7 ∧ l.length ≤ 32 ∧ h = .int .i64 (1 + k) ∧ (toss 7 s.data.toList).1 = (toss (7 - k) l).1 + k ∧ (toss 7 s.data.toList).2 = (toss (7 - k) l).2 ∧ Chg (· = c) w wr ∧ Blk wr c 72 [.string ⟨l.toArray⟩]) (fun h _ => (8 - intOf h).toNat)
  case atStart => exact ⟨0, s.data.toList, by omega, by rw [Array.length_toList]; exact hs, rfl, rfl, rfl, Chg.refl _ _, h⟩
  case round =>
    obtain ⟨k, l, hk, hl, rfl, h1, h2, hch, hb⟩ := hrel
    have hc := hb.cell
    have hf := hb.frozen
    have h1H := hide h1
    have h2H := hide h2
    clear h1 h2
    by_cases hlt : k < 7
    · obtain ⟨m, hm⟩ : ∃ m, 7 - k = m + 1 := ⟨6 - k, by omega⟩
      have hmH := hide hm
      clear hm
      cases l with
      | nil =>
        go_wp2
        go_ret
        rw [unhide h1H, unhide h2H, unhide hmH]
        exact ⟨rfl, hch, hb⟩
      | cons x l =>
        have ex : (⟨(x :: l).toArray⟩ : ByteArray).extract 1 (l.length + 1) = ⟨l.toArray⟩ := by
          rw [ByteArray.ext_iff]; simp [ByteArray.data_extract]
        have hl' : l.length ≤ 31 := by simpa using hl
        by_cases hx : x = 72
        · subst hx
          have hT2 : (((⟨(72 :: l).toArray⟩ : ByteArray)[0]'(by simp [ByteArray.size])).toNat : Int) = 72 := rfl
          go_wp2
          go_roundw
          case rel =>
            refine ⟨k + 1, l, by omega, by omega, by go_num, ?_, ?_, hch.setCell (.inl rfl) _, ?_⟩
            · rw [unhide h1H, unhide hmH, show 7 - (k + 1) = m by have := unhide hmH; omega]; simp [toss]; omega
            · rw [unhide h2H, unhide hmH, show 7 - (k + 1) = m by have := unhide hmH; omega]; simp [toss]
            · exact hb.set 0 _
          case measure => simp [intOf]; omega
        · have hT2 : ((((⟨(x :: l).toArray⟩ : ByteArray)[0]'(by simp [ByteArray.size])).toNat : Int) == 72) = false := by
            show ((x.toNat : Int) == 72) = false
            rw [beq_eq_false_iff_ne]
            intro h
            apply hx
            rw [← UInt8.toNat_inj]
            simpa using (by omega : x.toNat = 72)
          go_wp2
          go_ret
          rw [unhide h1H, unhide h2H, unhide hmH]
          simp only [toss, hx, if_false]
          exact ⟨ret_int (by omega), hch.setCell (.inl rfl) _, hb.set 0 _⟩
    · go_wp2
      go_ret
      have : 7 - k = 0 := by omega
      rw [unhide h1H, unhide h2H, this]
      exact ⟨by simp [toss], hch, hb⟩
end Go.Proofs.Qxb6500361a
