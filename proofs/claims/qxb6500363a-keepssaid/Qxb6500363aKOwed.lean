/-
  owed, eyes.
-/
import Derived.Test.Qxb6500363aKSmall
namespace Go.Proofs.Qxb6500363a
open Go.RowKit Go.Qx
set_option linter.unusedVariables false
set_option linter.unusedSimpArgs false

def boxW (w : World) (k a b c : Int) (s t : ByteArray) : World := w.alloc (.cells #[.int .i64 k, .int .i64 a, .int .i64 b, .int .i64 c, .string s, .string t] 34)
theorem boxW_quiet (w : World) (k a b c : Int) (s t : ByteArray) : Quiet w (boxW w k a b c s t) := (Chg.refl _ _).alloc _
theorem boxW_blk (w : World) (k a b c : Int) (s t : ByteArray) : Blk (boxW w k a b c s t) w.heap.size 34 [.int .i64 k, .int .i64 a, .int .i64 b, .int .i64 c, .string s, .string t] := Blk.new w 34 _

set_option maxHeartbeats 1000000 in
theorem owed_load (w : World) (a b c : Int) (s t : ByteArray) (n m : Int) : Calls Try.prog 15 #[opv 1 a b c s t, .int .i64 n, .int .i64 m] w fun e w' => e = .returned (.int .i64 (fitP s.size a)) ∧ Quiet w w' := by
  have q := hide (boxW_quiet w 1 a b c s t)
  have B := boxW_blk w 1 a b c s t
  unfold opv
  unfold boxW at *
  have c0 := B.cell 0
  have c1 := B.cell 1
  have c4 := B.cell 4
  have fin : Hid (fitP s.size a = if (s.size : Int) < 2 ∨ 6 < (s.size : Int) then 1 else if a < s.size ∨ 8 < a then 2 else 0) := rfl
  by_cases h1 : (s.size : Int) < 2
  · rw [unhide fin, if_pos (.inl h1)]
    clear fin B
    go_enter Try.func15, Try.ntmps15
    go_wp2
    go_ret
    exact ⟨rfl, unhide q⟩
  by_cases h2 : 6 < (s.size : Int)
  · rw [unhide fin, if_pos (.inr h2)]
    clear fin B
    go_enter Try.func15, Try.ntmps15
    go_wp2
    go_ret
    exact ⟨rfl, unhide q⟩
  by_cases h3 : a < s.size
  · rw [unhide fin, if_neg (by omega), if_pos (.inl h3)]
    clear fin B
    go_enter Try.func15, Try.ntmps15
    go_wp2
    go_ret
    exact ⟨rfl, unhide q⟩
  by_cases h4 : 8 < a
  · rw [unhide fin, if_neg (by omega), if_pos (.inr h4)]
    clear fin B
    go_enter Try.func15, Try.ntmps15
    go_wp2
    go_ret
    exact ⟨rfl, unhide q⟩
  · rw [unhide fin, if_neg (by omega), if_neg (by omega)]
    clear fin B
    go_enter Try.func15, Try.ntmps15
    go_wp2
    go_ret
    exact ⟨rfl, unhide q⟩

set_option maxHeartbeats 1000000 in
theorem owed_who (w : World) (k : Int) (hk : k = 2 ∨ k = 3) (a b c : Int) (s t : ByteArray) (n m : Int) (h : a < 0 ∨ n ≤ a) : Calls Try.prog 15 #[opv k a b c s t, .int .i64 n, .int .i64 m] w fun e w' => e = .returned (.int .i64 3) ∧ Quiet w w' := by
  have q := hide (boxW_quiet w k a b c s t)
  have B := boxW_blk w k a b c s t
  unfold opv
  unfold boxW at *
  have c0 := B.cell 0
  have c1 := B.cell 1
  rcases hk with rfl | rfl
  all_goals
    clear B
    rcases (by omega : a < 0 ∨ (0 ≤ a ∧ n ≤ a)) with h1 | ⟨h1, h2⟩
    · clear h
      go_enter Try.func15, Try.ntmps15
      go_wp2
      go_ret
      exact ⟨rfl, unhide q⟩
    · clear h
      go_enter Try.func15, Try.ntmps15
      go_wp2
      go_ret
      exact ⟨rfl, unhide q⟩

set_option maxHeartbeats 1000000 in
theorem owed_poke (w : World) (j : Nat) (b c : Int) (s t : ByteArray) (n : Nat) (m : Int) (h : j < n) : Calls Try.prog 15 #[opv 2 j b c s t, .int .i64 n, .int .i64 m] w fun e w' => e = .returned (.int .i64 0) ∧ Quiet w w' := by
  have q := hide (boxW_quiet w 2 j b c s t)
  have B := boxW_blk w 2 j b c s t
  unfold opv
  unfold boxW at *
  have c0 := B.cell 0
  have c1 := B.cell 1
  have h1 : (0 : Int) ≤ (j : Int) := by omega
  have h2 : (j : Int) < (n : Int) := by omega
  clear B
  go_enter Try.func15, Try.ntmps15
  go_wp2
  go_ret
  exact ⟨rfl, unhide q⟩

set_option maxHeartbeats 1000000 in
theorem owed_move (w : World) (j : Nat) (b c : Int) (s t : ByteArray) (hs : List Bool) (h6 : hs.length ≤ 6) (h : j < hs.length) : Calls Try.prog 15 #[opv 3 j b c s t, .int .i64 hs.length, .int .i64 (mk hs)] w fun e w' => e = .returned (.int .i64 (if hs.getD j false then 0 else 4)) ∧ Quiet w w' := by
  have q := hide (boxW_quiet w 3 j b c s t)
  have B := boxW_blk w 3 j b c s t
  unfold opv
  unfold boxW at *
  have c0 := B.cell 0
  have c1 := B.cell 1
  have h1 : (0 : Int) ≤ (j : Int) := by omega
  have h2 : (j : Int) < (hs.length : Int) := by omega
  have eb := mkI_shr hs h6 j
  clear B
  generalize hs.length = n at *
  generalize mk hs = M at *
  cases hb : hs.getD j false
  · rw [hb] at eb
    have eb' : bit false = 0 := rfl
    rw [eb'] at eb
    clear eb' hb
    rw [if_neg (by simp)]
    go_enter Try.func15, Try.ntmps15
    go_wp2
    go_ret
    exact ⟨rfl, unhide q⟩
  · rw [hb] at eb
    have eb' : bit true = 1 := rfl
    rw [eb'] at eb
    clear eb' hb
    rw [if_pos rfl]
    go_enter Try.func15, Try.ntmps15
    go_wp2
    go_ret
    exact ⟨rfl, unhide q⟩

set_option maxHeartbeats 1000000 in
theorem owed_none (w : World) (k : Int) (h1 : (k == 1) = false) (h2 : (k == 2) = false) (h3 : (k == 3) = false) (a b c : Int) (s t : ByteArray) (n m : Int) : Calls Try.prog 15 #[opv k a b c s t, .int .i64 n, .int .i64 m] w fun e w' => e = .returned (.int .i64 0) ∧ Quiet w w' := by
  have q := hide (boxW_quiet w k a b c s t)
  have B := boxW_blk w k a b c s t
  unfold opv
  unfold boxW at *
  have c0 := B.cell 0
  clear B
  go_enter Try.func15, Try.ntmps15
  go_wp2
  go_ret
  exact ⟨rfl, unhide q⟩

theorem hots_getD (xs : List Int) (i : Nat) (hi : i < xs.length) : (hots xs).getD i false = priv xs i := by rw [List.getD_eq_getElem?_getD, hots_get _ _ hi]; rfl

theorem owed_any (w : World) (k : Int) (xs : List Int) (o : Ok k xs) (p : Opr) : Calls Try.prog 15 #[opv p.k p.a p.b p.c p.s p.t, .int .i64 xs.length, .int .i64 (mk (hots xs))] w fun e w' => e = .returned (.int .i64 (ansP k xs p).e) ∧ Quiet w w' := by
  obtain ⟨pk, pa, pb, pc, ps, pt⟩ := p
  have n6 := o.n6
  by_cases h1 : pk = 1
  · subst h1
    exact owed_load w pa pb pc ps pt _ _
  by_cases h2 : pk = 2
  · subst h2
    have e : (ansP k xs ⟨2, pa, pb, pc, ps, pt⟩).e = (pokeX k xs pa pb).1 := rfl
    rw [e]
    by_cases hw : 0 ≤ pa ∧ pa < xs.length
    · obtain ⟨j, rfl⟩ : ∃ j : Nat, pa = j := ⟨pa.toNat, by omega⟩
      have : (pokeX k xs j pb).1 = 0 := by unfold pokeX; rw [if_pos hw]
      rw [this]
      exact owed_poke w j pb pc ps pt _ _ (by omega)
    · have : (pokeX k xs pa pb).1 = 3 := by unfold pokeX; rw [if_neg hw]
      rw [this]
      exact owed_who w 2 (.inl rfl) pa pb pc ps pt _ _ (by omega)
  by_cases h3 : pk = 3
  · subst h3
    have e : (ansP k xs ⟨3, pa, pb, pc, ps, pt⟩).e = (moveE k xs pa).1 := rfl
    rw [e]
    by_cases hw : 0 ≤ pa ∧ pa < xs.length
    · obtain ⟨j, rfl⟩ : ∃ j : Nat, pa = j := ⟨pa.toNat, by omega⟩
      have e2 : (moveE k xs j).1 = if (hots xs).getD j false then 0 else 4 := by
        unfold moveE; rw [if_pos hw, Int.toNat_natCast, hots_getD _ _ (by omega)]; split <;> rfl
      rw [e2]
      have := owed_move w j pb pc ps pt (hots xs) (by rw [hots_length]; exact n6) (by rw [hots_length]; omega)
      rwa [hots_length] at this
    · have : (moveE k xs pa).1 = 3 := by unfold moveE; rw [if_neg hw]
      rw [this]
      exact owed_who w 3 (.inr rfl) pa pb pc ps pt _ _ (by omega)
  · have e : (ansP k xs ⟨pk, pa, pb, pc, ps, pt⟩).e = 0 := by
      unfold ansP; simp only [h1, h2, h3, if_false]; repeat' split
      all_goals rfl
    rw [e]
    exact owed_none w pk (by simpa using h1) (by simpa using h2) (by simpa using h3) pa pb pc ps pt _ _

/-! ### eyes -/
def eyW (w : World) (k a b c : Int) (s t : ByteArray) (E N : Int) (S : ByteArray) : World := (w.alloc (.cells #[.int .i64 k, .int .i64 a, .int .i64 b, .int .i64 c, .string s, .string t] 34)).alloc (.cells #[.int .i64 E, .int .i64 N, .string S] 37)
theorem eyW_facts (w : World) (k a b c : Int) (s t : ByteArray) (E N : Int) (S : ByteArray) : Quiet w (eyW w k a b c s t E N S) ∧ Blk (eyW w k a b c s t E N S) w.heap.size 34 [.int .i64 k, .int .i64 a, .int .i64 b, .int .i64 c, .string s, .string t] ∧ Blk (eyW w k a b c s t E N S) (w.heap.size + 1) 37 [.int .i64 E, .int .i64 N, .string S] := by
  unfold eyW
  refine ⟨Chg.alloc (Chg.alloc (Chg.refl _ _) _) _, (Blk.new w 34 _).alloc _, ?_⟩
  have := Blk.new (w.alloc (.cells #[.int .i64 k, .int .i64 a, .int .i64 b, .int .i64 c, .string s, .string t] 34)) 37 [.int .i64 E, .int .i64 N, .string S]
  rwa [show (w.alloc (.cells #[.int .i64 k, .int .i64 a, .int .i64 b, .int .i64 c, .string s, .string t] 34)).heap.size = w.heap.size + 1 by simp] at this

set_option maxHeartbeats 1000000 in
theorem eyes_priv0 (w : World) (a b c : Int) (s t : ByteArray) (n M T Q : Int) (R : ByteArray) (h : ¬ (0 ≤ a ∧ a < n)) : Calls Try.prog 16 #[opv 5 a b c s t, ansv 0 0 ⟨#[]⟩, .int .i64 n, .int .i64 M, .int .i64 T, .int .i64 Q, .string R] w fun e w' => e = .returned (.bool true) ∧ Quiet w w' := by
  obtain ⟨q, B, A⟩ := eyW_facts w 5 a b c s t 0 0 ⟨#[]⟩
  unfold opv ansv
  unfold eyW at *
  have qH := hide q
  have c0 : _ = some (Value.int .i64 (5)) := B.cell 0
  have c1 : _ = some (Value.int .i64 a) := B.cell 1
  have d0 : _ = some (Value.int .i64 (0)) := A.cell 0
  have d1 : _ = some (Value.int .i64 (0)) := A.cell 1
  have d2 : _ = some (Value.string (⟨#[]⟩)) := A.cell 2
  clear q A B
  by_cases h0 : 0 ≤ a
  · have h1 : ¬ a < n := fun hh => h ⟨h0, hh⟩
    clear h
    go_enter Try.func16, Try.ntmps16
    go_wp2
    go_ret
    exact ⟨rfl, unhide qH⟩
  clear h
  go_enter Try.func16, Try.ntmps16
  go_wp2
  go_ret
  exact ⟨rfl, unhide qH⟩

set_option maxHeartbeats 1000000 in
theorem eyes_priv1 (w : World) (j : Nat) (b c : Int) (s t : ByteArray) (hs : List Bool) (h6 : hs.length ≤ 6) (hj : j < hs.length) (T Q : Int) (R : ByteArray) : Calls Try.prog 16 #[opv 5 j b c s t, ansv 0 (bit (hs.getD j false)) ⟨#[]⟩, .int .i64 hs.length, .int .i64 (mk hs), .int .i64 T, .int .i64 Q, .string R] w fun e w' => e = .returned (.bool true) ∧ Quiet w w' := by
  have eb := mkI_shr hs h6 j
  have h1 : (0 : Int) ≤ (j : Int) := by omega
  have h2 : (j : Int) < (hs.length : Int) := by omega
  generalize bit (hs.getD j false) = bb at *
  generalize mk hs = M at *
  generalize hs.length = n at *
  obtain ⟨q, B, A⟩ := eyW_facts w 5 j b c s t 0 bb ⟨#[]⟩
  unfold opv ansv
  unfold eyW at *
  have qH := hide q
  have c0 : _ = some (Value.int .i64 5) := B.cell 0
  have c1 : _ = some (Value.int .i64 j) := B.cell 1
  have d0 : _ = some (Value.int .i64 0) := A.cell 0
  have d1 : _ = some (Value.int .i64 bb) := A.cell 1
  have d2 : _ = some (Value.string ⟨#[]⟩) := A.cell 2
  clear q A B
  go_enter Try.func16, Try.ntmps16
  go_wp2
  go_ret
  exact ⟨rfl, unhide qH⟩

set_option maxHeartbeats 1000000 in
theorem eyes_tok (w : World) (a b c : Int) (s t : ByteArray) (n M T Q : Int) (R : ByteArray) : Calls Try.prog 16 #[opv 6 a b c s t, ansv 0 T ⟨#[]⟩, .int .i64 n, .int .i64 M, .int .i64 T, .int .i64 Q, .string R] w fun e w' => e = .returned (.bool true) ∧ Quiet w w' := by
  obtain ⟨q, B, A⟩ := eyW_facts w 6 a b c s t 0 T ⟨#[]⟩
  unfold opv ansv
  unfold eyW at *
  have qH := hide q
  have c0 : _ = some (Value.int .i64 (6)) := B.cell 0
  have c1 : _ = some (Value.int .i64 a) := B.cell 1
  have d0 : _ = some (Value.int .i64 (0)) := A.cell 0
  have d1 : _ = some (Value.int .i64 (T)) := A.cell 1
  have d2 : _ = some (Value.string (⟨#[]⟩)) := A.cell 2
  clear q A B
  go_enter Try.func16, Try.ntmps16
  go_wp2
  go_ret
  exact ⟨rfl, unhide qH⟩

set_option maxHeartbeats 1000000 in
theorem eyes_pot (w : World) (a b c : Int) (s t : ByteArray) (n M T Q : Int) (R : ByteArray) : Calls Try.prog 16 #[opv 7 a b c s t, ansv 0 Q ⟨#[]⟩, .int .i64 n, .int .i64 M, .int .i64 T, .int .i64 Q, .string R] w fun e w' => e = .returned (.bool true) ∧ Quiet w w' := by
  obtain ⟨q, B, A⟩ := eyW_facts w 7 a b c s t 0 Q ⟨#[]⟩
  unfold opv ansv
  unfold eyW at *
  have qH := hide q
  have c0 : _ = some (Value.int .i64 (7)) := B.cell 0
  have c1 : _ = some (Value.int .i64 a) := B.cell 1
  have d0 : _ = some (Value.int .i64 (0)) := A.cell 0
  have d1 : _ = some (Value.int .i64 (Q)) := A.cell 1
  have d2 : _ = some (Value.string (⟨#[]⟩)) := A.cell 2
  clear q A B
  go_enter Try.func16, Try.ntmps16
  go_wp2
  go_ret
  exact ⟨rfl, unhide qH⟩

set_option maxHeartbeats 1000000 in
theorem eyes_show (w : World) (a b c : Int) (s t : ByteArray) (n M T Q : Int) (R : ByteArray) : Calls Try.prog 16 #[opv 8 a b c s t, ansv 0 0 R, .int .i64 n, .int .i64 M, .int .i64 T, .int .i64 Q, .string R] w fun e w' => e = .returned (.bool true) ∧ Quiet w w' := by
  obtain ⟨q, B, A⟩ := eyW_facts w 8 a b c s t 0 0 R
  unfold opv ansv
  unfold eyW at *
  have qH := hide q
  have c0 : _ = some (Value.int .i64 (8)) := B.cell 0
  have c1 : _ = some (Value.int .i64 a) := B.cell 1
  have d0 : _ = some (Value.int .i64 (0)) := A.cell 0
  have d1 : _ = some (Value.int .i64 (0)) := A.cell 1
  have d2 : _ = some (Value.string (R)) := A.cell 2
  clear q A B
  go_enter Try.func16, Try.ntmps16
  go_wp2
  go_ret
  exact ⟨rfl, unhide qH⟩

set_option maxHeartbeats 1000000 in
theorem eyes_check (w : World) (a b c : Int) (s t : ByteArray) (n M T Q : Int) (R : ByteArray) : Calls Try.prog 16 #[opv 9 a b c s t, ansv 0 1 ⟨#[]⟩, .int .i64 n, .int .i64 M, .int .i64 T, .int .i64 Q, .string R] w fun e w' => e = .returned (.bool true) ∧ Quiet w w' := by
  obtain ⟨q, B, A⟩ := eyW_facts w 9 a b c s t 0 1 ⟨#[]⟩
  unfold opv ansv
  unfold eyW at *
  have qH := hide q
  have c0 : _ = some (Value.int .i64 (9)) := B.cell 0
  have c1 : _ = some (Value.int .i64 a) := B.cell 1
  have d0 : _ = some (Value.int .i64 (0)) := A.cell 0
  have d1 : _ = some (Value.int .i64 (1)) := A.cell 1
  have d2 : _ = some (Value.string (⟨#[]⟩)) := A.cell 2
  clear q A B
  go_enter Try.func16, Try.ntmps16
  go_wp2
  go_ret
  exact ⟨rfl, unhide qH⟩

set_option maxHeartbeats 1000000 in
theorem eyes_none (w : World) (k : Int) (E N : Int) (S : ByteArray) (h5 : (k == 5) = false) (h6 : (k == 6) = false) (h7 : (k == 7) = false) (h8 : (k == 8) = false) (h9 : (k == 9) = false) (a b c : Int) (s t : ByteArray) (n M T Q : Int) (R : ByteArray) : Calls Try.prog 16 #[opv k a b c s t, ansv E N S, .int .i64 n, .int .i64 M, .int .i64 T, .int .i64 Q, .string R] w fun e w' => e = .returned (.bool true) ∧ Quiet w w' := by
  obtain ⟨q, B, A⟩ := eyW_facts w k a b c s t E N S
  unfold opv ansv
  unfold eyW at *
  have qH := hide q
  have c0 : _ = some (Value.int .i64 (k)) := B.cell 0
  have c1 : _ = some (Value.int .i64 a) := B.cell 1
  have d0 : _ = some (Value.int .i64 (E)) := A.cell 0
  have d1 : _ = some (Value.int .i64 (N)) := A.cell 1
  have d2 : _ = some (Value.string (S)) := A.cell 2
  clear q A B
  go_enter Try.func16, Try.ntmps16
  go_wp2
  go_ret
  exact ⟨rfl, unhide qH⟩

theorem eyes_any (w : World) (k : Int) (xs : List Int) (o : Ok k xs) (p : Opr) : Calls Try.prog 16 #[opv p.k p.a p.b p.c p.s p.t, ansv (ansP k xs p).e (ansP k xs p).n (ansP k xs p).s, .int .i64 xs.length, .int .i64 (mk (hots xs)), .int .i64 (cnt (hots xs)), .int .i64 (wsum xs.length (hots xs) 0), .string (str (showP k xs))] w fun e w' => e = .returned (.bool true) ∧ Quiet w w' := by
  obtain ⟨pk, pa, pb, pc, ps, pt⟩ := p
  have n6 := o.n6
  by_cases h5 : pk = 5
  · subst h5
    have e : ansP k xs ⟨5, pa, pb, pc, ps, pt⟩ = ⟨0, privI xs pa, ⟨#[]⟩⟩ := rfl
    rw [e]
    by_cases hw : 0 ≤ pa ∧ pa < xs.length
    · obtain ⟨j, rfl⟩ : ∃ j : Nat, pa = j := ⟨pa.toNat, by omega⟩
      have e2 : privI xs j = bit ((hots xs).getD j false) := by unfold privI; rw [if_pos hw, Int.toNat_natCast, hots_getD _ _ (by omega)]
      rw [e2]
      have := eyes_priv1 w j pb pc ps pt (hots xs) (by rw [hots_length]; exact n6) (by rw [hots_length]; omega) (cnt (hots xs)) (wsum xs.length (hots xs) 0) (str (showP k xs))
      rwa [hots_length] at this
    · have e2 : privI xs pa = 0 := by unfold privI; rw [if_neg hw]
      rw [e2]
      exact eyes_priv0 w pa pb pc ps pt _ _ _ _ _ hw
  by_cases h6 : pk = 6
  · subst h6; exact eyes_tok w pa pb pc ps pt _ _ _ _ _
  by_cases h7 : pk = 7
  · subst h7; exact eyes_pot w pa pb pc ps pt _ _ _ _ _
  by_cases h8 : pk = 8
  · subst h8; exact eyes_show w pa pb pc ps pt _ _ _ _ _
  by_cases h9 : pk = 9
  · subst h9; exact eyes_check w pa pb pc ps pt _ _ _ _ _
  · exact eyes_none w pk _ _ _ (by simpa using h5) (by simpa using h6) (by simpa using h7) (by simpa using h8) (by simpa using h9) pa pb pc ps pt _ _ _ _ _
end Go.Proofs.Qxb6500363a
