/-
  THE REAL GAME: New and Put over the whole state.
-/
import Derived.Test.Qxb6500370aShare
namespace Go.Proofs.Qxb6500370a
open Go.RowKit Go.Qx Go.Qx.Mk
set_option linter.unusedVariables false
set_option linter.unusedSimpArgs false

theorem St.none_ok : St.none.Ok where
  ws := by simp [St.none]
  ts := by simp [St.none]
  sec := rfl
  secW := by simp [St.none]
  nob := fun _ => ⟨rfl, rfl⟩
  few := by simp [St.none]
  six := by simp [St.none]
theorem parse_word (s : ByteArray) (h : (parseP s).2 = 0) : Word (parseP s).1 := by
  refine ⟨parseP_five s, ?_⟩
  revert h
  unfold parseP
  split
  · intro h; exact absurd h (by decide)
  split
  · intro h; exact absurd h (by decide)
  split
  · intro h; exact absurd h (by decide)
  split
  · intro h; exact absurd h (by decide)
  · rename_i hn
    intro _ x hx
    obtain ⟨r, hr, rfl⟩ := List.mem_map.1 hx
    have h0 : ¬ fold r < 0 := fun h => hn (List.any_eq_true.2 ⟨r, hr, by simpa using h⟩)
    revert h0
    unfold fold
    repeat' split
    all_goals omega

/-- Put over the state. -/
def putS (st : St) (i : Int) (s : ByteArray) : List UInt8 × Int × St :=
  if (parseP s).2 ≠ 0 then ([], (parseP s).2, st)
  else if i < 0 ∨ st.ws.length < i ∨ 8 ≤ i then ([], 5, st)
  else (txt (parseP s).1, 0, { st with ws := if i = st.ws.length then st.ws ++ [(parseP s).1] else st.ws.set i.toNat (parseP s).1 })
theorem putS_eq (st : St) (i : Int) (s : ByteArray) : (putP st.ws i s).1 = str (putS st i s).1 ∧ (putP st.ws i s).2.1 = (putS st i s).2.1 ∧ (putS st i s).2.2 = { st with ws := (putP st.ws i s).2.2 } := by
  unfold putP putS
  split
  · exact ⟨rfl, rfl, rfl⟩
  split
  · exact ⟨rfl, rfl, rfl⟩
  · exact ⟨str_txt _, rfl, rfl⟩
theorem put_ok {st : St} (ok : st.Ok) (i : Int) (s : ByteArray) : (putS st i s).2.2.Ok := by
  unfold putS
  split
  · exact ok
  split
  · exact ok
  · rename_i h1 h2
    have hw := parse_word s (by omega)
    have few := ok.few
    refine { ok with ws := ?_, few := ?_ }
    · intro x hx
      dsimp only at hx
      split at hx
      · rcases List.mem_append.1 hx with h | h
        · exact ok.ws x h
        · rw [List.mem_singleton.1 h]; exact hw
      · rcases List.mem_or_eq_of_mem_set hx with h | h
        · exact ok.ws x h
        · rw [h]; exact hw
    · dsimp only
      split
      · rw [List.length_append, List.length_singleton]; omega
      · simpa using few
theorem start_ok {st : St} (ok : st.Ok) (i hard : Int) : (startP st i hard).2.Ok := by
  unfold startP
  split
  · exact ok
  · rename_i h
    obtain ⟨j, rfl⟩ : ∃ j : Nat, i = j := ⟨i.toNat, by omega⟩
    have hj : j < st.ws.length := by omega
    have hw : Word (st.ws.getD j []) := by
      rw [List.getD_eq_getElem?_getD, List.getElem?_eq_getElem hj]
      exact ok.ws _ (List.getElem_mem hj)
    exact ⟨ok.ws, by simp, hw.1, fun _ => hw, by simp, ok.few, by simp⟩

set_option maxHeartbeats 1000000 in
theorem new_rep (w : World) : Calls Try.prog 11 #[] w fun e w' => ∃ G O, e = .returned (ptr G) ∧ RRep w' O G St.none ∧ Quiet w w' ∧ ∀ x, O x → w.heap.size ≤ x := by
  have h45 := fun W => run_makeMap (P := Try.prog) 45 W
  have h47 := fun W => run_makeMap (P := Try.prog) 47 W
  go_enter Try.func11, Try.ntmps11
  go_wp2
  go_ret
  obtain ⟨H, hH⟩ : ∃ H, w.heap.size = H := ⟨_, rfl⟩
  have al : ∀ (W : World) (o : Obj) (n : Nat), W.heap.size = n → (W.alloc o).heap.size = n + 1 := fun W o n h => by simp [h]
  have ma : ∀ (W : World) (n : Nat), W.heap.size = n → MapJ (W.alloc (.map #[] 0)) n (fun _ => none) 0 := fun W n h => by rw [← h]; exact MapJ.new W
  obtain ⟨W1, e1⟩ : ∃ W, w.alloc (.map #[] 0) = W := ⟨_, rfl⟩
  obtain ⟨W2, e2⟩ : ∃ W, W1.alloc (.map #[] 0) = W := ⟨_, rfl⟩
  obtain ⟨W3, e3⟩ : ∃ W, W2.alloc (.map #[] 0) = W := ⟨_, rfl⟩
  obtain ⟨W4, e4⟩ : ∃ W, W3.alloc (.map #[] 0) = W := ⟨_, rfl⟩
  obtain ⟨W5, e5⟩ : ∃ W, W4.alloc (.map #[] 0) = W := ⟨_, rfl⟩
  obtain ⟨W6, e6⟩ : ∃ W, W5.alloc (.map #[] 0) = W := ⟨_, rfl⟩
  obtain ⟨W7, e7⟩ : ∃ W, W6.alloc (.map #[] 0) = W := ⟨_, rfl⟩
  rw [e1, e2, e3, e4, e5, e6, e7]
  have s1 : W1.heap.size = H + 1 := by rw [← e1]; exact al _ _ _ hH
  have s2 : W2.heap.size = H + 2 := by rw [← e2]; exact al _ _ _ s1
  have s3 : W3.heap.size = H + 3 := by rw [← e3]; exact al _ _ _ s2
  have s4 : W4.heap.size = H + 4 := by rw [← e4]; exact al _ _ _ s3
  have s5 : W5.heap.size = H + 5 := by rw [← e5]; exact al _ _ _ s4
  have s6 : W6.heap.size = H + 6 := by rw [← e6]; exact al _ _ _ s5
  have s7 : W7.heap.size = H + 7 := by rw [← e7]; exact al _ _ _ s6
  rw [hH] 
  have m0 := ma w H hH
  have m1 := ma W1 _ s1
  have m2 := ma W2 _ s2
  have m3 := ma W3 _ s3
  have m4 := ma W4 _ s4
  have m5 := ma W5 _ s5
  have m6 := ma W6 _ s6
  rw [e1] at m0
  rw [e2] at m1
  rw [e3] at m2
  rw [e4] at m3
  rw [e5] at m4
  rw [e6] at m5
  rw [e7] at m6
  obtain ⟨W8, e8⟩ : ∃ W, W7.alloc (.cells #[Value.slice none 0 0, Value.slice none 0 0, Value.int IntKind.i32 0, Value.int IntKind.i32 0, Value.int IntKind.i32 0, Value.int IntKind.i32 0, Value.int IntKind.i32 0, Value.int IntKind.i32 0, Value.int IntKind.i32 0, Value.int IntKind.i32 0, Value.int IntKind.i32 0, Value.int IntKind.i32 0, Value.bool false, Value.bool false, Value.slice none 0 0, Value.map (some H), Value.map (some (H + 1)), Value.map (some (H + 1 + 1)), Value.map (some (H + 1 + 1 + 1)), Value.map (some (H + 1 + 1 + 1 + 1)), Value.map (some (H + 1 + 1 + 1 + 1 + 1)), Value.map (some (H + 1 + 1 + 1 + 1 + 1 + 1))] 52) = W := ⟨_, rfl⟩
  rw [e8]
  have q8 : Quiet W7 W8 := by rw [← e8]; exact Chg.alloc (Chg.refl _ _) _
  have q7 : Quiet W6 W8 := by refine Quiet.trans ?_ q8; rw [← e7]; exact Chg.alloc (Chg.refl _ _) _
  have q6 : Quiet W5 W8 := by refine Quiet.trans ?_ q7; rw [← e6]; exact Chg.alloc (Chg.refl _ _) _
  have q5 : Quiet W4 W8 := by refine Quiet.trans ?_ q6; rw [← e5]; exact Chg.alloc (Chg.refl _ _) _
  have q4 : Quiet W3 W8 := by refine Quiet.trans ?_ q5; rw [← e4]; exact Chg.alloc (Chg.refl _ _) _
  have q3 : Quiet W2 W8 := by refine Quiet.trans ?_ q4; rw [← e3]; exact Chg.alloc (Chg.refl _ _) _
  have q2 : Quiet W1 W8 := by refine Quiet.trans ?_ q3; rw [← e2]; exact Chg.alloc (Chg.refl _ _) _
  have q1 : Quiet w W8 := by refine Quiet.trans ?_ q2; rw [← e1]; exact Chg.alloc (Chg.refl _ _) _
  have B : Blk W8 (H + 7) 52 (gcells (.slice none 0 0) (.slice none 0 0) (.slice none 0 0) (fun _ => 0) (fun _ => 0) false false (fun i => H + i)) := by
    have h := Blk.new W7 52 (#[Value.slice none 0 0, Value.slice none 0 0, Value.int IntKind.i32 0, Value.int IntKind.i32 0, Value.int IntKind.i32 0, Value.int IntKind.i32 0, Value.int IntKind.i32 0, Value.int IntKind.i32 0, Value.int IntKind.i32 0, Value.int IntKind.i32 0, Value.int IntKind.i32 0, Value.int IntKind.i32 0, Value.bool false, Value.bool false, Value.slice none 0 0, Value.map (some H), Value.map (some (H + 1)), Value.map (some (H + 1 + 1)), Value.map (some (H + 1 + 1 + 1)), Value.map (some (H + 1 + 1 + 1 + 1)), Value.map (some (H + 1 + 1 + 1 + 1 + 1)), Value.map (some (H + 1 + 1 + 1 + 1 + 1 + 1))]).toList
    rw [s7] at h
    rw [← e8]; exact h
  refine ⟨H + 7, GO (H + 7) (.slice none 0 0) (.slice none 0 0) (.slice none 0 0) (fun i => H + i), rfl, ?_, ?_, ?_⟩
  · refine ⟨_, _, _, _, ?_, fun x hx => hx⟩
    refine ⟨B, ⟨?_, ?_, ?_⟩, Row.nil _ _ _, Row.nil _ _ _, Row.nil _ _ _, ⟨?_, ?_⟩, by simp [Value.ownBlock], by simp [Value.ownBlock], by simp [Value.ownBlock], ?_, ?_, ?_, ?_, ?_, ?_⟩
    · intro p hp
      rcases (by omega : p = 0 ∨ p = 1 ∨ p = 2 ∨ p = 3 ∨ p = 4) with rfl | rfl | rfl | rfl | rfl
      · exact m0.quiet q2
      · exact m1.quiet q3
      · exact m2.quiet q4
      · exact m3.quiet q5
      · exact m4.quiet q6
    · exact m5.quiet q7
    · exact m6.quiet q8
    · intro i hi; show H + i ≠ H + 7; omega
    · intro i k hi hk hne; show H + i ≠ H + k; omega
    all_goals (intros; simp [Value.ownBlock])
  · exact q1
  · rintro x (rfl | h | h | h | ⟨i, hi, rfl⟩)
    · omega
    · simp [Value.ownBlock] at h
    · simp [Value.ownBlock] at h
    · simp [Value.ownBlock] at h
    · show _ ≤ H + i; omega

theorem put_rep (w : World) (O : Nat → Prop) (G : Nat) (st : St) (ok : st.Ok) (h : RRep w O G st) (i : Int) (s : ByteArray) (hs : s.size ≤ maxLen) : Calls Try.prog 18 #[ptr G, .int .i64 i, .string s] w fun e w' =>
    e = .returned (.tuple #[.string (str (putS st i s).1), .int .i64 (putS st i s).2.1]) ∧ ∃ O', RRep w' O' G (putS st i s).2.2 ∧ Chg O w w' ∧ ∀ x, O' x → O x ∨ w.heap.size ≤ x := by
  obtain ⟨vb, vt, vs, L, R, hO⟩ := h
  have h5 : ∀ x ∈ st.ws, x.length = 5 := fun x hx => (ok.ws x hx).1
  have hr : Row w 50 5 vb st.ws.length (flat st.ws) := by
    have := R.rb
    unfold WRow at this
    rw [flat_fw _ h5, List.length_map] at this
    exact this
  obtain ⟨e1, e2, e3⟩ := putS_eq st i s
  refine (put_any w G _ vb st.ws ⟨R.b, hr, R.gb, h5, ok.few⟩ i s hs).mono ?_
  rintro e w' ⟨rfl, v', hb, hc, hv⟩
  rw [e1, e2, e3]
  refine ⟨rfl, GO G v' vt vs L, ⟨v', vt, vs, L, ?_, fun x hx => hx⟩, hc.mono (fun x _ hx => hO x (by rcases hx with rfl | hx; exact .inl rfl; exact .inr (.inl hx))), ?_⟩
  · have old : ∀ x, v'.ownBlock = some x → vb.ownBlock = some x ∨ w.heap.size ≤ x := by
      intro x hx
      rcases hv with h | ⟨b, h, hb⟩
      · left; rw [← h]; exact hx
      · right; rw [h] at hx; cases hx; exact hb
    have hw5 : ∀ x ∈ (putP st.ws i s).2.2, x.length = 5 := hb.five
    refine { b := hb.blk, kr := R.kr.of_chg hc ?_, rb := ?_, rt := ?_, rs := ?_, far := R.far, gb := hb.apart, gt := R.gt, gs := R.gs, lb := ?_, lt := R.lt, ls := R.ls, bt := ?_, bs := ?_, ts := R.ts }
    · rintro k hk (h | h)
      · exact R.far.1 k hk h
      · exact R.lb k hk h
    · unfold WRow
      show Row w' 50 5 v' ((putP st.ws i s).2.2.map fw).length (flatF ((putP st.ws i s).2.2.map fw))
      rw [flat_fw _ hw5, List.length_map]
      exact hb.row
    · refine Row.of_chg R.rt hc ?_
      rintro x hx (h | h)
      · exact R.gt (by rw [hx, h])
      · exact R.bt x h hx
    · refine R.rs.of_chg hc ?_
      rintro x hx (h | h)
      · exact R.gs (by rw [hx, h])
      · exact R.bs x h hx
    · intro k hk h
      rcases old _ h with h | h
      · exact R.lb k hk h
      · have := R.kr.lt k hk; omega
    · intro x hx h
      rcases old _ hx with h' | h'
      · exact R.bt x h' h
      · have := Row.lt R.rt h; omega
    · intro x hx h
      rcases old _ hx with h' | h'
      · exact R.bs x h' h
      · have := Row.lt R.rs h; omega
  · rintro x (rfl | h | h | h | h)
    · exact .inl (hO _ (.inl rfl))
    · rcases hv with h' | ⟨b, h', hb⟩
      · exact .inl (hO _ (.inr (.inl (by rw [← h']; exact h))))
      · right; rw [h'] at h; cases h; exact hb
    · exact .inl (hO _ (.inr (.inr (.inl h))))
    · exact .inl (hO _ (.inr (.inr (.inr (.inl h)))))
    · exact .inl (hO _ (.inr (.inr (.inr (.inr h)))))
end Go.Proofs.Qxb6500370a
