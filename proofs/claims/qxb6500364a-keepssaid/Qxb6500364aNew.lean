/-
  THE REAL MESH: New.
-/
import Derived.Test.Qxb6500364aMesh
import Derived.Laws.MakeOwn
namespace Go.Proofs.Qxb6500364a
open Go.RowKit Go.Qx
set_option linter.unusedVariables false
set_option linter.unusedSimpArgs false

theorem info53 : (Try.prog.info? 53).map (fun i => (i.zero, i.size, i.bytes)) = some (some (.pointer none), 1, 8) := by kernel_rfl

theorem made53 : madeCells (Value.pointer none).cells (5 * 1) = #[.pointer none, .pointer none, .pointer none, .pointer none, .pointer none] := by kernel_rfl

theorem make50 (W : World) : (Instr.makeSlice 50 (.int .i64 5) (.int .i64 5)).run Try.prog W = .ok (.slice (some ⟨W.heap.size, 0, none⟩) 5 5) (W.alloc (.cells #[.pointer none, .pointer none, .pointer none, .pointer none, .pointer none] 53)) := by
  obtain ⟨i, hi, hz0, hz1, hz2⟩ := info_parts info53
  have := run_make (P := Try.prog) W 50 53 i _ Try.underlying50 hi hz0 .i64 .i64 5 5 (by omega) (by omega) (by rw [hz2]; omega) (by omega)
  rw [hz1] at this
  rw [this]
  exact congrArg (fun x => Result.ok _ (W.alloc (.cells x 53))) made53

def rowTo (n : Nat → Nat) (a : Nat) : List Value := (List.range 5).map fun i => if i < a then ptr (n i) else .pointer none

theorem rowTo_set (n : Nat → Nat) (a y : Nat) (ha : a < 5) : (rowTo n a).set a (ptr y) = rowTo (upd n a y) (a + 1) := by
  refine List.ext_getElem? ?_
  intro i
  rw [List.getElem?_set]
  unfold rowTo
  by_cases e : a = i
  · subst e
    simp [ha, upd]
  · rw [if_neg e, List.getElem?_map, List.getElem?_map]
    by_cases hi : i < 5
    · rw [List.getElem?_range hi]
      simp only [Option.map_some, upd, if_neg (Ne.symm e)]
      by_cases h2 : i < a
      · rw [if_pos h2, if_pos (by omega)]
      · rw [if_neg h2, if_neg (by omega)]
    · rw [List.getElem?_eq_none (by simp; omega)]; rfl

theorem rowTo_get (n : Nat → Nat) (a i : Nat) (hi : i < 5) : ∃ u, (rowTo n a)[i]? = some u := ⟨_, List.getElem?_eq_getElem (by simp [rowTo, hi])⟩

theorem rowTo_all (n : Nat → Nat) : rowTo n 5 = rowC n := by
  simp [rowTo, rowC, List.range_succ]

/-- The new router while its links are laid down. -/
def nodeTo (a b : Nat) : Nd := if b = 0 then ⟨fun _ => 0, fun _ _ => 0, fun _ => 0, fun _ => 0⟩ else mended a (fun _ => 0) (fun b' _ => if b' < b then 16 else 0)

theorem nodeTo_c (a b : Nat) : (nodeTo a b).c = fun _ => 0 := by unfold nodeTo; split <;> rfl
theorem nodeTo_h (a b : Nat) : (nodeTo a b).h = fun b' _ => if b' < b then 16 else 0 := by
  unfold nodeTo
  split
  · rename_i e; subst e; funext b' d; simp
  · rfl

theorem nodeTo_ok (a b : Nat) : NdOk (nodeTo a b) := by
  refine ⟨?_, ?_⟩
  · intro b' _; rw [nodeTo_c]; simp
  · intro b' d _ _; rw [nodeTo_h]; dsimp only; split <;> omega

theorem nodeTo_succ (a b : Nat) : mended a (upd (nodeTo a b).c b 0) (wireH (nodeTo a b) b 0) = nodeTo a (b + 1) := by
  have e1 : upd (nodeTo a b).c b 0 = fun _ => 0 := by
    rw [nodeTo_c]; funext j; unfold upd; split <;> rfl
  have e2 : wireH (nodeTo a b) b 0 = fun b' _ => if b' < b + 1 then 16 else 0 := by
    unfold wireH
    rw [if_pos rfl, nodeTo_h]
    funext b' d
    unfold upd
    by_cases e : b' = b
    · subst e; simp
    · rw [if_neg e]
      dsimp only
      by_cases h : b' < b
      · rw [if_pos h, if_pos (by omega)]
      · rw [if_neg h, if_neg (by omega)]
  rw [e1, e2]
  unfold nodeTo
  rw [if_neg (by omega)]

theorem nodeTo_all (a : Nat) : ndC a (nodeTo a 5) = ndC a (mended a (fun _ => 0) (fun _ _ => 16)) := by
  unfold nodeTo
  rw [if_neg (by omega)]
  refine mended_congr ?_
  intro b d hb hd
  simp [hb]

def zeroC (a : Nat) : List Value := .int .i64 a :: List.replicate 40 (.int .i64 0)

theorem nodeTo_zero (a : Nat) : zeroC a = ndC a (nodeTo a 0) := by
  unfold nodeTo ndC zeroC
  rw [if_pos rfl]
  simp [List.range_succ, ndV, List.replicate]

structure NewAt (w wr : World) (x r a : Nat) (n : Nat → Nat) : Prop where
  q : Quiet w wr
  xr : x ≠ r
  x0 : w.heap.size ≤ x
  r0 : w.heap.size ≤ r
  bx : Blk wr x 52 [.slice (some ⟨r, 0, none⟩) 5 5]
  br : Blk wr r 53 (rowTo n a)
  nd : ∀ i, i < a → Blk wr (n i) 58 (ndC i (mended i (fun _ => 0) (fun _ _ => 16)))
  ni : ∀ i, i < a → n i ≠ x ∧ n i ≠ r ∧ w.heap.size ≤ n i
  nn : ∀ i j, i < a → j < a → i ≠ j → n i ≠ n j

theorem NewAt.of_chg {S : Nat → Prop} {w wr wr' : World} {x r a : Nat} {n : Nat → Nat} (h : NewAt w wr x r a n) (c : Chg S wr wr') (h0 : ∀ k, S k → w.heap.size ≤ k) (hx : ¬ S x) (hr : ¬ S r) (hn : ∀ i, i < a → ¬ S (n i)) : NewAt w wr' x r a n :=
  { h with q := Chg.trans' h.q c (fun k hk s => by have := h0 k s; omega), bx := c.blk h.bx hx, br := c.blk h.br hr, nd := fun i hi => c.blk (h.nd i hi) (hn i hi) }

def newPost (w : World) (e : Ending) (w' : World) : Prop := ∃ x r n, e = .returned (ptr x) ∧ Quiet w w' ∧ (∀ k, own x r n k → w.heap.size ≤ k) ∧ Rep w' x r n (fun _ _ => 0) (fun _ _ _ => 16)

theorem NewAt.done {w wr : World} {x r : Nat} {n : Nat → Nat} (h : NewAt w wr x r 5 n) : newPost w (.returned (ptr x)) wr := by
  refine ⟨x, r, n, rfl, h.q, ?_, h.bx, ?_, ?_, h.xr, ?_, ?_, ?_⟩
  · rintro k (rfl | rfl | ⟨a, ha, rfl⟩)
    · exact h.x0
    · exact h.r0
    · exact (h.ni a ha).2.2
  · have := h.br
    rw [rowTo_all] at this; exact this
  · intro a ha; exact h.nd a ha
  · intro a ha; exact Ne.symm (h.ni a ha).1
  · intro a ha; exact Ne.symm (h.ni a ha).2.1
  · intro a b ha hb; exact h.nn a b ha hb

set_option maxRecDepth 100000 in
set_option maxHeartbeats 2000000 in
theorem new_any (w : World) : Calls Try.prog 9 #[] w (newPost w) := by
  have hm1 := make50
  go_enter Try.func9, Try.ntmps9
  go_wp2
  go_loopw [8] (fun i wr => ∃ (a : Nat) (n : Nat → Nat), a ≤ 5 ∧ i = .int .i64 a ∧ NewAt w wr (w.heap.size + 1) w.heap.size a n) (fun i _ => 6 - (intOf i).toNat)
  case atStart =>
    refine ⟨0, fun _ => 0, by omega, rfl, ((Chg.refl _ _).alloc _).alloc _, by omega, by omega, by omega, Blk.at_new (cs := [.slice (some ⟨w.heap.size, 0, none⟩) 5 5]) (by simp), ?_, fun i hi => by omega, fun i hi => by omega, fun i j hi => by omega⟩
    exact (Blk.new w 53 [.pointer none, .pointer none, .pointer none, .pointer none, .pointer none]).alloc _
  case round =>
    obtain ⟨a, n, ha, rfl, N⟩ := hrel
    by_cases hlt : a < 5
    · have a0 : (0 : Int) ≤ (a : Int) := by omega
      have a1 : (a : Int) < 5 := by omega
      have by0 : Hid (Blk (wr.alloc (.cells #[.int .i64 a, .int .i64 0, .int .i64 0, .int .i64 0, .int .i64 0, .int .i64 0, .int .i64 0, .int .i64 0, .int .i64 0, .int .i64 0, .int .i64 0, .int .i64 0, .int .i64 0, .int .i64 0, .int .i64 0, .int .i64 0, .int .i64 0, .int .i64 0, .int .i64 0, .int .i64 0, .int .i64 0, .int .i64 0, .int .i64 0, .int .i64 0, .int .i64 0, .int .i64 0, .int .i64 0, .int .i64 0, .int .i64 0, .int .i64 0, .int .i64 0, .int .i64 0, .int .i64 0, .int .i64 0, .int .i64 0, .int .i64 0, .int .i64 0, .int .i64 0, .int .i64 0, .int .i64 0, .int .i64 0] 58)) wr.heap.size 58 (ndC a (nodeTo a 0))) := by
        rw [← nodeTo_zero]
        exact Blk.new wr 58 (zeroC a)
      have hW := N.q.size
      have hxl := N.bx.lt
      have hrl := N.br.lt
      have hnl : Hid (∀ i, i < a → n i < wr.heap.size) := fun i hi => (N.nd i hi).lt
      have N1 := hide (N.of_chg (S := fun _ => False) ((Chg.refl _ wr).alloc (.cells #[.int .i64 a, .int .i64 0, .int .i64 0, .int .i64 0, .int .i64 0, .int .i64 0, .int .i64 0, .int .i64 0, .int .i64 0, .int .i64 0, .int .i64 0, .int .i64 0, .int .i64 0, .int .i64 0, .int .i64 0, .int .i64 0, .int .i64 0, .int .i64 0, .int .i64 0, .int .i64 0, .int .i64 0, .int .i64 0, .int .i64 0, .int .i64 0, .int .i64 0, .int .i64 0, .int .i64 0, .int .i64 0, .int .i64 0, .int .i64 0, .int .i64 0, .int .i64 0, .int .i64 0, .int .i64 0, .int .i64 0, .int .i64 0, .int .i64 0, .int .i64 0, .int .i64 0, .int .i64 0, .int .i64 0] 58)) (fun _ f => f.elim) id id (fun _ _ => id))
      clear N
      go_wp2
      generalize wr.alloc (.cells #[.int .i64 a, .int .i64 0, .int .i64 0, .int .i64 0, .int .i64 0, .int .i64 0, .int .i64 0, .int .i64 0, .int .i64 0, .int .i64 0, .int .i64 0, .int .i64 0, .int .i64 0, .int .i64 0, .int .i64 0, .int .i64 0, .int .i64 0, .int .i64 0, .int .i64 0, .int .i64 0, .int .i64 0, .int .i64 0, .int .i64 0, .int .i64 0, .int .i64 0, .int .i64 0, .int .i64 0, .int .i64 0, .int .i64 0, .int .i64 0, .int .i64 0, .int .i64 0, .int .i64 0, .int .i64 0, .int .i64 0, .int .i64 0, .int .i64 0, .int .i64 0, .int .i64 0, .int .i64 0, .int .i64 0] 58) = W at *
      generalize hY : wr.heap.size = Y at *
      have hYH := hide hY
      clear hY
      have yx : w.heap.size + 1 ≠ Y := by omega
      have yr : w.heap.size ≠ Y := by omega
      go_loopw [14] (fun i wr => ∃ b : Nat, b ≤ 5 ∧ i = .int .i64 b ∧ NewAt w wr (w.heap.size + 1) w.heap.size a n ∧ Blk wr Y 58 (ndC a (nodeTo a b))) (fun i _ => 6 - (intOf i).toNat)
      case atStart => exact ⟨0, by omega, rfl, unhide N1, unhide by0⟩
      case round =>
        obtain ⟨b, hb, rfl, N, yb⟩ := hrel
        clear N1 by0
        by_cases hltb : b < 5
        · have b0 : (0 : Int) ≤ (b : Int) := by omega
          have b1 : (b : Int) < 5 := by omega
          have hcall := hide (wire_any _ Y a _ yb (nodeTo_ok a b) hlt b hltb 0 (by omega))
          unfold ndPost ptr at hcall
          have NH := hide N
          clear N yb
          go_wp2_with fail
          refine (unhide hcall).mono ?_
          rintro e w3 ⟨rfl, ch, yb⟩
          rw [nodeTo_succ] at yb
          have N3 := hide ((unhide NH).of_chg ch (fun k e => by rw [e]; omega) yx yr (fun i hi e => by have := unhide hnl i hi; omega))
          have yH := hide yb
          clear hcall NH ch yb
          go_wp2
          go_roundw
          case rel => exact ⟨b + 1, by omega, by go_num, unhide N3, unhide yH⟩
          case measure => simp [intOf]; omega
        · have b1 : ¬ (b : Int) < 5 := by omega
          obtain rfl : b = 5 := by omega
          rw [nodeTo_all] at yb
          have c0 := N.bx.cell 0
          simp at c0
          obtain ⟨u, hu⟩ := rowTo_get n a a hlt
          have cr := (N.br.cell a).trans hu
          have fr := N.br.frozen a
          have fin : Hid (∀ V, V = wr.setCell ⟨w.heap.size, a, none⟩ (.pointer (some ⟨Y, 0, none⟩)) → NewAt w V (w.heap.size + 1) w.heap.size (a + 1) (upd n a Y)) := by
            intro V hV
            subst hV
            refine ⟨N.q.setCell (.inr (Nat.le_refl _)) _, N.xr, N.x0, N.r0, N.bx.set_other (a := ⟨w.heap.size, a, none⟩) N.xr _, ?_, ?_, ?_, ?_⟩
            · have h1 := N.br.set a (.pointer (some ⟨Y, 0, none⟩))
              rw [show (Value.pointer (some ⟨Y, 0, none⟩)) = ptr Y from rfl, rowTo_set n a Y hlt] at h1
              exact h1
            · intro i hi
              by_cases e : i = a
              · subst e
                simp only [upd, if_true]
                exact yb.set_other (a := ⟨w.heap.size, i, none⟩) (Ne.symm yr) _
              · simp only [upd, if_neg e]
                exact (N.nd i (by omega)).set_other (a := ⟨w.heap.size, a, none⟩) (N.ni i (by omega)).2.1 _
            · intro i hi
              by_cases e : i = a
              · subst e
                simp only [upd, if_true]
                exact ⟨Ne.symm yx, Ne.symm yr, by omega⟩
              · simp only [upd, if_neg e]
                exact N.ni i (by omega)
            · intro i j hi hj hij
              have k : ∀ m, m < a → n m ≠ Y := fun m hm e => by have := unhide hnl m hm; omega
              by_cases e : i = a
              · subst e
                have e2 : j ≠ i := Ne.symm hij
                simp only [upd, if_true, if_neg e2]
                exact Ne.symm (k j (by omega))
              · by_cases e2 : j = a
                · subst e2
                  simp only [upd, if_true, if_neg e]
                  exact k i (by omega)
                · simp only [upd, if_neg e, if_neg e2]
                  exact N.nn i j (by omega) (by omega) hij
          clear N yb hu
          go_wp2
          go_roundw
          case rel => exact ⟨a + 1, _, by omega, by go_num, unhide fin _ rfl⟩
          case measure => simp [intOf]; omega
    · have a1 : ¬ (a : Int) < 5 := by omega
      obtain rfl : a = 5 := by omega
      go_wp2
      go_ret
      exact N.done
end Go.Proofs.Qxb6500364a
