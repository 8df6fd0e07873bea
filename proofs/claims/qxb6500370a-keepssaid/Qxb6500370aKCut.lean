/-
  THE LAW'S OWN cut: the five letters of a text by the lead bytes' widths.
-/
import Derived.Test.Qxb6500370aPlay
import Derived.Test.Qxb6500370aRanges
namespace Go.Proofs.Qxb6500370a
open Go.RowKit Go.Qx Go.Qx.Mk
set_option linter.unusedVariables false
set_option linter.unusedSimpArgs false

def widC (b : Nat) : Nat := if 240 ≤ b then 4 else if 224 ≤ b then 3 else if 128 ≤ b then 2 else 1
/-- The place behind p pieces. -/
def cutTo (t : ByteArray) : Nat → Nat
  | 0 => 0
  | p + 1 => cutTo t p + widC (byt t (cutTo t p))
def piece (t : ByteArray) (p : Nat) : ByteArray := t.extract (cutTo t p) (cutTo t (p + 1))
def Fine (t : ByteArray) (p : Nat) : Prop := ∀ q, q < p → cutTo t q < t.size ∧ cutTo t (q + 1) ≤ t.size
/-- The row behind p pieces. -/
def rowS (t : ByteArray) (p : Nat) (q : Nat) : ByteArray := if q < p then piece t q else ⟨#[]⟩
def rowC (t : ByteArray) (p : Nat) : List Value := row5 (fun q => .string (rowS t p q))
theorem rowC_next (t : ByteArray) (p : Nat) (hp : p < 5) : (rowC t p).set p (.string (piece t p)) = rowC t (p + 1) :=
  row5_set _ (fun q => .string (rowS t (p + 1) q)) p _ hp (by unfold rowS; rw [if_pos (by omega)]) (fun q _ hne => by
    unfold rowS
    by_cases e : q < p
    · rw [if_pos e, if_pos (by omega)]
    · rw [if_neg e, if_neg (by omega)])
theorem cutTo_le (t : ByteArray) (p : Nat) (h : Fine t p) : cutTo t p ≤ t.size := by
  cases p with
  | zero => exact Nat.zero_le _
  | succ p => exact (h p (by omega)).2
theorem widC_le (b : Nat) : 1 ≤ widC b ∧ widC b ≤ 4 := by
  unfold widC; repeat' split
  all_goals omega
def cutPost (t : ByteArray) (w : World) (e : Ending) (w' : World) : Prop :=
  ∃ p, p ≤ 5 ∧ Fine t p ∧ (p = 5 ∨ ¬ Fine t (p + 1)) ∧ e = .returned (.tuple #[.agg (rowC t p).toArray, .bool (decide (p = 5 ∧ cutTo t 5 = t.size))]) ∧ Quiet w w'
def s5 : List Value := [.string ⟨#[]⟩, .string ⟨#[]⟩, .string ⟨#[]⟩, .string ⟨#[]⟩, .string ⟨#[]⟩]
structure CT (w wr : World) (t : ByteArray) (p : Nat) : Prop where
  q : Quiet w wr
  r : Blk wr w.heap.size 77 s5
  d : Blk wr (w.heap.size + 1) 77 (rowC t p)
/-- The result's box takes the row. -/
theorem CT.done {w wr : World} {t : ByteArray} {p : Nat} (A : CT w wr t p) : Blk (((((wr.setCell ⟨w.heap.size, 0, none⟩ (.string (rowS t p 0))).setCell ⟨w.heap.size, 1, none⟩ (.string (rowS t p 1))).setCell ⟨w.heap.size, 2, none⟩ (.string (rowS t p 2))).setCell ⟨w.heap.size, 3, none⟩ (.string (rowS t p 3))).setCell ⟨w.heap.size, 4, none⟩ (.string (rowS t p 4))) w.heap.size 77 (rowC t p) :=
  ((((A.r.set 0 _).set 1 _).set 2 _).set 3 _).set 4 _
theorem cut_idx (t : ByteArray) (i : Nat) (h : i < t.size) (W : World) : (Instr.index 9 (.string t) (.int .i64 (i : Int))).run Try.prog W = .ok (.int .u8 (byt t i : Int)) W := by
  rw [run_index_string W 9 t .i64 i Try.underlying9, dif_pos (by omega)]
  congr 2
  unfold byt
  have e : t.get! i = t.data[i]'h := by
    show t.data[i]! = _
    exact getElem!_pos t.data i h
  rw [e]
  rfl

theorem cut_slice (t : ByteArray) (i n : Nat) (h : i + n ≤ t.size) (W : World) : (Instr.slice 9 (.string t) (some (.int .i64 (i : Int))) (some (.int .i64 ((i : Int) + (n : Int)))) none).run Try.prog W = .ok (.string (t.extract i (i + n))) W := by
  rw [run_slice_string W 9 t .i64 .i64 i ((i : Int) + n) Try.underlying9 (by omega) (by omega) (by omega)]
  congr 3

set_option maxHeartbeats 4000000 in
set_option maxRecDepth 100000 in
theorem cut_any (w : World) (t : ByteArray) (ht : t.size ≤ 1000) : Calls Try.prog 39 #[.string t] w (cutPost t w) := by
  have S0 : Hid (CT w ((w.alloc (.cells s5.toArray 77)).alloc (.cells s5.toArray 77)) t 0) := by
    refine ⟨Chg.alloc (Chg.alloc (Chg.refl (fun _ => False) w) _) _, (Blk.new w 77 s5).alloc _, ?_⟩
    have := Blk.new (w.alloc (.cells s5.toArray 77)) 77 s5
    rw [show (w.alloc (.cells s5.toArray 77)).heap.size = w.heap.size + 1 by simp] at this
    exact this
  rw [show s5.toArray = #[Value.string ⟨#[]⟩, Value.string ⟨#[]⟩, Value.string ⟨#[]⟩, Value.string ⟨#[]⟩, Value.string ⟨#[]⟩] from rfl] at S0
  go_enter Try.func39, Try.ntmps39
  go_wp2
  go_loopw [5, 6] (fun i z wr => ∃ p : Nat, p ≤ 5 ∧ Fine t p ∧ i = .int .i64 (cutTo t p : Int) ∧ z = .int .i64 (p : Int) ∧ CT w wr t p) (fun _ z _ => 6 - (intOf z).toNat)
  case atStart => exact ⟨0, by omega, fun q hq => absurd hq (by omega), rfl, rfl, unhide S0⟩
  case round =>
    clear S0
    obtain ⟨p, hp, fi, rfl, rfl, A⟩ := hrel
    have hle := cutTo_le t p fi
    have r0 : wr.cell? ⟨w.heap.size, 0, none⟩ = some (.string ⟨#[]⟩) := A.r.cell 0
    have r1 : wr.cell? ⟨w.heap.size, 1, none⟩ = some (.string ⟨#[]⟩) := A.r.cell 1
    have r2 : wr.cell? ⟨w.heap.size, 2, none⟩ = some (.string ⟨#[]⟩) := A.r.cell 2
    have r3 : wr.cell? ⟨w.heap.size, 3, none⟩ = some (.string ⟨#[]⟩) := A.r.cell 3
    have r4 : wr.cell? ⟨w.heap.size, 4, none⟩ = some (.string ⟨#[]⟩) := A.r.cell 4
    have f0 := A.r.frozen 0
    have f1 := A.r.frozen 1
    have f2 := A.r.frozen 2
    have f3 := A.r.frozen 3
    have f4 := A.r.frozen 4
    have d0 : wr.cell? ⟨w.heap.size + 1, 0, none⟩ = some (.string (rowS t p 0)) := A.d.cell 0
    have d1 : wr.cell? ⟨w.heap.size + 1, 1, none⟩ = some (.string (rowS t p 1)) := A.d.cell 1
    have d2 : wr.cell? ⟨w.heap.size + 1, 2, none⟩ = some (.string (rowS t p 2)) := A.d.cell 2
    have d3 : wr.cell? ⟨w.heap.size + 1, 3, none⟩ = some (.string (rowS t p 3)) := A.d.cell 3
    have d4 : wr.cell? ⟨w.heap.size + 1, 4, none⟩ = some (.string (rowS t p 4)) := A.d.cell 4
    have gp := A.d.frozen p
    have fin : Hid (∀ W' v, W' = (((((wr.setCell ⟨w.heap.size, 0, none⟩ (.string (rowS t p 0))).setCell ⟨w.heap.size, 1, none⟩ (.string (rowS t p 1))).setCell ⟨w.heap.size, 2, none⟩ (.string (rowS t p 2))).setCell ⟨w.heap.size, 3, none⟩ (.string (rowS t p 3))).setCell ⟨w.heap.size, 4, none⟩ (.string (rowS t p 4))) → (p = 5 ∨ ¬ Fine t (p + 1)) → v = decide (p = 5 ∧ cutTo t 5 = t.size) → Blk W' w.heap.size 77 (rowC t p) ∧ cutPost t w (.returned (.tuple #[.agg (rowC t p).toArray, .bool v])) W') := by
      show ∀ W' v, _
      rintro W' v rfl h1 rfl
      exact ⟨A.done, p, hp, fi, h1, rfl, quiet5 A.q _ _ _ _ _⟩
    have AH := hide A
    clear A
    by_cases h5 : p < 5
    · have p1 : (p : Int) < 5 := by omega
      have p0 : (0 : Int) ≤ (p : Int) := by omega
      have wp : wrap64 ((p : Int) + 1) = (p : Int) + 1 := wrap_small (p + 1) (by omega)
      by_cases hlt : cutTo t p < t.size
      · have g1 : (cutTo t p : Int) < (t.size : Int) := by omega
        have hix := cut_idx t (cutTo t p) hlt
        have hb := byt_lt t (cutTo t p)
        have hnx : cutTo t (p + 1) = cutTo t p + widC (byt t (cutTo t p)) := rfl
        have hpc : piece t p = t.extract (cutTo t p) (cutTo t p + widC (byt t (cutTo t p))) := rfl
        obtain ⟨x, hx⟩ : ∃ x, (rowC t p)[p]? = some (.string x) := ⟨_, row5_get _ p h5⟩
        have dp := ((unhide AH).d.cell p).trans hx
        by_cases hc4 : 240 ≤ byt t (cutTo t p)
        · have b1 : (240 : Int) ≤ (byt t (cutTo t p) : Int) := by omega
          have hwd : widC (byt t (cutTo t p)) = 4 := by unfold widC; (repeat' split) <;> omega
          rw [hwd] at hnx hpc
          have wi : wrap64 ((cutTo t p : Int) + 4) = (cutTo t p : Int) + 4 := wrap_small (cutTo t p + 4) (by omega)
          by_cases hfit : cutTo t p + 4 ≤ t.size
          · have g3 : ¬ (t.size : Int) < (cutTo t p : Int) + 4 := by omega
            have g4 : (cutTo t p : Int) + 4 ≤ (t.size : Int) := by omega
            have c0 : (0 : Int) ≤ (cutTo t p : Int) := by omega
            have hsl : ∀ W, (Instr.slice 9 (.string t) (some (.int .i64 (cutTo t p : Int))) (some (.int .i64 ((cutTo t p : Int) + 4))) none).run Try.prog W = .ok (.string (piece t p)) W := fun W => by
              rw [hpc]; exact cut_slice t (cutTo t p) 4 hfit W
            have fi1 : Hid (Fine t (p + 1)) := fun q hq => by
              by_cases e : q = p
              · subst e; exact ⟨hlt, by rw [hnx]; exact hfit⟩
              · exact fi q (by omega)
            have A1 : Hid (CT w (wr.setCell ⟨w.heap.size + 1, p, none⟩ (.string (piece t p))) t (p + 1)) := by
              have A := unhide AH
              refine ⟨A.q.setCell (p := ⟨w.heap.size + 1, p, none⟩) (.inr (by show _ ≤ w.heap.size + 1; omega)) _, A.r.set_other (by show w.heap.size ≠ w.heap.size + 1; omega) _, ?_⟩
              have := A.d.set p (.string (piece t p))
              rw [rowC_next t p h5] at this
              exact this
            have hnxH := hide hnx
            have h5H := hide h5
            clear fin hp fi hle hlt hb hnx hpc hx hfit h5 hwd AH
            generalize piece t p = pc at *
            generalize byt t (cutTo t p) = by0 at *
            generalize cutTo t p = ci at *
            go_wp2
            go_roundw
            case rel => exact ⟨p + 1, unhide h5H, unhide fi1, by rw [show cutTo t (p + 1) = ci + 4 from unhide hnxH]; simp; try exact wi, by simp; try exact wp, unhide A1⟩
            case measure =>
              have h := unhide h5H
              first
                | exact meas_list h
                | (rw [wp]; exact meas_list h)
          · have g3 : (t.size : Int) < (cutTo t p : Int) + 4 := by omega
            have fin2 := hide (fun W' e => unhide fin W' false e (.inr (fun f => hfit (by have := (f p (by omega)).2; rw [hnx] at this; exact this))) (by rw [decide_eq_false (by omega)]))
            clear fin hp fi hle hlt hb hnx hpc hx hfit h5 hwd AH
            generalize byt t (cutTo t p) = by0 at *
            generalize cutTo t p = ci at *
            generalize rowS t p 0 = v0 at *
            generalize rowS t p 1 = v1 at *
            generalize rowS t p 2 = v2 at *
            generalize rowS t p 3 = v3 at *
            generalize rowS t p 4 = v4 at *
            go_wp2
            exact bodyPost_ret (v := .tuple #[.agg (rowC t p).toArray, .bool false]) (results_blk_tmp (u := 77) (cs := rowC t p) Try.results39 rfl Try.isAgg77 Try.sizeOf77 (unhide fin2 _ rfl).1) rfl (unhide fin2 _ rfl).2
        · skip
          by_cases hc3 : 224 ≤ byt t (cutTo t p)
          · have b1 : ¬ (240 : Int) ≤ (byt t (cutTo t p) : Int) := by omega
            have b2 : (224 : Int) ≤ (byt t (cutTo t p) : Int) := by omega
            have hwd : widC (byt t (cutTo t p)) = 3 := by unfold widC; (repeat' split) <;> omega
            rw [hwd] at hnx hpc
            have wi : wrap64 ((cutTo t p : Int) + 3) = (cutTo t p : Int) + 3 := wrap_small (cutTo t p + 3) (by omega)
            by_cases hfit : cutTo t p + 3 ≤ t.size
            · have g3 : ¬ (t.size : Int) < (cutTo t p : Int) + 3 := by omega
              have g4 : (cutTo t p : Int) + 3 ≤ (t.size : Int) := by omega
              have c0 : (0 : Int) ≤ (cutTo t p : Int) := by omega
              have hsl : ∀ W, (Instr.slice 9 (.string t) (some (.int .i64 (cutTo t p : Int))) (some (.int .i64 ((cutTo t p : Int) + 3))) none).run Try.prog W = .ok (.string (piece t p)) W := fun W => by
                rw [hpc]; exact cut_slice t (cutTo t p) 3 hfit W
              have fi1 : Hid (Fine t (p + 1)) := fun q hq => by
                by_cases e : q = p
                · subst e; exact ⟨hlt, by rw [hnx]; exact hfit⟩
                · exact fi q (by omega)
              have A1 : Hid (CT w (wr.setCell ⟨w.heap.size + 1, p, none⟩ (.string (piece t p))) t (p + 1)) := by
                have A := unhide AH
                refine ⟨A.q.setCell (p := ⟨w.heap.size + 1, p, none⟩) (.inr (by show _ ≤ w.heap.size + 1; omega)) _, A.r.set_other (by show w.heap.size ≠ w.heap.size + 1; omega) _, ?_⟩
                have := A.d.set p (.string (piece t p))
                rw [rowC_next t p h5] at this
                exact this
              have hnxH := hide hnx
              have h5H := hide h5
              clear fin hp fi hle hlt hb hnx hpc hx hfit h5 hwd AH
              generalize piece t p = pc at *
              generalize byt t (cutTo t p) = by0 at *
              generalize cutTo t p = ci at *
              go_wp2
              go_roundw
              case rel => exact ⟨p + 1, unhide h5H, unhide fi1, by rw [show cutTo t (p + 1) = ci + 3 from unhide hnxH]; simp; try exact wi, by simp; try exact wp, unhide A1⟩
              case measure =>
                have h := unhide h5H
                first
                  | exact meas_list h
                  | (rw [wp]; exact meas_list h)
            · have g3 : (t.size : Int) < (cutTo t p : Int) + 3 := by omega
              have fin2 := hide (fun W' e => unhide fin W' false e (.inr (fun f => hfit (by have := (f p (by omega)).2; rw [hnx] at this; exact this))) (by rw [decide_eq_false (by omega)]))
              clear fin hp fi hle hlt hb hnx hpc hx hfit h5 hwd AH
              generalize byt t (cutTo t p) = by0 at *
              generalize cutTo t p = ci at *
              generalize rowS t p 0 = v0 at *
              generalize rowS t p 1 = v1 at *
              generalize rowS t p 2 = v2 at *
              generalize rowS t p 3 = v3 at *
              generalize rowS t p 4 = v4 at *
              go_wp2
              exact bodyPost_ret (v := .tuple #[.agg (rowC t p).toArray, .bool false]) (results_blk_tmp (u := 77) (cs := rowC t p) Try.results39 rfl Try.isAgg77 Try.sizeOf77 (unhide fin2 _ rfl).1) rfl (unhide fin2 _ rfl).2
          · skip
            by_cases hc2 : 128 ≤ byt t (cutTo t p)
            · have b1 : ¬ (240 : Int) ≤ (byt t (cutTo t p) : Int) := by omega
              have b2 : ¬ (224 : Int) ≤ (byt t (cutTo t p) : Int) := by omega
              have b3 : (128 : Int) ≤ (byt t (cutTo t p) : Int) := by omega
              have hwd : widC (byt t (cutTo t p)) = 2 := by unfold widC; (repeat' split) <;> omega
              rw [hwd] at hnx hpc
              have wi : wrap64 ((cutTo t p : Int) + 2) = (cutTo t p : Int) + 2 := wrap_small (cutTo t p + 2) (by omega)
              by_cases hfit : cutTo t p + 2 ≤ t.size
              · have g3 : ¬ (t.size : Int) < (cutTo t p : Int) + 2 := by omega
                have g4 : (cutTo t p : Int) + 2 ≤ (t.size : Int) := by omega
                have c0 : (0 : Int) ≤ (cutTo t p : Int) := by omega
                have hsl : ∀ W, (Instr.slice 9 (.string t) (some (.int .i64 (cutTo t p : Int))) (some (.int .i64 ((cutTo t p : Int) + 2))) none).run Try.prog W = .ok (.string (piece t p)) W := fun W => by
                  rw [hpc]; exact cut_slice t (cutTo t p) 2 hfit W
                have fi1 : Hid (Fine t (p + 1)) := fun q hq => by
                  by_cases e : q = p
                  · subst e; exact ⟨hlt, by rw [hnx]; exact hfit⟩
                  · exact fi q (by omega)
                have A1 : Hid (CT w (wr.setCell ⟨w.heap.size + 1, p, none⟩ (.string (piece t p))) t (p + 1)) := by
                  have A := unhide AH
                  refine ⟨A.q.setCell (p := ⟨w.heap.size + 1, p, none⟩) (.inr (by show _ ≤ w.heap.size + 1; omega)) _, A.r.set_other (by show w.heap.size ≠ w.heap.size + 1; omega) _, ?_⟩
                  have := A.d.set p (.string (piece t p))
                  rw [rowC_next t p h5] at this
                  exact this
                have hnxH := hide hnx
                have h5H := hide h5
                clear fin hp fi hle hlt hb hnx hpc hx hfit h5 hwd AH
                generalize piece t p = pc at *
                generalize byt t (cutTo t p) = by0 at *
                generalize cutTo t p = ci at *
                go_wp2
                go_roundw
                case rel => exact ⟨p + 1, unhide h5H, unhide fi1, by rw [show cutTo t (p + 1) = ci + 2 from unhide hnxH]; simp; try exact wi, by simp; try exact wp, unhide A1⟩
                case measure =>
                  have h := unhide h5H
                  first
                    | exact meas_list h
                    | (rw [wp]; exact meas_list h)
              · have g3 : (t.size : Int) < (cutTo t p : Int) + 2 := by omega
                have fin2 := hide (fun W' e => unhide fin W' false e (.inr (fun f => hfit (by have := (f p (by omega)).2; rw [hnx] at this; exact this))) (by rw [decide_eq_false (by omega)]))
                clear fin hp fi hle hlt hb hnx hpc hx hfit h5 hwd AH
                generalize byt t (cutTo t p) = by0 at *
                generalize cutTo t p = ci at *
                generalize rowS t p 0 = v0 at *
                generalize rowS t p 1 = v1 at *
                generalize rowS t p 2 = v2 at *
                generalize rowS t p 3 = v3 at *
                generalize rowS t p 4 = v4 at *
                go_wp2
                all_goals exact bodyPost_ret (v := .tuple #[.agg (rowC t p).toArray, .bool false]) (results_blk_tmp (u := 77) (cs := rowC t p) Try.results39 rfl Try.isAgg77 Try.sizeOf77 (unhide fin2 _ rfl).1) rfl (unhide fin2 _ rfl).2
            · skip
              have b1 : ¬ (240 : Int) ≤ (byt t (cutTo t p) : Int) := by omega
              have b2 : ¬ (224 : Int) ≤ (byt t (cutTo t p) : Int) := by omega
              have b3 : ¬ (128 : Int) ≤ (byt t (cutTo t p) : Int) := by omega
              have hwd : widC (byt t (cutTo t p)) = 1 := by unfold widC; (repeat' split) <;> omega
              rw [hwd] at hnx hpc
              have wi : wrap64 ((cutTo t p : Int) + 1) = (cutTo t p : Int) + 1 := wrap_small (cutTo t p + 1) (by omega)
              by_cases hfit : cutTo t p + 1 ≤ t.size
              · have g3 : ¬ (t.size : Int) < (cutTo t p : Int) + 1 := by omega
                have g4 : (cutTo t p : Int) + 1 ≤ (t.size : Int) := by omega
                have c0 : (0 : Int) ≤ (cutTo t p : Int) := by omega
                have hsl : ∀ W, (Instr.slice 9 (.string t) (some (.int .i64 (cutTo t p : Int))) (some (.int .i64 ((cutTo t p : Int) + 1))) none).run Try.prog W = .ok (.string (piece t p)) W := fun W => by
                  rw [hpc]; exact cut_slice t (cutTo t p) 1 hfit W
                have fi1 : Hid (Fine t (p + 1)) := fun q hq => by
                  by_cases e : q = p
                  · subst e; exact ⟨hlt, by rw [hnx]; exact hfit⟩
                  · exact fi q (by omega)
                have A1 : Hid (CT w (wr.setCell ⟨w.heap.size + 1, p, none⟩ (.string (piece t p))) t (p + 1)) := by
                  have A := unhide AH
                  refine ⟨A.q.setCell (p := ⟨w.heap.size + 1, p, none⟩) (.inr (by show _ ≤ w.heap.size + 1; omega)) _, A.r.set_other (by show w.heap.size ≠ w.heap.size + 1; omega) _, ?_⟩
                  have := A.d.set p (.string (piece t p))
                  rw [rowC_next t p h5] at this
                  exact this
                have hnxH := hide hnx
                have h5H := hide h5
                clear fin hp fi hle hlt hb hnx hpc hx hfit h5 hwd AH
                generalize piece t p = pc at *
                generalize byt t (cutTo t p) = by0 at *
                generalize cutTo t p = ci at *
                go_wp2
                go_roundw
                case rel => exact ⟨p + 1, unhide h5H, unhide fi1, by rw [show cutTo t (p + 1) = ci + 1 from unhide hnxH]; simp; try exact wi, by simp; try exact wp, unhide A1⟩
                case measure =>
                  have h := unhide h5H
                  first
                    | exact meas_list h
                    | (rw [wp]; exact meas_list h)
              · have g3 : (t.size : Int) < (cutTo t p : Int) + 1 := by omega
                have fin2 := hide (fun W' e => unhide fin W' false e (.inr (fun f => hfit (by have := (f p (by omega)).2; rw [hnx] at this; exact this))) (by rw [decide_eq_false (by omega)]))
                clear fin hp fi hle hlt hb hnx hpc hx hfit h5 hwd AH
                generalize byt t (cutTo t p) = by0 at *
                generalize cutTo t p = ci at *
                generalize rowS t p 0 = v0 at *
                generalize rowS t p 1 = v1 at *
                generalize rowS t p 2 = v2 at *
                generalize rowS t p 3 = v3 at *
                generalize rowS t p 4 = v4 at *
                go_wp2
                all_goals exact bodyPost_ret (v := .tuple #[.agg (rowC t p).toArray, .bool false]) (results_blk_tmp (u := 77) (cs := rowC t p) Try.results39 rfl Try.isAgg77 Try.sizeOf77 (unhide fin2 _ rfl).1) rfl (unhide fin2 _ rfl).2
      · have g1 : ¬ (cutTo t p : Int) < (t.size : Int) := by omega
        have g2 : (t.size : Int) ≤ (cutTo t p : Int) := by omega
        have fin2 := hide (fun W' e => unhide fin W' false e (.inr (fun f => hlt (f p (by omega)).1)) (by rw [decide_eq_false (by omega)]))
        clear fin hp fi hle hlt
        generalize cutTo t p = ci at *
        generalize rowS t p 0 = v0 at *
        generalize rowS t p 1 = v1 at *
        generalize rowS t p 2 = v2 at *
        generalize rowS t p 3 = v3 at *
        generalize rowS t p 4 = v4 at *
        go_wp2
        exact bodyPost_ret (v := .tuple #[.agg (rowC t p).toArray, .bool false]) (results_blk_tmp (u := 77) (cs := rowC t p) Try.results39 rfl Try.isAgg77 Try.sizeOf77 (unhide fin2 _ rfl).1) rfl (unhide fin2 _ rfl).2
    · skip
      obtain rfl : p = 5 := by omega
      have p1 : ¬ ((5 : Nat) : Int) < 5 := by omega
      have p1' : ¬ (5 : Int) < 5 := by omega
      by_cases he : cutTo t 5 = t.size
      · have g : ((cutTo t 5 : Int) == (t.size : Int)) = true := by rw [beq_iff_eq]; omega
        have fin2 := hide (fun W' e => unhide fin W' true e (.inl rfl) (by rw [decide_eq_true ⟨rfl, he⟩]))
        clear fin hp fi hle he AH
        generalize cutTo t 5 = ci at *
        generalize rowS t 5 0 = v0 at *
        generalize rowS t 5 1 = v1 at *
        generalize rowS t 5 2 = v2 at *
        generalize rowS t 5 3 = v3 at *
        generalize rowS t 5 4 = v4 at *
        go_wp2
        exact bodyPost_ret (v := .tuple #[.agg (rowC t 5).toArray, .bool true]) (results_blk_tmp (u := 77) (cs := rowC t 5) Try.results39 rfl Try.isAgg77 Try.sizeOf77 (unhide fin2 _ rfl).1) rfl (unhide fin2 _ rfl).2
      · have g : ((cutTo t 5 : Int) == (t.size : Int)) = false := by rw [beq_eq_false_iff_ne]; omega
        have fin2 := hide (fun W' e => unhide fin W' false e (.inl rfl) (by rw [decide_eq_false (fun h => he h.2)]))
        clear fin hp fi hle he AH
        generalize cutTo t 5 = ci at *
        generalize rowS t 5 0 = v0 at *
        generalize rowS t 5 1 = v1 at *
        generalize rowS t 5 2 = v2 at *
        generalize rowS t 5 3 = v3 at *
        generalize rowS t 5 4 = v4 at *
        go_wp2
        exact bodyPost_ret (v := .tuple #[.agg (rowC t 5).toArray, .bool false]) (results_blk_tmp (u := 77) (cs := rowC t 5) Try.results39 rfl Try.isAgg77 Try.sizeOf77 (unhide fin2 _ rfl).1) rfl (unhide fin2 _ rfl).2
end Go.Proofs.Qxb6500370a
