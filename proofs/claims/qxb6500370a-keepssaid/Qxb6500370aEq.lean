/-
  '==' on words.
-/
import Derived.Test.Qxb6500370aNew
import Derived.ChangeKeysEq
import Derived.Laws.StructEq
namespace Go.Proofs.Qxb6500370a
open Go.RowKit Go.Qx Go.Qx.Mk
set_option linter.unusedVariables false
set_option linter.unusedSimpArgs false

def sameW (a b : Nat → Int) : Bool := a 0 == b 0 && (a 1 == b 1 && (a 2 == b 2 && (a 3 == b 3 && a 4 == b 4)))
theorem sameW_fw {a b : List Int} (ha : a.length = 5) (hb : b.length = 5) : sameW (fw a) (fw b) = decide (a = b) := by
  match a, ha, b, hb with
  | [a0, a1, a2, a3, a4], _, [b0, b1, b2, b3, b4], _ =>
    rw [Bool.eq_iff_iff]
    simp [sameW, fw]
theorem info21 : ∃ i, Try.prog.info? 21 = some i := by
  have h := Try.underlying21
  unfold Program.underlying at h
  cases hi : Try.prog.info? 21 with
  | none => rw [hi] at h; cases h
  | some i => exact ⟨i, rfl⟩
theorem cells21 : Try.prog.cellsOf 21 = 1 := by kernel_rfl
theorem part21 (W : World) (xs : Array Value) (j : Nat) (v : Value) (h : xs[j]? = some v) : (part 21 xs j).run Try.prog W = .ok v W := by
  simp [part, Try.isAgg21, h]
theorem eqItems_step (W : World) (d : Nat) (xs ys : Array Value) (j : Nat) (a b : Int) (ha : xs[j]? = some (rk a)) (hb : ys[j]? = some (rk b)) (is : List Nat) :
    (Op.eqItems (d + 1) 21 1 xs ys (j :: is)).run Try.prog W = if a == b then (Op.eqItems (d + 1) 21 1 xs ys is).run Try.prog W else .ok false W := by
  simp only [Op.eqItems, Sem.run_bind, Nat.mul_one, part21 W xs j _ ha, part21 W ys j _ hb, Result.andThen_ok]
  unfold rk
  rw [run_equalIn_int W d 21 .i32 .i32 a b Try.underlying21]
  cases h : (a == b) <;> simp
theorem equal50 (W : World) (a b : Nat → Int) : (Op.equalIn 10000 50 (.agg #[rk (a 0), rk (a 1), rk (a 2), rk (a 3), rk (a 4)]) (.agg #[rk (b 0), rk (b 1), rk (b 2), rk (b 3), rk (b 4)])).run Try.prog W = .ok (sameW a b) W := by
  obtain ⟨i, hi⟩ := info21
  rw [run_equalIn_array W 9999 _ _ Try.underlying50 hi, cells21]
  rw [show List.range 5 = [0, 1, 2, 3, 4] from rfl]
  rw [eqItems_step W 9998 _ _ 0 (a 0) (b 0) rfl rfl, eqItems_step W 9998 _ _ 1 (a 1) (b 1) rfl rfl, eqItems_step W 9998 _ _ 2 (a 2) (b 2) rfl rfl, eqItems_step W 9998 _ _ 3 (a 3) (b 3) rfl rfl, eqItems_step W 9998 _ _ 4 (a 4) (b 4) rfl rfl]
  have e : (Op.eqItems 9999 21 1 #[rk (a 0), rk (a 1), rk (a 2), rk (a 3), rk (a 4)] #[rk (b 0), rk (b 1), rk (b 2), rk (b 3), rk (b 4)] []).run Try.prog W = .ok true W := rfl
  rw [e]
  unfold sameW
  cases (a 0 == b 0) <;> cases (a 1 == b 1) <;> cases (a 2 == b 2) <;> cases (a 3 == b 3) <;> cases (a 4 == b 4) <;> rfl
theorem eql50 (W : World) (a b : Nat → Int) : (binOp .eql 50 (.agg #[rk (a 0), rk (a 1), rk (a 2), rk (a 3), rk (a 4)]) (.agg #[rk (b 0), rk (b 1), rk (b 2), rk (b 3), rk (b 4)])).run Try.prog W = .ok (.bool (sameW a b)) W := by
  rw [run_eql_struct, equal50]; rfl
theorem neq50 (W : World) (a b : Nat → Int) : (binOp .neq 50 (.agg #[rk (a 0), rk (a 1), rk (a 2), rk (a 3), rk (a 4)]) (.agg #[rk (b 0), rk (b 1), rk (b 2), rk (b 3), rk (b 4)])).run Try.prog W = .ok (.bool (!sameW a b)) W := by
  rw [run_neq_struct, equal50]; rfl
end Go.Proofs.Qxb6500370a
