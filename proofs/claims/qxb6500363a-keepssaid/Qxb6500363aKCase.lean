/-
  What one step of the script is, plainly: six cases.
-/
import Derived.Test.Qxb6500363aKFrame
import Derived.Test.Qxb6500363aRefine
namespace Go.Proofs.Qxb6500363a
open Go.RowKit Go.Qx
set_option linter.unusedVariables false
set_option linter.unusedSimpArgs false

theorem step_cases {k : Int} {xs : List Int} (o : Ok k xs) (p : Opr) :
    ((ansP k xs p).e ≠ 0 ∧ nextP k xs p = (k, xs))
    ∨ (p.k = 1 ∧ (ansP k xs p).e = 0 ∧ fitP p.s.size p.a = 0 ∧ nextP k xs p = (p.a, loadX p.a p.s.data.toList))
    ∨ (p.k = 2 ∧ (ansP k xs p).e = 0 ∧ ∃ v : Nat, p.a = v ∧ v < xs.length ∧ nextP k xs p = (k, xs.set v (normP p.b k)))
    ∨ (p.k = 3 ∧ (ansP k xs p).e = 0 ∧ ∃ v : Nat, p.a = v ∧ v < xs.length ∧ priv xs v = true ∧ nextP k xs p = (k, moveX k xs v))
    ∨ (p.k = 4 ∧ (ansP k xs p).e = 0 ∧ ∃ v : Nat, (ansP k xs p).n = v ∧ v < xs.length ∧ priv xs v = true ∧ cnt ((hots xs).take v) = normP p.a (cnt (hots xs)) ∧ nextP k xs p = (k, moveX k xs v))
    ∨ ((p.k ≠ 1 ∧ p.k ≠ 2 ∧ p.k ≠ 3 ∧ p.k ≠ 4) ∧ (ansP k xs p).e = 0 ∧ nextP k xs p = (k, xs)) := by
  obtain ⟨pk, pa, pb, pc, ps, pt⟩ := p
  by_cases h1 : pk = 1
  · subst h1
    by_cases hf : fitP ps.size pa = 0
    · refine .inr (.inl ⟨rfl, hf, hf, ?_⟩)
      show loadKX k xs pa ps = _
      unfold loadKX; rw [if_pos hf]
    · refine .inl ⟨hf, ?_⟩
      show loadKX k xs pa ps = _
      unfold loadKX; rw [if_neg hf]
  by_cases h2 : pk = 2
  · subst h2
    have e1 : (ansP k xs ⟨2, pa, pb, pc, ps, pt⟩).e = (pokeX k xs pa pb).1 := rfl
    have e2 : nextP k xs ⟨2, pa, pb, pc, ps, pt⟩ = (k, (pokeX k xs pa pb).2) := rfl
    rw [e1, e2]
    by_cases hw : 0 ≤ pa ∧ pa < xs.length
    · obtain ⟨j, rfl⟩ : ∃ j : Nat, pa = j := ⟨pa.toNat, by omega⟩
      have : pokeX k xs j pb = (0, xs.set j (normP pb k)) := by unfold pokeX; rw [if_pos hw]; rfl
      rw [this]
      exact .inr (.inr (.inl ⟨rfl, rfl, j, rfl, by omega, rfl⟩))
    · have : pokeX k xs pa pb = (3, xs) := by unfold pokeX; rw [if_neg hw]
      rw [this]
      exact .inl ⟨by simp, rfl⟩
  by_cases h3 : pk = 3
  · subst h3
    have e1 : (ansP k xs ⟨3, pa, pb, pc, ps, pt⟩).e = (moveE k xs pa).1 := rfl
    have e2 : nextP k xs ⟨3, pa, pb, pc, ps, pt⟩ = (k, (moveE k xs pa).2) := rfl
    rw [e1, e2]
    by_cases hw : 0 ≤ pa ∧ pa < xs.length
    · obtain ⟨j, rfl⟩ : ∃ j : Nat, pa = j := ⟨pa.toNat, by omega⟩
      cases hp : priv xs j
      · have : moveE k xs j = (4, xs) := by unfold moveE; rw [if_pos hw, Int.toNat_natCast, hp]; rfl
        rw [this]
        exact .inl ⟨by simp, rfl⟩
      · rw [moveE_hot k xs j (by omega) hp]
        exact .inr (.inr (.inr (.inl ⟨rfl, rfl, j, rfl, by omega, hp, rfl⟩)))
    · have : moveE k xs pa = (3, xs) := by unfold moveE; rw [if_neg hw]
      rw [this]
      exact .inl ⟨by simp, rfl⟩
  by_cases h4 : pk = 4
  · subst h4
    obtain ⟨v, hv, he, hp, hc⟩ := kickE_law k xs pa (P1 xs o.n2)
    have e1 : (ansP k xs ⟨4, pa, pb, pc, ps, pt⟩) = ⟨0, (kickE k xs pa).1, ⟨#[]⟩⟩ := rfl
    have e2 : nextP k xs ⟨4, pa, pb, pc, ps, pt⟩ = (k, (kickE k xs pa).2) := rfl
    rw [e1, e2, he]
    exact .inr (.inr (.inr (.inr (.inl ⟨rfl, rfl, v, rfl, hv, hp, hc, rfl⟩))))
  · refine .inr (.inr (.inr (.inr (.inr ⟨⟨h1, h2, h3, h4⟩, ?_, ?_⟩))))
    · unfold ansP; simp only [h1, h2, h3, h4, if_false]; repeat' split
      all_goals rfl
    · unfold nextP; simp only [h1, h2, h3, h4, if_false]
theorem lim_small (n : Nat) (h6 : n ≤ 6) (h2 : 2 ≤ n) : 1 ≤ 3 * n * (n - 1) / 2 ∧ 3 * n * (n - 1) / 2 ≤ 45 := by
  obtain rfl | rfl | rfl | rfl | rfl : n = 2 ∨ n = 3 ∨ n = 4 ∨ n = 5 ∨ n = 6 := by omega
  all_goals decide
theorem may_facts (xs : List Int) (v : Nat) (y : Int) (h2 : 2 ≤ xs.length) (h6 : xs.length ≤ 6) (hv : v < xs.length) :
    ∃ X may : Nat, bits BinOp.xor IntKind.i64 (mk (hots xs) : Int) (mk (hots (xs.set v y)) : Int) = (X : Int) ∧ bits BinOp.or IntKind.i64 (X : Int) (may : Int) = (may : Int) ∧
      bits BinOp.or IntKind.i64 ((2 : Int) ^ v) (2 ^ nb xs.length v) = (may : Int) := by
  have l1 := mk_lt64 (hots xs) (by rw [hots_length]; exact h6)
  have l2 := mk_lt64 (hots (xs.set v y)) (by rw [hots_length, List.length_set]; exact h6)
  have p : ∀ j, j ≤ 6 → 2 ^ j < 128 := fun j hj => Nat.lt_of_le_of_lt (Nat.pow_le_pow_right (by decide) hj) (by decide)
  have pv := p v (by omega)
  have pn := p (nb xs.length v) (by have := nb_lt _ _ hv; omega)
  have lx : mk (hots xs) ^^^ mk (hots (xs.set v y)) < 2 ^ 7 := Nat.xor_lt_two_pow (by omega) (by omega)
  have lm : 2 ^ v ||| 2 ^ nb xs.length v < 2 ^ 7 := Nat.or_lt_two_pow (by omega) (by omega)
  refine ⟨mk (hots xs) ^^^ mk (hots (xs.set v y)), 2 ^ v ||| 2 ^ nb xs.length v, bits_xor_nat _ _ (by omega) (by omega), ?_, ?_⟩
  · rw [bits_or_nat _ _ (by omega) (by omega), turn_may xs v y h2 hv]
  · have e := bits_or_nat (2 ^ v) (2 ^ nb xs.length v) (by omega) (by omega)
    rw [← e]; simp
/-- What turned the ghost. -/
def Cs2 (k : Int) (xs : List Int) (k' : Int) (xs' : List Int) (kk v ob oa : Int) (os : ByteArray) : Prop :=
  ((kk ≠ 1 ∧ kk ≠ 2 ∧ kk ≠ 3) ∧ k' = k ∧ xs' = xs)
  ∨ (kk = 1 ∧ fitP os.size oa = 0 ∧ k' = oa ∧ xs' = loadX oa os.data.toList)
  ∨ (kk = 2 ∧ ∃ vn : Nat, v = vn ∧ vn < xs.length ∧ k' = k ∧ xs' = xs.set vn (normP ob k))
  ∨ (kk = 3 ∧ ∃ vn : Nat, v = vn ∧ vn < xs.length ∧ priv xs vn = true ∧ k' = k ∧ xs' = moveX k xs vn)
theorem step_turn {k : Int} {xs : List Int} (o : Ok k xs) (p : Opr) (aE aN : Int) (aS : ByteArray) (k' : Int) (xs' : List Int) (hA : ansP k xs p = ⟨aE, aN, aS⟩) (hN : nextP k xs p = (k', xs')) (kk1 kk2 v2 : Int) (h1 : kk1 = if aE = 0 then p.k else 0) (h2 : kk2 = if kk1 = 4 then 3 else kk1) (h3 : v2 = if kk1 = 4 then aN else p.a) :
    (kk1 = 4 → ∃ v : Nat, aN = v ∧ v < xs.length ∧ priv xs v = true ∧ cnt ((hots xs).take v) = normP p.a (cnt (hots xs))) ∧ (kk2 = 1 → xs'.length = p.s.size) ∧ (kk2 ≠ 1 → xs'.length = xs.length) ∧ Cs2 k xs k' xs' kk2 v2 p.b p.a p.s := by
  have cs := step_cases o p
  rw [hA, hN] at cs
  dsimp only at cs
  clear hA hN
  unfold Cs2
  rcases cs with ⟨hA, hN⟩ | ⟨hK, hA, hF, hN⟩ | ⟨hK, hA, v, hv0, hv, hN⟩ | ⟨hK, hA, v, hv0, hv, hp, hN⟩ | ⟨hK, hA, v, hv0, hv, hp, hc, hN⟩ | ⟨⟨hn1, hn2, hn3, hn4⟩, hA, hN⟩
  · obtain ⟨rfl, rfl⟩ := Prod.mk.inj hN
    rw [if_neg hA] at h1
    rw [if_neg (by omega)] at h2 h3
    exact ⟨fun h => by omega, fun h => by omega, fun _ => rfl, .inl ⟨⟨by omega, by omega, by omega⟩, rfl, rfl⟩⟩
  · obtain ⟨rfl, rfl⟩ := Prod.mk.inj hN
    rw [if_pos hA] at h1
    rw [if_neg (by omega)] at h2 h3
    exact ⟨fun h => by omega, fun _ => loadX_length _ _, fun h => by omega, .inr (.inl ⟨by omega, hF, rfl, rfl⟩)⟩
  · obtain ⟨rfl, rfl⟩ := Prod.mk.inj hN
    rw [if_pos hA] at h1
    rw [if_neg (by omega)] at h2 h3
    exact ⟨fun h => by omega, fun h => by omega, fun _ => List.length_set .., .inr (.inr (.inl ⟨by omega, v, by omega, hv, rfl, rfl⟩))⟩
  · obtain ⟨rfl, rfl⟩ := Prod.mk.inj hN
    rw [if_pos hA] at h1
    rw [if_neg (by omega)] at h2 h3
    exact ⟨fun h => by omega, fun h => by omega, fun _ => move_len o hv, .inr (.inr (.inr ⟨by omega, v, by omega, hv, hp, rfl, rfl⟩))⟩
  · obtain ⟨rfl, rfl⟩ := Prod.mk.inj hN
    rw [if_pos hA] at h1
    rw [if_pos (by omega)] at h2 h3
    exact ⟨fun h => ⟨v, hv0, hv, hp, hc⟩, fun h => by omega, fun _ => move_len o hv, .inr (.inr (.inr ⟨by omega, v, by omega, hv, hp, rfl, rfl⟩))⟩
  · obtain ⟨rfl, rfl⟩ := Prod.mk.inj hN
    rw [if_pos hA] at h1
    rw [if_neg (by omega)] at h2 h3
    exact ⟨fun h => by omega, fun h => by omega, fun _ => rfl, .inl ⟨⟨by omega, by omega, by omega⟩, rfl, rfl⟩⟩
theorem turn_of {k : Int} {xs : List Int} {k' : Int} {xs' : List Int} {kk v ob oa : Int} {os : ByteArray} (c : Cs2 k xs k' xs' kk v ob oa os) (o : Ok k xs) (hb : In64 ob) (ok oc : Int) (ot : ByteArray) (W : World) (g n cp : Nat) (G : Gv W g n cp xs) :
    Calls Try.prog 19 #[.slice (some ⟨g, 0, none⟩) n cp, .int .i64 k, .int .i64 kk, .int .i64 v, opv ok oa ob oc os ot] W (TP W g k' xs') := by
  rcases c with ⟨⟨h1, h2, h3⟩, rfl, rfl⟩ | ⟨rfl, hf, rfl, rfl⟩ | ⟨rfl, vn, rfl, hv, rfl, rfl⟩ | ⟨rfl, vn, rfl, hv, hp, rfl, rfl⟩
  · exact turn_none W g n cp k' xs' G kk (by simpa using h1) (by simpa using h2) (by simpa using h3) v ok oa ob oc os ot
  · exact turn_load W g n cp k xs G v ok k' ob oc os ot hf
  · exact turn_poke W g n cp k' xs G o vn hv ok oa ob oc hb os ot
  · exact turn_move W g n cp k' xs G o vn hv ok oa ob oc os ot
end Go.Proofs.Qxb6500363a
