/-
  Keeps: Held and Turned, whatever the step.
-/
import Derived.Test.Qxb6500365aKPlain
import Derived.Test.Qxb6500365aKTake
namespace Go.Proofs.Qxb6500365a
open Go.RowKit Go.Qx Ieee
set_option linter.unusedSimpArgs false
set_option linter.unusedVariables false

theorem held_any (w : World) (g : Nat) (S : GS) (b : Blk w g 29 (ghC S)) (I : Inv S) (o : Opr) (hp : pureK o.k) :
    Calls Try.prog 14 #[.pointer (some ⟨g, 0, none⟩), .int .i64 o.k, ansv (ansP S o).e (ansP S o).n (ansP S o).m (ansP S o).s, ansv S.e S.t 0 ⟨#[]⟩] w fun ex w' => ex = .returned (.bool true) ∧ Quiet w w' := by
  obtain ⟨k, a, bb, c, s, t⟩ := o
  unfold pureK at hp
  dsimp only at hp ⊢
  unfold ansP
  dsimp only
  rw [if_neg (by omega), if_neg (by omega), if_neg (by omega), if_neg (by omega), if_neg (by omega)]
  cases hB : binP S.d
  · by_cases k6 : k = 6
    · subst k6; exact held_ticks_false w g S b I hB
    rw [if_neg k6, if_neg (by omega)]
    by_cases k8 : k = 8
    · subst k8
      rw [if_pos rfl]
      have e : sumP S = (0, 11) := by unfold sumP; rw [hB]; rfl
      rw [e]; exact held_sum_false w g S b I hB
    rw [if_neg k8]
    by_cases k9 : k = 9
    · subst k9
      rw [if_pos rfl]
      unfold vwapP
      by_cases hn : S.n = 0
      · rw [if_pos hn]; exact held_vwap0_false w g S b I hB hn
      · rw [if_neg hn]; exact held_vwap1_false w g S b I hB hn
    rw [if_neg k9]
    by_cases k10 : k = 10
    · subst k10; rw [if_pos rfl]; exact held_tenths_false w g S b I hB
    rw [if_neg k10]
    by_cases k11 : k = 11
    · subst k11; rw [if_pos rfl]; exact held_show_false w g S b I hB
    rw [if_neg k11]
    by_cases k12 : k = 12
    · subst k12; rw [if_pos rfl]; exact held_check_false w g S b I hB
    rw [if_neg k12]
    exact held_none_false w g S b I hB k 0 0 0 ⟨#[]⟩ (by simpa using k6) (by simpa using k8) (by simpa using k9) (by simpa using k10) (by simpa using k11) (by simpa using k12)
  · by_cases k6 : k = 6
    · subst k6; exact held_ticks_true w g S b I hB
    rw [if_neg k6, if_neg (by omega)]
    by_cases k8 : k = 8
    · subst k8
      rw [if_pos rfl]
      have e : sumP S = (S.s, 0) := by unfold sumP; rw [hB]; rfl
      rw [e]; exact held_sum_true w g S b I hB
    rw [if_neg k8]
    by_cases k9 : k = 9
    · subst k9
      rw [if_pos rfl]
      unfold vwapP
      by_cases hn : S.n = 0
      · rw [if_pos hn]; exact held_vwap0_true w g S b I hB hn
      · rw [if_neg hn]; exact held_vwap1_true w g S b I hB hn
    rw [if_neg k9]
    by_cases k10 : k = 10
    · subst k10; rw [if_pos rfl]; exact held_tenths_true w g S b I hB
    rw [if_neg k10]
    by_cases k11 : k = 11
    · subst k11; rw [if_pos rfl]; exact held_show_true w g S b I hB
    rw [if_neg k11]
    by_cases k12 : k = 12
    · subst k12; rw [if_pos rfl]; exact held_check_true w g S b I hB
    rw [if_neg k12]
    exact held_none_true w g S b I hB k 0 0 0 ⟨#[]⟩ (by simpa using k6) (by simpa using k8) (by simpa using k9) (by simpa using k10) (by simpa using k11) (by simpa using k12)

theorem turned_any (w : World) (g : Nat) (S : GS) (b : Blk w g 29 (ghC S)) (I : Inv S) (o : Opr) (hp : ¬ pureK o.k) :
    Calls Try.prog 15 #[.pointer (some ⟨g, 0, none⟩), opv o.k o.a o.b o.c o.s o.t, .int .i64 (ansP S o).e, ansv S.e S.t 0 ⟨#[]⟩, ansv (nextP S o).e (nextP S o).t 0 ⟨#[]⟩] w fun ex w' => ex = .returned (.bool true) ∧ Chg (fun k => k = g) w w' ∧ Blk w' g 29 (ghC (nextP S o)) := by
  obtain ⟨k, a, bb, c, s, t⟩ := o
  unfold pureK at hp
  dsimp only at hp ⊢
  have hk : k = 1 ∨ k = 2 ∨ k = 3 ∨ k = 4 ∨ k = 5 ∨ k = 7 := by omega
  rcases hk with rfl | rfl | rfl | rfl | rfl | rfl
  · show Calls Try.prog 15 #[_, _, .int .i64 (denE a), _, ansv (denS S a).e (denS S a).t 0 ⟨#[]⟩] w fun ex w' => _ ∧ _ ∧ Blk w' g 29 (ghC (denS S a))
    unfold denE denS
    by_cases ht : Ten a
    · rw [if_pos (decide_eq_true ht), if_pos (decide_eq_true ht)]
      exact turned_denom w g S b I a bb c s t ht
    · rw [if_neg (show ¬ decide (Ten a) = true by rw [decide_eq_false ht]; decide), if_neg (show ¬ decide (Ten a) = true by rw [decide_eq_false ht]; decide)]
      exact turned_denomE w g S b I a bb c s t ht
  · show Calls Try.prog 15 #[_, _, .int .i64 (feedE a bb c), _, ansv (feedS S a bb c).e (feedS S a bb c).t 0 ⟨#[]⟩] w fun ex w' => _ ∧ _ ∧ Blk w' g 29 (ghC (feedS S a bb c))
    by_cases h1 : a < -549755813888
    · have e1 : feedE a bb c = 2 := by unfold feedE; rw [if_pos (.inl h1)]
      have e2 : feedS S a bb c = S := by unfold feedS; rw [e1, if_neg (by decide)]
      rw [e1, e2]; exact turned_feedM1 w g S b I a bb c s t h1
    by_cases h2 : 549755813888 < a
    · have e1 : feedE a bb c = 2 := by unfold feedE; rw [if_pos (.inr h2)]
      have e2 : feedS S a bb c = S := by unfold feedS; rw [e1, if_neg (by decide)]
      rw [e1, e2]; exact turned_feedM2 w g S b I a bb c s t h2
    have hm0 : ¬ (a < -549755813888 ∨ a > 549755813888) := by omega
    have hm : a.natAbs ≤ 549755813888 := by omega
    by_cases hb : bb < 0 ∨ bb > 8 ∨ c < 0 ∨ c > 16
    · have e1 : feedE a bb c = 3 := by unfold feedE; rw [if_neg hm0, if_pos hb]
      have e2 : feedS S a bb c = S := by unfold feedS; rw [e1, if_neg (by decide)]
      rw [e1, e2]
      by_cases u1 : bb < 0
      · exact turned_feedE1 w g S b I a bb c s t hm u1
      by_cases u2 : 8 < bb
      · exact turned_feedE2 w g S b I a bb c s t hm u2
      by_cases k1 : c < 0
      · exact turned_feedE3 w g S b I a bb c s t hm ⟨by omega, by omega⟩ k1
      · exact turned_feedE4 w g S b I a bb c s t hm ⟨by omega, by omega⟩ (by omega)
    · have e1 : feedE a bb c = 0 := by unfold feedE; rw [if_neg hm0, if_neg hb]
      have e2 : feedS S a bb c = ⟨S.d, (feedT S.d a bb.toNat c.toNat).1, (feedT S.d a bb.toNat c.toNat).2, S.q, S.n, S.s, S.v, S.k⟩ := by unfold feedS; rw [e1, if_pos rfl]
      rw [e1, e2]
      have hg : ∀ tt ee : Int, ghC ⟨S.d, tt, ee, S.q, S.n, S.s, S.v, S.k⟩ = ghC S := fun _ _ => rfl
      dsimp only
      rw [hg]
      unfold feedT
      by_cases r1 : 1000000000000 * 2 ^ c.toNat < a * 2 ^ bb.toNat * S.d
      · rw [if_pos (.inl r1)]
        exact turned_feedR1 w g S b I a bb c s t hm ⟨by omega, by omega⟩ ⟨by omega, by omega⟩ r1
      by_cases r2 : a * 2 ^ bb.toNat * S.d < -1000000000000 * 2 ^ c.toNat
      · rw [if_pos (.inr r2)]
        exact turned_feedR2 w g S b I a bb c s t hm ⟨by omega, by omega⟩ ⟨by omega, by omega⟩ r2 r1
      · rw [if_neg (fun h => h.elim r1 r2)]
        exact turned_feed w g S b I a bb c s t hm ⟨by omega, by omega⟩ ⟨by omega, by omega⟩ r1 r2 _ rfl
  · show Calls Try.prog 15 #[_, _, .int .i64 (oddE a), _, ansv (oddS S a).e (oddS S a).t 0 ⟨#[]⟩] w fun ex w' => _ ∧ _ ∧ Blk w' g 29 (ghC (oddS S a))
    by_cases h1 : a < 1
    · have e1 : oddE a = 4 := by unfold oddE; rw [if_pos (.inl h1)]
      have e2 : oddS S a = S := by unfold oddS; rw [e1, if_neg (by decide)]
      rw [e1, e2]; exact turned_oddE1 w g S b I a bb c s t h1
    by_cases h2 : 7 < a
    · have e1 : oddE a = 4 := by unfold oddE; rw [if_pos (.inr h2)]
      have e2 : oddS S a = S := by unfold oddS; rw [e1, if_neg (by decide)]
      rw [e1, e2]; exact turned_oddE2 w g S b I a bb c s t h2
    · have e1 : oddE a = 0 := by unfold oddE; rw [if_neg (by omega)]
      have e2 : oddS S a = ⟨S.d, 0, oddT a, S.q, S.n, S.s, S.v, S.k⟩ := by unfold oddS; rw [e1, if_pos rfl]
      rw [e1, e2]
      exact turned_odd w g S b I a bb c s t ⟨by omega, by omega⟩
  · show Calls Try.prog 15 #[_, _, .int .i64 (quoteE a), _, ansv (quoteS S a).e (quoteS S a).t 0 ⟨#[]⟩] w fun ex w' => _ ∧ _ ∧ Blk w' g 29 (ghC (quoteS S a))
    by_cases h1 : a < -1000000000000
    · have e1 : quoteE a = 8 := by unfold quoteE; rw [if_pos (.inl h1)]
      have e2 : quoteS S a = S := by unfold quoteS; rw [e1, if_neg (by decide)]
      rw [e1, e2]; exact turned_quoteE1 w g S b I a bb c s t h1
    by_cases h2 : 1000000000000 < a
    · have e1 : quoteE a = 8 := by unfold quoteE; rw [if_pos (.inr h2)]
      have e2 : quoteS S a = S := by unfold quoteS; rw [e1, if_neg (by decide)]
      rw [e1, e2]; exact turned_quoteE2 w g S b I a bb c s t h2
    · have e1 : quoteE a = 0 := by unfold quoteE; rw [if_neg (by omega)]
      have e2 : quoteS S a = ⟨S.d, a, 0, S.q, S.n, S.s, S.v, S.k⟩ := by unfold quoteS; rw [e1, if_pos rfl]
      rw [e1, e2]
      exact turned_quote w g S b I a bb c s t (by omega)
  · show Calls Try.prog 15 #[_, _, .int .i64 (sizeE a), _, ansv (sizeS S a).e (sizeS S a).t 0 ⟨#[]⟩] w fun ex w' => _ ∧ _ ∧ Blk w' g 29 (ghC (sizeS S a))
    by_cases h1 : a < 1
    · have e1 : sizeE a = 5 := by unfold sizeE; rw [if_pos (.inl h1)]
      have e2 : sizeS S a = S := by unfold sizeS; rw [e1, if_neg (by decide)]
      rw [e1, e2]; exact turned_sizeE1 w g S b I a bb c s t h1
    by_cases h2 : 16777216 < a
    · have e1 : sizeE a = 5 := by unfold sizeE; rw [if_pos (.inr h2)]
      have e2 : sizeS S a = S := by unfold sizeS; rw [e1, if_neg (by decide)]
      rw [e1, e2]; exact turned_sizeE2 w g S b I a bb c s t h2
    · have e1 : sizeE a = 0 := by unfold sizeE; rw [if_neg (by omega)]
      have e2 : sizeS S a = ⟨S.d, S.t, S.e, a, S.n, S.s, S.v, S.k⟩ := by unfold sizeS; rw [e1, if_pos rfl]
      rw [e1, e2]
      exact turned_size w g S b I a bb c s t ⟨by omega, by omega⟩
  · show Calls Try.prog 15 #[_, _, .int .i64 (takeE S), _, ansv (takeS S).e (takeS S).t 0 ⟨#[]⟩] w fun ex w' => _ ∧ _ ∧ Blk w' g 29 (ghC (takeS S))
    by_cases hn : 16 ≤ S.n
    · have e1 : takeE S = 9 := by unfold takeE; rw [if_pos hn]
      have e2 : takeS S = S := by unfold takeS; rw [e1, if_neg (by decide)]
      rw [e1, e2]; exact turned_takeF w g S b I a bb c s t hn
    by_cases he : S.e = 0
    · by_cases hb : 281474976710656 < (S.t * S.q).natAbs
      · have e1 : takeE S = 10 := by unfold takeE; rw [if_neg hn, if_neg (fun h => h he), if_pos hb]
        have e2 : takeS S = S := by unfold takeS; rw [e1, if_neg (by decide)]
        rw [e1, e2]; exact turned_takeB w g S b I a bb c s t hn he hb
      · have e1 : takeE S = 0 := by unfold takeE; rw [if_neg hn, if_neg (fun h => h he), if_neg hb]
        have e2 : takeS S = ⟨S.d, S.t, S.e, S.q, S.n + 1, S.s + S.t, S.v + S.q, S.k + S.t * S.q⟩ := by unfold takeS; rw [e1, if_pos rfl]
        rw [e1, e2]; exact turned_take w g S b I a bb c s t hn he hb
    · have e1 : takeE S = S.e := by unfold takeE; rw [if_neg hn, if_pos he]
      have e2 : takeS S = S := by unfold takeS; rw [e1, if_neg he]
      rw [e1, e2]; exact turned_takeX w g S b I a bb c s t hn he
end Go.Proofs.Qxb6500365a
