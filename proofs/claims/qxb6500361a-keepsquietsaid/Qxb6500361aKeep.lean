/-
  fed, keep.
-/
import Derived.Test.Qxb6500361aHeld
import Derived.Laws.MakeOwn
import Derived.Deep.CutBlock
import Derived.Deep.CutRange
import Derived.Deep.DeepCutAuto
namespace Go.Proofs.Qxb6500361a
open Go.RowKit Go.Qx
set_option linter.unusedSimpArgs false
set_option linter.unusedVariables false

set_option maxRecDepth 100000 in
set_option maxHeartbeats 2000000 in
theorem fed_any {W w : World} {Z c l hd g a b v : Nat} (h : Kp W Z w c l hd g a b v) (t : ByteArray) (ht : t.size ≤ maxLen) :
    Calls Try.prog 20 #[ptr c, ptr g, .string t] w fun e w' => e = .returned (.bool true) ∧ Chg (fun x => W.heap.size ≤ x ∧ x < Z) w w' ∧ Kp W w'.heap.size w' c l hd g a b v := by
  obtain ⟨h1, ⟨s, nds, top, r, gh, h2, h3⟩, h4⟩ := h
  have hsl := r.slen
  have cg := gh.blk.cell 3
  have fg := gh.blk.frozen 3
  simp only [List.getElem?_cons_zero, List.getElem?_cons_succ] at cg
  have hcg : c ≠ g := fun h => h2 c (.inl rfl) (.inl h)
  have hmL : t.size ≤ 9223372036854775807 := Nat.le_trans ht (by decide)
  -- whatever the ghost's purse has become
  have fin : ∀ w1 s', Chg (fun x => x = g) w w1 → Gh w1 g a b v (kvh nds) s' → feedNew s t = s' → ∀ E, feedErr s t = E → Calls Try.prog 14 #[ptr c, .string t] w1 fun e w2 => e = .returned (.int .i64 E) ∧ w2.cell? ⟨g, 3, none⟩ = some (.string s') ∧ Blk w2 c 72 [.string s'] ∧ Chg (fun x => W.heap.size ≤ x ∧ x < Z) w w2 ∧ Kp W w2.heap.size w2 c l hd g a b v := by
    intro w1 s' c1 g1 hn E hE
    have r1 := r.of_chg' c1 (fun x hx hg => h2 x hx (.inl hg))
    refine (feed_any w1 c s t r1.coin hsl ht).mono ?_
    rintro e w2 ⟨rfl, ch2, b2⟩
    rw [hn] at b2
    have hs' : s'.size ≤ 32 := by
      rw [← hn]; unfold feedNew
      split
      · exact hsl
      · split
        · exact hsl
        · rw [ByteArray.size_append]; omega
    have r2 := r1.set_coin ch2 s' b2 hs'
    have g2 := g1.of_chg ch2 (fun x hx hc => h2 c (.inl rfl) (by rw [← hc]; exact hx))
    have cz : Chg (fun x => W.heap.size ≤ x ∧ x < Z) w w2 := (c1.mono (fun x _ h => by rw [h]; exact h4 g (.inl rfl))).trans (ch2.mono (fun x _ h => by rw [h]; exact h3 c (.inl rfl)))
    refine ⟨by rw [hE], g2.blk.cell 3, b2, cz, h1.trans (cz.mono (fun _ _ h => h.1)), ⟨s', nds, top, r2, g2, h2, fun x hx => ⟨(h3 x hx).1, ownC_lt r2 hx⟩⟩, fun x hx => ⟨(h4 x hx).1, g2.lts hx⟩⟩
  have finH := hide fin
  clear fin
  have hghH := hide gh
  by_cases hb : 32 < t.size
  · have hE : feedErr s t = 1 := by unfold feedErr; rw [if_pos hb]
    have hN : feedNew s t = s := by unfold feedNew; rw [if_pos hb]
    have hcl := unhide finH w s (Chg.refl _ _) gh hN 1 hE
    have hclH := hide hcl
    have hb2 : (32 : Int) < (t.size : Int) := by omega
    clear hcl hE hN hb gh
    unfold ptr at *
    go_enter Try.func20, Try.ntmps20
    go_wp2_with fail
    refine (unhide hclH).mono ?_
    rintro e w2 ⟨rfl, c2, bc, cz, kp⟩
    have hco := fun V (q : Quiet w2 V) => coins_any V c s (q.blk bc)
    unfold ptr at hco
    have hss : (s.toList == s.toList) = true := by simp
    go_wp2
    go_region_held3 (fun w' => w'.cell? ⟨g, 3, none⟩ = some (.string s)) (first | exact Quiet.cell hq3 c2 | go_keep) (first | (go_at_call 19; refine (hco _ ((Chg.refl _ _).drew)).mono ?_; rintro e w3 ⟨rfl, he3⟩; have hq3 : Quiet w2 w3 := he3 ▸ (Chg.refl _ _).drew; clear he3))
    go_wp2
    go_ret
    exact ⟨rfl, cz.trans (hq3.chg _), (kp.quiet hq3).self⟩
  · by_cases hb3 : 32 < s.size + t.size
    · have hE : feedErr s t = 2 := by unfold feedErr; rw [if_neg hb, if_pos hb3]
      have hN : feedNew s t = s := by unfold feedNew; rw [if_neg hb, if_pos hb3]
      have hcl := unhide finH w s (Chg.refl _ _) gh hN 2 hE
      have hclH := hide hcl
      have hb2 : (t.size : Int) ≤ 32 := by omega
      have hb4 : (32 : Int) < (s.size : Int) + (t.size : Int) := by omega
      have hb5 : IntKind.i64.wrap ((s.size : Int) + (t.size : Int)) = (s.size : Int) + (t.size : Int) := by rw [IntKind.wrap_i64]; omega
      clear hcl hE hN hb gh hb3
      unfold ptr at *
      go_enter Try.func20, Try.ntmps20
      go_wp2_with fail
      refine (unhide hclH).mono ?_
      rintro e w2 ⟨rfl, c2, bc, cz, kp⟩
      have hco := fun V (q : Quiet w2 V) => coins_any V c s (q.blk bc)
      unfold ptr at hco
      have hss : (s.toList == s.toList) = true := by simp
      go_wp2
      go_region_held3 (fun w' => w'.cell? ⟨g, 3, none⟩ = some (.string s)) (first | exact Quiet.cell hq3 c2 | go_keep) (first | (go_at_call 19; refine (hco _ ((Chg.refl _ _).drew)).mono ?_; rintro e w3 ⟨rfl, he3⟩; have hq3 : Quiet w2 w3 := he3 ▸ (Chg.refl _ _).drew; clear he3))
      go_wp2
      go_ret
      exact ⟨rfl, cz.trans (hq3.chg _), (kp.quiet hq3).self⟩
    · have hE : feedErr s t = 0 := by unfold feedErr; rw [if_neg hb, if_neg hb3]
      have hN : feedNew s t = s ++ t := by unfold feedNew; rw [if_neg hb, if_neg hb3]
      have hcl := unhide finH (w.setCell ⟨g, 3, none⟩ (.string (s ++ t))) (s ++ t) (Chg.setCell (S := fun x => x = g) (p := ⟨g, 3, none⟩) (Chg.refl _ w) (.inl rfl) _) (gh.setP _) hN 0 hE
      have hclH := hide hcl
      have hb2 : (t.size : Int) ≤ 32 := by omega
      have hb4 : (s.size : Int) + (t.size : Int) ≤ 32 := by omega
      have hb5 : IntKind.i64.wrap ((s.size : Int) + (t.size : Int)) = (s.size : Int) + (t.size : Int) := by rw [IntKind.wrap_i64]; omega
      have hb6 : ¬ 9223372036854775807 < s.size + t.size := by omega
      clear hcl hE hN hb gh hb3
      unfold ptr at *
      go_enter Try.func20, Try.ntmps20
      go_wp2_with fail
      refine (unhide hclH).mono ?_
      rintro e w2 ⟨rfl, c2, bc, cz, kp⟩
      generalize s ++ t = s' at *
      have hco := fun V (q : Quiet w2 V) => coins_any V c s' (q.blk bc)
      unfold ptr at hco
      have hss : (s'.toList == s'.toList) = true := by simp
      go_wp2
      go_region_held3 (fun w' => w'.cell? ⟨g, 3, none⟩ = some (.string s')) (first | exact Quiet.cell hq3 c2 | go_keep) (first | (go_at_call 19; refine (hco _ ((Chg.refl _ _).drew)).mono ?_; rintro e w3 ⟨rfl, he3⟩; have hq3 : Quiet w2 w3 := he3 ▸ (Chg.refl _ _).drew; clear he3))
      go_wp2
      go_ret
      exact ⟨rfl, cz.trans (hq3.chg _), (kp.quiet hq3).self⟩

/-- A fresh ghost. -/
def GN (w wx : World) (gv : Value) : Prop := ∃ g a b v, gv = .pointer (some ⟨g, 0, none⟩) ∧ (∀ x, gown g a b v x → w.heap.size ≤ x) ∧ Quiet w wx ∧ Gh wx g a b v [] ⟨#[]⟩

theorem gn0 (w : World) : GN w ((((w.alloc (.cells #[.int .i64 0, .int .i64 0, .int .i64 0, .int .i64 0, .int .i64 0, .int .i64 0, .int .i64 0, .int .i64 0, .int .i64 0, .int .i64 0, .int .i64 0, .int .i64 0] 3)).alloc (.cells #[.int .i64 0, .int .i64 0, .int .i64 0, .int .i64 0, .int .i64 0, .int .i64 0, .int .i64 0, .int .i64 0, .int .i64 0, .int .i64 0, .int .i64 0, .int .i64 0] 3)).alloc (.cells #[.string ⟨#[]⟩, .string ⟨#[]⟩, .string ⟨#[]⟩, .string ⟨#[]⟩, .string ⟨#[]⟩, .string ⟨#[]⟩, .string ⟨#[]⟩, .string ⟨#[]⟩, .string ⟨#[]⟩, .string ⟨#[]⟩, .string ⟨#[]⟩, .string ⟨#[]⟩] 9)).alloc (.cells #[.slice (some ⟨w.heap.size, 0, none⟩) 0 12, .slice (some ⟨w.heap.size + 1, 0, none⟩) 0 12, .slice (some ⟨w.heap.size + 1 + 1, 0, none⟩) 0 12, .string ⟨#[]⟩] 42)).drew (.pointer (some ⟨w.heap.size + 1 + 1 + 1, 0, none⟩)) := by
  refine ⟨w.heap.size + 1 + 1 + 1, w.heap.size, w.heap.size + 1, w.heap.size + 1 + 1, rfl, ?_, (((((Chg.refl _ _).alloc _).alloc _).alloc _).alloc _).drew, ⟨(Blk.at_new (by simp)).drew, ⟨[.int .i64 0, .int .i64 0, .int .i64 0, .int .i64 0, .int .i64 0, .int .i64 0, .int .i64 0, .int .i64 0, .int .i64 0, .int .i64 0, .int .i64 0, .int .i64 0], rfl, ((((Blk.at_new (cs := [.int .i64 0, .int .i64 0, .int .i64 0, .int .i64 0, .int .i64 0, .int .i64 0, .int .i64 0, .int .i64 0, .int .i64 0, .int .i64 0, .int .i64 0, .int .i64 0]) (by simp)).alloc _).alloc _).alloc _).drew⟩, ⟨[.int .i64 0, .int .i64 0, .int .i64 0, .int .i64 0, .int .i64 0, .int .i64 0, .int .i64 0, .int .i64 0, .int .i64 0, .int .i64 0, .int .i64 0, .int .i64 0], rfl, (((Blk.at_new (cs := [.int .i64 0, .int .i64 0, .int .i64 0, .int .i64 0, .int .i64 0, .int .i64 0, .int .i64 0, .int .i64 0, .int .i64 0, .int .i64 0, .int .i64 0, .int .i64 0]) (by simp)).alloc _).alloc _).drew⟩, ⟨[.string ⟨#[]⟩, .string ⟨#[]⟩, .string ⟨#[]⟩, .string ⟨#[]⟩, .string ⟨#[]⟩, .string ⟨#[]⟩, .string ⟨#[]⟩, .string ⟨#[]⟩, .string ⟨#[]⟩, .string ⟨#[]⟩, .string ⟨#[]⟩, .string ⟨#[]⟩], rfl, ((Blk.at_new (cs := [.string ⟨#[]⟩, .string ⟨#[]⟩, .string ⟨#[]⟩, .string ⟨#[]⟩, .string ⟨#[]⟩, .string ⟨#[]⟩, .string ⟨#[]⟩, .string ⟨#[]⟩, .string ⟨#[]⟩, .string ⟨#[]⟩, .string ⟨#[]⟩, .string ⟨#[]⟩]) (by simp)).alloc _).drew⟩, by omega⟩⟩
  rintro x (rfl | rfl | rfl | rfl) <;> omega

theorem gn1 (w : World) : GN w ((((w.alloc (.cells #[.int .i64 0, .int .i64 0, .int .i64 0, .int .i64 0, .int .i64 0, .int .i64 0, .int .i64 0, .int .i64 0, .int .i64 0, .int .i64 0, .int .i64 0, .int .i64 0] 3)).alloc (.cells #[.string ⟨#[]⟩, .string ⟨#[]⟩, .string ⟨#[]⟩, .string ⟨#[]⟩, .string ⟨#[]⟩, .string ⟨#[]⟩, .string ⟨#[]⟩, .string ⟨#[]⟩, .string ⟨#[]⟩, .string ⟨#[]⟩, .string ⟨#[]⟩, .string ⟨#[]⟩] 9)).alloc (.cells #[.int .i64 0, .int .i64 0, .int .i64 0, .int .i64 0, .int .i64 0, .int .i64 0, .int .i64 0, .int .i64 0, .int .i64 0, .int .i64 0, .int .i64 0, .int .i64 0] 3)).alloc (.cells #[.slice (some ⟨w.heap.size, 0, none⟩) 0 12, .slice (some ⟨w.heap.size + 1 + 1, 0, none⟩) 0 12, .slice (some ⟨w.heap.size + 1, 0, none⟩) 0 12, .string ⟨#[]⟩] 42)).drew (.pointer (some ⟨w.heap.size + 1 + 1 + 1, 0, none⟩)) := by
  refine ⟨w.heap.size + 1 + 1 + 1, w.heap.size, w.heap.size + 1 + 1, w.heap.size + 1, rfl, ?_, (((((Chg.refl _ _).alloc _).alloc _).alloc _).alloc _).drew, ⟨(Blk.at_new (by simp)).drew, ⟨[.int .i64 0, .int .i64 0, .int .i64 0, .int .i64 0, .int .i64 0, .int .i64 0, .int .i64 0, .int .i64 0, .int .i64 0, .int .i64 0, .int .i64 0, .int .i64 0], rfl, ((((Blk.at_new (cs := [.int .i64 0, .int .i64 0, .int .i64 0, .int .i64 0, .int .i64 0, .int .i64 0, .int .i64 0, .int .i64 0, .int .i64 0, .int .i64 0, .int .i64 0, .int .i64 0]) (by simp)).alloc _).alloc _).alloc _).drew⟩, ⟨[.int .i64 0, .int .i64 0, .int .i64 0, .int .i64 0, .int .i64 0, .int .i64 0, .int .i64 0, .int .i64 0, .int .i64 0, .int .i64 0, .int .i64 0, .int .i64 0], rfl, ((Blk.at_new (cs := [.int .i64 0, .int .i64 0, .int .i64 0, .int .i64 0, .int .i64 0, .int .i64 0, .int .i64 0, .int .i64 0, .int .i64 0, .int .i64 0, .int .i64 0, .int .i64 0]) (by simp)).alloc _).drew⟩, ⟨[.string ⟨#[]⟩, .string ⟨#[]⟩, .string ⟨#[]⟩, .string ⟨#[]⟩, .string ⟨#[]⟩, .string ⟨#[]⟩, .string ⟨#[]⟩, .string ⟨#[]⟩, .string ⟨#[]⟩, .string ⟨#[]⟩, .string ⟨#[]⟩, .string ⟨#[]⟩], rfl, (((Blk.at_new (cs := [.string ⟨#[]⟩, .string ⟨#[]⟩, .string ⟨#[]⟩, .string ⟨#[]⟩, .string ⟨#[]⟩, .string ⟨#[]⟩, .string ⟨#[]⟩, .string ⟨#[]⟩, .string ⟨#[]⟩, .string ⟨#[]⟩, .string ⟨#[]⟩, .string ⟨#[]⟩]) (by simp)).alloc _).alloc _).drew⟩, by omega⟩⟩
  rintro x (rfl | rfl | rfl | rfl) <;> omega

theorem gn2 (w : World) : GN w ((((w.alloc (.cells #[.int .i64 0, .int .i64 0, .int .i64 0, .int .i64 0, .int .i64 0, .int .i64 0, .int .i64 0, .int .i64 0, .int .i64 0, .int .i64 0, .int .i64 0, .int .i64 0] 3)).alloc (.cells #[.int .i64 0, .int .i64 0, .int .i64 0, .int .i64 0, .int .i64 0, .int .i64 0, .int .i64 0, .int .i64 0, .int .i64 0, .int .i64 0, .int .i64 0, .int .i64 0] 3)).alloc (.cells #[.string ⟨#[]⟩, .string ⟨#[]⟩, .string ⟨#[]⟩, .string ⟨#[]⟩, .string ⟨#[]⟩, .string ⟨#[]⟩, .string ⟨#[]⟩, .string ⟨#[]⟩, .string ⟨#[]⟩, .string ⟨#[]⟩, .string ⟨#[]⟩, .string ⟨#[]⟩] 9)).alloc (.cells #[.slice (some ⟨w.heap.size + 1, 0, none⟩) 0 12, .slice (some ⟨w.heap.size, 0, none⟩) 0 12, .slice (some ⟨w.heap.size + 1 + 1, 0, none⟩) 0 12, .string ⟨#[]⟩] 42)).drew (.pointer (some ⟨w.heap.size + 1 + 1 + 1, 0, none⟩)) := by
  refine ⟨w.heap.size + 1 + 1 + 1, w.heap.size + 1, w.heap.size, w.heap.size + 1 + 1, rfl, ?_, (((((Chg.refl _ _).alloc _).alloc _).alloc _).alloc _).drew, ⟨(Blk.at_new (by simp)).drew, ⟨[.int .i64 0, .int .i64 0, .int .i64 0, .int .i64 0, .int .i64 0, .int .i64 0, .int .i64 0, .int .i64 0, .int .i64 0, .int .i64 0, .int .i64 0, .int .i64 0], rfl, (((Blk.at_new (cs := [.int .i64 0, .int .i64 0, .int .i64 0, .int .i64 0, .int .i64 0, .int .i64 0, .int .i64 0, .int .i64 0, .int .i64 0, .int .i64 0, .int .i64 0, .int .i64 0]) (by simp)).alloc _).alloc _).drew⟩, ⟨[.int .i64 0, .int .i64 0, .int .i64 0, .int .i64 0, .int .i64 0, .int .i64 0, .int .i64 0, .int .i64 0, .int .i64 0, .int .i64 0, .int .i64 0, .int .i64 0], rfl, ((((Blk.at_new (cs := [.int .i64 0, .int .i64 0, .int .i64 0, .int .i64 0, .int .i64 0, .int .i64 0, .int .i64 0, .int .i64 0, .int .i64 0, .int .i64 0, .int .i64 0, .int .i64 0]) (by simp)).alloc _).alloc _).alloc _).drew⟩, ⟨[.string ⟨#[]⟩, .string ⟨#[]⟩, .string ⟨#[]⟩, .string ⟨#[]⟩, .string ⟨#[]⟩, .string ⟨#[]⟩, .string ⟨#[]⟩, .string ⟨#[]⟩, .string ⟨#[]⟩, .string ⟨#[]⟩, .string ⟨#[]⟩, .string ⟨#[]⟩], rfl, ((Blk.at_new (cs := [.string ⟨#[]⟩, .string ⟨#[]⟩, .string ⟨#[]⟩, .string ⟨#[]⟩, .string ⟨#[]⟩, .string ⟨#[]⟩, .string ⟨#[]⟩, .string ⟨#[]⟩, .string ⟨#[]⟩, .string ⟨#[]⟩, .string ⟨#[]⟩, .string ⟨#[]⟩]) (by simp)).alloc _).drew⟩, by omega⟩⟩
  rintro x (rfl | rfl | rfl | rfl) <;> omega

theorem gn3 (w : World) : GN w ((((w.alloc (.cells #[.int .i64 0, .int .i64 0, .int .i64 0, .int .i64 0, .int .i64 0, .int .i64 0, .int .i64 0, .int .i64 0, .int .i64 0, .int .i64 0, .int .i64 0, .int .i64 0] 3)).alloc (.cells #[.string ⟨#[]⟩, .string ⟨#[]⟩, .string ⟨#[]⟩, .string ⟨#[]⟩, .string ⟨#[]⟩, .string ⟨#[]⟩, .string ⟨#[]⟩, .string ⟨#[]⟩, .string ⟨#[]⟩, .string ⟨#[]⟩, .string ⟨#[]⟩, .string ⟨#[]⟩] 9)).alloc (.cells #[.int .i64 0, .int .i64 0, .int .i64 0, .int .i64 0, .int .i64 0, .int .i64 0, .int .i64 0, .int .i64 0, .int .i64 0, .int .i64 0, .int .i64 0, .int .i64 0] 3)).alloc (.cells #[.slice (some ⟨w.heap.size + 1 + 1, 0, none⟩) 0 12, .slice (some ⟨w.heap.size, 0, none⟩) 0 12, .slice (some ⟨w.heap.size + 1, 0, none⟩) 0 12, .string ⟨#[]⟩] 42)).drew (.pointer (some ⟨w.heap.size + 1 + 1 + 1, 0, none⟩)) := by
  refine ⟨w.heap.size + 1 + 1 + 1, w.heap.size + 1 + 1, w.heap.size, w.heap.size + 1, rfl, ?_, (((((Chg.refl _ _).alloc _).alloc _).alloc _).alloc _).drew, ⟨(Blk.at_new (by simp)).drew, ⟨[.int .i64 0, .int .i64 0, .int .i64 0, .int .i64 0, .int .i64 0, .int .i64 0, .int .i64 0, .int .i64 0, .int .i64 0, .int .i64 0, .int .i64 0, .int .i64 0], rfl, ((Blk.at_new (cs := [.int .i64 0, .int .i64 0, .int .i64 0, .int .i64 0, .int .i64 0, .int .i64 0, .int .i64 0, .int .i64 0, .int .i64 0, .int .i64 0, .int .i64 0, .int .i64 0]) (by simp)).alloc _).drew⟩, ⟨[.int .i64 0, .int .i64 0, .int .i64 0, .int .i64 0, .int .i64 0, .int .i64 0, .int .i64 0, .int .i64 0, .int .i64 0, .int .i64 0, .int .i64 0, .int .i64 0], rfl, ((((Blk.at_new (cs := [.int .i64 0, .int .i64 0, .int .i64 0, .int .i64 0, .int .i64 0, .int .i64 0, .int .i64 0, .int .i64 0, .int .i64 0, .int .i64 0, .int .i64 0, .int .i64 0]) (by simp)).alloc _).alloc _).alloc _).drew⟩, ⟨[.string ⟨#[]⟩, .string ⟨#[]⟩, .string ⟨#[]⟩, .string ⟨#[]⟩, .string ⟨#[]⟩, .string ⟨#[]⟩, .string ⟨#[]⟩, .string ⟨#[]⟩, .string ⟨#[]⟩, .string ⟨#[]⟩, .string ⟨#[]⟩, .string ⟨#[]⟩], rfl, (((Blk.at_new (cs := [.string ⟨#[]⟩, .string ⟨#[]⟩, .string ⟨#[]⟩, .string ⟨#[]⟩, .string ⟨#[]⟩, .string ⟨#[]⟩, .string ⟨#[]⟩, .string ⟨#[]⟩, .string ⟨#[]⟩, .string ⟨#[]⟩, .string ⟨#[]⟩, .string ⟨#[]⟩]) (by simp)).alloc _).alloc _).drew⟩, by omega⟩⟩
  rintro x (rfl | rfl | rfl | rfl) <;> omega

theorem gn4 (w : World) : GN w ((((w.alloc (.cells #[.string ⟨#[]⟩, .string ⟨#[]⟩, .string ⟨#[]⟩, .string ⟨#[]⟩, .string ⟨#[]⟩, .string ⟨#[]⟩, .string ⟨#[]⟩, .string ⟨#[]⟩, .string ⟨#[]⟩, .string ⟨#[]⟩, .string ⟨#[]⟩, .string ⟨#[]⟩] 9)).alloc (.cells #[.int .i64 0, .int .i64 0, .int .i64 0, .int .i64 0, .int .i64 0, .int .i64 0, .int .i64 0, .int .i64 0, .int .i64 0, .int .i64 0, .int .i64 0, .int .i64 0] 3)).alloc (.cells #[.int .i64 0, .int .i64 0, .int .i64 0, .int .i64 0, .int .i64 0, .int .i64 0, .int .i64 0, .int .i64 0, .int .i64 0, .int .i64 0, .int .i64 0, .int .i64 0] 3)).alloc (.cells #[.slice (some ⟨w.heap.size + 1, 0, none⟩) 0 12, .slice (some ⟨w.heap.size + 1 + 1, 0, none⟩) 0 12, .slice (some ⟨w.heap.size, 0, none⟩) 0 12, .string ⟨#[]⟩] 42)).drew (.pointer (some ⟨w.heap.size + 1 + 1 + 1, 0, none⟩)) := by
  refine ⟨w.heap.size + 1 + 1 + 1, w.heap.size + 1, w.heap.size + 1 + 1, w.heap.size, rfl, ?_, (((((Chg.refl _ _).alloc _).alloc _).alloc _).alloc _).drew, ⟨(Blk.at_new (by simp)).drew, ⟨[.int .i64 0, .int .i64 0, .int .i64 0, .int .i64 0, .int .i64 0, .int .i64 0, .int .i64 0, .int .i64 0, .int .i64 0, .int .i64 0, .int .i64 0, .int .i64 0], rfl, (((Blk.at_new (cs := [.int .i64 0, .int .i64 0, .int .i64 0, .int .i64 0, .int .i64 0, .int .i64 0, .int .i64 0, .int .i64 0, .int .i64 0, .int .i64 0, .int .i64 0, .int .i64 0]) (by simp)).alloc _).alloc _).drew⟩, ⟨[.int .i64 0, .int .i64 0, .int .i64 0, .int .i64 0, .int .i64 0, .int .i64 0, .int .i64 0, .int .i64 0, .int .i64 0, .int .i64 0, .int .i64 0, .int .i64 0], rfl, ((Blk.at_new (cs := [.int .i64 0, .int .i64 0, .int .i64 0, .int .i64 0, .int .i64 0, .int .i64 0, .int .i64 0, .int .i64 0, .int .i64 0, .int .i64 0, .int .i64 0, .int .i64 0]) (by simp)).alloc _).drew⟩, ⟨[.string ⟨#[]⟩, .string ⟨#[]⟩, .string ⟨#[]⟩, .string ⟨#[]⟩, .string ⟨#[]⟩, .string ⟨#[]⟩, .string ⟨#[]⟩, .string ⟨#[]⟩, .string ⟨#[]⟩, .string ⟨#[]⟩, .string ⟨#[]⟩, .string ⟨#[]⟩], rfl, ((((Blk.at_new (cs := [.string ⟨#[]⟩, .string ⟨#[]⟩, .string ⟨#[]⟩, .string ⟨#[]⟩, .string ⟨#[]⟩, .string ⟨#[]⟩, .string ⟨#[]⟩, .string ⟨#[]⟩, .string ⟨#[]⟩, .string ⟨#[]⟩, .string ⟨#[]⟩, .string ⟨#[]⟩]) (by simp)).alloc _).alloc _).alloc _).drew⟩, by omega⟩⟩
  rintro x (rfl | rfl | rfl | rfl) <;> omega

theorem gn5 (w : World) : GN w ((((w.alloc (.cells #[.string ⟨#[]⟩, .string ⟨#[]⟩, .string ⟨#[]⟩, .string ⟨#[]⟩, .string ⟨#[]⟩, .string ⟨#[]⟩, .string ⟨#[]⟩, .string ⟨#[]⟩, .string ⟨#[]⟩, .string ⟨#[]⟩, .string ⟨#[]⟩, .string ⟨#[]⟩] 9)).alloc (.cells #[.int .i64 0, .int .i64 0, .int .i64 0, .int .i64 0, .int .i64 0, .int .i64 0, .int .i64 0, .int .i64 0, .int .i64 0, .int .i64 0, .int .i64 0, .int .i64 0] 3)).alloc (.cells #[.int .i64 0, .int .i64 0, .int .i64 0, .int .i64 0, .int .i64 0, .int .i64 0, .int .i64 0, .int .i64 0, .int .i64 0, .int .i64 0, .int .i64 0, .int .i64 0] 3)).alloc (.cells #[.slice (some ⟨w.heap.size + 1 + 1, 0, none⟩) 0 12, .slice (some ⟨w.heap.size + 1, 0, none⟩) 0 12, .slice (some ⟨w.heap.size, 0, none⟩) 0 12, .string ⟨#[]⟩] 42)).drew (.pointer (some ⟨w.heap.size + 1 + 1 + 1, 0, none⟩)) := by
  refine ⟨w.heap.size + 1 + 1 + 1, w.heap.size + 1 + 1, w.heap.size + 1, w.heap.size, rfl, ?_, (((((Chg.refl _ _).alloc _).alloc _).alloc _).alloc _).drew, ⟨(Blk.at_new (by simp)).drew, ⟨[.int .i64 0, .int .i64 0, .int .i64 0, .int .i64 0, .int .i64 0, .int .i64 0, .int .i64 0, .int .i64 0, .int .i64 0, .int .i64 0, .int .i64 0, .int .i64 0], rfl, ((Blk.at_new (cs := [.int .i64 0, .int .i64 0, .int .i64 0, .int .i64 0, .int .i64 0, .int .i64 0, .int .i64 0, .int .i64 0, .int .i64 0, .int .i64 0, .int .i64 0, .int .i64 0]) (by simp)).alloc _).drew⟩, ⟨[.int .i64 0, .int .i64 0, .int .i64 0, .int .i64 0, .int .i64 0, .int .i64 0, .int .i64 0, .int .i64 0, .int .i64 0, .int .i64 0, .int .i64 0, .int .i64 0], rfl, (((Blk.at_new (cs := [.int .i64 0, .int .i64 0, .int .i64 0, .int .i64 0, .int .i64 0, .int .i64 0, .int .i64 0, .int .i64 0, .int .i64 0, .int .i64 0, .int .i64 0, .int .i64 0]) (by simp)).alloc _).alloc _).drew⟩, ⟨[.string ⟨#[]⟩, .string ⟨#[]⟩, .string ⟨#[]⟩, .string ⟨#[]⟩, .string ⟨#[]⟩, .string ⟨#[]⟩, .string ⟨#[]⟩, .string ⟨#[]⟩, .string ⟨#[]⟩, .string ⟨#[]⟩, .string ⟨#[]⟩, .string ⟨#[]⟩], rfl, ((((Blk.at_new (cs := [.string ⟨#[]⟩, .string ⟨#[]⟩, .string ⟨#[]⟩, .string ⟨#[]⟩, .string ⟨#[]⟩, .string ⟨#[]⟩, .string ⟨#[]⟩, .string ⟨#[]⟩, .string ⟨#[]⟩, .string ⟨#[]⟩, .string ⟨#[]⟩, .string ⟨#[]⟩]) (by simp)).alloc _).alloc _).alloc _).drew⟩, by omega⟩⟩
  rintro x (rfl | rfl | rfl | rfl) <;> omega

theorem info3' : (Try.prog.info? 3).map (fun i => (i.zero, i.size, i.bytes)) = some (some (.int .i64 0), 1, 8) := by kernel_rfl
theorem info9' : (Try.prog.info? 9).map (fun i => (i.zero, i.size, i.bytes)) = some (some (.string ⟨#[]⟩), 1, 16) := by kernel_rfl
theorem made12i : madeCells (Value.int .i64 0).cells (12 * 1) = #[Value.int .i64 0, Value.int .i64 0, Value.int .i64 0, Value.int .i64 0, Value.int .i64 0, Value.int .i64 0, Value.int .i64 0, Value.int .i64 0, Value.int .i64 0, Value.int .i64 0, Value.int .i64 0, Value.int .i64 0] := by kernel_rfl
theorem made12s : madeCells (Value.string ⟨#[]⟩).cells (12 * 1) = #[Value.string ⟨#[]⟩, Value.string ⟨#[]⟩, Value.string ⟨#[]⟩, Value.string ⟨#[]⟩, Value.string ⟨#[]⟩, Value.string ⟨#[]⟩, Value.string ⟨#[]⟩, Value.string ⟨#[]⟩, Value.string ⟨#[]⟩, Value.string ⟨#[]⟩, Value.string ⟨#[]⟩, Value.string ⟨#[]⟩] := by kernel_rfl

theorem make39 (W : World) : (Instr.makeSlice 39 (.int .i64 0) (.int .i64 12)).run Try.prog W = .ok (.slice (some ⟨W.heap.size, 0, none⟩) 0 12) (W.alloc (.cells #[Value.int .i64 0, Value.int .i64 0, Value.int .i64 0, Value.int .i64 0, Value.int .i64 0, Value.int .i64 0, Value.int .i64 0, Value.int .i64 0, Value.int .i64 0, Value.int .i64 0, Value.int .i64 0, Value.int .i64 0] 3)) := by
  obtain ⟨i, hi, hz0, hz1, hz2⟩ := info_parts info3'
  have := run_make (P := Try.prog) W 39 3 i _ Try.underlying39 hi hz0 .i64 .i64 0 12 (by omega) (by omega) (by rw [hz2]; omega) (by omega)
  rw [hz1] at this
  have e : (12 : Int).toNat = 12 := rfl
  rw [e, made12i] at this
  exact this

theorem make40 (W : World) : (Instr.makeSlice 40 (.int .i64 0) (.int .i64 12)).run Try.prog W = .ok (.slice (some ⟨W.heap.size, 0, none⟩) 0 12) (W.alloc (.cells #[Value.string ⟨#[]⟩, Value.string ⟨#[]⟩, Value.string ⟨#[]⟩, Value.string ⟨#[]⟩, Value.string ⟨#[]⟩, Value.string ⟨#[]⟩, Value.string ⟨#[]⟩, Value.string ⟨#[]⟩, Value.string ⟨#[]⟩, Value.string ⟨#[]⟩, Value.string ⟨#[]⟩, Value.string ⟨#[]⟩] 9)) := by
  obtain ⟨i, hi, hz0, hz1, hz2⟩ := info_parts info9'
  have := run_make (P := Try.prog) W 40 9 i _ Try.underlying40 hi hz0 .i64 .i64 0 12 (by omega) (by omega) (by rw [hz2]; omega) (by omega)
  rw [hz1] at this
  have e : (12 : Int).toNat = 12 := rfl
  rw [e, made12s] at this
  exact this

set_option maxRecDepth 100000 in
set_option maxHeartbeats 4000000 in
theorem keep_any (w : World) (sa : Option Addr) (len cap : Nat) (ops : List Opr) (quiet : Bool) (ho : IsOps w sa len cap ops) :
    Calls Try.prog 10 #[.slice sa len cap, .bool quiet] w fun e w' => e = .returned (.int .i64 (-1)) ∧ Below w.heap.size w w' := by
  have hlen := ho.small
  go_enter Try.func10, Try.ntmps10
  go_wp2_with fail
  refine (ground_any w).mono ?_
  rintro e w1 ⟨rfl, hw1⟩
  have b1 : Blk w1 w.heap.size 72 [.string ⟨#[]⟩] := by rw [hw1]; exact Blk.new w 72 [.string ⟨#[]⟩]
  have q1 : Quiet w w1 := by rw [hw1]; exact (Chg.refl _ _).alloc _
  have z1 : w.heap.size < w1.heap.size := b1.lt
  clear hw1
  unfold ptr
  have hnew := new_any w1 w.heap.size ⟨#[]⟩ b1 (by decide)
  unfold ptr at hnew
  go_wp2_with fail
  refine hnew.mono ?_
  clear hnew
  rintro e w2 ⟨rfl, q2, r2⟩
  have m1 := make39
  have m2 := make40
  go_wp2
  go_cut [7] (fun gv wx => GN w2 wx gv)
  case first =>
    go_region_law (fail)
    all_goals
      go_wp2
      go_meet
      case rel => first | with_reducible exact gn0 w2 | with_reducible exact gn1 w2 | with_reducible exact gn2 w2 | with_reducible exact gn3 w2 | with_reducible exact gn4 w2 | with_reducible exact gn5 w2
  case rest =>
    obtain ⟨g, a, b, v, rfl, hgn, q3, gh⟩ := hcut
    clear m1 m2
    have r3 := r2.quiet q3
    have hco := coins_any wc w.heap.size ⟨#[]⟩ r3.coin
    unfold ptr at hco
    have hcoH := hide hco
    clear hco
    go_wp2_with fail
    refine (unhide hcoH).mono ?_
    rintro e w4 ⟨rfl, he4⟩
    subst he4
    clear hcoH
    go_wp2_with fail
    refine (born_any _).mono ?_
    rintro e w5 ⟨rfl, bel5⟩
    have q5 : Quiet w4 w5 := Chg.of_below bel5 _
    have hq1 := q1.size
    have hq2 := q2.size
    have hkp : Kp w w5.heap.size w5 w.heap.size (w1.heap.size + 1) w1.heap.size g a b v := by
      have r5 := r3.quiet q5
      have g5 := gh.quiet q5
      refine ⟨(((q1.trans q2).trans q3).trans q5).chg _, ⟨⟨#[]⟩, [], 1, r5, g5, ?_, ?_⟩, fun x hx => ⟨by have := hgn x hx; omega, g5.lts hx⟩⟩
      · intro x hx hg
        have h1 := hgn x hg
        have h2 := ownC_lt r2 hx
        omega
      · intro x hx
        refine ⟨?_, ownC_lt r5 hx⟩
        rcases hx with rfl | rfl | rfl | ⟨d, hd', _⟩
        · omega
        · omega
        · omega
        · simp at hd'
    have hkpH := hide hkp
    clear hkp q1 q2 q3 q5 r2 r3 gh b1 bel5 hgn
    generalize w1.heap.size + 1 = l at *
    generalize w1.heap.size = hd at *
    cases quiet with
    | true =>
      go_wp2
      go_loopw [8] (fun i wr => ∃ j : Nat, j ≤ len ∧ i = .int .i64 j ∧ Kp w wr.heap.size wr w.heap.size l hd g a b v) (fun i _ => len - (intOf i).toNat)
      case atStart => exact ⟨0, Nat.zero_le _, rfl, unhide hkpH⟩
      case round =>
        obtain ⟨j, hj, rfl, hb⟩ := hrel
        have hbel : Below w.heap.size w wr := hb.chg.below _ (Nat.le_refl _) (fun _ h => h)
        have hbelH := hide hbel
        clear hbel
        by_cases hlt : j < len
        · by_cases hmax : (j : Int) < 4398046511104
          · have hjo : j < ops.length := by rw [ho.count]; exact hlt
            obtain ⟨sb, so, rfl, hsb, k0, k1, k2, k3, k4, k5⟩ := ho.cells j hjo
            have hfit := ho.fit ops[j] (List.getElem_mem hjo)
            generalize ops[j] = o at *
            obtain ⟨ok, oa, ob, oc, os, ot⟩ := o
            simp only at k0 k1 k2 k3 k4 k5 hfit
            have i1 : (0 : Int) ≤ (j : Int) := by omega
            have i2 : (j : Int) < (len : Int) := by omega
            have g1 : decide (j < len) = true := by simpa using hlt
            have hbl := unhide hbelH
            rw [← hbl.cell (p := ⟨sb, so + j * 6, none⟩) hsb] at k0
            rw [← hbl.cell (p := ⟨sb, so + j * 6 + 1, none⟩) hsb] at k1
            rw [← hbl.cell (p := ⟨sb, so + j * 6 + 2, none⟩) hsb] at k2
            rw [← hbl.cell (p := ⟨sb, so + j * 6 + 3, none⟩) hsb] at k3
            rw [← hbl.cell (p := ⟨sb, so + j * 6 + 4, none⟩) hsb] at k4
            rw [← hbl.cell (p := ⟨sb, so + j * 6 + 5, none⟩) hsb] at k5
            clear hbl
            have hq0 : Quiet wr (wr.alloc (.cells #[.int .i64 ok, .int .i64 oa, .int .i64 ob, .int .i64 oc, .string os, .string ot] 44)) := (Chg.refl _ _).alloc _
            have kp4 := (hb.quiet hq0)
            clear hq0
            by_cases hk1 : ok = 1
            · subst hk1
              have hfd := fed_any kp4 os hfit.1
              unfold ptr at hfd
              have hfdH := hide hfd
              clear hfd
              go_wp2_with fail
              refine (unhide hfdH).mono ?_
              rintro e w5 ⟨rfl, ch5, kp5⟩
              go_wp2
              go_roundw
              case rel => exact ⟨j + 1, by omega, by go_num, kp5⟩
              case measure => simp [intOf]; omega
            · have g3 : (ok == 1) = false := by simpa using hk1
              clear hk1
              have hdd := held_any kp4 ⟨ok, oa, ob, oc, os, ot⟩ hfit.1 hfit.2.1 hfit.2.2
              unfold opOf opv ptr at hdd
              have hddH := hide hdd
              clear hdd
              go_wp2_with fail
              refine (unhide hddH).mono ?_
              rintro e w5 ⟨rfl, ch5, kp5⟩
              clear hddH
              go_wp2
              go_loopw [10, 11] (fun okv lv wr2 => lv = .int .i64 0 ∧ okv = .bool true ∧ Kp w wr2.heap.size wr2 w.heap.size l hd g a b v) (fun _ _ _ => 0)
              case atStart => exact ⟨rfl, rfl, kp5⟩
              case round =>
                obtain ⟨rfl, rfl, kp8⟩ := hrel
                go_wp2
                go_roundw
                case rel => exact ⟨j + 1, by omega, by go_num, kp8⟩
                case measure => simp [intOf]; omega
          · have g1 : decide (j < len) = true := by simpa using hlt
            have g2 : ¬ (j : Int) < 4398046511104 := hmax
            go_wp2
            go_ret
            exact ⟨rfl, unhide hbelH⟩
        · have g1 : decide (j < len) = false := by simpa using hlt
          have g2 : ¬ (j : Int) < (len : Int) := by omega
          go_wp2
          go_ret
          exact ⟨rfl, unhide hbelH⟩
    | false =>
      go_wp2
      go_loopw [8] (fun i wr => ∃ j : Nat, j ≤ len ∧ i = .int .i64 j ∧ Kp w wr.heap.size wr w.heap.size l hd g a b v) (fun i _ => len - (intOf i).toNat)
      case atStart => exact ⟨0, Nat.zero_le _, rfl, unhide hkpH⟩
      case round =>
        obtain ⟨j, hj, rfl, hb⟩ := hrel
        have hbel : Below w.heap.size w wr := hb.chg.below _ (Nat.le_refl _) (fun _ h => h)
        have hbelH := hide hbel
        clear hbel
        by_cases hlt : j < len
        · by_cases hmax : (j : Int) < 4398046511104
          · have hjo : j < ops.length := by rw [ho.count]; exact hlt
            obtain ⟨sb, so, rfl, hsb, k0, k1, k2, k3, k4, k5⟩ := ho.cells j hjo
            have hfit := ho.fit ops[j] (List.getElem_mem hjo)
            generalize ops[j] = o at *
            obtain ⟨ok, oa, ob, oc, os, ot⟩ := o
            simp only at k0 k1 k2 k3 k4 k5 hfit
            have i1 : (0 : Int) ≤ (j : Int) := by omega
            have i2 : (j : Int) < (len : Int) := by omega
            have g1 : decide (j < len) = true := by simpa using hlt
            have hbl := unhide hbelH
            rw [← hbl.cell (p := ⟨sb, so + j * 6, none⟩) hsb] at k0
            rw [← hbl.cell (p := ⟨sb, so + j * 6 + 1, none⟩) hsb] at k1
            rw [← hbl.cell (p := ⟨sb, so + j * 6 + 2, none⟩) hsb] at k2
            rw [← hbl.cell (p := ⟨sb, so + j * 6 + 3, none⟩) hsb] at k3
            rw [← hbl.cell (p := ⟨sb, so + j * 6 + 4, none⟩) hsb] at k4
            rw [← hbl.cell (p := ⟨sb, so + j * 6 + 5, none⟩) hsb] at k5
            clear hbl
            have hq0 : Quiet wr (wr.alloc (.cells #[.int .i64 ok, .int .i64 oa, .int .i64 ob, .int .i64 oc, .string os, .string ot] 44)) := (Chg.refl _ _).alloc _
            have kp4 := (hb.quiet hq0)
            clear hq0
            by_cases hk1 : ok = 1
            · subst hk1
              have hfd := fed_any kp4 os hfit.1
              unfold ptr at hfd
              have hfdH := hide hfd
              clear hfd
              go_wp2_with fail
              refine (unhide hfdH).mono ?_
              rintro e w5 ⟨rfl, ch5, kp5⟩
              go_wp2
              go_roundw
              case rel => exact ⟨j + 1, by omega, by go_num, kp5⟩
              case measure => simp [intOf]; omega
            · have g3 : (ok == 1) = false := by simpa using hk1
              clear hk1
              have hdd := held_any kp4 ⟨ok, oa, ob, oc, os, ot⟩ hfit.1 hfit.2.1 hfit.2.2
              unfold opOf opv ptr at hdd
              have hddH := hide hdd
              clear hdd
              go_wp2_with fail
              refine (unhide hddH).mono ?_
              rintro e w5 ⟨rfl, ch5, kp5⟩
              clear hddH
              have hd7 := held_any kp5 ⟨7, 0, 0, 0, ⟨#[]⟩, ⟨#[]⟩⟩ (by decide) (by decide) (by decide)
              unfold opOf opv ptr at hd7
              have hd7H := hide hd7
              clear hd7
              go_wp2_with fail
              refine (unhide hd7H).mono ?_
              rintro e w6 ⟨rfl, ch6, kp6⟩
              have hd8 := held_any kp6 ⟨8, 0, 0, 0, ⟨#[]⟩, ⟨#[]⟩⟩ (by decide) (by decide) (by decide)
              unfold opOf opv ptr at hd8
              have hd8H := hide hd8
              clear hd8 hd7H
              go_wp2_with fail
              refine (unhide hd8H).mono ?_
              rintro e w7 ⟨rfl, ch7, kp7⟩
              clear hd8H
              go_wp2
              go_loopw [10, 11] (fun okv lv wr2 => ∃ n : Nat, n ≤ 8 ∧ lv = .int .i64 n ∧ okv = .bool true ∧ Kp w wr2.heap.size wr2 w.heap.size l hd g a b v) (fun _ lv _ => 9 - (intOf lv).toNat)
              case atStart => exact ⟨0, by omega, rfl, rfl, kp7⟩
              case round =>
                obtain ⟨n, hn, rfl, rfl, kp8⟩ := hrel
                have m0 : (0 : Int) ≤ (n : Int) := by omega
                by_cases hn8 : n < 8
                · have m1 : (n : Int) < 8 := by omega
                  have hd9 := held_any kp8 ⟨9, n, 0, 0, ⟨#[]⟩, ⟨#[]⟩⟩ (Nat.zero_le _) (by simp only; omega) (by simp only; omega)
                  unfold opOf opv ptr at hd9
                  have hd9H := hide hd9
                  clear hd9
                  go_wp2_with fail
                  refine (unhide hd9H).mono ?_
                  rintro e w9 ⟨rfl, ch9, kp9⟩
                  go_wp2
                  go_roundw
                  case rel => exact ⟨n + 1, by omega, by go_num, rfl, kp9⟩
                  case measure => simp [intOf]; omega
                · have m1 : ¬ (n : Int) < 8 := by omega
                  go_wp2
                  go_roundw
                  case rel => exact ⟨j + 1, by omega, by go_num, kp8⟩
                  case measure => simp [intOf]; omega
          · have g1 : decide (j < len) = true := by simpa using hlt
            have g2 : ¬ (j : Int) < 4398046511104 := hmax
            go_wp2
            go_ret
            exact ⟨rfl, unhide hbelH⟩
        · have g1 : decide (j < len) = false := by simpa using hlt
          have g2 : ¬ (j : Int) < (len : Int) := by omega
          go_wp2
          go_ret
          exact ⟨rfl, unhide hbelH⟩
end Go.Proofs.Qxb6500361a
