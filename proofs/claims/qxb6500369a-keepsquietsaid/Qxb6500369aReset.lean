/-
  The real ring: Reset.
-/
import Derived.Test.Qxb6500369aMach
namespace Go.Proofs.Qxb6500369a
open Go.RowKit Go.Qx
set_option linter.unusedSimpArgs false
set_option linter.unusedVariables false

/-- The cells while Reset goes up. -/
def wiped (ns : List N5) (j : Nat) : List N5 := List.replicate j z5 ++ (ns ++ List.replicate (8 - ns.length) z5).drop j

theorem wiped_length (ns : List N5) (h8 : ns.length ≤ 8) (j : Nat) (hj : j ≤ 8) : (wiped ns j).length = 8 := by
  unfold wiped; simp; omega

theorem wiped_get (ns : List N5) (h8 : ns.length ≤ 8) (j : Nat) (hj : j < 8) : ∃ c, (wiped ns j)[j]? = some c := by
  refine ⟨_, List.getElem?_eq_getElem (by rw [wiped_length ns h8 j (by omega)]; exact hj)⟩

theorem rep_set {α : Type} (z : α) (l : List α) (j : Nat) (h : j < l.length) : (List.replicate j z ++ l.drop j).set j z = List.replicate (j + 1) z ++ l.drop (j + 1) := by
  have e : l.drop j = l[j] :: l.drop (j + 1) := List.drop_eq_getElem_cons h
  rw [List.set_append_right _ _ (by simp), e, List.replicate_succ', List.length_replicate, Nat.sub_self, List.set_cons_zero, List.append_assoc]
  rfl

theorem wiped_set (ns : List N5) (h8 : ns.length ≤ 8) (j : Nat) (hj : j < 8) : (wiped ns j).set j z5 = wiped ns (j + 1) := by
  unfold wiped
  exact rep_set z5 _ j (by simp; omega)

def resetPost (w : World) (x a b : Nat) (e : Ending) (w' : World) : Prop := e = .returned (.tuple #[]) ∧ Chg (own x a b) w w' ∧ Rep w' x a b (-1) [] (List.replicate 8 0)

set_option maxRecDepth 100000 in
set_option maxHeartbeats 2000000 in
theorem reset_any (w : World) (x a b : Nat) (mode : Int) (ns : List N5) (ord : List Int) (r : Rep w x a b mode ns ord) (ht : ord.drop ns.length = List.replicate (8 - ns.length) 0) : Calls Try.prog 37 #[ptr x] w (resetPost w x a b) := by
  have h8 := r.n8
  have c1 := r.blk.cell 1
  simp at c1
  have hxl := r.blk.lt
  have nxa := r.xa
  have nxb := r.xb
  have nab := r.ab
  have nax := Ne.symm nxa
  have nbx := Ne.symm nxb
  have nba := Ne.symm nab
  have hcb0 : Blk w a 80 (flat rc (wiped ns 0) ++ []) := by
    have := r.cb
    rw [← flat_append] at this
    simpa [wiped, z5] using this
  have hob0 : Blk w b 3 ((List.replicate 0 (0 : Int) ++ ord.drop 0).map (Value.int .i64)) := by simpa using r.ob
  have hblk := r.blk
  have hol := r.ol
  unfold ptr
  go_enter Try.func37, Try.ntmps37
  go_wp2
  go_loopw [7] (fun i wr => ∃ j : Nat, j ≤ ns.length ∧ i = .int .i64 j ∧ Blk wr x 52 [.int .i64 mode, .int .i64 ns.length, .slice (some ⟨a, 0, none⟩) 8 8, .slice (some ⟨b, 0, none⟩) 8 8] ∧ Blk wr a 80 (flat rc (wiped ns j) ++ []) ∧ Blk wr b 3 ((List.replicate j (0 : Int) ++ ord.drop j).map (Value.int .i64)) ∧ Chg (own x a b) w wr) (fun i _ => 9 - (intOf i).toNat)
  case atStart => exact ⟨0, Nat.zero_le _, rfl, hblk, hcb0, hob0, Chg.refl _ _⟩
  case round =>
    obtain ⟨j, hj, rfl, bx, ba, bb, hc⟩ := hrel
    clear hcb0 hob0 hblk c1
    have x2 := bx.cell 2
    have x3 := bx.cell 3
    have x0 := bx.cell 0
    have x1 := bx.cell 1
    have f0 := bx.frozen 0
    have f1 := bx.frozen 1
    simp at x0 x1 x2 x3
    have k0 : (0 : Int) ≤ (j : Int) := by omega
    by_cases hlt : j < ns.length
    · have k1 : (j : Int) < (ns.length : Int) := by omega
      have k2 : (j : Int) < 8 := by omega
      have hj8 : j < 8 := by omega
      obtain ⟨c, hcj⟩ := wiped_get ns h8 j hj8
      obtain ⟨a0, a1, a2, a3⟩ := cellR_of ba hcj
      have g0 := ba.frozen (j * 4)
      have g1 := ba.frozen (j * 4 + 1)
      have g2 := ba.frozen (j * 4 + 2)
      have g3 := ba.frozen (j * 4 + 3)
      have gb := bb.frozen j
      have bj : ∃ u, wr.cell? ⟨b, j, none⟩ = some u := by
        refine ⟨_, (bb.cell j).trans (List.getElem?_eq_getElem ?_)⟩
        simp; omega
      obtain ⟨u, bj⟩ := bj
      have fin : Hid (∀ V, Quiet wr V → ∀ W, W = ((((V.setCell ⟨a, j * 4, none⟩ (.int .i64 0)).setCell ⟨a, j * 4 + 1, none⟩ (.int .i64 0)).setCell ⟨a, j * 4 + 2, none⟩ (.int .i64 0)).setCell ⟨a, j * 4 + 3, none⟩ (.int .u8 0)).setCell ⟨b, j, none⟩ (.int .i64 0) → Blk W x 52 [.int .i64 mode, .int .i64 ns.length, .slice (some ⟨a, 0, none⟩) 8 8, .slice (some ⟨b, 0, none⟩) 8 8] ∧ Blk W a 80 (flat rc (wiped ns (j + 1)) ++ []) ∧ Blk W b 3 ((List.replicate (j + 1) (0 : Int) ++ ord.drop (j + 1)).map (Value.int .i64)) ∧ Chg (own x a b) w W) := by
        intro V q W hW
        subst hW
        have q1 := setN (q.blk ba) hcj 0 (by omega) (.int .i64 0) { c with id := 0 } rfl
        have q2 := setN q1.1 q1.2.1 1 (by omega) (.int .i64 0) { c with id := 0, lead := 0 } rfl
        have q3 := setN q2.1 q2.2.1 2 (by omega) (.int .i64 0) { c with id := 0, lead := 0, reach := 0 } rfl
        have q4 := setN q3.1 q3.2.1 3 (by omega) (.int .u8 0) z5 rfl
        rw [List.set_set, List.set_set, List.set_set, wiped_set ns h8 j hj8] at q4
        refine ⟨?_, q4.1.set_other (a := ⟨b, j, none⟩) nab _, ?_, ?_⟩
        · exact (((((q.blk bx).set_other (a := ⟨a, j * 4, none⟩) nxa _).set_other (a := ⟨a, j * 4 + 1, none⟩) nxa _).set_other (a := ⟨a, j * 4 + 2, none⟩) nxa _).set_other (a := ⟨a, j * 4 + 3, none⟩) nxa _).set_other (a := ⟨b, j, none⟩) nxb _
        · have hb1 := (((((q.blk bb).set_other (a := ⟨a, j * 4, none⟩) nba (.int .i64 0)).set_other (a := ⟨a, j * 4 + 1, none⟩) nba (.int .i64 0)).set_other (a := ⟨a, j * 4 + 2, none⟩) nba (.int .i64 0)).set_other (a := ⟨a, j * 4 + 3, none⟩) nba (.int .u8 0)).set j (.int .i64 0)
          rw [← List.map_set, rep_set (0 : Int) ord j (by omega)] at hb1
          exact hb1
        · exact ((((((hc.trans (q.chg _)).setCell (.inl (.inr (.inl rfl))) _).setCell (.inl (.inr (.inl rfl))) _).setCell (.inl (.inr (.inl rfl))) _).setCell (.inl (.inr (.inl rfl))) _).setCell (.inl (.inr (.inr rfl))) _)
      clear ba bb bx hc hcj
      go_wp2
      go_region_held3 (fun w' => w'.cell? ⟨x, 2, none⟩ = some (.slice (some ⟨a, 0, none⟩) 8 8) ∧ w'.cell? ⟨x, 3, none⟩ = some (.slice (some ⟨b, 0, none⟩) 8 8)) (go_keep) (fail)
      rename_i hHeld
      clear hHeld
      obtain ⟨y1, y2, y3, y4⟩ := unhide fin wr (Chg.refl _ _) _ rfl
      have yH := hide (And.intro y1.drew (And.intro y2.drew (And.intro y3.drew y4.drew)))
      clear y1 y2 y3 y4 fin
      go_wp2
      go_roundw
      case rel => exact ⟨j + 1, by omega, by go_num, (unhide yH).1, (unhide yH).2.1, (unhide yH).2.2.1, (unhide yH).2.2.2⟩
      case measure => simp [intOf]; omega
    · have k1 : ¬ (j : Int) < (ns.length : Int) := by omega
      obtain rfl : j = ns.length := by omega
      go_wp2
      go_end0
      refine ⟨rfl, (hc.setCell (.inl (.inl rfl)) _).setCell (.inl (.inl rfl)) _, (bx.set 0 _).set 1 _, ?_, ?_, nxa, nxb, nab, by simp, by simp⟩
      · have h1 := (ba.set_other (a := ⟨x, 0, none⟩) nax (.int .i64 (-1))).set_other (a := ⟨x, 1, none⟩) nax (.int .i64 0)
        have e1 : wiped ns ns.length = List.replicate 8 z5 := by
          unfold wiped
          rw [List.drop_append, List.drop_eq_nil_of_le (Nat.le_refl _), Nat.sub_self, List.drop_zero, List.nil_append, List.replicate_append_replicate, show ns.length + (8 - ns.length) = 8 by omega]
        rw [e1, List.append_nil] at h1
        exact h1
      · have h1 := (bb.set_other (a := ⟨x, 0, none⟩) nbx (.int .i64 (-1))).set_other (a := ⟨x, 1, none⟩) nbx (.int .i64 0)
        rw [ht, List.replicate_append_replicate, show ns.length + (8 - ns.length) = 8 by omega] at h1
        exact h1
end Go.Proofs.Qxb6500369a
