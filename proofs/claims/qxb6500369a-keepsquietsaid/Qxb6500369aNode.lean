/-
  The real ring: unpack, Node; the abstract ring: Node. New, Reset.
-/
import Derived.Test.Qxb6500369aSmall
namespace Go.Proofs.Qxb6500369a
open Go.RowKit Go.Qx
set_option linter.unusedSimpArgs false
set_option linter.unusedVariables false

theorem cellR_of {w : World} {a : Nat} {ns : List N5} {sp : List Value} (hb : Blk w a 80 (flat rc ns ++ sp)) {i : Nat} {c : N5} (hi : ns[i]? = some c) :
    w.cell? ⟨a, i * 4, none⟩ = some (.int .i64 c.id) ∧ w.cell? ⟨a, i * 4 + 1, none⟩ = some (.int .i64 c.lead) ∧ w.cell? ⟨a, i * 4 + 2, none⟩ = some (.int .i64 c.reach) ∧ w.cell? ⟨a, i * 4 + 3, none⟩ = some (.int .u8 (c.st + 4 * c.got)) := by
  refine ⟨?_, ?_, ?_, ?_⟩
  · have := flat_get rc_length ns i 0 c sp hi (by omega)
    rw [Nat.add_zero] at this
    rw [hb.cell, this]; rfl
  · rw [hb.cell, flat_get rc_length ns i 1 c sp hi (by omega)]; rfl
  · rw [hb.cell, flat_get rc_length ns i 2 c sp hi (by omega)]; rfl
  · rw [hb.cell, flat_get rc_length ns i 3 c sp hi (by omega)]; rfl

def rcV (c : N5) : Value := .agg #[.int .i64 c.id, .int .i64 c.lead, .int .i64 c.reach, .int .u8 (c.st + 4 * c.got)]
def mcV (c : N5) : Value := .agg #[.int .i64 c.id, .int .i64 c.st, .int .i64 c.lead, .int .i64 c.reach, .int .i64 c.got]

set_option maxHeartbeats 2000000 in
theorem unpack_any (w : World) (c : N5) (hs : c.st = 0 ∨ c.st = 1 ∨ c.st = 2) (hg : c.got = 0 ∨ c.got = 1) : Calls Try.prog 43 #[rcV c] w fun e w' => e = .returned (mcV c) ∧ Quiet w w' := by
  obtain ⟨id, st, lead, reach, got⟩ := c
  simp only at hs hg
  unfold rcV mcV
  simp only
  have k0 : bits BinOp.and IntKind.u8 0 3 = 0 := by decide
  have k1 : bits BinOp.and IntKind.u8 1 3 = 1 := by decide
  have k2 : bits BinOp.and IntKind.u8 2 3 = 2 := by decide
  have k4 : bits BinOp.and IntKind.u8 4 3 = 0 := by decide
  have k5 : bits BinOp.and IntKind.u8 5 3 = 1 := by decide
  have k6 : bits BinOp.and IntKind.u8 6 3 = 2 := by decide
  rcases hs with rfl | rfl | rfl <;> rcases hg with rfl | rfl
  all_goals
    go_enter Try.func43, Try.ntmps43
    go_wp2
    refine bodyPost_ret (by simp [results, Try.results43, go_sem] <;> try rfl) rfl ⟨rfl, ?_⟩
    exact ((Chg.refl _ _).alloc _).alloc _

def z5 : N5 := ⟨0, 0, 0, 0, 0⟩

/-- Node's answer. -/
def nodeP (ns : List N5) (i : Int) : N5 × Int := if i < 0 ∨ (ns.length : Int) ≤ i then (z5, 5) else (ns.getD i.toNat z5, 0)

set_option maxRecDepth 100000 in
set_option maxHeartbeats 1000000 in
theorem node_any (w : World) (x a b : Nat) (mode : Int) (ns : List N5) (ord : List Int) (r : Rep w x a b mode ns ord) (hst : ∀ c ∈ ns, (c.st = 0 ∨ c.st = 1 ∨ c.st = 2) ∧ (c.got = 0 ∨ c.got = 1)) (i : Int) :
    Calls Try.prog 29 #[ptr x, .int .i64 i] w fun e w' => e = .returned (.tuple #[mcV (nodeP ns i).1, .int .i64 (nodeP ns i).2]) ∧ Quiet w w' := by
  have hxl := r.blk.lt
  have hal := r.cb.lt
  have c1 := r.blk.cell 1
  have c2 := r.blk.cell 2
  simp at c1 c2
  have h8 := r.n8
  unfold ptr
  by_cases h : i < 0 ∨ (ns.length : Int) ≤ i
  · have e : Hid (nodeP ns i = (z5, 5)) := by show _ = _; simp only [nodeP, h, if_true]
    have h' : i < 0 ∨ (0 ≤ i ∧ (ns.length : Int) ≤ i) := by omega
    clear h
    rcases h' with h | ⟨h, h2⟩
    all_goals
      go_enter Try.func29, Try.ntmps29
      go_wp2
      rw [unhide e]
      refine bodyPost_ret (v := .tuple #[mcV z5, .int .i64 5]) (by simp [results, Try.results29, go_sem, mcV, z5]) rfl ⟨rfl, ?_⟩
      exact (Chg.refl _ _).alloc _
  · obtain ⟨j, rfl⟩ : ∃ j : Nat, i = j := ⟨i.toNat, by omega⟩
    have hjl : j < ns.length := by omega
    have e : Hid (nodeP ns j = (ns[j], 0)) := by
      show _ = _
      simp only [nodeP, h, if_false, Int.toNat_natCast, List.getD_eq_getElem?_getD, List.getElem?_eq_getElem hjl, Option.getD_some]
    have k0 : (0 : Int) ≤ (j : Int) := by omega
    have k1 : (j : Int) < (ns.length : Int) := by omega
    have k2 : (j : Int) < 8 := by omega
    obtain ⟨a0, a1, a2, a3⟩ := cellR_of r.cb (List.getElem?_eq_getElem hjl)
    obtain ⟨h1, h2⟩ := hst ns[j] (List.getElem_mem hjl)
    generalize ns[j] = c at *
    have hu := fun V => unpack_any V c h1 h2
    unfold rcV mcV at hu
    have bR := Blk.new w 28 [.int .i64 0, .int .i64 0, .int .i64 0, .int .i64 0, .int .i64 0]
    have qR : Quiet w (w.alloc (.cells #[.int .i64 0, .int .i64 0, .int .i64 0, .int .i64 0, .int .i64 0] 28)) := (Chg.refl _ _).alloc _
    clear h h1 h2 hst
    go_enter Try.func29, Try.ntmps29
    go_wp2_with fail
    refine (hu _).mono ?_
    rintro e1 w1 ⟨rfl, q1⟩
    have b1 := q1.blk bR
    have d0 := b1.cell 0
    have d1 := b1.cell 1
    have d2 := b1.cell 2
    have d3 := b1.cell 3
    have d4 := b1.cell 4
    simp at d0 d1 d2 d3 d4
    have f0 := b1.frozen 0
    have f1 := b1.frozen 1
    have f2 := b1.frozen 2
    have f3 := b1.frozen 3
    have f4 := b1.frozen 4
    have qw := Quiet.trans qR q1
    go_wp2
    rw [unhide e]
    refine bodyPost_ret (v := .tuple #[mcV c, .int .i64 0]) (results_blk_tmp (u := 28) (cs := mc c) Try.results29 rfl Try.isAgg28 Try.sizeOf28 ?_) rfl ⟨rfl, ?_⟩
    · exact ((((b1.set 0 _).set 1 _).set 2 _).set 3 _).set 4 _
    · exact ((((qw.setCell (.inr (Nat.le_refl _)) _).setCell (.inr (Nat.le_refl _)) _).setCell (.inr (Nat.le_refl _)) _).setCell (.inr (Nat.le_refl _)) _).setCell (.inr (Nat.le_refl _)) _

set_option maxRecDepth 100000 in
set_option maxHeartbeats 1000000 in
theorem mnode_any (w : World) (x : Nat) (v : Value) (mode : Int) (ns : List N5) (r : RepM w x v mode ns) (i : Int) :
    Calls Try.prog 48 #[ptr x, .int .i64 i] w fun e w' => e = .returned (.tuple #[mcV (nodeP ns i).1, .int .i64 (nodeP ns i).2]) ∧ Quiet w w' := by
  obtain ⟨ao, cap, rfl⟩ := r.row.shape
  have hxl := r.blk.lt
  have c1 := r.blk.cell 1
  simp at c1
  unfold ptr
  by_cases h : i < 0 ∨ (ns.length : Int) ≤ i
  · have e : Hid (nodeP ns i = (z5, 5)) := by show _ = _; simp only [nodeP, h, if_true]
    have h' : i < 0 ∨ (0 ≤ i ∧ (ns.length : Int) ≤ i) := by omega
    clear h
    rcases h' with h | ⟨h, h2⟩
    all_goals
      go_enter Try.func48, Try.ntmps48
      go_wp2
      rw [unhide e]
      refine bodyPost_ret (v := .tuple #[mcV z5, .int .i64 5]) (by simp [results, Try.results48, go_sem, mcV, z5]) rfl ⟨rfl, ?_⟩
      exact (Chg.refl _ _).alloc _
  · obtain ⟨j, rfl⟩ : ∃ j : Nat, i = j := ⟨i.toNat, by omega⟩
    have hjl : j < ns.length := by omega
    have e : Hid (nodeP ns j = (ns[j], 0)) := by
      show _ = _
      simp only [nodeP, h, if_false, Int.toNat_natCast, List.getD_eq_getElem?_getD, List.getElem?_eq_getElem hjl, Option.getD_some]
    have k0 : (0 : Int) ≤ (j : Int) := by omega
    have k1 : (j : Int) < (ns.length : Int) := by omega
    obtain ⟨g, cap', hv, a0, a1, a2, a3, a4⟩ := flat_row (List.getElem?_eq_getElem hjl) r.row
    cases hv
    have hgl := r.row.lt (b := g) rfl
    generalize ns[j] = c at *
    clear h
    go_enter Try.func48, Try.ntmps48
    go_wp2
    rw [unhide e]
    refine bodyPost_ret (v := .tuple #[mcV c, .int .i64 0]) (by simp [results, Try.results48, go_sem, mcV]) rfl ⟨rfl, ?_⟩
    exact (Chg.refl _ _).alloc _
end Go.Proofs.Qxb6500369a
