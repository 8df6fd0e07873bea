/-
  THE ABSTRACT NODE: plainly, in memory; New, least, Check's parts.
-/
import Derived.Test.Qxb6500367aShow
namespace Go.Proofs.Qxb6500367a
open Go.RowKit Go.Qx
set_option linter.unusedSimpArgs false
set_option linter.unusedVariables false

structure Md where
  n : Nat
  id : Nat
  clock : Int
  phase : Int
  ack : Int
  req : List Int

/-- The least request among the first k. -/
def leastTo (req : List Int) : Nat → Int
  | 0 => -1
  | k + 1 => if req.getD k 0 ≠ 0 ∧ (leastTo req k < 0 ∨ req.getD k 0 < req.getD (leastTo req k).toNat 0) then (k : Int) else leastTo req k

theorem leastTo_bound (req : List Int) : ∀ k, -1 ≤ leastTo req k ∧ leastTo req k < (k : Int)
  | 0 => by simp [leastTo]
  | k + 1 => by
    have := leastTo_bound req k
    unfold leastTo
    split <;> omega

structure RepM (w : World) (m c : Nat) (x : Md) : Prop where
  blk : Blk w m 89 [.int .i64 x.n, .int .i64 x.id, .int .i64 x.clock, .int .i64 x.phase, .int .i64 x.ack, .slice (some ⟨c, 0, none⟩) x.n x.n]
  rb : Blk w c 3 (x.req.map (Value.int .i64))
  mc : c ≠ m
  n1 : 1 ≤ x.n
  n4 : x.n ≤ 4
  il : x.id < x.n
  rl : x.req.length = x.n

def ownM (m c k : Nat) : Prop := k = m ∨ k = c

theorem RepM.of_chg {S : Nat → Prop} {w w' : World} {m c : Nat} {x : Md} (h : RepM w m c x) (ch : Chg S w w') (hS : ∀ k, S k → ¬ ownM m c k) : RepM w' m c x :=
  { h with blk := ch.blk h.blk (fun k => hS _ k (.inl rfl)), rb := ch.blk h.rb (fun k => hS _ k (.inr rfl)) }

theorem RepM.quiet {w w' : World} {m c : Nat} {x : Md} (h : RepM w m c x) (q : Quiet w w') : RepM w' m c x := h.of_chg q (fun _ f => f.elim)

theorem RepM.cells {w : World} {m c : Nat} {x : Md} (h : RepM w m c x) : w.cell? ⟨m, 0, none⟩ = some (.int .i64 x.n) ∧ w.cell? ⟨m, 1, none⟩ = some (.int .i64 x.id) ∧ w.cell? ⟨m, 2, none⟩ = some (.int .i64 x.clock) ∧ w.cell? ⟨m, 3, none⟩ = some (.int .i64 x.phase) ∧ w.cell? ⟨m, 4, none⟩ = some (.int .i64 x.ack) ∧ w.cell? ⟨m, 5, none⟩ = some (.slice (some ⟨c, 0, none⟩) x.n x.n) :=
  ⟨h.blk.cell 0, h.blk.cell 1, h.blk.cell 2, h.blk.cell 3, h.blk.cell 4, h.blk.cell 5⟩

theorem RepM.r {w : World} {m c : Nat} {x : Md} (h : RepM w m c x) (i : Nat) (hi : i < x.n) : w.cell? ⟨c, i, none⟩ = some (.int .i64 (x.req.getD i 0)) := by
  have hl := h.rl
  rw [h.rb.cell i, List.getElem?_map, List.getD_eq_getElem?_getD, List.getElem?_eq_getElem (by omega)]; rfl

theorem RepM.upd {w : World} {m c : Nat} {x : Md} (h : RepM w m c x) (x' : Md) (o : Nat) (v : Value) (hn : x'.n = x.n) (hi : x'.id = x.id) (hr : x'.req = x.req)
    (e : [Value.int .i64 x.n, .int .i64 x.id, .int .i64 x.clock, .int .i64 x.phase, .int .i64 x.ack, .slice (some ⟨c, 0, none⟩) x.n x.n].set o v = [.int .i64 x'.n, .int .i64 x'.id, .int .i64 x'.clock, .int .i64 x'.phase, .int .i64 x'.ack, .slice (some ⟨c, 0, none⟩) x'.n x'.n]) : RepM (w.setCell ⟨m, o, none⟩ v) m c x' := by
  refine ⟨?_, ?_, h.mc, ?_, ?_, ?_, ?_⟩
  · rw [← e]; exact h.blk.set o v
  · rw [hr]; exact h.rb.set_other h.mc _
  · rw [hn]; exact h.n1
  · rw [hn]; exact h.n4
  · rw [hn, hi]; exact h.il
  · rw [hn, hr]; exact h.rl

theorem RepM.setR {w : World} {m c : Nat} {x : Md} (h : RepM w m c x) (i : Nat) (v : Int) : RepM (w.setCell ⟨c, i, none⟩ (.int .i64 v)) m c { x with req := x.req.set i v } := by
  refine ⟨h.blk.set_other (Ne.symm h.mc) _, ?_, h.mc, h.n1, h.n4, h.il, by simp [h.rl]⟩
  rw [List.map_set]; exact h.rb.set i _

theorem own_m {m c : Nat} {w0 w : World} (h : Chg (ownM m c) w0 w) (o : Nat) (v : Value) : Chg (ownM m c) w0 (w.setCell ⟨m, o, none⟩ v) := h.setCell (.inl (.inl rfl)) v
theorem own_c {m c : Nat} {w0 w : World} (h : Chg (ownM m c) w0 w) (o : Nat) (v : Value) : Chg (ownM m c) w0 (w.setCell ⟨c, o, none⟩ v) := h.setCell (.inl (.inr rfl)) v

set_option maxRecDepth 100000 in
set_option maxHeartbeats 2000000 in
theorem least_any (w : World) (m c : Nat) (x : Md) (R : RepM w m c x) : Calls Try.prog 57 #[ptr m] w fun e w' => e = .returned (.int .i64 (leastTo x.req x.n)) ∧ Quiet w w' := by
  have hn4 := R.n4
  unfold ptr
  go_enter Try.func57, Try.ntmps57
  go_wp2
  go_loopw [3, 4] (fun b i wr => ∃ j : Nat, j ≤ x.n ∧ i = .int .i64 j ∧ b = .int .i64 (leastTo x.req j) ∧ Quiet w wr) (fun _ i _ => 5 - (intOf i).toNat)
  case atStart => exact ⟨0, Nat.zero_le _, rfl, rfl, Chg.refl _ _⟩
  case round =>
    obtain ⟨j, hj, rfl, rfl, qj⟩ := hrel
    have R1 := R.quiet qj
    obtain ⟨c0, _, _, _, _, c5⟩ := R1.cells
    have i0 : (0 : Int) ≤ (j : Int) := by omega
    by_cases hlt : j < x.n
    · have i1 : (j : Int) < (x.n : Int) := by omega
      have hr := R1.r j hlt
      have hb := leastTo_bound x.req j
      have hst : Hid (leastTo x.req (j + 1) = if x.req.getD j 0 ≠ 0 ∧ (leastTo x.req j < 0 ∨ x.req.getD j 0 < x.req.getD (leastTo x.req j).toNat 0) then (j : Int) else leastTo x.req j) := rfl
      have hrl := fun (h : 0 ≤ leastTo x.req j) => R1.r (leastTo x.req j).toNat (by omega)
      generalize leastTo x.req j = lt at *
      generalize x.req.getD j 0 = rj at *
      by_cases h0 : rj = 0
      · subst h0
        have hs2 := unhide hst
        rw [if_neg (by simp)] at hs2
        have hsH := hide hs2
        clear hs2 hrl
        go_wp2
        go_big_quiet (fail)
        go_wp2
        go_roundw
        case rel => exact ⟨j + 1, by omega, by go_num, by rw [unhide hsH], qj.drewN _⟩
        case measure => simp [intOf]; omega
      · have b0 : (rj == 0) = false := by simpa using h0
        have b1 : (rj != 0) = true := by simpa using h0
        by_cases hl : lt < 0
        · have hs2 := unhide hst
          rw [if_pos ⟨h0, .inl hl⟩] at hs2
          have hsH := hide hs2
          clear hs2 hrl h0
          go_wp2
          go_big_quiet (fail)
          go_wp2
          go_roundw
          case rel => exact ⟨j + 1, by omega, by go_num, by rw [unhide hsH], qj.drewN _⟩
          case measure => simp [intOf]; omega
        · obtain ⟨q, rfl⟩ : ∃ q : Nat, lt = q := ⟨lt.toNat, by omega⟩
          have hrq := hrl (by omega)
          rw [Int.toNat_natCast] at hrq hst
          have q0 : (0 : Int) ≤ (q : Int) := by omega
          have qn : decide ((q : Int) < 0) = false := by simp
          have qm : ¬ (q : Int) < 0 := by omega
          have q1 : (q : Int) < (x.n : Int) := by omega
          generalize x.req.getD q 0 = rq at *
          clear hl hrl
          by_cases hlq : rj < rq
          · have hs2 := unhide hst
            rw [if_pos ⟨h0, .inr hlq⟩] at hs2
            have hsH := hide hs2
            clear hs2 h0
            go_wp2
            go_big_quiet (fail)
            go_wp2
            go_roundw
            case rel => exact ⟨j + 1, by omega, by go_num, by rw [unhide hsH], qj.drewN _⟩
            case measure => simp [intOf]; omega
          · have hs2 := unhide hst
            rw [if_neg (by omega)] at hs2
            have hsH := hide hs2
            have hlq' : rq ≤ rj := by omega
            clear hs2 h0 hlq
            go_wp2
            go_big_quiet (fail)
            go_wp2
            go_roundw
            case rel => exact ⟨j + 1, by omega, by go_num, by rw [unhide hsH], qj.drewN _⟩
            case measure => simp [intOf]; omega
    · have i1 : ¬ (j : Int) < (x.n : Int) := by omega
      have hjn : Hid (j = x.n) := by show _ = _; omega
      go_wp2
      go_ret
      refine ⟨?_, qj⟩
      rw [← unhide hjn]
      rfl
end Go.Proofs.Qxb6500367a
