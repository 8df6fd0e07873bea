/-
  The node's small functions: before, head, held, hear, Field.
-/
import Derived.Test.Qxb6500367aPlain
namespace Go.Proofs.Qxb6500367a
open Go.RowKit Go.Qx
set_option linter.unusedSimpArgs false
set_option linter.unusedVariables false

theorem before_any (w : World) (a b c d : Int) : Calls Try.prog 56 #[.agg #[.int .i64 a, .int .i64 b], .agg #[.int .i64 c, .int .i64 d]] w fun e w' => e = .returned (.bool (beforeP (a, b) (c, d))) ∧ Quiet w w' := by
  unfold beforeP
  by_cases h : a = c
  · subst h
    have h1 : (a == a) = true := by simp
    simp only [if_true]
    go_enter Try.func56, Try.ntmps56
    go_wp2
    go_ret
    exact ⟨rfl, ((Chg.refl _ _).alloc _).alloc _⟩
  · have h1 : (a == c) = false := by simpa using h
    simp only [h, if_false]
    clear h
    go_enter Try.func56, Try.ntmps56
    go_wp2
    go_ret
    exact ⟨rfl, ((Chg.refl _ _).alloc _).alloc _⟩

theorem Rep.cells {w : World} {x a b : Nat} {s : Nd} (r : Rep w x a b s) :
    w.cell? ⟨x, 0, none⟩ = some (.int .i64 s.n) ∧ w.cell? ⟨x, 1, none⟩ = some (.int .i64 s.id) ∧ w.cell? ⟨x, 2, none⟩ = some (.int .i64 s.clock) ∧ w.cell? ⟨x, 3, none⟩ = some (.int .i64 s.phase) ∧ w.cell? ⟨x, 4, none⟩ = some (.int .i64 s.mine)
      ∧ w.cell? ⟨x, 5, none⟩ = some (.slice (some ⟨a, 0, none⟩) s.q.length s.n) ∧ w.cell? ⟨x, 6, none⟩ = some (.slice (some ⟨b, 0, none⟩) s.n s.n) ∧ w.cell? ⟨x, 7, none⟩ = some (.int .i64 s.acks) := by
  have h := r.blk.cell
  exact ⟨h 0, h 1, h 2, h 3, h 4, h 5, h 6, h 7⟩

theorem Rep.get {w : World} {x a b : Nat} {s : Nd} (r : Rep w x a b s) (i : Nat) (u : Int × Int) (h : s.q[i]? = some u) : w.cell? ⟨a, i * 2, none⟩ = some (.int .i64 u.1) ∧ w.cell? ⟨a, i * 2 + 1, none⟩ = some (.int .i64 u.2) := by
  obtain ⟨sp, h1, _⟩ := r.row
  have := qCells_get s.q i u sp h
  exact ⟨(h1.cell _).trans this.1, (h1.cell _).trans this.2⟩

theorem Rep.set {w W : World} {x a b : Nat} {s : Nd} (r : Rep w x a b s) (s' : Nd) (hn : s'.n = s.n) (hi : s'.id = s.id) (hq : s'.q = s.q) (hg : s'.got = s.got) (hb : Blk W x 72 (nodeCells s' a b)) (c : Chg (fun k => k = x) w W) : Rep W x a b s' := by
  obtain ⟨sp, h1, h2⟩ := r.row
  refine ⟨hb, ⟨sp, ?_, ?_⟩, ?_, r.na, r.nb, r.nab, ?_, ?_, ?_, ?_, ?_⟩
  · rw [hq]; exact c.blk h1 r.na
  · rw [hq, hn]; exact h2
  · rw [hg]; exact c.blk r.gb r.nb
  · rw [hn]; exact r.n1
  · rw [hn]; exact r.n4
  · rw [hn, hi]; exact r.il
  · rw [hn, hq]; exact r.ql
  · rw [hn, hg]; exact r.gl

theorem head_any (w : World) (x a b : Nat) (s : Nd) (r : Rep w x a b s) : Calls Try.prog 40 #[ptr x] w fun e w' => e = .returned (.int .i64 (headP s.q)) ∧ Quiet w w' := by
  obtain ⟨_, _, _, _, _, c5, _, _⟩ := r.cells
  unfold ptr
  cases hq : s.q with
  | nil =>
    rw [hq] at c5
    simp only [List.length_nil] at c5
    clear hq
    go_enter Try.func40, Try.ntmps40
    go_wp2
    go_ret
    exact ⟨rfl, Chg.refl _ _⟩
  | cons u q =>
    have hg := r.get 0 u (by rw [hq]; rfl)
    rw [hq] at c5
    simp only [List.length_cons] at c5
    obtain ⟨h1, h2⟩ := hg
    simp only [Nat.zero_mul, Nat.zero_add] at h1 h2
    have g1 : (((q.length + 1 : Nat) : Int) == 0) = false := by rw [beq_eq_false_iff_ne]; omega
    have g2 : (0 : Int) < ((q.length + 1 : Nat) : Int) := by omega
    simp only [headP]
    clear hq
    go_enter Try.func40, Try.ntmps40
    go_wp2
    go_ret
    exact ⟨rfl, Chg.refl _ _⟩

set_option maxHeartbeats 1000000 in
theorem held_any (w : World) (x a b : Nat) (s : Nd) (r : Rep w x a b s) (j : Int) : Calls Try.prog 41 #[ptr x, .int .i64 j] w fun e w' => e = .returned (.int .i64 (heldP s.q j)) ∧ Quiet w w' := by
  obtain ⟨_, _, _, _, _, c5, _, _⟩ := r.cells
  have h4 := r.n4
  have hl := r.ql
  unfold ptr
  generalize hN : s.q.length = N at c5 hl
  have hNH := hide hN
  clear hN
  go_enter Try.func41, Try.ntmps41
  go_wp2
  go_loopw [12] (fun i wr => ∃ k : Nat, k ≤ N ∧ i = .int .i64 k ∧ heldP (s.q.drop k) j = heldP s.q j ∧ Quiet w wr) (fun i _ => 5 - (intOf i).toNat)
  case atStart => exact ⟨0, Nat.zero_le _, rfl, rfl, Chg.refl _ _⟩
  case round =>
    obtain ⟨k, hk, rfl, hh, hq⟩ := hrel
    have r1 := r.quiet hq
    have hNN := unhide hNH
    have hhH := hide hh
    clear hh
    have i1 : (0 : Int) ≤ (k : Int) := by omega
    by_cases hlt : k < N
    · have hkl : k < s.q.length := by omega
      have i2 : (k : Int) < (N : Int) := by omega
      have hdr : s.q.drop k = s.q[k] :: s.q.drop (k + 1) := List.drop_eq_getElem_cons hkl
      have hg := r1.get k s.q[k] (List.getElem?_eq_getElem hkl)
      have hh := unhide hhH
      rw [hdr] at hh
      generalize s.q[k] = u at *
      obtain ⟨ut, ui⟩ := u
      obtain ⟨g1, g2⟩ := hg
      simp only [heldP] at hh g1 g2
      clear hdr hNN
      by_cases he : ui = j
      · subst he
        rw [if_pos rfl] at hh
        have b1 : (ui == ui) = true := by simp
        have hh2 := hide hh
        clear hh
        go_wp2
        go_ret
        refine ⟨?_, hq.alloc _⟩
        rw [← unhide hh2]
        rfl
      · rw [if_neg he] at hh
        have b1 : (ui == j) = false := by simpa using he
        have hh2 := hide hh
        clear hh he
        go_wp2
        go_roundw
        case rel => exact ⟨k + 1, by omega, by go_num, unhide hh2, hq.alloc _⟩
        case measure => simp [intOf]; omega
    · have i2 : ¬ (k : Int) < (N : Int) := by omega
      clear hNN
      go_wp2
      go_ret
      refine ⟨?_, hq⟩
      rw [← unhide hhH, List.drop_eq_nil_of_le (by have := unhide hNH; omega)]
      rfl

theorem chg1 (w : World) (x o : Nat) (v : Value) : Chg (fun k => k = x) w (w.setCell ⟨x, o, none⟩ v) := Chg.setCell (S := fun k => k = x) (p := ⟨x, o, none⟩) (Chg.refl _ w) (.inl rfl) v

theorem hear_any (w : World) (x a b : Nat) (s : Nd) (r : Rep w x a b s) (t : Int) (h0 : 0 ≤ s.clock) (h1 : s.clock ≤ 1152921504606846976) (h2 : 1 ≤ t) (h3 : t ≤ 1152921504606846976) :
    Calls Try.prog 53 #[ptr x, .int .i64 t] w fun e w' => e = .returned (.tuple #[]) ∧ Chg (own x a b) w w' ∧ Rep w' x a b (hearP s t) := by
  obtain ⟨_, _, c2, _, _, _, _, _⟩ := r.cells
  have f2 := r.blk.frozen 2
  unfold ptr
  go_enter Try.func53, Try.ntmps53
  go_wp2
  · go_end0
    refine ⟨rfl, (chg1 w x 2 _).mono (fun _ _ h => .inl h), r.set (hearP s t) rfl rfl rfl rfl ?_ (chg1 w x 2 _)⟩
    unfold hearP
    rw [show max s.clock t = t by omega]
    exact r.blk.set 2 _
  · go_end0
    refine ⟨rfl, (chg1 w x 2 _).mono (fun _ _ h => .inl h), r.set (hearP s t) rfl rfl rfl rfl ?_ (chg1 w x 2 _)⟩
    unfold hearP
    rw [show max s.clock t = s.clock by omega]
    exact r.blk.set 2 _

theorem field_any (w : World) (s : List UInt8) (v : Int) (hs : s.length ≤ 1000) (h1 : -9223372036854775808 ≤ v) (h2 : v ≤ 9223372036854775807) : Calls Try.prog 39 #[.string (str s), .int .i64 v] w fun e w' => e = .returned (.string (str (field s v))) ∧ Quiet w w' := by
  have hil := itoa_length v
  go_enter Try.func39, Try.ntmps39
  go_wp2_with fail
  refine (itoa_any v _ h1 h2).mono ?_
  rintro e w2 ⟨rfl, hq2⟩
  have hz1 : ¬ 9223372036854775807 < (str s).size + (str (itoa v)).size := by rw [str_size, str_size]; omega
  have hz2 : ¬ 9223372036854775807 < (str s).size + (str (itoa v)).size + 1 := by rw [str_size, str_size]; omega
  go_wp2
  go_ret
  refine ⟨?_, hq2⟩
  rw [field, ← str_append, ← str_append]
  rfl
end Go.Proofs.Qxb6500367a
