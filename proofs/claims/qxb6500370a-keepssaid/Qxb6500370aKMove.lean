/-
  THE GHOSTS MOVE; letter; what a kept step leaves.
-/
import Derived.Test.Qxb6500370aKGh
import Derived.Test.Qxb6500370aKOwed
namespace Go.Proofs.Qxb6500370a
open Go.RowKit Go.Qx Go.Qx.Mk
set_option linter.unusedVariables false
set_option linter.unusedSimpArgs false

theorem letter0 (w : World) : Calls Try.prog 13 #[.string ⟨#[]⟩] w fun e w' => e = .returned (.bool (letterL [])) ∧ w' = w := by
  go_enter Try.func13, Try.ntmps13
  go_wp2
  go_ret
  exact ⟨rfl, rfl⟩
set_option maxHeartbeats 2000000 in
theorem letter1 (w : World) (a : UInt8) : Calls Try.prog 13 #[.string ⟨#[a]⟩] w fun e w' => e = .returned (.bool (letterL [a])) ∧ w' = w := by
  go_enter Try.func13, Try.ntmps13
  go_wp2
  all_goals
    go_ret
    refine ⟨bool_ret ?_, rfl⟩
    have e0 : ((⟨#[a]⟩ : ByteArray)[0]'(by show 0 < 1; omega)) = a := rfl
    simp only [e0] at *
    try simp only [bne_iff_ne, ne_eq, beq_iff_eq, bne_eq_false_iff_eq, beq_eq_false_iff_ne] at *
    simp only [letterL]
    rw [eq_comm]
    first | (apply decide_eq_true; omega) | (apply decide_eq_false; omega) | (rw [Bool.eq_iff_iff]; simp; omega)
theorem letter_any (w : World) (c : ByteArray) (h : c.size ≤ 4) : Calls Try.prog 13 #[.string c] w fun e w' => e = .returned (.bool (letterL c.data.toList)) ∧ w' = w := by
  obtain ⟨⟨l⟩⟩ := c
  have hl : l.length ≤ 4 := by
    have : (⟨⟨l⟩⟩ : ByteArray).size = l.length := rfl
    omega
  match l, hl with
  | [], _ => exact letter0 w
  | [a], _ => exact letter1 w a
  | [a, b], _ => exact letter2 w a b
  | [a, b, c], _ => exact letter3 w a b c
  | [a, b, c, d], _ => exact letter4 w a b c d
theorem rowS_size (t : ByteArray) (p q : Nat) : (rowS t p q).size ≤ 4 := by
  unfold rowS
  split
  · unfold piece
    have h2 : cutTo t (q + 1) = cutTo t q + widC (byt t (cutTo t q)) := rfl
    have := (widC_le (byt t (cutTo t q))).2
    rw [ByteArray.size_extract]
    omega
  · exact Nat.zero_le _
/-- The letters among the first k pieces. -/
def letAll (t : ByteArray) (p : Nat) : Nat → Bool
  | 0 => true
  | k + 1 => letAll t p k && letterL (rowS t p k).data.toList
theorem letAll_all (t : ByteArray) (p : Nat) : ∀ k, (letAll t p k = true ↔ ∀ q, q < k → letterL (rowS t p q).data.toList = true)
  | 0 => ⟨fun _ q hq => absurd hq (by omega), fun _ => rfl⟩
  | k + 1 => by
    rw [letAll, Bool.and_eq_true, letAll_all t p k]
    constructor
    · rintro ⟨h1, h2⟩ q hq
      by_cases e : q = k
      · subst e; exact h2
      · exact h1 q (by omega)
    · intro h
      exact ⟨fun q hq => h q (by omega), h k (by omega)⟩
theorem word_end (t : ByteArray) (p : Nat) (hp : p ≤ 5) (fi : Fine t p) (hor : p = 5 ∨ ¬ Fine t (p + 1)) : (decide (p = 5 ∧ cutTo t 5 = t.size) && letAll t p 5) = true ↔ WordT t := by
  rw [Bool.and_eq_true, decide_eq_true_eq, letAll_all]
  constructor
  · rintro ⟨⟨rfl, h1⟩, h2⟩
    refine ⟨fi, h1, fun q hq => ?_⟩
    have := h2 q hq
    unfold rowS at this
    rwa [if_pos hq] at this
  · rintro ⟨h1, h2, h3⟩
    have e : p = 5 := by
      rcases hor with h | h
      · exact h
      · by_cases hp5 : p = 5
        · exact hp5
        · exact absurd (fun q hq => h1 q (by omega)) h
    subst e
    refine ⟨⟨rfl, h2⟩, fun q hq => ?_⟩
    unfold rowS
    rw [if_pos hq]
    exact h3 q hq

/-! ### The ghosts move. -/
def GhR (w : World) (OH : Nat → Prop) (g : Nat) (st : St) : Prop := ∃ vb vt vs, Gh w g vb vt vs st ∧ ∀ x, HO g vb vt vs x → OH x
theorem GhR.of_chg {S OH : Nat → Prop} {w w' : World} {g : Nat} {st : St} (h : GhR w OH g st) (c : Chg S w w') (hS : ∀ x, OH x → ¬ S x) : GhR w' OH g st := by
  obtain ⟨vb, vt, vs, h1, h2⟩ := h
  exact ⟨vb, vt, vs, h1.of_chg c (fun x hx => hS x (h2 x hx)), h2⟩
theorem GhR.quiet {OH : Nat → Prop} {w w' : World} {g : Nat} {st : St} (h : GhR w OH g st) (c : Quiet w w') : GhR w' OH g st := h.of_chg c (fun _ _ => id)
theorem GhR.tight {w : World} {OH : Nat → Prop} {g : Nat} {st : St} (h : GhR w OH g st) : GhR w (fun k => OH k ∧ k < w.heap.size) g st := by
  obtain ⟨vb, vt, vs, R, hO⟩ := h
  exact ⟨vb, vt, vs, R, fun k hk => ⟨hO k hk, R.lts k hk⟩⟩
section
variable {w w' : World} {g : Nat} {vb vt vs : Value} {st : St}
theorem Gh.words (h : Gh w g vb vt vs st) (c : Chg (fun x => x = g ∨ vb.ownBlock = some x) w w') {b n cap : Nat} {WS : List (List Int)} (b' : Blk w' g 35 (hcs (.slice (some ⟨b, 0, none⟩) n cap) vt vs st)) (r' : Row w' 9 1 (.slice (some ⟨b, 0, none⟩) n cap) WS.length (WS.map txV)) (hg : vb.ownBlock = some b ∨ w.heap.size ≤ b) :
    Gh w' g (.slice (some ⟨b, 0, none⟩) n cap) vt vs { st with ws := WS } := by
  have far : ∀ x, x < w.heap.size → vb.ownBlock ≠ some x → (Value.slice (some ⟨b, 0, none⟩) n cap).ownBlock ≠ some x := by
    intro x hx hn e
    simp [Value.ownBlock] at e
    subst e
    rcases hg with h | h
    · exact hn h
    · omega
  refine ⟨b', r', h.rt.of_chg c ?_, h.rs.of_chg c ?_, far _ h.b.lt h.gb, h.gt, h.gs, fun x hx e => far _ (h.rt.lt e) (fun e2 => h.bt x e2 e) hx, fun x hx e => far _ (h.rs.lt e) (fun e2 => h.bs x e2 e) hx, h.ts⟩
  · rintro x hx (e | e)
    · exact h.gt (by rw [hx, e])
    · exact h.bt x e hx
  · rintro x hx (e | e)
    · exact h.gs (by rw [hx, e])
    · exact h.bs x e hx
end

/-- What a kept step leaves. -/
def KPost (w : World) (O OH : Nat → Prop) (x g : Nat) (st : St) (e : Ending) (w' : World) : Prop :=
  e = .returned (.bool true) ∧ ∃ O' OH', RRep w' O' x st ∧ GhR w' OH' g st ∧ Chg (fun k => O k ∨ OH k) w w' ∧ (∀ k, O' k → O k ∨ w.heap.size ≤ k) ∧ (∀ k, OH' k → OH k ∨ w.heap.size ≤ k) ∧ ∀ k, O' k → ¬ OH' k
theorem KPost.same {w w' : World} {O OH : Nat → Prop} {x g : Nat} {st : St} {e : Ending} (R : RRep w O x st) (H : GhR w OH g st) (hd : ∀ k, O k → ¬ OH k) (q : Quiet w w') (he : e = .returned (.bool true)) : KPost w O OH x g st e w' :=
  ⟨he, O, OH, R.quiet q, H.quiet q, q.chg _, fun _ h => .inl h, fun _ h => .inl h, hd⟩
/-- A put of the printed form again changes nothing. -/
theorem put_again (σ : St) (A : Int) (s : ByteArray) (h0 : (parseP s).2 = 0) (hin : ¬ (A < 0 ∨ (σ.ws.length : Int) < A ∨ 8 ≤ A)) : putS (putS σ A s).2.2 A (str (txt (parseP s).1)) = (txt (parseP s).1, 0, (putS σ A s).2.2) := by
  have hl := parse_LW s h0
  have hp : putS σ A s = (txt (parseP s).1, 0, { σ with ws := if A = σ.ws.length then σ.ws ++ [(parseP s).1] else σ.ws.set A.toNat (parseP s).1 }) := by
    unfold putS; rw [if_neg (by omega), if_neg hin]
  rw [hp]
  generalize (parseP s).1 = l at *
  obtain ⟨j, rfl⟩ : ∃ j : Nat, A = j := ⟨A.toNat, by omega⟩
  unfold putS
  rw [parse_again hl]
  simp only [ne_eq, not_true_eq_false, if_false]
  by_cases hj : j = σ.ws.length
  · have e1 : ((j : Int) = (σ.ws.length : Int)) := by omega
    rw [if_pos e1, if_neg (by rw [List.length_append, List.length_singleton]; omega), if_neg (by rw [List.length_append, List.length_singleton]; omega)]
    rw [Int.toNat_natCast, hj, set_last]
  · have e1 : ¬ ((j : Int) = (σ.ws.length : Int)) := by omega
    rw [if_neg e1, if_neg (by rw [List.length_set]; omega), if_neg (by rw [List.length_set]; omega)]
    rw [Int.toNat_natCast, List.set_set]
end Go.Proofs.Qxb6500370a
