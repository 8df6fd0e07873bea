/-
  One step on either node, plainly; Do and DoM play it.
-/
import Derived.Test.Qxb6500367aDo
import Derived.Test.Qxb6500367aMNode
import Derived.Test.Qxb6500367aCheck
namespace Go.Proofs.Qxb6500367a
open Go.RowKit Go.Qx
set_option linter.unusedSimpArgs false
set_option linter.unusedVariables false

structure Opr where
  k : Int
  a : Int
  b : Int
  c : Int
  s : ByteArray
  t : ByteArray

structure An where
  e : Int
  n : Int
  m : Int
  s : ByteArray

def ansP (s : Nd) (o : Opr) : An :=
  if o.k = 6 ∨ o.k = 7 ∨ o.k = 8 then ⟨0, 0, 0, ⟨#[]⟩⟩
  else if o.k = 9 then ⟨0, 0, 0, str (showP s)⟩
  else if o.k = 10 then ⟨0, 1, 0, ⟨#[]⟩⟩
  else ⟨(stepP s o.k o.b o.c).1.2.2, (stepP s o.k o.b o.c).1.1, (stepP s o.k o.b o.c).1.2.1, ⟨#[]⟩⟩

def nextP (s : Nd) (o : Opr) : Nd :=
  if o.k = 6 ∨ o.k = 7 ∨ o.k = 8 then s
  else if o.k = 9 then s
  else if o.k = 10 then s
  else (stepP s o.k o.b o.c).2

theorem inv_next {s : Nd} (h : Inv s) (o : Opr) : Inv (nextP s o) := by
  unfold nextP
  split
  · exact h
  · split
    · exact h
    · split
      · exact h
      · exact (step_law h _ _ _).1

theorem Rep.lts {w : World} {x a b : Nat} {s : Nd} (r : Rep w x a b s) : x < w.heap.size ∧ a < w.heap.size ∧ b < w.heap.size := by
  obtain ⟨sp, h1, _⟩ := r.row
  exact ⟨r.blk.lt, h1.lt, r.gb.lt⟩
theorem RepM.lts {w : World} {m c : Nat} {x : Md} (R : RepM w m c x) : m < w.heap.size ∧ c < w.heap.size := ⟨R.blk.lt, R.rb.lt⟩

theorem did_R {w w' : World} {x a b : Nat} {s : Nd} (hx : x < w.heap.size) (ha : a < w.heap.size) (hb : b < w.heap.size) (h : Did (own x a b) (fun w1 => Rep w1 x a b s) w w') : Chg (own x a b) w w' ∧ Rep w' x a b s := by
  obtain ⟨ch, w1, r, ch2⟩ := h
  refine ⟨ch, r.of_chg ch2 ?_⟩
  rintro k (rfl | rfl) (h | h | h) <;> omega

theorem did_M {w w' : World} {m c : Nat} {x : Md} (hm : m < w.heap.size) (hc : c < w.heap.size) (h : Did (ownM m c) (fun w1 => RepM w1 m c x) w w') : Chg (ownM m c) w w' ∧ RepM w' m c x := by
  obtain ⟨ch, w1, r, ch2⟩ := h
  refine ⟨ch, r.of_chg ch2 ?_⟩
  rintro k (rfl | rfl) (h | h) <;> omega

theorem do_any (w : World) (x a b : Nat) (s : Nd) (r : Rep w x a b s) (h : Inv s) (o : Opr) :
    Calls Try.prog 30 #[ptr x, opv o.k o.a o.b o.c o.s o.t] w fun e w' => e = .returned (ansv (ansP s o).e (ansP s o).n (ansP s o).m (ansP s o).s) ∧ Chg (own x a b) w w' ∧ Rep w' x a b (nextP s o) := by
  obtain ⟨l1, l2, l3⟩ := r.lts
  have hS : ∀ k, own x a b k → k < w.heap.size := by rintro k (rfl | rfl | rfl) <;> assumption
  obtain ⟨ok, oa, ob, oc, os, ot⟩ := o
  unfold ansP nextP
  simp only
  by_cases h6 : ok = 6
  · subst h6
    exact (do_none6_of w x oa ob oc os ot).mono fun e w' ⟨h1, q⟩ => ⟨h1, q.chg _, r.quiet q⟩
  by_cases h7 : ok = 7
  · subst h7
    exact (do_none7_of w x oa ob oc os ot).mono fun e w' ⟨h1, q⟩ => ⟨h1, q.chg _, r.quiet q⟩
  by_cases h8 : ok = 8
  · subst h8
    exact (do_none8_of w x oa ob oc os ot).mono fun e w' ⟨h1, q⟩ => ⟨h1, q.chg _, r.quiet q⟩
  have h678 : ¬ (ok = 6 ∨ ok = 7 ∨ ok = 8) := by omega
  rw [if_neg h678, if_neg h678]
  by_cases h9 : ok = 9
  · subst h9
    refine (do_show_of w x oa ob oc os ot (str (showP s)) (fun w1 => Rep w1 x a b s) (own x a b) hS (fun W q => ?_)).mono fun e w' ⟨h1, h2⟩ => ⟨h1, did_R l1 l2 l3 h2⟩
    exact (show_any W x a b s (r.quiet q) h.shows).mono fun e w1 ⟨h1, q1⟩ => ⟨h1, q1.chg _, (r.quiet q).quiet q1⟩
  rw [if_neg h9, if_neg h9]
  by_cases h10 : ok = 10
  · subst h10
    refine (do_check_of w x oa ob oc os ot (fun w1 => Rep w1 x a b s) (own x a b) hS (fun W q => ?_)).mono fun e w' ⟨h1, h2⟩ => ⟨h1, did_R l1 l2 l3 h2⟩
    exact (check_any W x a b s (r.quiet q) h).mono fun e w1 ⟨h1, q1⟩ => ⟨h1, q1.chg _, (r.quiet q).quiet q1⟩
  rw [if_neg h10, if_neg h10]
  refine (do_step_of w x oa ob oc os ot ok _ _ _ (by simpa using h6) (by simpa using h7) (by simpa using h8) (by simpa using h9) (by simpa using h10) (fun w1 => Rep w1 x a b (stepP s ok ob oc).2) (own x a b) hS (fun W q => ?_)).mono fun e w' ⟨h1, h2⟩ => ⟨h1, did_R l1 l2 l3 h2⟩
  exact (rstep_any W x a b s h (r.quiet q) ok ob oc).mono fun e w1 ⟨h1, h2, h3⟩ => ⟨h1, h2, h3⟩

theorem dom_any (w : World) (m c : Nat) (s : Nd) (R : RepM w m c (modelOf s)) (h : Inv s) (o : Opr) :
    Calls Try.prog 31 #[ptr m, opv o.k o.a o.b o.c o.s o.t] w fun e w' => e = .returned (ansv (ansP s o).e (ansP s o).n (ansP s o).m (ansP s o).s) ∧ Chg (ownM m c) w w' ∧ RepM w' m c (modelOf (nextP s o)) := by
  obtain ⟨l1, l2⟩ := R.lts
  have hS : ∀ k, ownM m c k → k < w.heap.size := by rintro k (rfl | rfl) <;> assumption
  obtain ⟨ok, oa, ob, oc, os, ot⟩ := o
  unfold ansP nextP
  simp only
  by_cases h6 : ok = 6
  · subst h6
    exact (dom_none6_of w m oa ob oc os ot).mono fun e w' ⟨h1, q⟩ => ⟨h1, q.chg _, R.quiet q⟩
  by_cases h7 : ok = 7
  · subst h7
    exact (dom_none7_of w m oa ob oc os ot).mono fun e w' ⟨h1, q⟩ => ⟨h1, q.chg _, R.quiet q⟩
  by_cases h8 : ok = 8
  · subst h8
    exact (dom_none8_of w m oa ob oc os ot).mono fun e w' ⟨h1, q⟩ => ⟨h1, q.chg _, R.quiet q⟩
  have h678 : ¬ (ok = 6 ∨ ok = 7 ∨ ok = 8) := by omega
  rw [if_neg h678, if_neg h678]
  by_cases h9 : ok = 9
  · subst h9
    refine (dom_show_of w m oa ob oc os ot (str (showP s)) (fun w1 => RepM w1 m c (modelOf s)) (ownM m c) hS (fun W q => ?_)).mono fun e w' ⟨h1, h2⟩ => ⟨h1, did_M l1 l2 h2⟩
    have := mshow_any W m c (modelOf s) (R.quiet q) h.showsM
    rw [show_law h] at this
    exact this.mono fun e w1 ⟨h1, q1⟩ => ⟨h1, q1.chg _, (R.quiet q).quiet q1⟩
  rw [if_neg h9, if_neg h9]
  by_cases h10 : ok = 10
  · subst h10
    refine (dom_check_of w m oa ob oc os ot (fun w1 => RepM w1 m c (modelOf s)) (ownM m c) hS (fun W q => ?_)).mono fun e w' ⟨h1, h2⟩ => ⟨h1, did_M l1 l2 h2⟩
    exact (mcheck_any W m c s (R.quiet q) h).mono fun e w1 ⟨h1, q1⟩ => ⟨h1, q1.chg _, (R.quiet q).quiet q1⟩
  rw [if_neg h10, if_neg h10]
  refine (dom_step_of w m oa ob oc os ot ok _ _ _ (by simpa using h6) (by simpa using h7) (by simpa using h8) (by simpa using h9) (by simpa using h10) (fun w1 => RepM w1 m c (modelOf (stepP s ok ob oc).2)) (ownM m c) hS (fun W q => ?_)).mono fun e w' ⟨h1, h2⟩ => ⟨h1, did_M l1 l2 h2⟩
  have := mstep_any W m c s h (R.quiet q) ok ob oc
  rw [(step_law h ok ob oc).2] at this
  exact this.mono fun e w1 ⟨h1, h2, h3⟩ => ⟨h1, h2, h3⟩

/-- A real node and its abstract one. -/
structure NP where
  x : Nat
  a : Nat
  b : Nat
  m : Nat
  c : Nat
  s : Nd

def NP.own (p : NP) (k : Nat) : Prop := Qxb6500367a.own p.x p.a p.b k ∨ ownM p.m p.c k

structure Pair (w : World) (p : NP) : Prop where
  r : Rep w p.x p.a p.b p.s
  m : RepM w p.m p.c (modelOf p.s)
  i : Inv p.s
  d : ∀ k, Qxb6500367a.own p.x p.a p.b k → ¬ ownM p.m p.c k

theorem Pair.of_chg {S : Nat → Prop} {w w' : World} {p : NP} (h : Pair w p) (c : Chg S w w') (hS : ∀ k, S k → ¬ p.own k) : Pair w' p :=
  ⟨h.r.of_chg c (fun k hk ho => hS k hk (.inl ho)), h.m.of_chg c (fun k hk ho => hS k hk (.inr ho)), h.i, h.d⟩

theorem Pair.quiet {w w' : World} {p : NP} (h : Pair w p) (q : Quiet w w') : Pair w' p := h.of_chg q (fun _ f => f.elim)

theorem Pair.lt {w : World} {p : NP} (h : Pair w p) {k : Nat} (hk : p.own k) : k < w.heap.size := by
  obtain ⟨a, b, c⟩ := h.r.lts
  obtain ⟨d, e⟩ := h.m.lts
  rcases hk with (rfl | rfl | rfl) | (rfl | rfl) <;> assumption
end Go.Proofs.Qxb6500367a
