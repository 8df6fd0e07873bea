/-
  ONE STEP, PLAINLY; Do AND DoM PLAY IT; BOTH SIDES. (gen70play.py)
-/
import Derived.Test.Qxb6500370aDoM
import Derived.Test.Qxb6500370aCheck
import Derived.Test.Qxb6500370aModC
import Derived.Test.Qxb6500370aModX
namespace Go.Proofs.Qxb6500370a
open Go.RowKit Go.Qx
set_option linter.unusedSimpArgs false
set_option linter.unusedVariables false

structure Opr where
  k : Int
  a : Int
  b : Int
  c : Int
  s : ByteArray
  t : ByteArray

structure An where
  e : Int
  n : Int
  s : ByteArray

def ansP (σ : St) (o : Opr) : An :=
  if o.k = 1 then ⟨(putS σ o.a o.s).2.1, 0, str (putS σ o.a o.s).1⟩
  else if o.k = 2 then ⟨(startP σ o.a o.b).1, 0, ⟨#[]⟩⟩
  else if o.k = 3 then ⟨(guessP σ o.a).2.1, 0, str (guessP σ o.a).1⟩
  else if o.k = 4 then ⟨0, 0, str (candP σ)⟩
  else if o.k = 5 then ⟨(shareP σ).2, 0, str (shareP σ).1⟩
  else if o.k = 6 then ⟨0, 0, str (showP σ)⟩
  else if o.k = 7 then ⟨0, 1, ⟨#[]⟩⟩
  else ⟨0, 0, ⟨#[]⟩⟩

def nextP (σ : St) (o : Opr) : St :=
  if o.k = 1 then (putS σ o.a o.s).2.2
  else if o.k = 2 then (startP σ o.a o.b).2
  else if o.k = 3 then (guessP σ o.a).2.2
  else σ
theorem ok_next {σ : St} (I : σ.Ok) (o : Opr) : (nextP σ o).Ok := by
  unfold nextP
  split
  · exact put_ok I _ _
  · split
    · exact start_ok I _ _
    · split
      · exact guess_ok I _
      · exact I

/-! ### Do -/
theorem GRep.lts {w : World} {G : Nat} {vb vt vs : Value} {L : Nat → Nat} {st : St} (R : GRep w G vb vt vs L st) : ∀ k, GO G vb vt vs L k → k < w.heap.size := by
  rintro k (rfl | h | h | h | ⟨i, hi, rfl⟩)
  · exact R.b.lt
  · exact Row.lt R.rb h
  · exact Row.lt R.rt h
  · exact Row.lt R.rs h
  · exact R.kr.lt i hi
theorem MG.lts {w : World} {M : Nat} {vb vt : Value} {st : St} (R : MG w M vb vt st) : ∀ k, MO M vb vt k → k < w.heap.size := by
  rintro k (rfl | h | h)
  · exact R.b.lt
  · exact Row.lt R.rb h
  · exact Row.lt R.rt h
theorem RRep.tight {w : World} {O : Nat → Prop} {x : Nat} {σ : St} (h : RRep w O x σ) : RRep w (fun k => O k ∧ k < w.heap.size) x σ := by
  obtain ⟨vb, vt, vs, L, R, hO⟩ := h
  exact ⟨vb, vt, vs, L, R, fun k hk => ⟨hO k hk, R.lts k hk⟩⟩
theorem MRep.tight {w : World} {O : Nat → Prop} {m : Nat} {σ : St} (h : MRep w O m σ) : MRep w (fun k => O k ∧ k < w.heap.size) m σ := by
  obtain ⟨vb, vt, R, hO⟩ := h
  exact ⟨vb, vt, R, fun k hk => ⟨hO k hk, R.lts k hk⟩⟩

def NewR (w : World) (g : Nat) (O : Nat → Prop) (x : Nat) (σ : St) (w1 : World) : Prop := ∃ O', RRep w1 O' x σ ∧ ∀ k, O' k → O k ∨ w.heap.size + g ≤ k
def NewM (w : World) (g : Nat) (O : Nat → Prop) (m : Nat) (σ : St) (w1 : World) : Prop := ∃ O', MRep w1 O' m σ ∧ ∀ k, O' k → O k ∨ w.heap.size + g ≤ k
theorem newR_same {w w1 : World} {g x : Nat} {O : Nat → Prop} {σ : St} (R : RRep w1 O x σ) : NewR w g O x σ w1 := ⟨O, R, fun _ h => .inl h⟩
theorem newM_same {w w1 : World} {g m : Nat} {O : Nat → Prop} {σ : St} (R : MRep w1 O m σ) : NewM w g O m σ w1 := ⟨O, R, fun _ h => .inl h⟩
theorem did_R {w w' : World} {x : Nat} {O : Nat → Prop} {σ : St} (hS : ∀ k, O k → k < w.heap.size) (h : Did O (NewR w 3 O x σ) w w') : Chg O w w' ∧ NewR w 0 O x σ w' := by
  obtain ⟨ch, w1, ⟨O', R, ho⟩, ch2⟩ := h
  refine ⟨ch, O', R.of_chg ch2 ?_, fun k hk => ?_⟩
  · intro k hk he
    rcases ho k hk with h | h
    · have := hS _ h; omega
    · omega
  · rcases ho k hk with h | h
    · exact .inl h
    · exact .inr (by omega)
theorem did_M {w w' : World} {m : Nat} {O : Nat → Prop} {σ : St} (hS : ∀ k, O k → k < w.heap.size) (h : Did O (NewM w 3 O m σ) w w') : Chg O w w' ∧ NewM w 0 O m σ w' := by
  obtain ⟨ch, w1, ⟨O', R, ho⟩, ch2⟩ := h
  refine ⟨ch, O', R.of_chg ch2 ?_, fun k hk => ?_⟩
  · intro k hk he
    rcases ho k hk with h | h
    · have := hS _ h; omega
    · omega
  · rcases ho k hk with h | h
    · exact .inl h
    · exact .inr (by omega)
theorem newR_of {w W w1 : World} {x : Nat} {O : Nat → Prop} {σ : St} (hz : w.heap.size + 3 ≤ W.heap.size) (h : ∃ O', RRep w1 O' x σ ∧ Chg O W w1 ∧ ∀ k, O' k → O k ∨ W.heap.size ≤ k) : Chg O W w1 ∧ NewR w 3 O x σ w1 := by
  obtain ⟨O', R, c, ho⟩ := h
  exact ⟨c, O', R, fun k hk => by rcases ho k hk with h | h; exact .inl h; exact .inr (by omega)⟩
theorem newM_of {w W w1 : World} {m : Nat} {O : Nat → Prop} {σ : St} (hz : w.heap.size + 3 ≤ W.heap.size) (h : ∃ O', MRep w1 O' m σ ∧ Chg O W w1 ∧ ∀ k, O' k → O k ∨ W.heap.size ≤ k) : Chg O W w1 ∧ NewM w 3 O m σ w1 := by
  obtain ⟨O', R, c, ho⟩ := h
  exact ⟨c, O', R, fun k hk => by rcases ho k hk with h | h; exact .inl h; exact .inr (by omega)⟩

theorem do_any (w : World) (O : Nat → Prop) (x : Nat) (σ : St) (R : RRep w O x σ) (hS : ∀ k, O k → k < w.heap.size) (I : σ.Ok) (p : Opr) (hs : p.s.size ≤ maxLen) :
    Calls Try.prog 14 #[ptr x, opv p.k p.a p.b p.c p.s p.t] w fun e w' => e = .returned (ansv (ansP σ p).e (ansP σ p).n (ansP σ p).s) ∧ Chg O w w' ∧ NewR w 0 O x (nextP σ p) w' := by
  obtain ⟨pk, pa, pb, pc, ps, pt⟩ := p
  have fin : ∀ {E N S K}, (ansP σ ⟨pk, pa, pb, pc, ps, pt⟩ = ⟨E, N, S⟩) → nextP σ ⟨pk, pa, pb, pc, ps, pt⟩ = K → (Calls Try.prog 14 #[ptr x, opv pk pa pb pc ps pt] w fun e w' => e = .returned (ansv E N S) ∧ Did O (NewR w 3 O x K) w w') →
      Calls Try.prog 14 #[ptr x, opv pk pa pb pc ps pt] w fun e w' => e = .returned (ansv (ansP σ ⟨pk, pa, pb, pc, ps, pt⟩).e (ansP σ ⟨pk, pa, pb, pc, ps, pt⟩).n (ansP σ ⟨pk, pa, pb, pc, ps, pt⟩).s) ∧ Chg O w w' ∧ NewR w 0 O x (nextP σ ⟨pk, pa, pb, pc, ps, pt⟩) w' := by
    intro E N S K e1 e2 h
    rw [e1, e2]
    exact h.mono fun e w' ⟨h1, h2⟩ => ⟨h1, did_R hS h2⟩
  by_cases h1 : pk = 1
  · subst h1
    exact fin (K := (putS σ pa ps).2.2) (by simp [ansP]) (by simp [nextP]) (do_put_of w x pa pb pc ps pt (str (putS σ pa ps).1) (putS σ pa ps).2.1 _ _ hS (fun W q hz => (put_rep W O x σ I (R.quiet q) pa ps hs).mono fun e w' ⟨g1, g2⟩ => ⟨g1, newR_of hz g2⟩))
  by_cases h2 : pk = 2
  · subst h2
    exact fin (K := (startP σ pa pb).2) (by simp [ansP]) (by simp [nextP]) (do_start_of w x pa pb pc ps pt (startP σ pa pb).1 _ _ hS (fun W q hz => (start_any W O x σ I (R.quiet q) pa pb).mono fun e w' ⟨g1, g2⟩ => ⟨g1, newR_of hz g2⟩))
  by_cases h3 : pk = 3
  · subst h3
    exact fin (K := (guessP σ pa).2.2) (by simp [ansP]) (by simp [nextP]) (do_guess_of w x pa pb pc ps pt (str (guessP σ pa).1) (guessP σ pa).2.1 _ _ hS (fun W q hz => (guess_any W O x σ I (R.quiet q) pa).mono fun e w' ⟨g1, g2⟩ => ⟨g1, newR_of hz g2⟩))
  by_cases h4 : pk = 4
  · subst h4
    exact fin (K := σ) (by simp [ansP]) (by simp [nextP]) (do_cands_of w x pa pb pc ps pt (str (candP σ)) _ _ hS (fun W q hz => by obtain ⟨vb, vt, vs, L, R1, hO1⟩ := R.quiet q; exact (cands_any W x vb vt vs L σ I R1).mono fun e w' ⟨g1, g2⟩ => ⟨g1, Quiet.chg g2 _, newR_same ((R.quiet q).quiet g2)⟩))
  by_cases h5 : pk = 5
  · subst h5
    exact fin (K := σ) (by simp [ansP]) (by simp [nextP]) (do_share_of w x pa pb pc ps pt (str (shareP σ).1) (shareP σ).2 _ _ hS (fun W q hz => by obtain ⟨vb, vt, vs, L, R1, hO1⟩ := R.quiet q; exact (share_any W x vb vt vs L σ I R1).mono fun e w' ⟨g1, g2⟩ => ⟨g1, Quiet.chg g2 _, newR_same ((R.quiet q).quiet g2)⟩))
  by_cases h6 : pk = 6
  · subst h6
    exact fin (K := σ) (by simp [ansP]) (by simp [nextP]) (do_show_of w x pa pb pc ps pt (str (showP σ)) _ _ hS (fun W q hz => by obtain ⟨vb, vt, vs, L, R1, hO1⟩ := R.quiet q; exact (show_any W x vb vt vs L σ I R1).mono fun e w' ⟨g1, g2⟩ => ⟨g1, Quiet.chg g2 _, newR_same ((R.quiet q).quiet g2)⟩))
  by_cases h7 : pk = 7
  · subst h7
    exact fin (K := σ) (by simp [ansP]) (by simp [nextP]) (do_check_of w x pa pb pc ps pt  _ _ hS (fun W q hz => by obtain ⟨vb, vt, vs, L, R1, hO1⟩ := R.quiet q; exact (check_any W x vb vt vs L σ I R1).mono fun e w' ⟨g1, g2⟩ => ⟨g1, Quiet.chg g2 _, newR_same ((R.quiet q).quiet g2)⟩))
  have e1 : ansP σ ⟨pk, pa, pb, pc, ps, pt⟩ = ⟨0, 0, ⟨#[]⟩⟩ := by simp [ansP, h1, h2, h3, h4, h5, h6, h7]
  have e2 : nextP σ ⟨pk, pa, pb, pc, ps, pt⟩ = σ := by simp [nextP, h1, h2, h3, h4, h5, h6, h7]
  rw [e1, e2]
  refine (do_none_of w x pk pa pb pc ps pt (by simpa using h1) (by simpa using h2) (by simpa using h3) (by simpa using h4) (by simpa using h5) (by simpa using h6) (by simpa using h7)).mono ?_
  rintro e w' ⟨g1, g2⟩
  exact ⟨g1, Quiet.chg g2 _, newR_same (R.quiet g2)⟩

theorem dom_any (w : World) (O : Nat → Prop) (m : Nat) (σ : St) (R : MRep w O m σ) (hS : ∀ k, O k → k < w.heap.size) (I : σ.Ok) (p : Opr) (hs : p.s.size ≤ maxLen) :
    Calls Try.prog 32 #[ptr m, opv p.k p.a p.b p.c p.s p.t] w fun e w' => e = .returned (ansv (ansP σ p).e (ansP σ p).n (ansP σ p).s) ∧ Chg O w w' ∧ NewM w 0 O m (nextP σ p) w' := by
  obtain ⟨pk, pa, pb, pc, ps, pt⟩ := p
  have fin : ∀ {E N S K}, (ansP σ ⟨pk, pa, pb, pc, ps, pt⟩ = ⟨E, N, S⟩) → nextP σ ⟨pk, pa, pb, pc, ps, pt⟩ = K → (Calls Try.prog 32 #[ptr m, opv pk pa pb pc ps pt] w fun e w' => e = .returned (ansv E N S) ∧ Did O (NewM w 3 O m K) w w') →
      Calls Try.prog 32 #[ptr m, opv pk pa pb pc ps pt] w fun e w' => e = .returned (ansv (ansP σ ⟨pk, pa, pb, pc, ps, pt⟩).e (ansP σ ⟨pk, pa, pb, pc, ps, pt⟩).n (ansP σ ⟨pk, pa, pb, pc, ps, pt⟩).s) ∧ Chg O w w' ∧ NewM w 0 O m (nextP σ ⟨pk, pa, pb, pc, ps, pt⟩) w' := by
    intro E N S K e1 e2 h
    rw [e1, e2]
    exact h.mono fun e w' ⟨h1, h2⟩ => ⟨h1, did_M hS h2⟩
  by_cases h1 : pk = 1
  · subst h1
    exact fin (K := (putS σ pa ps).2.2) (by simp [ansP]) (by simp [nextP]) (dom_put_of w m pa pb pc ps pt (str (putS σ pa ps).1) (putS σ pa ps).2.1 _ _ hS (fun W q hz => (mput_any W O m σ I (R.quiet q) pa ps hs).mono fun e w' ⟨g1, g2⟩ => ⟨g1, newM_of hz g2⟩))
  by_cases h2 : pk = 2
  · subst h2
    exact fin (K := (startP σ pa pb).2) (by simp [ansP]) (by simp [nextP]) (dom_start_of w m pa pb pc ps pt (startP σ pa pb).1 _ _ hS (fun W q hz => (mstart_any W O m σ I (R.quiet q) pa pb).mono fun e w' ⟨g1, g2⟩ => ⟨g1, newM_of hz g2⟩))
  by_cases h3 : pk = 3
  · subst h3
    exact fin (K := (guessP σ pa).2.2) (by simp [ansP]) (by simp [nextP]) (dom_guess_of w m pa pb pc ps pt (str (guessP σ pa).1) (guessP σ pa).2.1 _ _ hS (fun W q hz => (mguess_any W O m σ I (R.quiet q) pa).mono fun e w' ⟨g1, g2⟩ => ⟨g1, newM_of hz g2⟩))
  by_cases h4 : pk = 4
  · subst h4
    exact fin (K := σ) (by simp [ansP]) (by simp [nextP]) (dom_cands_of w m pa pb pc ps pt (str (candP σ)) _ _ hS (fun W q hz => by obtain ⟨vb, vt, R1, hO1⟩ := R.quiet q; exact (mcands_any W m vb vt σ I R1).mono fun e w' ⟨g1, g2⟩ => ⟨g1, Quiet.chg g2 _, newM_same ((R.quiet q).quiet g2)⟩))
  by_cases h5 : pk = 5
  · subst h5
    exact fin (K := σ) (by simp [ansP]) (by simp [nextP]) (dom_share_of w m pa pb pc ps pt (str (shareP σ).1) (shareP σ).2 _ _ hS (fun W q hz => by obtain ⟨vb, vt, R1, hO1⟩ := R.quiet q; exact (mshare_any W m vb vt σ I R1).mono fun e w' ⟨g1, g2⟩ => ⟨g1, Quiet.chg g2 _, newM_same ((R.quiet q).quiet g2)⟩))
  by_cases h6 : pk = 6
  · subst h6
    exact fin (K := σ) (by simp [ansP]) (by simp [nextP]) (dom_show_of w m pa pb pc ps pt (str (showP σ)) _ _ hS (fun W q hz => by obtain ⟨vb, vt, R1, hO1⟩ := R.quiet q; exact (mshow_any W m vb vt σ I R1).mono fun e w' ⟨g1, g2⟩ => ⟨g1, Quiet.chg g2 _, newM_same ((R.quiet q).quiet g2)⟩))
  by_cases h7 : pk = 7
  · subst h7
    exact fin (K := σ) (by simp [ansP]) (by simp [nextP]) (dom_check_of w m pa pb pc ps pt  _ _ hS (fun W q hz => by obtain ⟨vb, vt, R1, hO1⟩ := R.quiet q; exact (mcheck_any W m vb vt σ I R1).mono fun e w' ⟨g1, g2⟩ => ⟨g1, Quiet.chg g2 _, newM_same ((R.quiet q).quiet g2)⟩))
  have e1 : ansP σ ⟨pk, pa, pb, pc, ps, pt⟩ = ⟨0, 0, ⟨#[]⟩⟩ := by simp [ansP, h1, h2, h3, h4, h5, h6, h7]
  have e2 : nextP σ ⟨pk, pa, pb, pc, ps, pt⟩ = σ := by simp [nextP, h1, h2, h3, h4, h5, h6, h7]
  rw [e1, e2]
  refine (dom_none_of w m pk pa pb pc ps pt (by simpa using h1) (by simpa using h2) (by simpa using h3) (by simpa using h4) (by simpa using h5) (by simpa using h6) (by simpa using h7)).mono ?_
  rintro e w' ⟨g1, g2⟩
  exact ⟨g1, Quiet.chg g2 _, newM_same (R.quiet g2)⟩

/-! ### Both sides -/
/-- Both sides in memory, apart from each other, in the blocks of S, which are new; the state. -/
structure Both (W : World) (S : Nat → Prop) (w : World) (x m : Nat) (σ : St) : Prop where
  chg : Chg (fun k => W.heap.size ≤ k) W w
  rng : ∀ k, S k → W.heap.size ≤ k ∧ k < w.heap.size
  ok : σ.Ok
  reps : ∃ O OM, RRep w O x σ ∧ MRep w OM m σ ∧ (∀ k, O k → ¬ OM k) ∧ (∀ k, O k → S k) ∧ ∀ k, OM k → S k

theorem Both.quiet {W w w' : World} {S : Nat → Prop} {x m : Nat} {σ : St} (h : Both W S w x m σ) (qu : Quiet w w') : Both W S w' x m σ := by
  obtain ⟨h1, h5, I, O, OM, R, M, h2, h3, h4⟩ := h
  exact ⟨h1.trans (qu.chg _), fun k hk => ⟨(h5 k hk).1, Nat.lt_of_lt_of_le (h5 k hk).2 qu.size⟩, I, O, OM, R.quiet qu, M.quiet qu, h2, h3, h4⟩

/-- Both made anew. -/
theorem both_new {W w w1 w2 : World} {x m : Nat} {O OM : Nat → Prop} (h0 : Chg (fun k => W.heap.size ≤ k) W w) (R1 : RRep w1 O x St.none) (q1 : Quiet w w1) (ho1 : ∀ k, O k → w.heap.size ≤ k) (M2 : MRep w2 OM m St.none) (q2 : Quiet w1 w2) (ho2 : ∀ k, OM k → w1.heap.size ≤ k) : Both W (fun k => w.heap.size ≤ k ∧ k < w2.heap.size) w2 x m St.none := by
  have R2 := R1.tight.quiet q2
  have hz := q1.size
  have hz0 := h0.size
  have hz2 := q2.size
  refine ⟨h0.trans ((q1.trans q2).chg _), fun k hk => ⟨Nat.le_trans hz0 hk.1, hk.2⟩, St.none_ok, _, _, R2, M2.tight, ?_, ?_, ?_⟩
  · rintro k ⟨hk, hk2⟩ ⟨hm, _⟩
    have h2 := ho2 k hm
    omega
  · rintro k ⟨hk, hk2⟩
    exact ⟨ho1 k hk, by omega⟩
  · rintro k ⟨hk, hk2⟩
    exact ⟨Nat.le_trans hz (ho2 k hk), hk2⟩

/-- A step that both sides play. -/
theorem both_step {W w : World} {S : Nat → Prop} {x m : Nat} {σ : St} (h : Both W S w x m σ) (p : Opr) (hs : p.s.size ≤ maxLen) :
    ∃ X : An, Calls Try.prog 14 #[.pointer (some ⟨x, 0, none⟩), .agg #[.int .i64 p.k, .int .i64 p.a, .int .i64 p.b, .int .i64 p.c, .string p.s, .string p.t]] w fun e w1 => e = .returned (.agg #[.int .i64 X.e, .int .i64 X.n, .string X.s]) ∧
      Chg S w w1 ∧
      ∀ w2, Quiet w1 w2 → Calls Try.prog 32 #[.pointer (some ⟨m, 0, none⟩), .agg #[.int .i64 p.k, .int .i64 p.a, .int .i64 p.b, .int .i64 p.c, .string p.s, .string p.t]] w2 fun e w3 => e = .returned (.agg #[.int .i64 X.e, .int .i64 X.n, .string X.s]) ∧
        Chg S w2 w3 ∧ ∃ S', Both W S' w3 x m (nextP σ p) := by
  obtain ⟨h1, h5, I, O, OM, R, M, h2, h3, h4⟩ := h
  refine ⟨ansP σ p, ?_⟩
  have lO : ∀ k, O k → k < w.heap.size := fun k hk => (h5 k (h3 k hk)).2
  have lM : ∀ k, OM k → k < w.heap.size := fun k hk => (h5 k (h4 k hk)).2
  refine Calls.mono (do_any w O x σ R lO I p hs) ?_
  rintro e w1 ⟨rfl, hch, O', R1', ho⟩
  have R1 := R1'.tight
  have M1 : MRep w1 OM m σ := M.of_chg hch (fun k hk ho => h2 k ho hk)
  refine ⟨rfl, hch.mono (fun k _ h => h3 k h), ?_⟩
  intro w2 q2
  have z0 := h1.size
  have z1 := hch.size
  have z2 := q2.size
  refine Calls.mono (dom_any w2 OM m σ (M1.quiet q2) (fun k hk => by have := lM k hk; omega) I p hs) ?_
  rintro e w3 ⟨rfl, hchm, OM', M3', hom⟩
  have M3 := M3'.tight
  have z3 := hchm.size
  refine ⟨rfl, hchm.mono (fun k _ h => h4 k h), ?_⟩
  have R3 : RRep w3 (fun k => O' k ∧ k < w1.heap.size) x (nextP σ p) := (R1.quiet q2).of_chg hchm (fun k hk hm => by
    rcases ho k hk.1 with h | h
    · exact h2 k h hm
    · have := lM k hm; omega)
  refine ⟨fun k => S k ∨ (w.heap.size ≤ k ∧ k < w3.heap.size), ((h1.trans (hch.mono (fun k _ h => (h5 k (h3 k h)).1))).trans (q2.chg _)).trans (hchm.mono (fun k _ h => (h5 k (h4 k h)).1)), fun k hk => ?_, ok_next I p, _, _, R3, M3, ?_, ?_, ?_⟩
  · rcases hk with hk | hk
    · exact ⟨(h5 k hk).1, by have := (h5 k hk).2; omega⟩
    · omega
  · rintro k ⟨hk, hk2⟩ ⟨hm, hm2⟩
    rcases hom k hm with hm | hm
    · rcases ho k hk with h | h
      · exact h2 k h hm
      · have := lM k hm; omega
    · omega
  · rintro k ⟨hk, hk2⟩
    rcases ho k hk with h | h
    · exact .inl (h3 k h)
    · exact .inr ⟨by omega, by omega⟩
  · rintro k ⟨hk, hk2⟩
    rcases hom k hk with h | h
    · exact .inl (h4 k h)
    · exact .inr ⟨by omega, hk2⟩
end Go.Proofs.Qxb6500370a
