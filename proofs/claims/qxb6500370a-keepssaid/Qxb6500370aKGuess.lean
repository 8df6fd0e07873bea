/-
  THE LAW'S OWN guess. (gen70kguess.py)
-/
import Derived.Test.Qxb6500370aKMove
namespace Go.Proofs.Qxb6500370a
open Go.RowKit Go.Qx Go.Qx.Mk
set_option linter.unusedVariables false
set_option linter.unusedSimpArgs false

/-- The ghosts while a guess is taken in. -/
structure Hk (w : World) (g : Nat) (vb vt vs : Value) (sc : ByteArray) (bg hd : Bool) (BS TS SS : List Value) : Prop where
  b : Blk w g 35 [vb, vt, vs, .string sc, .bool bg, .bool hd]
  rb : Row w 9 1 vb BS.length BS
  rt : Row w 9 1 vt TS.length TS
  rs : Row w 9 1 vs SS.length SS
  gb : vb.ownBlock ≠ some g
  gt : vt.ownBlock ≠ some g
  gs : vs.ownBlock ≠ some g
  bt : ∀ x, vb.ownBlock = some x → vt.ownBlock ≠ some x
  bs : ∀ x, vb.ownBlock = some x → vs.ownBlock ≠ some x
  ts : ∀ x, vt.ownBlock = some x → vs.ownBlock ≠ some x
theorem Gh.toK {w : World} {g : Nat} {vb vt vs : Value} {st : St} (h : Gh w g vb vt vs st) : Hk w g vb vt vs (str (secT st)) st.bg st.hd (st.ws.map txV) (st.ts.map txV) (shownV st) :=
  ⟨h.b, by rw [List.length_map]; exact h.rb, by rw [List.length_map]; exact h.rt, by have := h.rs; rwa [show st.ts.length = (shownV st).length by simp [shownV]] at this, h.gb, h.gt, h.gs, h.bt, h.bs, h.ts⟩
theorem Hk.toGh {w : World} {g : Nat} {vb vt vs : Value} {st : St} (h : Hk w g vb vt vs (str (secT st)) st.bg st.hd (st.ws.map txV) (st.ts.map txV) (shownV st)) : Gh w g vb vt vs st :=
  ⟨h.b, by have := h.rb; rwa [List.length_map] at this, by have := h.rt; rwa [List.length_map] at this, by have := h.rs; rwa [show (shownV st).length = st.ts.length by simp [shownV]] at this, h.gb, h.gt, h.gs, h.bt, h.bs, h.ts⟩
section
variable {w w' : World} {g : Nat} {vb vt vs : Value} {sc : ByteArray} {bg hd : Bool} {BS TS SS : List Value}
theorem Hk.quiet (h : Hk w g vb vt vs sc bg hd BS TS SS) (c : Quiet w w') : Hk w' g vb vt vs sc bg hd BS TS SS :=
  { h with b := c.blk h.b, rb := h.rb.quiet c, rt := h.rt.quiet c, rs := h.rs.quiet c }
theorem Hk.tries (h : Hk w g vb vt vs sc bg hd BS TS SS) (c : Chg (fun x => x = g ∨ vt.ownBlock = some x) w w') {b n cap : Nat} {TS' : List Value} (b' : Blk w' g 35 [vb, .slice (some ⟨b, 0, none⟩) n cap, vs, .string sc, .bool bg, .bool hd]) (r' : Row w' 9 1 (.slice (some ⟨b, 0, none⟩) n cap) TS'.length TS') (hg : vt.ownBlock = some b ∨ w.heap.size ≤ b) :
    Hk w' g vb (.slice (some ⟨b, 0, none⟩) n cap) vs sc bg hd BS TS' SS := by
  have far : ∀ x, x < w.heap.size → vt.ownBlock ≠ some x → (Value.slice (some ⟨b, 0, none⟩) n cap).ownBlock ≠ some x := by
    intro x hx hn e
    simp [Value.ownBlock] at e
    subst e
    rcases hg with h | h
    · exact hn h
    · omega
  refine ⟨b', h.rb.of_chg c ?_, r', h.rs.of_chg c ?_, h.gb, far _ h.b.lt h.gt, h.gs, fun x hx => far _ (h.rb.lt hx) (h.bt x hx), h.bs, fun x hx e => far _ (h.rs.lt e) (fun e2 => h.ts x e2 e) hx⟩
  · rintro x hx (e | e)
    · exact h.gb (by rw [hx, e])
    · exact h.bt x hx e
  · rintro x hx (e | e)
    · exact h.gs (by rw [hx, e])
    · exact h.ts x e hx
theorem Hk.marks (h : Hk w g vb vt vs sc bg hd BS TS SS) (c : Chg (fun x => x = g ∨ vs.ownBlock = some x) w w') {b n cap : Nat} {SS' : List Value} (b' : Blk w' g 35 [vb, vt, .slice (some ⟨b, 0, none⟩) n cap, .string sc, .bool bg, .bool hd]) (r' : Row w' 9 1 (.slice (some ⟨b, 0, none⟩) n cap) SS'.length SS') (hg : vs.ownBlock = some b ∨ w.heap.size ≤ b) :
    Hk w' g vb vt (.slice (some ⟨b, 0, none⟩) n cap) sc bg hd BS TS SS' := by
  have far : ∀ x, x < w.heap.size → vs.ownBlock ≠ some x → (Value.slice (some ⟨b, 0, none⟩) n cap).ownBlock ≠ some x := by
    intro x hx hn e
    simp [Value.ownBlock] at e
    subst e
    rcases hg with h | h
    · exact hn h
    · omega
  refine ⟨b', h.rb.of_chg c ?_, h.rt.of_chg c ?_, r', h.gb, h.gt, far _ h.b.lt h.gs, h.bt, fun x hx => far _ (h.rb.lt hx) (h.bs x hx), fun x hx => far _ (h.rt.lt hx) (h.ts x hx)⟩
  · rintro x hx (e | e)
    · exact h.gb (by rw [hx, e])
    · exact h.bs x hx e
  · rintro x hx (e | e)
    · exact h.gt (by rw [hx, e])
    · exact h.ts x hx e
end
/-- What the ghosts' step leaves. -/
def HPost (w : World) (OH : Nat → Prop) (g : Nat) (st : St) (e : Ending) (w' : World) : Prop :=
  e = .returned (.bool true) ∧ ∃ OH', GhR w' OH' g st ∧ Chg OH w w' ∧ ∀ k, OH' k → OH k ∨ w.heap.size ≤ k
theorem HPost.same {w w' : World} {OH : Nat → Prop} {g : Nat} {st : St} {e : Ending} (H : GhR w OH g st) (q : Quiet w w') (he : e = .returned (.bool true)) : HPost w OH g st e w' :=
  ⟨he, OH, H.quiet q, q.chg _, fun _ h => .inl h⟩
theorem kguess_fin {w w7 : World} {OH : Nat → Prop} {g : Nat} {st : St} {vb vt vs : Value} (hHO : ∀ x, HO g vb vt vs x → OH x) (l : List Int) {b3 n3 cap3 b5 n5 cap5 : Nat}
    (H7 : Hk w7 g vb (.slice (some ⟨b3, 0, none⟩) n3 cap3) (.slice (some ⟨b5, 0, none⟩) n5 cap5) (str (secT st)) st.bg st.hd (st.ws.map txV) (st.ts.map txV ++ [txV l]) (shownV st ++ [.string (str (marksL (fw st.sec) (fw l)))]))
    (C7 : Chg OH w w7) (hg3 : vt.ownBlock = some b3 ∨ w.heap.size ≤ b3) (hg5 : vs.ownBlock = some b5 ∨ w.heap.size ≤ b5) (e : Ending) (he : e = .returned (.bool true)) :
    HPost w OH g { st with ts := st.ts ++ [l] } e w7 := by
  refine ⟨he, HO g vb (.slice (some ⟨b3, 0, none⟩) n3 cap3) (.slice (some ⟨b5, 0, none⟩) n5 cap5), ⟨_, _, _, ?_, fun x hx => hx⟩, C7, ?_⟩
  · refine Hk.toGh ?_
    have e2 : shownV { st with ts := st.ts ++ [l] } = shownV st ++ [.string (str (marksL (fw st.sec) (fw l)))] := by
      unfold shownV; simp
    rw [e2]
    show Hk w7 g vb _ _ (str (secT st)) st.bg st.hd (st.ws.map txV) ((st.ts ++ [l]).map txV) _
    rw [List.map_append]
    exact H7
  · rintro x (rfl | h | h | h)
    · exact .inl (hHO _ (.inl rfl))
    · exact .inl (hHO _ (.inr (.inl h)))
    · simp [Value.ownBlock] at h
      subst h
      rcases hg3 with h | h
      · exact .inl (hHO _ (.inr (.inr (.inl h))))
      · exact .inr h
    · simp [Value.ownBlock] at h
      subst h
      rcases hg5 with h | h
      · exact .inl (hHO _ (.inr (.inr (.inr h))))
      · exact .inr h
/-- Two words' texts. -/
theorem txt_same {a b : List Int} (ha : LW a) (hb : LW b) : ((str (txt a)).toList == (str (txt b)).toList) = sameW (fw a) (fw b) := by
  rw [sameW_fw ha.1 hb.1, str_toList, str_toList, Bool.eq_iff_iff, beq_iff_eq, decide_eq_true_eq]
  exact ⟨fun h => txt_inj ha hb h, fun h => by rw [h]⟩
/-- All green exactly when the guess is the secret. -/
theorem all_green {a b : List Int} (ha : LW a) (hb : LW b) : ((str (marksL (fw a) (fw b))).toList == [103, 103, 103, 103, 103]) = sameW (fw b) (fw a) := by
  rw [str_toList, Bool.eq_iff_iff, beq_iff_eq]
  have key : ∀ p, markB (Mk.mark 5 (fw a) (fw b) p) = 103 ↔ fw b p = fw a p := fun p => by
    have h2 := mark_le2 5 (fw a) (fw b) p
    constructor
    · intro h
      have h0 : Mk.mark 5 (fw a) (fw b) p = 0 := by
        rcases (by omega : Mk.mark 5 (fw a) (fw b) p = 0 ∨ Mk.mark 5 (fw a) (fw b) p = 1 ∨ Mk.mark 5 (fw a) (fw b) p = 2) with e | e | e
        · exact e
        · rw [e] at h; exact absurd h (by decide)
        · rw [e] at h; exact absurd h (by decide)
      unfold Mk.mark at h0
      by_cases e : fw b p = fw a p
      · exact e
      · rw [if_neg e] at h0; split at h0 <;> omega
    · intro h
      have h0 : Mk.mark 5 (fw a) (fw b) p = 0 := by unfold Mk.mark; rw [if_pos h]
      rw [h0]; rfl
  unfold marksL sameW
  simp only [List.cons.injEq, and_true, key, Bool.and_eq_true, beq_iff_eq]
theorem secT_begun {st : St} (h : st.bg = true) : str (secT st) = str (txt st.sec) := by unfold secT; rw [h]; rfl

set_option maxHeartbeats 8000000 in
set_option maxRecDepth 100000 in
theorem kguess_any (w : World) (OH : Nat → Prop) (g : Nat) (σ : St) (A B C : Int) (s t : ByteArray) (ok : KOk σ) (H : GhR w OH g σ) (lH : ∀ k, OH k → k < w.heap.size) :
    Calls Try.prog 26 #[ptr g, opv 3 A B C s t, ansv (guessP σ A).2.1 0 (str (guessP σ A).1)] w (HPost w OH g (guessP σ A).2.2) := by
  have hh := hide H
  obtain ⟨vb, vt, vs, Hg, hHO⟩ := H
  obtain ⟨xb, cp, hxb⟩ := Hg.rb.slice
  obtain ⟨xt, ct, hxt⟩ := Hg.rt.slice
  obtain ⟨xs, cs, hxs⟩ := Hg.rs.slice
  obtain ⟨N, hN⟩ : ∃ N, σ.ws.length = N := ⟨_, rfl⟩
  obtain ⟨n, hn⟩ : ∃ n, σ.ts.length = n := ⟨_, rfl⟩
  rw [hN] at hxb
  rw [hn] at hxt hxs
  have six := ok.ok.six
  rw [hn] at six
  obtain ⟨aE, haE⟩ : ∃ a, (guessP σ A).2.1 = a := ⟨_, rfl⟩
  obtain ⟨aS, haS⟩ : ∃ a, str (guessP σ A).1 = a := ⟨_, rfl⟩
  rw [haE, haS]
  obtain ⟨W0, hW0⟩ : ∃ W, (w.alloc (.cells #[.int .i64 3, .int .i64 A, .int .i64 B, .int .i64 C, .string s, .string t] 37)).alloc (.cells #[.int .i64 aE, .int .i64 0, .string aS] 39) = W := ⟨_, rfl⟩
  have q0 : Quiet w W0 := by rw [← hW0]; exact Chg.alloc (Chg.alloc (Chg.refl _ _) _) _
  have bo : Blk W0 w.heap.size 37 [.int .i64 3, .int .i64 A, .int .i64 B, .int .i64 C, .string s, .string t] := by rw [← hW0]; exact (Blk.new w 37 [.int .i64 3, .int .i64 A, .int .i64 B, .int .i64 C, .string s, .string t]).alloc _
  have ba : Blk W0 (w.heap.size + 1) 39 [.int .i64 aE, .int .i64 0, .string aS] := by
    have := Blk.new (w.alloc (.cells #[.int .i64 3, .int .i64 A, .int .i64 B, .int .i64 C, .string s, .string t] 37)) 39 [.int .i64 aE, .int .i64 0, .string aS]
    rw [show (w.alloc (.cells #[.int .i64 3, .int .i64 A, .int .i64 B, .int .i64 C, .string s, .string t] 37)).heap.size = w.heap.size + 1 by simp] at this
    rw [← hW0]; exact this
  have hsz0 : W0.heap.size = w.heap.size + 1 + 1 := by rw [← hW0]; simp
  have co1 : W0.cell? ⟨w.heap.size, 1, none⟩ = some (.int .i64 A) := bo.cell 1
  have ca0 : W0.cell? ⟨w.heap.size + 1, 0, none⟩ = some (.int .i64 aE) := ba.cell 0
  have ca1 : W0.cell? ⟨w.heap.size + 1, 1, none⟩ = some (.int .i64 0) := ba.cell 1
  have ca2 : W0.cell? ⟨w.heap.size + 1, 2, none⟩ = some (.string aS) := ba.cell 2
  have H0 := Hg.quiet q0
  have cg0 : W0.cell? ⟨g, 0, none⟩ = some (.slice xb N cp) := by rw [← hxb]; exact H0.b.cell 0
  have RH := hide (⟨Hg, hHO, ok, lH⟩ : _ ∧ _ ∧ _ ∧ _)
  have Q0 := hide q0
  have BX := hide (⟨bo, ba⟩ : _ ∧ _)
  have nH := hide (⟨hN, hn, hxb, hxt, hxs⟩ : _ ∧ _ ∧ _ ∧ _ ∧ _)
  have aH := hide (⟨haE, haS⟩ : _ ∧ _)
  clear Hg hHO lH q0 bo ba H0 hxb hxt hxs
  unfold ptr opv ansv ansC
  by_cases hbad : A < 0 ∨ (N : Int) ≤ A
  · have hp : guessP σ A = ([], 5, σ) := by unfold guessP; rw [if_pos (by rw [hN]; exact hbad)]
    obtain ⟨hE, hS⟩ := unhide aH
    have hE : aE = 5 := by rw [← hE, hp]
    have hS : aS = ⟨#[]⟩ := by rw [← hS, hp]; rfl
    subst hE; subst hS
    have fin : Hid (∀ e w', Quiet w w' → e = .returned (.bool true) → HPost w OH g (guessP σ A).2.2 e w') := by
      show ∀ e w', _
      rw [hp]
      exact fun e w' q he => HPost.same (unhide hh) q he
    clear hp ok aH hh RH nH BX haE haS
    rcases (by omega : A < 0 ∨ (0 ≤ A ∧ (N : Int) ≤ A)) with ho | ho
    · have o1d : decide (A < 0) = true := decide_eq_true ho
      clear hbad
      go_enter Try.func26, Try.ntmps26
      go_wp2
      go_quiet (fail)
      go_wp2
      go_ret
      exact unhide fin _ _ ((unhide Q0).drewN _) rfl
    · have o1 : ¬ A < 0 := by omega
      have o1d : decide (A < 0) = false := decide_eq_false o1
      have o2 : (N : Int) ≤ A := ho.2
      have o2d : decide ((N : Int) ≤ A) = true := decide_eq_true o2
      clear hbad ho
      go_enter Try.func26, Try.ntmps26
      go_wp2
      go_quiet (fail)
      go_wp2
      go_ret
      exact unhide fin _ _ ((unhide Q0).drewN _) rfl
  · obtain ⟨j, rfl⟩ : ∃ j : Nat, A = j := ⟨A.toNat, by omega⟩
    have hjl : j < σ.ws.length := by omega
    obtain ⟨l, hlj⟩ : ∃ l, σ.ws[j]? = some l := ⟨_, List.getElem?_eq_getElem hjl⟩
    have hLW := ok.ws l (List.mem_of_getElem? hlj)
    obtain ⟨bb, capb, hvb, rj0⟩ := (unhide RH).1.rb.one j (by omega) _ (tx_at hlj)
    obtain ⟨h1, h2⟩ : xb = some ⟨bb, 0, none⟩ ∧ cp = capb := by
      have := (unhide nH).2.2.1.symm.trans hvb
      simp at this; exact ⟨this.1, this.2.2⟩
    subst h1; subst h2
    have rj : W0.cell? ⟨bb, j, none⟩ = some (.string (str (txt l))) := Quiet.cell (unhide Q0) rj0
    have ct0 : W0.cell? ⟨g, 1, none⟩ = some (.slice xt n ct) := by rw [← (unhide nH).2.2.2.1]; exact Quiet.cell (unhide Q0) ((unhide RH).1.b.cell 1)
    have c4 : W0.cell? ⟨g, 4, none⟩ = some (.bool σ.bg) := Quiet.cell (unhide Q0) ((unhide RH).1.b.cell 4)
    have c3 : W0.cell? ⟨g, 3, none⟩ = some (.string (str (secT σ))) := Quiet.cell (unhide Q0) ((unhide RH).1.b.cell 3)
    have o1 : ¬ (j : Int) < 0 := by omega
    have o1d : decide ((j : Int) < 0) = false := decide_eq_false o1
    have o2 : ¬ (N : Int) ≤ (j : Int) := by omega
    have o2d : decide ((N : Int) ≤ (j : Int)) = false := decide_eq_false o2
    have o2n : decide (N ≤ j) = false := decide_eq_false (by omega)
    have o2m : ¬ N ≤ j := by omega
    have k3 : (j : Int) < (N : Int) := by omega
    have k3n : j < N := by omega
    have k4 : (0 : Int) ≤ (j : Int) := by omega
    have hpre : guessP σ (j : Int) = if idleB σ then ([], 6, σ) else if σ.hd && !agreeB σ l then ([], 7, σ) else (marksL (fw σ.sec) (fw l), 0, { σ with ts := σ.ts ++ [l] }) := by
      have hgd : σ.ws.getD (j : Int).toNat [] = l := by rw [Int.toNat_natCast, List.getD_eq_getElem?_getD, hlj]; rfl
      unfold guessP
      rw [if_neg (by rw [hN]; exact hbad), hgd]
    have hLWH := hide hLW
    have hprH := hide hpre
    clear hpre hlj hvb rj0 hLW hjl hbad
    rcases idle_cases ok.ok with ⟨hb, hi⟩ | ⟨hb, hn6, hi⟩ | ⟨hb, hn0, hi⟩ | ⟨m, tt, hb, hm, hm5, htm, hi⟩
    · have hp : guessP σ (j : Int) = ([], 6, σ) := by rw [unhide hprH, hi]; rfl
      obtain ⟨hE, hS⟩ := unhide aH
      have hE : aE = 6 := by rw [← hE, hp]
      have hS : aS = ⟨#[]⟩ := by rw [← hS, hp]; rfl
      subst hE; subst hS
      have fin : Hid (∀ e w', Quiet w w' → e = .returned (.bool true) → HPost w OH g (guessP σ (j : Int)).2.2 e w') := by
        show ∀ e w', _
        rw [hp]
        exact fun e w' q he => HPost.same (unhide hh) q he
      clear hp aH hprH
      rw [hb] at c4
      clear hb hi ok
      go_enter Try.func26, Try.ntmps26
      go_wp2
      go_quiet (fail)
      have Q1 := hide ((unhide Q0).drewN nq)
      have co1q := Quiet.cell ((Chg.refl (fun _ => False) W0).drewN nq) co1
      have ca0q := Quiet.cell ((Chg.refl (fun _ => False) W0).drewN nq) ca0
      have ca1q := Quiet.cell ((Chg.refl (fun _ => False) W0).drewN nq) ca1
      have ca2q := Quiet.cell ((Chg.refl (fun _ => False) W0).drewN nq) ca2
      have cg0q := Quiet.cell ((Chg.refl (fun _ => False) W0).drewN nq) cg0
      have rjq := Quiet.cell ((Chg.refl (fun _ => False) W0).drewN nq) rj
      have ct0q := Quiet.cell ((Chg.refl (fun _ => False) W0).drewN nq) ct0
      have c4q := Quiet.cell ((Chg.refl (fun _ => False) W0).drewN nq) c4
      have c3q := Quiet.cell ((Chg.refl (fun _ => False) W0).drewN nq) c3
      generalize W0.drewN nq = W1 at *
      clear co1 ca0 ca1 ca2 cg0 rj ct0 c4 c3
      have co1 := co1q
      have ca0 := ca0q
      have ca1 := ca1q
      have ca2 := ca2q
      have cg0 := cg0q
      have rj := rjq
      have ct0 := ct0q
      have c4 := c4q
      have c3 := c3q
      clear co1q ca0q ca1q ca2q cg0q rjq ct0q c4q c3q
      go_wp2
      go_quiet (fail)
      go_wp2
      go_ret
      exact unhide fin _ _ ((unhide Q1).drewN _) rfl
    · have hp : guessP σ (j : Int) = ([], 6, σ) := by rw [unhide hprH, hi]; rfl
      obtain ⟨hE, hS⟩ := unhide aH
      have hE : aE = 6 := by rw [← hE, hp]
      have hS : aS = ⟨#[]⟩ := by rw [← hS, hp]; rfl
      subst hE; subst hS
      have fin : Hid (∀ e w', Quiet w w' → e = .returned (.bool true) → HPost w OH g (guessP σ (j : Int)).2.2 e w') := by
        show ∀ e w', _
        rw [hp]
        exact fun e w' q he => HPost.same (unhide hh) q he
      clear hp aH hprH
      rw [hb] at c4
      rw [hn] at hn6
      subst hn6
      clear hb hi ok
      go_enter Try.func26, Try.ntmps26
      go_wp2
      go_quiet (fail)
      have Q1 := hide ((unhide Q0).drewN nq)
      have co1q := Quiet.cell ((Chg.refl (fun _ => False) W0).drewN nq) co1
      have ca0q := Quiet.cell ((Chg.refl (fun _ => False) W0).drewN nq) ca0
      have ca1q := Quiet.cell ((Chg.refl (fun _ => False) W0).drewN nq) ca1
      have ca2q := Quiet.cell ((Chg.refl (fun _ => False) W0).drewN nq) ca2
      have cg0q := Quiet.cell ((Chg.refl (fun _ => False) W0).drewN nq) cg0
      have rjq := Quiet.cell ((Chg.refl (fun _ => False) W0).drewN nq) rj
      have ct0q := Quiet.cell ((Chg.refl (fun _ => False) W0).drewN nq) ct0
      have c4q := Quiet.cell ((Chg.refl (fun _ => False) W0).drewN nq) c4
      have c3q := Quiet.cell ((Chg.refl (fun _ => False) W0).drewN nq) c3
      generalize W0.drewN nq = W1 at *
      clear co1 ca0 ca1 ca2 cg0 rj ct0 c4 c3
      have co1 := co1q
      have ca0 := ca0q
      have ca1 := ca1q
      have ca2 := ca2q
      have cg0 := cg0q
      have rj := rjq
      have ct0 := ct0q
      have c4 := c4q
      have c3 := c3q
      clear co1q ca0q ca1q ca2q cg0q rjq ct0q c4q c3q
      go_wp2
      go_quiet (fail)
      go_wp2
      go_ret
      exact unhide fin _ _ ((unhide Q1).drewN _) rfl
    · rw [hb] at c4
      rw [hn] at hn0
      subst hn0
      rw [hi] at hprH
      have hbH := hide hb
      clear hb hi
      have hfit : Hid (∀ W, Quiet w W → Calls Try.prog 40 #[.pointer (some ⟨g, 0, none⟩), .string (str (txt l))] W fun e w' => e = .returned (.bool (agreeB σ l)) ∧ Quiet W w') := fun W q => fits_any W g vb vt vs σ (unhide RH).2.2.1 ((unhide RH).1.quiet q) l (unhide hLWH)
      have hmk : Hid (∀ W, Calls Try.prog 41 #[.string (str (secT σ)), .string (str (txt l))] W fun e w' => e = .returned (.string (str (marksL (fw σ.sec) (fw l)))) ∧ Quiet W w') := by
        show ∀ W, _
        intro W
        rw [secT_begun (unhide hbH)]
        exact kmarks_any W σ.sec l ((unhide RH).2.2.1.sec (unhide hbH)) (unhide hLWH)
      have hgr : Hid (((str (marksL (fw σ.sec) (fw l))).toList == [103, 103, 103, 103, 103]) = sameW (fw l) (fw σ.sec) ∧ ((str (txt l)).toList == (str (secT σ)).toList) = sameW (fw l) (fw σ.sec)) := ⟨all_green ((unhide RH).2.2.1.sec (unhide hbH)) (unhide hLWH), by rw [secT_begun (unhide hbH)]; exact txt_same (unhide hLWH) ((unhide RH).2.2.1.sec (unhide hbH))⟩
      have key : ∀ hdv agv, σ.hd = hdv → agreeB σ l = agv → Calls Try.prog 26 #[.pointer (some ⟨g, 0, none⟩), .agg #[.int .i64 3, .int .i64 (j : Int), .int .i64 B, .int .i64 C, .string s, .string t], .agg #[.int .i64 aE, .int .i64 0, .string aS]] w (HPost w OH g (guessP σ (j : Int)).2.2) := by
        intro hdv agv hhd hag
        have c5 : W0.cell? ⟨g, 5, none⟩ = some (.bool hdv) := by rw [← hhd]; exact Quiet.cell (unhide Q0) ((unhide RH).1.b.cell 5)
        rw [hag] at hfit
        have hprH : Hid (guessP σ (j : Int) = if hdv && !agv then ([], 7, σ) else (marksL (fw σ.sec) (fw l), 0, { σ with ts := σ.ts ++ [l] })) := by
          show _ = _
          have h := unhide hprH
          rw [if_neg (by decide)] at h
          rw [h, ← hhd, ← hag]
        clear hhd hag
        cases hr : (hdv && !agv) with
        | true =>
          have hhd : hdv = true := by cases hdv <;> simp_all
          have hag : agv = false := by cases agv <;> simp_all
          subst hhd; subst hag
          have hp : guessP σ (j : Int) = ([], 7, σ) := by rw [unhide hprH]; rfl
          obtain ⟨hE, hS⟩ := unhide aH
          have hE : aE = 7 := by rw [← hE, hp]
          have hS : aS = ⟨#[]⟩ := by rw [← hS, hp]; rfl
          subst hE; subst hS
          have fin : Hid (∀ e w', Quiet w w' → e = .returned (.bool true) → HPost w OH g (guessP σ (j : Int)).2.2 e w') := by
            show ∀ e w', _
            rw [hp]
            exact fun e w' q he => HPost.same (unhide hh) q he
          clear hp aH hprH hr hmk hgr
          have hfitH := hfit
          clear hfit
          generalize str (secT σ) = ss at *
          generalize str (txt l) = tl at *
          go_enter Try.func26, Try.ntmps26
          go_wp2
          go_quiet (fail)
          have Q1 := hide ((unhide Q0).drewN nq)
          have co1q := Quiet.cell ((Chg.refl (fun _ => False) W0).drewN nq) co1
          have ca0q := Quiet.cell ((Chg.refl (fun _ => False) W0).drewN nq) ca0
          have ca1q := Quiet.cell ((Chg.refl (fun _ => False) W0).drewN nq) ca1
          have ca2q := Quiet.cell ((Chg.refl (fun _ => False) W0).drewN nq) ca2
          have cg0q := Quiet.cell ((Chg.refl (fun _ => False) W0).drewN nq) cg0
          have rjq := Quiet.cell ((Chg.refl (fun _ => False) W0).drewN nq) rj
          have ct0q := Quiet.cell ((Chg.refl (fun _ => False) W0).drewN nq) ct0
          have c4q := Quiet.cell ((Chg.refl (fun _ => False) W0).drewN nq) c4
          have c3q := Quiet.cell ((Chg.refl (fun _ => False) W0).drewN nq) c3
          have c5q := Quiet.cell ((Chg.refl (fun _ => False) W0).drewN nq) c5
          generalize W0.drewN nq = W1 at *
          clear co1 ca0 ca1 ca2 cg0 rj ct0 c4 c3 c5
          have co1 := co1q
          have ca0 := ca0q
          have ca1 := ca1q
          have ca2 := ca2q
          have cg0 := cg0q
          have rj := rjq
          have ct0 := ct0q
          have c4 := c4q
          have c3 := c3q
          have c5 := c5q
          clear co1q ca0q ca1q ca2q cg0q rjq ct0q c4q c3q c5q
          go_wp2
          go_quiet (fail)
          have Q2 := hide ((unhide Q1).drewN nq)
          have co1q := Quiet.cell ((Chg.refl (fun _ => False) W1).drewN nq) co1
          have ca0q := Quiet.cell ((Chg.refl (fun _ => False) W1).drewN nq) ca0
          have ca1q := Quiet.cell ((Chg.refl (fun _ => False) W1).drewN nq) ca1
          have ca2q := Quiet.cell ((Chg.refl (fun _ => False) W1).drewN nq) ca2
          have cg0q := Quiet.cell ((Chg.refl (fun _ => False) W1).drewN nq) cg0
          have rjq := Quiet.cell ((Chg.refl (fun _ => False) W1).drewN nq) rj
          have ct0q := Quiet.cell ((Chg.refl (fun _ => False) W1).drewN nq) ct0
          have c4q := Quiet.cell ((Chg.refl (fun _ => False) W1).drewN nq) c4
          have c3q := Quiet.cell ((Chg.refl (fun _ => False) W1).drewN nq) c3
          have c5q := Quiet.cell ((Chg.refl (fun _ => False) W1).drewN nq) c5
          generalize W1.drewN nq = W2 at *
          clear co1 ca0 ca1 ca2 cg0 rj ct0 c4 c3 c5
          have co1 := co1q
          have ca0 := ca0q
          have ca1 := ca1q
          have ca2 := ca2q
          have cg0 := cg0q
          have rj := rjq
          have ct0 := ct0q
          have c4 := c4q
          have c3 := c3q
          have c5 := c5q
          clear co1q ca0q ca1q ca2q cg0q rjq ct0q c4q c3q c5q
          go_wp2
          go_quiet (fail)
          have Q3 := hide ((unhide Q2).drewN nq)
          have co1q := Quiet.cell ((Chg.refl (fun _ => False) W2).drewN nq) co1
          have ca0q := Quiet.cell ((Chg.refl (fun _ => False) W2).drewN nq) ca0
          have ca1q := Quiet.cell ((Chg.refl (fun _ => False) W2).drewN nq) ca1
          have ca2q := Quiet.cell ((Chg.refl (fun _ => False) W2).drewN nq) ca2
          have cg0q := Quiet.cell ((Chg.refl (fun _ => False) W2).drewN nq) cg0
          have rjq := Quiet.cell ((Chg.refl (fun _ => False) W2).drewN nq) rj
          have ct0q := Quiet.cell ((Chg.refl (fun _ => False) W2).drewN nq) ct0
          have c4q := Quiet.cell ((Chg.refl (fun _ => False) W2).drewN nq) c4
          have c3q := Quiet.cell ((Chg.refl (fun _ => False) W2).drewN nq) c3
          have c5q := Quiet.cell ((Chg.refl (fun _ => False) W2).drewN nq) c5
          generalize W2.drewN nq = W3 at *
          clear co1 ca0 ca1 ca2 cg0 rj ct0 c4 c3 c5
          have co1 := co1q
          have ca0 := ca0q
          have ca1 := ca1q
          have ca2 := ca2q
          have cg0 := cg0q
          have rj := rjq
          have ct0 := ct0q
          have c4 := c4q
          have c3 := c3q
          have c5 := c5q
          clear co1q ca0q ca1q ca2q cg0q rjq ct0q c4q c3q c5q
          have hf3 := hide (unhide hfitH W3 (unhide Q3))
          clear hfitH
          go_wp2_with fail
          refine (unhide hf3).mono ?_
          clear hf3
          rintro e w4 ⟨rfl, q4⟩
          have Q4 := hide (Quiet.trans (unhide Q3) q4)
          have c54 := Quiet.cell q4 c5
          have a04 := Quiet.cell q4 ca0
          have a14 := Quiet.cell q4 ca1
          have a24 := Quiet.cell q4 ca2
          clear q4 c5 ca0 ca1 ca2 co1 cg0 rj ct0 c4 c3 Q3
          go_wp2
          go_ret
          exact unhide fin _ _ (unhide Q4) rfl
        | false =>
          have hp : guessP σ (j : Int) = (marksL (fw σ.sec) (fw l), 0, { σ with ts := σ.ts ++ [l] }) := by rw [unhide hprH, hr]; rfl
          obtain ⟨hE, hS⟩ := unhide aH
          have hE : aE = 0 := by rw [← hE, hp]
          have hS : aS = str (marksL (fw σ.sec) (fw l)) := by rw [← hS, hp]
          subst hE; subst hS
          have hpH : Hid ((guessP σ (j : Int)).2.2 = { σ with ts := σ.ts ++ [l] }) := by show _ = _; rw [hp]
          have hh' := hh
          obtain ⟨MM, hMM⟩ : ∃ m, str (marksL (fw σ.sec) (fw l)) = m := ⟨_, rfl⟩
          obtain ⟨gr, hgr2⟩ : ∃ b, sameW (fw l) (fw σ.sec) = b := ⟨_, rfl⟩
          rw [hMM, hgr2] at hgr
          rw [hMM] at hmk ca2 hW0 ⊢
          have hMMH := hide hMM
          obtain ⟨tl, htl⟩ : ∃ x, str (txt l) = x := ⟨_, rfl⟩
          obtain ⟨ss, hss⟩ : ∃ x, str (secT σ) = x := ⟨_, rfl⟩
          rw [htl] at hgr hmk hfit rj
          rw [hss] at hgr hmk c3
          have tH := hide (⟨htl, hss⟩ : _ ∧ _)
          clear hp aH hMM hgr2 htl hss hprH hh hh'
          have run : ∀ hdv' : Bool, hdv = hdv' → True := fun _ _ => trivial
          clear run
          go_enter Try.func26, Try.ntmps26
          go_wp2
          go_quiet (fail)
          have Q1 := hide ((unhide Q0).drewN nq)
          have co1q := Quiet.cell ((Chg.refl (fun _ => False) W0).drewN nq) co1
          have ca0q := Quiet.cell ((Chg.refl (fun _ => False) W0).drewN nq) ca0
          have ca1q := Quiet.cell ((Chg.refl (fun _ => False) W0).drewN nq) ca1
          have ca2q := Quiet.cell ((Chg.refl (fun _ => False) W0).drewN nq) ca2
          have cg0q := Quiet.cell ((Chg.refl (fun _ => False) W0).drewN nq) cg0
          have rjq := Quiet.cell ((Chg.refl (fun _ => False) W0).drewN nq) rj
          have ct0q := Quiet.cell ((Chg.refl (fun _ => False) W0).drewN nq) ct0
          have c4q := Quiet.cell ((Chg.refl (fun _ => False) W0).drewN nq) c4
          have c3q := Quiet.cell ((Chg.refl (fun _ => False) W0).drewN nq) c3
          have c5q := Quiet.cell ((Chg.refl (fun _ => False) W0).drewN nq) c5
          generalize W0.drewN nq = W1 at *
          clear co1 ca0 ca1 ca2 cg0 rj ct0 c4 c3 c5
          have co1 := co1q
          have ca0 := ca0q
          have ca1 := ca1q
          have ca2 := ca2q
          have cg0 := cg0q
          have rj := rjq
          have ct0 := ct0q
          have c4 := c4q
          have c3 := c3q
          have c5 := c5q
          clear co1q ca0q ca1q ca2q cg0q rjq ct0q c4q c3q c5q
          go_wp2
          go_quiet (fail)
          have Q2 := hide ((unhide Q1).drewN nq)
          have co1q := Quiet.cell ((Chg.refl (fun _ => False) W1).drewN nq) co1
          have ca0q := Quiet.cell ((Chg.refl (fun _ => False) W1).drewN nq) ca0
          have ca1q := Quiet.cell ((Chg.refl (fun _ => False) W1).drewN nq) ca1
          have ca2q := Quiet.cell ((Chg.refl (fun _ => False) W1).drewN nq) ca2
          have cg0q := Quiet.cell ((Chg.refl (fun _ => False) W1).drewN nq) cg0
          have rjq := Quiet.cell ((Chg.refl (fun _ => False) W1).drewN nq) rj
          have ct0q := Quiet.cell ((Chg.refl (fun _ => False) W1).drewN nq) ct0
          have c4q := Quiet.cell ((Chg.refl (fun _ => False) W1).drewN nq) c4
          have c3q := Quiet.cell ((Chg.refl (fun _ => False) W1).drewN nq) c3
          have c5q := Quiet.cell ((Chg.refl (fun _ => False) W1).drewN nq) c5
          generalize W1.drewN nq = W2 at *
          clear co1 ca0 ca1 ca2 cg0 rj ct0 c4 c3 c5
          have co1 := co1q
          have ca0 := ca0q
          have ca1 := ca1q
          have ca2 := ca2q
          have cg0 := cg0q
          have rj := rjq
          have ct0 := ct0q
          have c4 := c4q
          have c3 := c3q
          have c5 := c5q
          clear co1q ca0q ca1q ca2q cg0q rjq ct0q c4q c3q c5q
          go_wp2
          go_quiet (fail)
          have Q3 := hide ((unhide Q2).drewN nq)
          have co1q := Quiet.cell ((Chg.refl (fun _ => False) W2).drewN nq) co1
          have ca0q := Quiet.cell ((Chg.refl (fun _ => False) W2).drewN nq) ca0
          have ca1q := Quiet.cell ((Chg.refl (fun _ => False) W2).drewN nq) ca1
          have ca2q := Quiet.cell ((Chg.refl (fun _ => False) W2).drewN nq) ca2
          have cg0q := Quiet.cell ((Chg.refl (fun _ => False) W2).drewN nq) cg0
          have rjq := Quiet.cell ((Chg.refl (fun _ => False) W2).drewN nq) rj
          have ct0q := Quiet.cell ((Chg.refl (fun _ => False) W2).drewN nq) ct0
          have c4q := Quiet.cell ((Chg.refl (fun _ => False) W2).drewN nq) c4
          have c3q := Quiet.cell ((Chg.refl (fun _ => False) W2).drewN nq) c3
          have c5q := Quiet.cell ((Chg.refl (fun _ => False) W2).drewN nq) c5
          generalize W2.drewN nq = W3 at *
          clear co1 ca0 ca1 ca2 cg0 rj ct0 c4 c3 c5
          have co1 := co1q
          have ca0 := ca0q
          have ca1 := ca1q
          have ca2 := ca2q
          have cg0 := cg0q
          have rj := rjq
          have ct0 := ct0q
          have c4 := c4q
          have c3 := c3q
          have c5 := c5q
          clear co1q ca0q ca1q ca2q cg0q rjq ct0q c4q c3q c5q
          have hf3 := hide (unhide hfit W3 (unhide Q3))
          clear hfit
          go_wp2_with fail
          refine (unhide hf3).mono ?_
          clear hf3
          rintro e w4 ⟨rfl, q4⟩
          have Q4 := hide (Quiet.trans (unhide Q3) q4)
          have c54 := Quiet.cell q4 c5
          have c34 := Quiet.cell q4 c3
          have a04 := Quiet.cell q4 ca0
          have a14 := Quiet.cell q4 ca1
          have a24 := Quiet.cell q4 ca2
          have hm4 := hide (unhide hmk w4)
          clear q4 c5 ca0 ca1 ca2 co1 cg0 rj ct0 c4 c3 Q3 hmk
          have two : (hdv = false) ∨ (hdv = true ∧ agv = true) := by
            cases hdv
            · exact .inl rfl
            · right
              refine ⟨rfl, ?_⟩
              cases agv
              · exact absurd hr (by decide)
              · rfl
          rcases two with rfl | ⟨rfl, rfl⟩
          all_goals
            go_wp2_with fail
            refine (unhide hm4).mono ?_
            clear hm4 c54 c34
            rintro e w5 ⟨rfl, q5⟩
            have Q5 := hide (Quiet.trans (unhide Q4) q5)
            have a05 := Quiet.cell q5 a04
            have a15 := Quiet.cell q5 a14
            have a25 := Quiet.cell q5 a24
            clear q5 Q4 a04 a14 a24
            have noB : ∀ k, w.heap.size ≤ k → ¬ OH k := fun k hk h => by have := (unhide RH).2.2.2 k h; omega
            have noT : ¬ (w.heap.size + 1 = g ∨ vt.ownBlock = some (w.heap.size + 1)) := fun h => noB (w.heap.size + 1) (by omega) ((unhide RH).2.1 _ (by rcases h with h | h; exact .inl h; exact .inr (.inr (.inl h))))
            have noS : ¬ (w.heap.size + 1 = g ∨ vs.ownBlock = some (w.heap.size + 1)) := fun h => noB (w.heap.size + 1) (by omega) ((unhide RH).2.1 _ (by rcases h with h | h; exact .inl h; exact .inr (.inr (.inr h))))
            have H5 := ((unhide RH).1.quiet (unhide Q5)).toK
            have hG5 := H5.b.lt
            have cT : w5.cell? ⟨g, 1, none⟩ = some (Value.slice xt 0 ct) := by rw [← (unhide nH).2.2.2.1]; exact H5.b.cell 1
            have rt5 : Row w5 9 1 (Value.slice xt 0 ct) 0 (σ.ts.map txV) := by
              have h := H5.rt
              rwa [List.length_map, show σ.ts.length = 0 from (unhide nH).2.1, show vt = (Value.slice xt 0 ct) from (unhide nH).2.2.2.1] at h
            have H5H := hide H5
            clear H5
            obtain ⟨i9, hi9, hy0, hy1, hy2⟩ := info_parts info9
            go_wp2_with (at_builtin; refine wpList_append_row rfl (.tmp 96) (.tmp 98) 30 rfl 9 i9 _ 1 16 und30 hi9 hy0 hy1 hy2 rfl (by omega) (Value.slice xt 0 ct) 0 (σ.ts.map txV) rfl (rt5.quiet ((Chg.refl _ _).alloc _)) ⟨w5.heap.size, 0, none⟩ 1 1 [.string tl] rfl rfl (news_new _ _ _) (one_str _) (by omega) (by unfold maxLen; omega) (by omega) _ rfl ?_)
            intro b3 cap3 w6 row6 hch6 hat6 hlt6
            have H5 := unhide H5H
            have hvt : (Value.slice xt 0 ct).ownBlock ≠ some g := by rw [← show vt = (Value.slice xt 0 ct) from (unhide nH).2.2.2.1]; exact H5.gt
            have b6 := hch6.blk (H5.b.alloc _) hvt
            have hb3 : b3 ≠ g := fun e => by
              rcases hat6 with h | h
              · exact hvt (by rw [h, e])
              · first | omega | (simp at h; omega)
            have c7 : Chg (fun k => k = g ∨ vt.ownBlock = some k) w5 (w6.setCell ⟨g, 1, none⟩ (.slice (some ⟨b3, 0, none⟩) (0 + 1) cap3)) := ((((Chg.refl _ w5).alloc _)).trans (hch6.mono (fun k _ h => .inr (by rw [show vt = (Value.slice xt 0 ct) from (unhide nH).2.2.2.1]; exact h)))).setCell (.inl (.inl rfl)) _
            have b7 : Blk (w6.setCell ⟨g, 1, none⟩ (.slice (some ⟨b3, 0, none⟩) (0 + 1) cap3)) g 35 [vb, (.slice (some ⟨b3, 0, none⟩) (0 + 1) cap3), vs, .string (str (secT σ)), .bool σ.bg, .bool σ.hd] := b6.set 1 _
            have r7 : Row (w6.setCell ⟨g, 1, none⟩ (.slice (some ⟨b3, 0, none⟩) (0 + 1) cap3)) 9 1 (.slice (some ⟨b3, 0, none⟩) (0 + 1) cap3) (σ.ts.map txV ++ [Value.string tl]).length (σ.ts.map txV ++ [Value.string tl]) := by
              have h := row6.of_chg ((Chg.refl (fun x => x = g) w6).setCell (p := ⟨g, 1, none⟩) (.inl rfl) (.slice (some ⟨b3, 0, none⟩) (0 + 1) cap3)) (fun x hx e => by simp [Value.ownBlock] at hx; exact hb3 (by rw [hx, e]))
              rw [List.length_append, List.length_map, show σ.ts.length = 0 from (unhide nH).2.1]
              exact h
            have hg3 : vt.ownBlock = some b3 ∨ w5.heap.size ≤ b3 := by
              rcases hat6 with h | h
              · left; rw [show vt = (Value.slice xt 0 ct) from (unhide nH).2.2.2.1]; exact h
              · right; first | omega | (simp at h; omega)
            have a07 := Chg.cell c7 a05 noT
            have a17 := Chg.cell c7 a15 noT
            have a27 := Chg.cell c7 a25 noT
            have H7 := H5.tries c7 b7 r7 hg3
            have C7 : Hid (Chg OH w (w6.setCell ⟨g, 1, none⟩ (.slice (some ⟨b3, 0, none⟩) (0 + 1) cap3))) := Chg.trans' ((unhide Q5).chg OH) c7 (fun k _ h => (unhide RH).2.1 k (by rcases h with h | h; exact .inl h; exact .inr (.inr (.inl h))))
            have hg3H : Hid (vt.ownBlock = some b3 ∨ w.heap.size ≤ b3) := by
              rcases hg3 with h | h
              · exact .inl h
              · right; have := (unhide Q5).size; omega
            have cT6 : w6.cell? ⟨g, 1, none⟩ = some (Value.slice xt 0 ct) := by rw [b6.cell 1]; show some vt = _; rw [show vt = (Value.slice xt 0 ct) from (unhide nH).2.2.2.1]
            have fT6 := b6.frozen 1
            obtain ⟨W7, hW7⟩ : ∃ W, w6.setCell ⟨g, 1, none⟩ (.slice (some ⟨b3, 0, none⟩) (0 + 1) cap3) = W := ⟨_, rfl⟩
            rw [hW7] at H7 C7 a07 a17 a27
            have cS : W7.cell? ⟨g, 2, none⟩ = some (.slice xs 0 cs) := by rw [← (unhide nH).2.2.2.2]; exact H7.b.cell 2
            have rs7 : Row W7 9 1 (.slice xs 0 cs) 0 (shownV σ) := by
              have h := H7.rs
              rwa [show (shownV σ).length = 0 by rw [show (shownV σ).length = σ.ts.length by simp [shownV]]; exact (unhide nH).2.1, (unhide nH).2.2.2.2] at h
            have hG7 := H7.b.lt
            have H7H := hide H7
            clear H5 H5H H7 rt5 row6 hch6 hat6 hlt6 b6 b7 r7 c7 hg3 hb3 hvt cT
            go_wp2_with (at_builtin; refine wpList_append_row rfl (.tmp 106) (.tmp 108) 30 rfl 9 i9 _ 1 16 und30 hi9 hy0 hy1 hy2 rfl (by omega) (.slice xs 0 cs) 0 (shownV σ) rfl (rs7.quiet ((Chg.refl _ _).alloc _)) ⟨W7.heap.size, 0, none⟩ 1 1 [.string MM] rfl rfl (news_new _ _ _) (one_str _) (by omega) (by unfold maxLen; omega) (by omega) _ rfl ?_)
            intro b5 cap5 w8 row8 hch8 hat8 hlt8
            have H7 := unhide H7H
            have hvs : (Value.slice xs 0 cs).ownBlock ≠ some g := by rw [← (unhide nH).2.2.2.2]; exact H7.gs
            have b8 := hch8.blk (H7.b.alloc _) hvs
            have hb5 : b5 ≠ g := fun e => by
              rcases hat8 with h | h
              · exact hvs (by rw [h, e])
              · first | omega | (simp at h; omega)
            have c9 : Chg (fun k => k = g ∨ vs.ownBlock = some k) W7 (w8.setCell ⟨g, 2, none⟩ (.slice (some ⟨b5, 0, none⟩) (0 + 1) cap5)) := ((((Chg.refl _ W7).alloc _)).trans (hch8.mono (fun k _ h => .inr (by rw [(unhide nH).2.2.2.2]; exact h)))).setCell (.inl (.inl rfl)) _
            have b9 : Blk (w8.setCell ⟨g, 2, none⟩ (.slice (some ⟨b5, 0, none⟩) (0 + 1) cap5)) g 35 [vb, (.slice (some ⟨b3, 0, none⟩) (0 + 1) cap3), (.slice (some ⟨b5, 0, none⟩) (0 + 1) cap5), .string (str (secT σ)), .bool σ.bg, .bool σ.hd] := b8.set 2 _
            have r9 : Row (w8.setCell ⟨g, 2, none⟩ (.slice (some ⟨b5, 0, none⟩) (0 + 1) cap5)) 9 1 (.slice (some ⟨b5, 0, none⟩) (0 + 1) cap5) (shownV σ ++ [Value.string MM]).length (shownV σ ++ [Value.string MM]) := by
              have h := row8.of_chg ((Chg.refl (fun x => x = g) w8).setCell (p := ⟨g, 2, none⟩) (.inl rfl) (.slice (some ⟨b5, 0, none⟩) (0 + 1) cap5)) (fun x hx e => by simp [Value.ownBlock] at hx; exact hb5 (by rw [hx, e]))
              rw [List.length_append, show (shownV σ).length = 0 by rw [show (shownV σ).length = σ.ts.length by simp [shownV]]; exact (unhide nH).2.1]
              exact h
            have hg5 : vs.ownBlock = some b5 ∨ W7.heap.size ≤ b5 := by
              rcases hat8 with h | h
              · left; rw [(unhide nH).2.2.2.2]; exact h
              · right; first | omega | (simp at h; omega)
            have a09 := Chg.cell c9 a07 noS
            have a19 := Chg.cell c9 a17 noS
            have a29 := Chg.cell c9 a27 noS
            have H9 := H7.marks c9 b9 r9 hg5
            have C9 : Chg OH w (w8.setCell ⟨g, 2, none⟩ (.slice (some ⟨b5, 0, none⟩) (0 + 1) cap5)) := Chg.trans' (unhide C7) c9 (fun k _ h => (unhide RH).2.1 k (by rcases h with h | h; exact .inl h; exact .inr (.inr (.inr h))))
            have hg5H : Hid (vs.ownBlock = some b5 ∨ w.heap.size ≤ b5) := by
              rcases hg5 with h | h
              · exact .inl h
              · right; have := (unhide C7).size; omega
            have cS8 : w8.cell? ⟨g, 2, none⟩ = some (.slice xs 0 cs) := by rw [b8.cell 2]; show some vs = _; rw [(unhide nH).2.2.2.2]
            have fS8 := b8.frozen 2
            obtain ⟨W9, hW9⟩ : ∃ W, w8.setCell ⟨g, 2, none⟩ (.slice (some ⟨b5, 0, none⟩) (0 + 1) cap5) = W := ⟨_, rfl⟩
            rw [hW9] at H9 C9 a09 a19 a29
            have c39 : W9.cell? ⟨g, 3, none⟩ = some (.string ss) := by rw [← (unhide tH).2]; exact H9.b.cell 3
            have fin : Hid (∀ n e, e = .returned (.bool true) → HPost w OH g (guessP σ (j : Int)).2.2 e (W9.drewN n)) := by
              show ∀ n e, _
              intro n e he
              rw [unhide hpH]
              have h9 := H9.quiet ((Chg.refl (fun _ => False) W9).drewN n)
              rw [← (unhide tH).1, ← unhide hMMH] at h9
              exact kguess_fin (unhide RH).2.1 l h9 (C9.drewN n) (unhide hg3H) (unhide hg5H) e he
            have hMs : (MM.toList == MM.toList) = true := by simp
            obtain ⟨gr1, gr2⟩ := unhide hgr
            clear H7 H7H H9 C9 rs7 row8 hch8 hat8 hlt8 b8 b9 r9 c9 hg5 hb5 hvs cS a05 a15 a25 a07 a17 a27 noB noT noS hgr
            cases gr
            · have gr3 : ¬ MM.toList = [103, 103, 103, 103, 103] := by simpa using gr1
              go_wp2
              go_quiet (fail)
              have F := unhide fin nq
              go_wp2
              go_ret
              exact F _ rfl
            · have gr3 : MM.toList = [103, 103, 103, 103, 103] := by simpa using gr1
              go_wp2
              go_quiet (fail)
              have F := unhide fin nq
              go_wp2
              go_ret
              exact F _ rfl
      exact key _ _ rfl rfl
    · rw [hb] at c4
      have hmn : n = m + 1 := by omega
      subst hmn
      have hLt := ok.ts tt (List.mem_of_getElem? htm)
      have hLs := ok.sec hb
      obtain ⟨bt, capt, hvt, rt0⟩ := (unhide RH).1.rt.one m (by omega) _ (tx_at htm)
      obtain ⟨h1, h2⟩ : xt = some ⟨bt, 0, none⟩ ∧ ct = capt := by
        have := (unhide nH).2.2.2.1.symm.trans hvt
        simp at this; exact ⟨this.1, this.2.2⟩
      subst h1; subst h2
      have rt : W0.cell? ⟨bt, m, none⟩ = some (.string (str (txt tt))) := Quiet.cell (unhide Q0) rt0
      have hsame : ((str (txt tt)).toList == (str (secT σ)).toList) = idleB σ := by rw [secT_begun hb, txt_same hLt hLs, hi]
      have d0 : ¬ (6 : Int) ≤ (m : Int) + 1 := by omega
      have d0n : ¬ 6 ≤ m + 1 := by omega
      have d1 : decide ((0 : Int) < (m : Int) + 1) = true := decide_eq_true (by omega)
      have d2 : (m : Int) + 1 - 1 = (m : Int) := by omega
      have d3 : (0 : Int) ≤ (m : Int) := by omega
      have d4 : (m : Int) < (m : Int) + 1 := by omega
      have hbH := hide hb
      clear hb hm htm hvt rt0 hLt hLs
      by_cases hid : idleB σ = true
      · have hp : guessP σ (j : Int) = ([], 6, σ) := by rw [unhide hprH, hid]; rfl
        obtain ⟨hE, hS⟩ := unhide aH
        have hE : aE = 6 := by rw [← hE, hp]
        have hS : aS = ⟨#[]⟩ := by rw [← hS, hp]; rfl
        subst hE; subst hS
        have fin : Hid (∀ e w', Quiet w w' → e = .returned (.bool true) → HPost w OH g (guessP σ (j : Int)).2.2 e w') := by
          show ∀ e w', _
          rw [hp]
          exact fun e w' q he => HPost.same (unhide hh) q he
        clear hp aH hprH
        rw [hid] at hsame
        clear hi hid ok
        generalize str (secT σ) = ss at *
        generalize str (txt tt) = st0 at *
        go_enter Try.func26, Try.ntmps26
        go_wp2
        go_quiet (fail)
        have Q1 := hide ((unhide Q0).drewN nq)
        have co1q := Quiet.cell ((Chg.refl (fun _ => False) W0).drewN nq) co1
        have ca0q := Quiet.cell ((Chg.refl (fun _ => False) W0).drewN nq) ca0
        have ca1q := Quiet.cell ((Chg.refl (fun _ => False) W0).drewN nq) ca1
        have ca2q := Quiet.cell ((Chg.refl (fun _ => False) W0).drewN nq) ca2
        have cg0q := Quiet.cell ((Chg.refl (fun _ => False) W0).drewN nq) cg0
        have rjq := Quiet.cell ((Chg.refl (fun _ => False) W0).drewN nq) rj
        have ct0q := Quiet.cell ((Chg.refl (fun _ => False) W0).drewN nq) ct0
        have c4q := Quiet.cell ((Chg.refl (fun _ => False) W0).drewN nq) c4
        have c3q := Quiet.cell ((Chg.refl (fun _ => False) W0).drewN nq) c3
        have rtq := Quiet.cell ((Chg.refl (fun _ => False) W0).drewN nq) rt
        generalize W0.drewN nq = W1 at *
        clear co1 ca0 ca1 ca2 cg0 rj ct0 c4 c3 rt
        have co1 := co1q
        have ca0 := ca0q
        have ca1 := ca1q
        have ca2 := ca2q
        have cg0 := cg0q
        have rj := rjq
        have ct0 := ct0q
        have c4 := c4q
        have c3 := c3q
        have rt := rtq
        clear co1q ca0q ca1q ca2q cg0q rjq ct0q c4q c3q rtq
        go_wp2
        go_quiet (fail)
        have Q2 := hide ((unhide Q1).drewN nq)
        have co1q := Quiet.cell ((Chg.refl (fun _ => False) W1).drewN nq) co1
        have ca0q := Quiet.cell ((Chg.refl (fun _ => False) W1).drewN nq) ca0
        have ca1q := Quiet.cell ((Chg.refl (fun _ => False) W1).drewN nq) ca1
        have ca2q := Quiet.cell ((Chg.refl (fun _ => False) W1).drewN nq) ca2
        have cg0q := Quiet.cell ((Chg.refl (fun _ => False) W1).drewN nq) cg0
        have rjq := Quiet.cell ((Chg.refl (fun _ => False) W1).drewN nq) rj
        have ct0q := Quiet.cell ((Chg.refl (fun _ => False) W1).drewN nq) ct0
        have c4q := Quiet.cell ((Chg.refl (fun _ => False) W1).drewN nq) c4
        have c3q := Quiet.cell ((Chg.refl (fun _ => False) W1).drewN nq) c3
        have rtq := Quiet.cell ((Chg.refl (fun _ => False) W1).drewN nq) rt
        generalize W1.drewN nq = W2 at *
        clear co1 ca0 ca1 ca2 cg0 rj ct0 c4 c3 rt
        have co1 := co1q
        have ca0 := ca0q
        have ca1 := ca1q
        have ca2 := ca2q
        have cg0 := cg0q
        have rj := rjq
        have ct0 := ct0q
        have c4 := c4q
        have c3 := c3q
        have rt := rtq
        clear co1q ca0q ca1q ca2q cg0q rjq ct0q c4q c3q rtq
        go_wp2
        go_quiet (fail)
        go_wp2
        go_ret
        exact unhide fin _ _ ((unhide Q2).drewN _) rfl
      · have hid : idleB σ = false := by simpa using hid
        rw [hid] at hsame hprH
        clear hi hid
        have hfit : Hid (∀ W, Quiet w W → Calls Try.prog 40 #[.pointer (some ⟨g, 0, none⟩), .string (str (txt l))] W fun e w' => e = .returned (.bool (agreeB σ l)) ∧ Quiet W w') := fun W q => fits_any W g vb vt vs σ (unhide RH).2.2.1 ((unhide RH).1.quiet q) l (unhide hLWH)
        have hmk : Hid (∀ W, Calls Try.prog 41 #[.string (str (secT σ)), .string (str (txt l))] W fun e w' => e = .returned (.string (str (marksL (fw σ.sec) (fw l)))) ∧ Quiet W w') := by
          show ∀ W, _
          intro W
          rw [secT_begun (unhide hbH)]
          exact kmarks_any W σ.sec l ((unhide RH).2.2.1.sec (unhide hbH)) (unhide hLWH)
        have hgr : Hid (((str (marksL (fw σ.sec) (fw l))).toList == [103, 103, 103, 103, 103]) = sameW (fw l) (fw σ.sec) ∧ ((str (txt l)).toList == (str (secT σ)).toList) = sameW (fw l) (fw σ.sec)) := ⟨all_green ((unhide RH).2.2.1.sec (unhide hbH)) (unhide hLWH), by rw [secT_begun (unhide hbH)]; exact txt_same (unhide hLWH) ((unhide RH).2.2.1.sec (unhide hbH))⟩
        have key : ∀ hdv agv, σ.hd = hdv → agreeB σ l = agv → Calls Try.prog 26 #[.pointer (some ⟨g, 0, none⟩), .agg #[.int .i64 3, .int .i64 (j : Int), .int .i64 B, .int .i64 C, .string s, .string t], .agg #[.int .i64 aE, .int .i64 0, .string aS]] w (HPost w OH g (guessP σ (j : Int)).2.2) := by
          intro hdv agv hhd hag
          have c5 : W0.cell? ⟨g, 5, none⟩ = some (.bool hdv) := by rw [← hhd]; exact Quiet.cell (unhide Q0) ((unhide RH).1.b.cell 5)
          rw [hag] at hfit
          have hprH : Hid (guessP σ (j : Int) = if hdv && !agv then ([], 7, σ) else (marksL (fw σ.sec) (fw l), 0, { σ with ts := σ.ts ++ [l] })) := by
            show _ = _
            have h := unhide hprH
            rw [if_neg (by decide)] at h
            rw [h, ← hhd, ← hag]
          clear hhd hag
          cases hr : (hdv && !agv) with
          | true =>
            have hhd : hdv = true := by cases hdv <;> simp_all
            have hag : agv = false := by cases agv <;> simp_all
            subst hhd; subst hag
            have hp : guessP σ (j : Int) = ([], 7, σ) := by rw [unhide hprH]; rfl
            obtain ⟨hE, hS⟩ := unhide aH
            have hE : aE = 7 := by rw [← hE, hp]
            have hS : aS = ⟨#[]⟩ := by rw [← hS, hp]; rfl
            subst hE; subst hS
            have fin : Hid (∀ e w', Quiet w w' → e = .returned (.bool true) → HPost w OH g (guessP σ (j : Int)).2.2 e w') := by
              show ∀ e w', _
              rw [hp]
              exact fun e w' q he => HPost.same (unhide hh) q he
            clear hp aH hprH hr hmk hgr
            have hfitH := hfit
            clear hfit
            generalize str (secT σ) = ss at *
            generalize str (txt l) = tl at *
            generalize str (txt tt) = st0 at *
            go_enter Try.func26, Try.ntmps26
            go_wp2
            go_quiet (fail)
            have Q1 := hide ((unhide Q0).drewN nq)
            have co1q := Quiet.cell ((Chg.refl (fun _ => False) W0).drewN nq) co1
            have ca0q := Quiet.cell ((Chg.refl (fun _ => False) W0).drewN nq) ca0
            have ca1q := Quiet.cell ((Chg.refl (fun _ => False) W0).drewN nq) ca1
            have ca2q := Quiet.cell ((Chg.refl (fun _ => False) W0).drewN nq) ca2
            have cg0q := Quiet.cell ((Chg.refl (fun _ => False) W0).drewN nq) cg0
            have rjq := Quiet.cell ((Chg.refl (fun _ => False) W0).drewN nq) rj
            have ct0q := Quiet.cell ((Chg.refl (fun _ => False) W0).drewN nq) ct0
            have c4q := Quiet.cell ((Chg.refl (fun _ => False) W0).drewN nq) c4
            have c3q := Quiet.cell ((Chg.refl (fun _ => False) W0).drewN nq) c3
            have rtq := Quiet.cell ((Chg.refl (fun _ => False) W0).drewN nq) rt
            have c5q := Quiet.cell ((Chg.refl (fun _ => False) W0).drewN nq) c5
            generalize W0.drewN nq = W1 at *
            clear co1 ca0 ca1 ca2 cg0 rj ct0 c4 c3 rt c5
            have co1 := co1q
            have ca0 := ca0q
            have ca1 := ca1q
            have ca2 := ca2q
            have cg0 := cg0q
            have rj := rjq
            have ct0 := ct0q
            have c4 := c4q
            have c3 := c3q
            have rt := rtq
            have c5 := c5q
            clear co1q ca0q ca1q ca2q cg0q rjq ct0q c4q c3q rtq c5q
            go_wp2
            go_quiet (fail)
            have Q2 := hide ((unhide Q1).drewN nq)
            have co1q := Quiet.cell ((Chg.refl (fun _ => False) W1).drewN nq) co1
            have ca0q := Quiet.cell ((Chg.refl (fun _ => False) W1).drewN nq) ca0
            have ca1q := Quiet.cell ((Chg.refl (fun _ => False) W1).drewN nq) ca1
            have ca2q := Quiet.cell ((Chg.refl (fun _ => False) W1).drewN nq) ca2
            have cg0q := Quiet.cell ((Chg.refl (fun _ => False) W1).drewN nq) cg0
            have rjq := Quiet.cell ((Chg.refl (fun _ => False) W1).drewN nq) rj
            have ct0q := Quiet.cell ((Chg.refl (fun _ => False) W1).drewN nq) ct0
            have c4q := Quiet.cell ((Chg.refl (fun _ => False) W1).drewN nq) c4
            have c3q := Quiet.cell ((Chg.refl (fun _ => False) W1).drewN nq) c3
            have rtq := Quiet.cell ((Chg.refl (fun _ => False) W1).drewN nq) rt
            have c5q := Quiet.cell ((Chg.refl (fun _ => False) W1).drewN nq) c5
            generalize W1.drewN nq = W2 at *
            clear co1 ca0 ca1 ca2 cg0 rj ct0 c4 c3 rt c5
            have co1 := co1q
            have ca0 := ca0q
            have ca1 := ca1q
            have ca2 := ca2q
            have cg0 := cg0q
            have rj := rjq
            have ct0 := ct0q
            have c4 := c4q
            have c3 := c3q
            have rt := rtq
            have c5 := c5q
            clear co1q ca0q ca1q ca2q cg0q rjq ct0q c4q c3q rtq c5q
            go_wp2
            go_quiet (fail)
            have Q3 := hide ((unhide Q2).drewN nq)
            have co1q := Quiet.cell ((Chg.refl (fun _ => False) W2).drewN nq) co1
            have ca0q := Quiet.cell ((Chg.refl (fun _ => False) W2).drewN nq) ca0
            have ca1q := Quiet.cell ((Chg.refl (fun _ => False) W2).drewN nq) ca1
            have ca2q := Quiet.cell ((Chg.refl (fun _ => False) W2).drewN nq) ca2
            have cg0q := Quiet.cell ((Chg.refl (fun _ => False) W2).drewN nq) cg0
            have rjq := Quiet.cell ((Chg.refl (fun _ => False) W2).drewN nq) rj
            have ct0q := Quiet.cell ((Chg.refl (fun _ => False) W2).drewN nq) ct0
            have c4q := Quiet.cell ((Chg.refl (fun _ => False) W2).drewN nq) c4
            have c3q := Quiet.cell ((Chg.refl (fun _ => False) W2).drewN nq) c3
            have rtq := Quiet.cell ((Chg.refl (fun _ => False) W2).drewN nq) rt
            have c5q := Quiet.cell ((Chg.refl (fun _ => False) W2).drewN nq) c5
            generalize W2.drewN nq = W3 at *
            clear co1 ca0 ca1 ca2 cg0 rj ct0 c4 c3 rt c5
            have co1 := co1q
            have ca0 := ca0q
            have ca1 := ca1q
            have ca2 := ca2q
            have cg0 := cg0q
            have rj := rjq
            have ct0 := ct0q
            have c4 := c4q
            have c3 := c3q
            have rt := rtq
            have c5 := c5q
            clear co1q ca0q ca1q ca2q cg0q rjq ct0q c4q c3q rtq c5q
            have hf3 := hide (unhide hfitH W3 (unhide Q3))
            clear hfitH
            go_wp2_with fail
            refine (unhide hf3).mono ?_
            clear hf3
            rintro e w4 ⟨rfl, q4⟩
            have Q4 := hide (Quiet.trans (unhide Q3) q4)
            have c54 := Quiet.cell q4 c5
            have a04 := Quiet.cell q4 ca0
            have a14 := Quiet.cell q4 ca1
            have a24 := Quiet.cell q4 ca2
            clear q4 rt hsame c5 ca0 ca1 ca2 co1 cg0 rj ct0 c4 c3 Q3
            go_wp2
            go_ret
            exact unhide fin _ _ (unhide Q4) rfl
          | false =>
            have hp : guessP σ (j : Int) = (marksL (fw σ.sec) (fw l), 0, { σ with ts := σ.ts ++ [l] }) := by rw [unhide hprH, hr]; rfl
            obtain ⟨hE, hS⟩ := unhide aH
            have hE : aE = 0 := by rw [← hE, hp]
            have hS : aS = str (marksL (fw σ.sec) (fw l)) := by rw [← hS, hp]
            subst hE; subst hS
            have hpH : Hid ((guessP σ (j : Int)).2.2 = { σ with ts := σ.ts ++ [l] }) := by show _ = _; rw [hp]
            have hh' := hh
            obtain ⟨MM, hMM⟩ : ∃ m, str (marksL (fw σ.sec) (fw l)) = m := ⟨_, rfl⟩
            obtain ⟨gr, hgr2⟩ : ∃ b, sameW (fw l) (fw σ.sec) = b := ⟨_, rfl⟩
            rw [hMM, hgr2] at hgr
            rw [hMM] at hmk ca2 hW0 ⊢
            have hMMH := hide hMM
            obtain ⟨tl, htl⟩ : ∃ x, str (txt l) = x := ⟨_, rfl⟩
            obtain ⟨ss, hss⟩ : ∃ x, str (secT σ) = x := ⟨_, rfl⟩
            rw [htl] at hgr hmk hfit rj
            rw [hss] at hgr hmk c3 hsame
            have tH := hide (⟨htl, hss⟩ : _ ∧ _)
            clear hp aH hMM hgr2 htl hss hprH hh hh'
            generalize str (txt tt) = st0 at *
            have run : ∀ hdv' : Bool, hdv = hdv' → True := fun _ _ => trivial
            clear run
            go_enter Try.func26, Try.ntmps26
            go_wp2
            go_quiet (fail)
            have Q1 := hide ((unhide Q0).drewN nq)
            have co1q := Quiet.cell ((Chg.refl (fun _ => False) W0).drewN nq) co1
            have ca0q := Quiet.cell ((Chg.refl (fun _ => False) W0).drewN nq) ca0
            have ca1q := Quiet.cell ((Chg.refl (fun _ => False) W0).drewN nq) ca1
            have ca2q := Quiet.cell ((Chg.refl (fun _ => False) W0).drewN nq) ca2
            have cg0q := Quiet.cell ((Chg.refl (fun _ => False) W0).drewN nq) cg0
            have rjq := Quiet.cell ((Chg.refl (fun _ => False) W0).drewN nq) rj
            have ct0q := Quiet.cell ((Chg.refl (fun _ => False) W0).drewN nq) ct0
            have c4q := Quiet.cell ((Chg.refl (fun _ => False) W0).drewN nq) c4
            have c3q := Quiet.cell ((Chg.refl (fun _ => False) W0).drewN nq) c3
            have rtq := Quiet.cell ((Chg.refl (fun _ => False) W0).drewN nq) rt
            have c5q := Quiet.cell ((Chg.refl (fun _ => False) W0).drewN nq) c5
            generalize W0.drewN nq = W1 at *
            clear co1 ca0 ca1 ca2 cg0 rj ct0 c4 c3 rt c5
            have co1 := co1q
            have ca0 := ca0q
            have ca1 := ca1q
            have ca2 := ca2q
            have cg0 := cg0q
            have rj := rjq
            have ct0 := ct0q
            have c4 := c4q
            have c3 := c3q
            have rt := rtq
            have c5 := c5q
            clear co1q ca0q ca1q ca2q cg0q rjq ct0q c4q c3q rtq c5q
            go_wp2
            go_quiet (fail)
            have Q2 := hide ((unhide Q1).drewN nq)
            have co1q := Quiet.cell ((Chg.refl (fun _ => False) W1).drewN nq) co1
            have ca0q := Quiet.cell ((Chg.refl (fun _ => False) W1).drewN nq) ca0
            have ca1q := Quiet.cell ((Chg.refl (fun _ => False) W1).drewN nq) ca1
            have ca2q := Quiet.cell ((Chg.refl (fun _ => False) W1).drewN nq) ca2
            have cg0q := Quiet.cell ((Chg.refl (fun _ => False) W1).drewN nq) cg0
            have rjq := Quiet.cell ((Chg.refl (fun _ => False) W1).drewN nq) rj
            have ct0q := Quiet.cell ((Chg.refl (fun _ => False) W1).drewN nq) ct0
            have c4q := Quiet.cell ((Chg.refl (fun _ => False) W1).drewN nq) c4
            have c3q := Quiet.cell ((Chg.refl (fun _ => False) W1).drewN nq) c3
            have rtq := Quiet.cell ((Chg.refl (fun _ => False) W1).drewN nq) rt
            have c5q := Quiet.cell ((Chg.refl (fun _ => False) W1).drewN nq) c5
            generalize W1.drewN nq = W2 at *
            clear co1 ca0 ca1 ca2 cg0 rj ct0 c4 c3 rt c5
            have co1 := co1q
            have ca0 := ca0q
            have ca1 := ca1q
            have ca2 := ca2q
            have cg0 := cg0q
            have rj := rjq
            have ct0 := ct0q
            have c4 := c4q
            have c3 := c3q
            have rt := rtq
            have c5 := c5q
            clear co1q ca0q ca1q ca2q cg0q rjq ct0q c4q c3q rtq c5q
            go_wp2
            go_quiet (fail)
            have Q3 := hide ((unhide Q2).drewN nq)
            have co1q := Quiet.cell ((Chg.refl (fun _ => False) W2).drewN nq) co1
            have ca0q := Quiet.cell ((Chg.refl (fun _ => False) W2).drewN nq) ca0
            have ca1q := Quiet.cell ((Chg.refl (fun _ => False) W2).drewN nq) ca1
            have ca2q := Quiet.cell ((Chg.refl (fun _ => False) W2).drewN nq) ca2
            have cg0q := Quiet.cell ((Chg.refl (fun _ => False) W2).drewN nq) cg0
            have rjq := Quiet.cell ((Chg.refl (fun _ => False) W2).drewN nq) rj
            have ct0q := Quiet.cell ((Chg.refl (fun _ => False) W2).drewN nq) ct0
            have c4q := Quiet.cell ((Chg.refl (fun _ => False) W2).drewN nq) c4
            have c3q := Quiet.cell ((Chg.refl (fun _ => False) W2).drewN nq) c3
            have rtq := Quiet.cell ((Chg.refl (fun _ => False) W2).drewN nq) rt
            have c5q := Quiet.cell ((Chg.refl (fun _ => False) W2).drewN nq) c5
            generalize W2.drewN nq = W3 at *
            clear co1 ca0 ca1 ca2 cg0 rj ct0 c4 c3 rt c5
            have co1 := co1q
            have ca0 := ca0q
            have ca1 := ca1q
            have ca2 := ca2q
            have cg0 := cg0q
            have rj := rjq
            have ct0 := ct0q
            have c4 := c4q
            have c3 := c3q
            have rt := rtq
            have c5 := c5q
            clear co1q ca0q ca1q ca2q cg0q rjq ct0q c4q c3q rtq c5q
            have hf3 := hide (unhide hfit W3 (unhide Q3))
            clear hfit
            go_wp2_with fail
            refine (unhide hf3).mono ?_
            clear hf3
            rintro e w4 ⟨rfl, q4⟩
            have Q4 := hide (Quiet.trans (unhide Q3) q4)
            have c54 := Quiet.cell q4 c5
            have c34 := Quiet.cell q4 c3
            have a04 := Quiet.cell q4 ca0
            have a14 := Quiet.cell q4 ca1
            have a24 := Quiet.cell q4 ca2
            have hm4 := hide (unhide hmk w4)
            clear q4 rt hsame c5 ca0 ca1 ca2 co1 cg0 rj ct0 c4 c3 Q3 hmk
            have two : (hdv = false) ∨ (hdv = true ∧ agv = true) := by
              cases hdv
              · exact .inl rfl
              · right
                refine ⟨rfl, ?_⟩
                cases agv
                · exact absurd hr (by decide)
                · rfl
            rcases two with rfl | ⟨rfl, rfl⟩
            all_goals
              go_wp2_with fail
              refine (unhide hm4).mono ?_
              clear hm4 c54 c34
              rintro e w5 ⟨rfl, q5⟩
              have Q5 := hide (Quiet.trans (unhide Q4) q5)
              have a05 := Quiet.cell q5 a04
              have a15 := Quiet.cell q5 a14
              have a25 := Quiet.cell q5 a24
              clear q5 Q4 a04 a14 a24
              have noB : ∀ k, w.heap.size ≤ k → ¬ OH k := fun k hk h => by have := (unhide RH).2.2.2 k h; omega
              have noT : ¬ (w.heap.size + 1 = g ∨ vt.ownBlock = some (w.heap.size + 1)) := fun h => noB (w.heap.size + 1) (by omega) ((unhide RH).2.1 _ (by rcases h with h | h; exact .inl h; exact .inr (.inr (.inl h))))
              have noS : ¬ (w.heap.size + 1 = g ∨ vs.ownBlock = some (w.heap.size + 1)) := fun h => noB (w.heap.size + 1) (by omega) ((unhide RH).2.1 _ (by rcases h with h | h; exact .inl h; exact .inr (.inr (.inr h))))
              have H5 := ((unhide RH).1.quiet (unhide Q5)).toK
              have hG5 := H5.b.lt
              have cT : w5.cell? ⟨g, 1, none⟩ = some (Value.slice (some ⟨bt, 0, none⟩) (m + 1) ct) := by rw [← (unhide nH).2.2.2.1]; exact H5.b.cell 1
              have rt5 : Row w5 9 1 (Value.slice (some ⟨bt, 0, none⟩) (m + 1) ct) (m + 1) (σ.ts.map txV) := by
                have h := H5.rt
                rwa [List.length_map, show σ.ts.length = (m + 1) from (unhide nH).2.1, show vt = (Value.slice (some ⟨bt, 0, none⟩) (m + 1) ct) from (unhide nH).2.2.2.1] at h
              have H5H := hide H5
              clear H5
              obtain ⟨i9, hi9, hy0, hy1, hy2⟩ := info_parts info9
              go_wp2_with (at_builtin; refine wpList_append_row rfl (.tmp 96) (.tmp 98) 30 rfl 9 i9 _ 1 16 und30 hi9 hy0 hy1 hy2 rfl (by omega) (Value.slice (some ⟨bt, 0, none⟩) (m + 1) ct) (m + 1) (σ.ts.map txV) rfl (rt5.quiet ((Chg.refl _ _).alloc _)) ⟨w5.heap.size, 0, none⟩ 1 1 [.string tl] rfl rfl (news_new _ _ _) (one_str _) (by omega) (by unfold maxLen; omega) (by omega) _ rfl ?_)
              intro b3 cap3 w6 row6 hch6 hat6 hlt6
              have H5 := unhide H5H
              have hvt : (Value.slice (some ⟨bt, 0, none⟩) (m + 1) ct).ownBlock ≠ some g := by rw [← show vt = (Value.slice (some ⟨bt, 0, none⟩) (m + 1) ct) from (unhide nH).2.2.2.1]; exact H5.gt
              have b6 := hch6.blk (H5.b.alloc _) hvt
              have hb3 : b3 ≠ g := fun e => by
                rcases hat6 with h | h
                · exact hvt (by rw [h, e])
                · first | omega | (simp at h; omega)
              have c7 : Chg (fun k => k = g ∨ vt.ownBlock = some k) w5 (w6.setCell ⟨g, 1, none⟩ (.slice (some ⟨b3, 0, none⟩) ((m + 1) + 1) cap3)) := ((((Chg.refl _ w5).alloc _)).trans (hch6.mono (fun k _ h => .inr (by rw [show vt = (Value.slice (some ⟨bt, 0, none⟩) (m + 1) ct) from (unhide nH).2.2.2.1]; exact h)))).setCell (.inl (.inl rfl)) _
              have b7 : Blk (w6.setCell ⟨g, 1, none⟩ (.slice (some ⟨b3, 0, none⟩) ((m + 1) + 1) cap3)) g 35 [vb, (.slice (some ⟨b3, 0, none⟩) ((m + 1) + 1) cap3), vs, .string (str (secT σ)), .bool σ.bg, .bool σ.hd] := b6.set 1 _
              have r7 : Row (w6.setCell ⟨g, 1, none⟩ (.slice (some ⟨b3, 0, none⟩) ((m + 1) + 1) cap3)) 9 1 (.slice (some ⟨b3, 0, none⟩) ((m + 1) + 1) cap3) (σ.ts.map txV ++ [Value.string tl]).length (σ.ts.map txV ++ [Value.string tl]) := by
                have h := row6.of_chg ((Chg.refl (fun x => x = g) w6).setCell (p := ⟨g, 1, none⟩) (.inl rfl) (.slice (some ⟨b3, 0, none⟩) ((m + 1) + 1) cap3)) (fun x hx e => by simp [Value.ownBlock] at hx; exact hb3 (by rw [hx, e]))
                rw [List.length_append, List.length_map, show σ.ts.length = (m + 1) from (unhide nH).2.1]
                exact h
              have hg3 : vt.ownBlock = some b3 ∨ w5.heap.size ≤ b3 := by
                rcases hat6 with h | h
                · left; rw [show vt = (Value.slice (some ⟨bt, 0, none⟩) (m + 1) ct) from (unhide nH).2.2.2.1]; exact h
                · right; first | omega | (simp at h; omega)
              have a07 := Chg.cell c7 a05 noT
              have a17 := Chg.cell c7 a15 noT
              have a27 := Chg.cell c7 a25 noT
              have H7 := H5.tries c7 b7 r7 hg3
              have C7 : Hid (Chg OH w (w6.setCell ⟨g, 1, none⟩ (.slice (some ⟨b3, 0, none⟩) ((m + 1) + 1) cap3))) := Chg.trans' ((unhide Q5).chg OH) c7 (fun k _ h => (unhide RH).2.1 k (by rcases h with h | h; exact .inl h; exact .inr (.inr (.inl h))))
              have hg3H : Hid (vt.ownBlock = some b3 ∨ w.heap.size ≤ b3) := by
                rcases hg3 with h | h
                · exact .inl h
                · right; have := (unhide Q5).size; omega
              have cT6 : w6.cell? ⟨g, 1, none⟩ = some (Value.slice (some ⟨bt, 0, none⟩) (m + 1) ct) := by rw [b6.cell 1]; show some vt = _; rw [show vt = (Value.slice (some ⟨bt, 0, none⟩) (m + 1) ct) from (unhide nH).2.2.2.1]
              have fT6 := b6.frozen 1
              obtain ⟨W7, hW7⟩ : ∃ W, w6.setCell ⟨g, 1, none⟩ (.slice (some ⟨b3, 0, none⟩) ((m + 1) + 1) cap3) = W := ⟨_, rfl⟩
              rw [hW7] at H7 C7 a07 a17 a27
              have cS : W7.cell? ⟨g, 2, none⟩ = some (.slice xs (m + 1) cs) := by rw [← (unhide nH).2.2.2.2]; exact H7.b.cell 2
              have rs7 : Row W7 9 1 (.slice xs (m + 1) cs) (m + 1) (shownV σ) := by
                have h := H7.rs
                rwa [show (shownV σ).length = (m + 1) by rw [show (shownV σ).length = σ.ts.length by simp [shownV]]; exact (unhide nH).2.1, (unhide nH).2.2.2.2] at h
              have hG7 := H7.b.lt
              have H7H := hide H7
              clear H5 H5H H7 rt5 row6 hch6 hat6 hlt6 b6 b7 r7 c7 hg3 hb3 hvt cT
              go_wp2_with (at_builtin; refine wpList_append_row rfl (.tmp 106) (.tmp 108) 30 rfl 9 i9 _ 1 16 und30 hi9 hy0 hy1 hy2 rfl (by omega) (.slice xs (m + 1) cs) (m + 1) (shownV σ) rfl (rs7.quiet ((Chg.refl _ _).alloc _)) ⟨W7.heap.size, 0, none⟩ 1 1 [.string MM] rfl rfl (news_new _ _ _) (one_str _) (by omega) (by unfold maxLen; omega) (by omega) _ rfl ?_)
              intro b5 cap5 w8 row8 hch8 hat8 hlt8
              have H7 := unhide H7H
              have hvs : (Value.slice xs (m + 1) cs).ownBlock ≠ some g := by rw [← (unhide nH).2.2.2.2]; exact H7.gs
              have b8 := hch8.blk (H7.b.alloc _) hvs
              have hb5 : b5 ≠ g := fun e => by
                rcases hat8 with h | h
                · exact hvs (by rw [h, e])
                · first | omega | (simp at h; omega)
              have c9 : Chg (fun k => k = g ∨ vs.ownBlock = some k) W7 (w8.setCell ⟨g, 2, none⟩ (.slice (some ⟨b5, 0, none⟩) ((m + 1) + 1) cap5)) := ((((Chg.refl _ W7).alloc _)).trans (hch8.mono (fun k _ h => .inr (by rw [(unhide nH).2.2.2.2]; exact h)))).setCell (.inl (.inl rfl)) _
              have b9 : Blk (w8.setCell ⟨g, 2, none⟩ (.slice (some ⟨b5, 0, none⟩) ((m + 1) + 1) cap5)) g 35 [vb, (.slice (some ⟨b3, 0, none⟩) ((m + 1) + 1) cap3), (.slice (some ⟨b5, 0, none⟩) ((m + 1) + 1) cap5), .string (str (secT σ)), .bool σ.bg, .bool σ.hd] := b8.set 2 _
              have r9 : Row (w8.setCell ⟨g, 2, none⟩ (.slice (some ⟨b5, 0, none⟩) ((m + 1) + 1) cap5)) 9 1 (.slice (some ⟨b5, 0, none⟩) ((m + 1) + 1) cap5) (shownV σ ++ [Value.string MM]).length (shownV σ ++ [Value.string MM]) := by
                have h := row8.of_chg ((Chg.refl (fun x => x = g) w8).setCell (p := ⟨g, 2, none⟩) (.inl rfl) (.slice (some ⟨b5, 0, none⟩) ((m + 1) + 1) cap5)) (fun x hx e => by simp [Value.ownBlock] at hx; exact hb5 (by rw [hx, e]))
                rw [List.length_append, show (shownV σ).length = (m + 1) by rw [show (shownV σ).length = σ.ts.length by simp [shownV]]; exact (unhide nH).2.1]
                exact h
              have hg5 : vs.ownBlock = some b5 ∨ W7.heap.size ≤ b5 := by
                rcases hat8 with h | h
                · left; rw [(unhide nH).2.2.2.2]; exact h
                · right; first | omega | (simp at h; omega)
              have a09 := Chg.cell c9 a07 noS
              have a19 := Chg.cell c9 a17 noS
              have a29 := Chg.cell c9 a27 noS
              have H9 := H7.marks c9 b9 r9 hg5
              have C9 : Chg OH w (w8.setCell ⟨g, 2, none⟩ (.slice (some ⟨b5, 0, none⟩) ((m + 1) + 1) cap5)) := Chg.trans' (unhide C7) c9 (fun k _ h => (unhide RH).2.1 k (by rcases h with h | h; exact .inl h; exact .inr (.inr (.inr h))))
              have hg5H : Hid (vs.ownBlock = some b5 ∨ w.heap.size ≤ b5) := by
                rcases hg5 with h | h
                · exact .inl h
                · right; have := (unhide C7).size; omega
              have cS8 : w8.cell? ⟨g, 2, none⟩ = some (.slice xs (m + 1) cs) := by rw [b8.cell 2]; show some vs = _; rw [(unhide nH).2.2.2.2]
              have fS8 := b8.frozen 2
              obtain ⟨W9, hW9⟩ : ∃ W, w8.setCell ⟨g, 2, none⟩ (.slice (some ⟨b5, 0, none⟩) ((m + 1) + 1) cap5) = W := ⟨_, rfl⟩
              rw [hW9] at H9 C9 a09 a19 a29
              have c39 : W9.cell? ⟨g, 3, none⟩ = some (.string ss) := by rw [← (unhide tH).2]; exact H9.b.cell 3
              have fin : Hid (∀ n e, e = .returned (.bool true) → HPost w OH g (guessP σ (j : Int)).2.2 e (W9.drewN n)) := by
                show ∀ n e, _
                intro n e he
                rw [unhide hpH]
                have h9 := H9.quiet ((Chg.refl (fun _ => False) W9).drewN n)
                rw [← (unhide tH).1, ← unhide hMMH] at h9
                exact kguess_fin (unhide RH).2.1 l h9 (C9.drewN n) (unhide hg3H) (unhide hg5H) e he
              have hMs : (MM.toList == MM.toList) = true := by simp
              obtain ⟨gr1, gr2⟩ := unhide hgr
              clear H7 H7H H9 C9 rs7 row8 hch8 hat8 hlt8 b8 b9 r9 c9 hg5 hb5 hvs cS a05 a15 a25 a07 a17 a27 noB noT noS hgr
              cases gr
              · have gr3 : ¬ MM.toList = [103, 103, 103, 103, 103] := by simpa using gr1
                go_wp2
                go_quiet (fail)
                have F := unhide fin nq
                go_wp2
                go_ret
                exact F _ rfl
              · have gr3 : MM.toList = [103, 103, 103, 103, 103] := by simpa using gr1
                go_wp2
                go_quiet (fail)
                have F := unhide fin nq
                go_wp2
                go_ret
                exact F _ rfl
        exact key _ _ rfl rfl
end Go.Proofs.Qxb6500370a
