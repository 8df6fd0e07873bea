/-
  367 Keeps: Start.
-/
import Derived.Test.Qxb6500367aKSight
import Derived.Test.Qxb6500367aBuild
import Derived.Test.Qxb6500367aKCnt
namespace Go.Proofs.Qxb6500367a
open Go.RowKit Go.Qx
set_option linter.unusedSimpArgs false
set_option linter.unusedVariables false

theorem info80 : (Try.prog.info? 80).map (fun i => (i.zero, i.size, i.bytes)) = some (some (.agg #[.int .i64 0, .int .i64 0, .int .i64 0, .int .i64 0]), 4, 32) := by kernel_rfl

/-- A world in the making: nn nodes, nx pointers, ng minds. -/
structure SR (B : Nat) (w : World) (g : Nat) (vX vG : Value) (P : Nat → Nat × Nat × Nat) (N : Nat → Nd) (nn nx ng : Nat) : Prop where
  blk : Blk w g 52 [vX, .slice none 0 0, vG]
  rX : Row w 25 1 vX nx (xsP P nx)
  rG : Row w 80 4 vG ng (gcells N ng)
  gx : vX.ownBlock ≠ some g
  gg : vG.ownBlock ≠ some g
  xg : ∀ b, vX.ownBlock = some b → vG.ownBlock ≠ some b
  rep : ∀ i, i < nn → Rep w (P i).1 (P i).2.1 (P i).2.2 (N i)
  dis : ∀ i j, i < nn → j < nn → i ≠ j → ∀ k, ownP P i k → ¬ ownP P j k
  dg : ∀ i, i < nn → ∀ k, ownP P i k → k ≠ g ∧ vX.ownBlock ≠ some k ∧ vG.ownBlock ≠ some k
  lg : B ≤ g
  lx : ∀ k, vX.ownBlock = some k → B ≤ k
  lm : ∀ k, vG.ownBlock = some k → B ≤ k
  ln : ∀ i, i < nn → ∀ k, ownP P i k → B ≤ k

def upP (P : Nat → Nat × Nat × Nat) (j : Nat) (t : Nat × Nat × Nat) : Nat → Nat × Nat × Nat := fun i => if i = j then t else P i
theorem upP_at (P : Nat → Nat × Nat × Nat) (j : Nat) (t : Nat × Nat × Nat) : upP P j t j = t := by simp [upP]
theorem upP_ne {P : Nat → Nat × Nat × Nat} {j : Nat} {t : Nat × Nat × Nat} {i : Nat} (h : i ≠ j) : upP P j t i = P i := by simp [upP, h]

section
variable {B : Nat} {w w' : World} {g : Nat} {vX vG : Value} {P : Nat → Nat × Nat × Nat} {N : Nat → Nd} {nn nx ng : Nat}

theorem SR.quiet (h : SR B w g vX vG P N nn nx ng) (q : Quiet w w') : SR B w' g vX vG P N nn nx ng :=
  { h with blk := q.blk h.blk, rX := h.rX.quiet q, rG := h.rG.quiet q, rep := fun i hi => (h.rep i hi).quiet q }

theorem SR.olt (h : SR B w g vX vG P N nn nx ng) {i k : Nat} (hi : i < nn) (hk : ownP P i k) : k < w.heap.size := by
  obtain ⟨z1, z2, z3⟩ := (h.rep i hi).lts
  rcases hk with e | e | e <;> omega

/-- A node more. -/
theorem SR.node (h : SR B w g vX vG P N nn nx ng) (hx : nx ≤ nn) (q : Quiet w w') {x a b : Nat} (r : Rep w' x a b (N nn)) (ho : ∀ k, own x a b k → w.heap.size ≤ k) (hB : B ≤ w.heap.size) : SR B w' g vX vG (upP P nn (x, a, b)) N (nn + 1) nx ng := by
  have h0 := h.quiet q
  have hP : ∀ i, i < nn → upP P nn (x, a, b) i = P i := fun i hi => upP_ne (by omega)
  have hN : upP P nn (x, a, b) nn = (x, a, b) := upP_at _ _ _
  have own_old : ∀ i, i < nn → ∀ k, ownP (upP P nn (x, a, b)) i k → ownP P i k := fun i hi k hk => by unfold ownP at hk ⊢; rw [hP i hi] at hk; exact hk
  have own_new : ∀ k, ownP (upP P nn (x, a, b)) nn k → w.heap.size ≤ k := fun k hk => by unfold ownP at hk; rw [hN] at hk; exact ho k hk
  refine ⟨h0.blk, ?_, h0.rG, h.gx, h.gg, h.xg, ?_, ?_, ?_, h.lg, h.lx, h.lm, ?_⟩
  · rw [xsP_congr (P' := P) (fun i hi => hP i (by omega))]; exact h0.rX
  · intro i hi
    by_cases e : i = nn
    · subst e; rw [hN]; exact r
    · rw [hP i (by omega)]; exact h0.rep i (by omega)
  · intro i j hi hj hne k hk hk2
    by_cases e : i = nn
    · subst e
      have := own_new k hk
      have := h.olt (by omega) (own_old j (by omega) k hk2)
      omega
    · by_cases e2 : j = nn
      · subst e2
        have := own_new k hk2
        have := h.olt (by omega) (own_old i (by omega) k hk)
        omega
      · exact h.dis i j (by omega) (by omega) hne k (own_old i (by omega) k hk) (own_old j (by omega) k hk2)
  · intro i hi k hk
    by_cases e : i = nn
    · subst e
      have h1 := own_new k hk
      refine ⟨fun e => ?_, fun e => ?_, fun e => ?_⟩
      · have := h.blk.lt; omega
      · have := h.rX.lt e; omega
      · have := h.rG.lt e; omega
    · exact h.dg i (by omega) k (own_old i (by omega) k hk)
  · intro i hi k hk
    by_cases e : i = nn
    · subst e; have := own_new k hk; omega
    · exact h.ln i (by omega) k (own_old i (by omega) k hk)

theorem SR.turnX (h : SR B w g vX vG P N nn nx ng) {u : Value} {nx' : Nat} (hr : Row w' 25 1 u nx' (xsP P nx')) (c : Chg (fun k => vX.ownBlock = some k) w w') (hg : ∀ b, u.ownBlock = some b → vX.ownBlock = some b ∨ w.heap.size ≤ b) : SR B (w'.setCell ⟨g, 0, none⟩ u) g u vG P N nn nx' ng := by
  have hgl := h.blk.lt
  have c2 : Chg (fun x => x = g) w' (w'.setCell ⟨g, 0, none⟩ u) := Chg.setCell (S := fun x => x = g) (p := ⟨g, 0, none⟩) (Chg.refl _ w') (.inl rfl) u
  have hug : u.ownBlock ≠ some g := fun e => by
    rcases hg g e with h1 | h1
    · exact h.gx h1
    · omega
  refine ⟨(c.blk h.blk h.gx).set 0 u, hr.of_chg c2 (fun b hb e => hug (by rw [hb, e])), (h.rG.of_chg c (fun b hb hb2 => h.xg b hb2 hb)).of_chg c2 (fun b hb e => h.gg (by rw [hb, e])), hug, h.gg, ?_, ?_, h.dis, ?_, h.lg, ?_, h.lm, h.ln⟩
  · intro b hb hb2
    rcases hg b hb with h1 | h1
    · exact h.xg b h1 hb2
    · have := h.rG.lt hb2; omega
  · intro j hj
    exact ((h.rep j hj).of_chg c (fun k hk hk2 => (h.dg j hj k hk2).2.1 hk)).of_chg c2 (fun k hk hk2 => (h.dg j hj k hk2).1 hk)
  · intro i hi k hk
    refine ⟨(h.dg i hi k hk).1, fun e => ?_, (h.dg i hi k hk).2.2⟩
    rcases hg k e with h1 | h1
    · exact (h.dg i hi k hk).2.1 h1
    · have := h.olt hi hk; omega
  · intro k hk
    rcases hg k hk with h1 | h1
    · exact h.lx k h1
    · have := h.lg; omega

theorem SR.turnG (h : SR B w g vX vG P N nn nx ng) {u : Value} {ng' : Nat} (hr : Row w' 80 4 u ng' (gcells N ng')) (c : Chg (fun k => vG.ownBlock = some k) w w') (hg : ∀ b, u.ownBlock = some b → vG.ownBlock = some b ∨ w.heap.size ≤ b) : SR B (w'.setCell ⟨g, 2, none⟩ u) g vX u P N nn nx ng' := by
  have hgl := h.blk.lt
  have c2 : Chg (fun x => x = g) w' (w'.setCell ⟨g, 2, none⟩ u) := Chg.setCell (S := fun x => x = g) (p := ⟨g, 2, none⟩) (Chg.refl _ w') (.inl rfl) u
  have hug : u.ownBlock ≠ some g := fun e => by
    rcases hg g e with h1 | h1
    · exact h.gg h1
    · omega
  refine ⟨(c.blk h.blk h.gg).set 2 u, (h.rX.of_chg c (fun b hb hb2 => h.xg b hb hb2)).of_chg c2 (fun b hb e => h.gx (by rw [hb, e])), hr.of_chg c2 (fun b hb e => hug (by rw [hb, e])), h.gx, hug, ?_, ?_, h.dis, ?_, h.lg, h.lx, ?_, h.ln⟩
  · intro b hb hb2
    rcases hg b hb2 with h1 | h1
    · exact h.xg b hb h1
    · have := h.rX.lt hb; omega
  · intro j hj
    exact ((h.rep j hj).of_chg c (fun k hk hk2 => (h.dg j hj k hk2).2.2 hk)).of_chg c2 (fun k hk hk2 => (h.dg j hj k hk2).1 hk)
  · intro i hi k hk
    refine ⟨(h.dg i hi k hk).1, (h.dg i hi k hk).2.1, fun e => ?_⟩
    rcases hg k e with h1 | h1
    · exact (h.dg i hi k hk).2.2 h1
    · have := h.olt hi hk; omega
  · intro k hk
    rcases hg k hk with h1 | h1
    · exact h.lm k h1
    · have := h.lg; omega

theorem SR.done {n : Nat} (h : SR B w g vX vG P N n n n) : KS B w g vX (.slice none 0 0) vG n P N N [] := by
  refine ⟨⟨h.blk, h.rX, Row.nil _ _ _, h.rG, h.gx, by simp [Value.ownBlock], h.gg, by simp [Value.ownBlock], h.xg, by simp [Value.ownBlock]⟩, h.rep, h.dis, ?_, ?_, h.ln⟩
  · intro i hi k hk hk2
    obtain ⟨h1, h2, h3⟩ := h.dg i hi k hk
    rcases hk2 with e | e | e | e
    · exact h1 e
    · exact h2 e
    · simp [Value.ownBlock] at e
    · exact h3 e
  · intro k hk
    rcases hk with e | e | e | e
    · rw [e]; exact h.lg
    · exact h.lx k e
    · simp [Value.ownBlock] at e
    · exact h.lm k e
end

/-- Start's loop: the world so far. -/
def startRel (w : World) (n j : Nat) (wr : World) : Prop :=
  Quiet w wr ∧ ∃ vX vG P, SR w.heap.size wr w.heap.size vX vG P (fun i => newP n i) j j j

def startPost (w : World) (n : Nat) (e : Ending) (w' : World) : Prop :=
  ∃ g vX vG P, e = .returned (ptr g) ∧ Quiet w w' ∧ KS w.heap.size w' g vX (.slice none 0 0) vG n P (fun i => newP n i) (fun i => newP n i) []

theorem gcells_new (n j : Nat) : gcells (fun i => newP n i) (j + 1) = gcells (fun i => newP n i) j ++ [.int .i64 0, .int .i64 0, .int .i64 0, .int .i64 0] := rfl

set_option maxRecDepth 100000 in
set_option maxHeartbeats 8000000 in
theorem start_any (w : World) (n : Nat) (h1 : 1 ≤ n) (h2 : n ≤ 4) (qu : Bool) : Calls Try.prog 22 #[.int .i64 n, .bool qu] w (startPost w n) := by
  have hst : startRel w n 0 (w.alloc (.cells #[.slice none 0 0, .slice none 0 0, .slice none 0 0] 52)) := by
    refine ⟨(Chg.refl _ _).alloc _, .slice none 0 0, .slice none 0 0, fun _ => (0, 0, 0), Blk.new _ _ _, Row.nil _ _ _, Row.nil _ _ _, ?_, ?_, ?_, ?_, ?_, ?_, ?_, ?_, ?_, ?_⟩
    all_goals simp [Value.ownBlock]
  have hstH := hide hst
  clear hst
  obtain ⟨i0, hi0, hz0, hz1, hz2⟩ := info_parts info25
  obtain ⟨j0, hj0, hy0, hy1, hy2⟩ := info_parts info80
  go_enter Try.func22, Try.ntmps22
  go_wp2
  go_loopw [6] (fun i wr => ∃ j : Nat, j ≤ n ∧ i = .int .i64 j ∧ startRel w n j wr) (fun i _ => 5 - (intOf i).toNat)
  case atStart => exact ⟨0, Nat.zero_le _, rfl, unhide hstH⟩
  case round =>
    clear hstH
    obtain ⟨j, hj, rfl, hq, vX, vG, P, F⟩ := hrel
    have k0 : (0 : Int) ≤ (j : Int) := by omega
    by_cases hlt : j < n
    · have k1 : (j : Int) < (n : Int) := by omega
      have k2 : (j : Int) < 4 := by omega
      have d1 : decide ((j : Int) < (n : Int)) = true := by simp; omega
      have d2 : decide ((j : Int) < 4) = true := by simp; omega
      have hnw := hide (new_ok wr n j h1 h2 hlt)
      unfold ptr at hnw
      have FH := hide F
      have hqH := hide hq
      clear F hq
      have w1j : IntKind.i64.wrap ((j : Int) + 1) = (j : Int) + 1 := by rw [IntKind.wrap_i64]; omega
      go_wp2_with fail
      refine (unhide hnw).mono ?_
      clear hnw
      rintro e w1 ⟨x, a, b, rfl, q1, ho1, r1⟩
      have F1 := hide ((unhide FH).node (Nat.le_refl _) q1 r1 ho1 (unhide hqH).size)
      have Q1 := hide (Quiet.trans (unhide hqH) q1)
      have hsh := hide (show_any w1 x a b _ r1 (inv_new n j h1 h2 hlt).shows)
      unfold ptr at hsh
      clear q1 ho1 r1 FH hqH
      cases qu with
      | true =>
        have FW := F1
        have QW := Q1
        clear F1 Q1 hsh
        obtain ⟨aX, capX, rfl⟩ := (unhide FW).rX.shape
        obtain ⟨aG, capG, rfl⟩ := (unhide FW).rG.shape
        have bl := (unhide FW).blk
        have hrX := (unhide FW).rX
        have c0 : w1.cell? ⟨w.heap.size, 0, none⟩ = some (.slice aX j capX) := bl.cell 0
        have f0 := bl.frozen 0
        have hwl := bl.lt
        clear bl
        generalize hxs : xsP (upP P j (x, a, b)) j = xs at hrX
        have hxsH := hide hxs
        clear hxs
        go_wp2_with (at_builtin; refine wpList_append_row rfl (.tmp 48) (.tmp 50) 49 rfl 25 i0 _ 1 8 Try.underlying49 hi0 hz0 hz1 hz2 rfl (by omega) (.slice aX j capX) j xs rfl (hrX.quiet ((Chg.refl _ _).alloc _)) ⟨w1.heap.size, 0, none⟩ 1 1 [ptr x] rfl rfl (news_new _ _ _) (one_ptr x) (by omega) (by unfold maxLen; omega) (by omega) _ rfl ?_)
        intro gx cap W hr hc hg hgl
        have F3 := ((unhide FW).quiet ((Chg.refl _ _).alloc (.cells #[.pointer (some ⟨x, 0, none⟩)] 25))).turnX (u := .slice (some ⟨gx, 0, none⟩) (j + 1) cap) (nx' := j + 1) (by
            rw [xsP_succ, upP_at, unhide hxsH]; exact hr) hc (by
          intro g' hg'
          have : gx = g' := by simpa [Value.ownBlock] using hg'
          subst this
          rcases hg with h | h
          · exact .inl h
          · right; rw [World.size_alloc]; omega)
        have ch3 : Chg (fun k => w.heap.size ≤ k) w (W.setCell ⟨w.heap.size, 0, none⟩ (.slice (some ⟨gx, 0, none⟩) (j + 1) cap)) := by
          have e1 := (Quiet.chg (unhide QW) (fun k => w.heap.size ≤ k)).trans (((Chg.refl _ _).alloc (.cells #[.pointer (some ⟨x, 0, none⟩)] 25)))
          exact (e1.trans (hc.mono (fun k _ hk => (unhide FW).lx k hk))).setCell (.inl (Nat.le_refl _)) _
        have bW := hc.blk ((unhide FW).blk.alloc (.cells #[.pointer (some ⟨x, 0, none⟩)] 25)) (unhide FW).gx
        have y0 : W.cell? ⟨w.heap.size, 0, none⟩ = some (.slice aX j capX) := bW.cell 0
        have fy0 := bW.frozen 0
        have y2 : W.cell? ⟨w.heap.size, 2, none⟩ = some (.slice aG j capG) := bW.cell 2
        have fy2 := bW.frozen 2
        have F3H := hide F3
        have ch3H := hide ch3
        have hrG := F3.rG
        clear hc hr hg hgl hrX FW F3 ch3 QW c0 f0 bW hxsH
        generalize hgs : gcells (fun i => newP n i) j = gs at hrG
        have hgsH := hide hgs
        clear hgs
        go_wp2_with (at_builtin; refine wpList_append_row rfl (.tmp 58) (.tmp 60) 50 rfl 80 j0 _ 4 32 Try.underlying50 hj0 hy0 hy1 hy2 rfl (by omega) (.slice aG j capG) j gs rfl (hrG.quiet ((Chg.refl _ _).alloc _)) ⟨W.heap.size, 0, none⟩ 1 1 [.int .i64 0, .int .i64 0, .int .i64 0, .int .i64 0] rfl rfl (news_at _ _ _ _ (by simp)) (one_ints [0, 0, 0, 0]) (by omega) (by unfold maxLen; omega) (by omega) _ rfl ?_)
        intro gx2 cap2 V hr hc hg hgl
        have F4 := ((unhide F3H).quiet ((Chg.refl _ _).alloc (.cells #[.int .i64 0, .int .i64 0, .int .i64 0, .int .i64 0] 80))).turnG (u := .slice (some ⟨gx2, 0, none⟩) (j + 1) cap2) (ng' := j + 1) (by
            rw [gcells_new, unhide hgsH]; exact hr) hc (by
          intro g' hg'
          have : gx2 = g' := by simpa [Value.ownBlock] using hg'
          subst this
          rcases hg with h | h
          · exact .inl h
          · right; rw [World.size_alloc]; simp at h ⊢; omega)
        have ch4 : Chg (fun k => w.heap.size ≤ k) w (V.setCell ⟨w.heap.size, 2, none⟩ (.slice (some ⟨gx2, 0, none⟩) (j + 1) cap2)) := by
          have e1 := (unhide ch3H).trans (((Chg.refl _ _).alloc (.cells #[.int .i64 0, .int .i64 0, .int .i64 0, .int .i64 0] 80)))
          exact (e1.trans (hc.mono (fun k _ hk => (unhide F3H).lm k hk))).setCell (.inl (Nat.le_refl _)) _
        have bV := hc.blk ((unhide F3H).blk.alloc (.cells #[.int .i64 0, .int .i64 0, .int .i64 0, .int .i64 0] 80)) (unhide F3H).gg
        have z2 : V.cell? ⟨w.heap.size, 2, none⟩ = some (.slice aG j capG) := bV.cell 2
        have fz2 := bV.frozen 2
        have hrel : startRel w n (j + 1) (V.setCell ⟨w.heap.size, 2, none⟩ (.slice (some ⟨gx2, 0, none⟩) (j + 1) cap2)) :=
          ⟨ch4.mono (fun k hk h => by omega), _, _, _, F4⟩
        have hrelH := hide hrel
        clear hc hr hg hgl hrG F3H F4 ch3H ch4 hrel y0 fy0 y2 fy2 bV hgsH
        go_wp2
        go_roundw
        case rel => exact ⟨j + 1, by omega, by go_num, unhide hrelH⟩
        case measure => simp [intOf]; omega
      | false =>
        go_wp2_with fail
        refine (unhide hsh).mono ?_
        clear hsh
        rintro e w2 ⟨rfl, q2⟩
        have hbk := hide (blank_any w2 n j h2 hlt)
        have F2 := hide ((unhide F1).quiet q2)
        have Q2 := hide (Quiet.trans (unhide Q1) q2)
        clear q2 F1 Q1
        generalize showP (newP n j) = L at *
        go_wp2_with fail
        refine (unhide hbk).mono ?_
        clear hbk
        rintro e w3 ⟨rfl, q3⟩
        have FW := hide ((unhide F2).quiet q3)
        have QW := hide (Quiet.trans (unhide Q2) q3)
        clear q3 F2 Q2
        obtain ⟨aX, capX, rfl⟩ := (unhide FW).rX.shape
        obtain ⟨aG, capG, rfl⟩ := (unhide FW).rG.shape
        have bl := (unhide FW).blk
        have hrX := (unhide FW).rX
        have c0 : w3.cell? ⟨w.heap.size, 0, none⟩ = some (.slice aX j capX) := bl.cell 0
        have f0 := bl.frozen 0
        have hwl := bl.lt
        clear bl
        generalize hxs : xsP (upP P j (x, a, b)) j = xs at hrX
        have hxsH := hide hxs
        clear hxs
        go_wp2_with (at_builtin; refine wpList_append_row rfl (.tmp 48) (.tmp 50) 49 rfl 25 i0 _ 1 8 Try.underlying49 hi0 hz0 hz1 hz2 rfl (by omega) (.slice aX j capX) j xs rfl (hrX.quiet ((Chg.refl _ _).alloc _)) ⟨w3.heap.size, 0, none⟩ 1 1 [ptr x] rfl rfl (news_new _ _ _) (one_ptr x) (by omega) (by unfold maxLen; omega) (by omega) _ rfl ?_)
        intro gx cap W hr hc hg hgl
        have F3 := ((unhide FW).quiet ((Chg.refl _ _).alloc (.cells #[.pointer (some ⟨x, 0, none⟩)] 25))).turnX (u := .slice (some ⟨gx, 0, none⟩) (j + 1) cap) (nx' := j + 1) (by
            rw [xsP_succ, upP_at, unhide hxsH]; exact hr) hc (by
          intro g' hg'
          have : gx = g' := by simpa [Value.ownBlock] using hg'
          subst this
          rcases hg with h | h
          · exact .inl h
          · right; rw [World.size_alloc]; omega)
        have ch3 : Chg (fun k => w.heap.size ≤ k) w (W.setCell ⟨w.heap.size, 0, none⟩ (.slice (some ⟨gx, 0, none⟩) (j + 1) cap)) := by
          have e1 := (Quiet.chg (unhide QW) (fun k => w.heap.size ≤ k)).trans (((Chg.refl _ _).alloc (.cells #[.pointer (some ⟨x, 0, none⟩)] 25)))
          exact (e1.trans (hc.mono (fun k _ hk => (unhide FW).lx k hk))).setCell (.inl (Nat.le_refl _)) _
        have bW := hc.blk ((unhide FW).blk.alloc (.cells #[.pointer (some ⟨x, 0, none⟩)] 25)) (unhide FW).gx
        have y0 : W.cell? ⟨w.heap.size, 0, none⟩ = some (.slice aX j capX) := bW.cell 0
        have fy0 := bW.frozen 0
        have y2 : W.cell? ⟨w.heap.size, 2, none⟩ = some (.slice aG j capG) := bW.cell 2
        have fy2 := bW.frozen 2
        have F3H := hide F3
        have ch3H := hide ch3
        have hrG := F3.rG
        clear hc hr hg hgl hrX FW F3 ch3 QW c0 f0 bW hxsH
        generalize hgs : gcells (fun i => newP n i) j = gs at hrG
        have hgsH := hide hgs
        clear hgs
        go_wp2_with (at_builtin; refine wpList_append_row rfl (.tmp 58) (.tmp 60) 50 rfl 80 j0 _ 4 32 Try.underlying50 hj0 hy0 hy1 hy2 rfl (by omega) (.slice aG j capG) j gs rfl (hrG.quiet ((Chg.refl _ _).alloc _)) ⟨W.heap.size, 0, none⟩ 1 1 [.int .i64 0, .int .i64 0, .int .i64 0, .int .i64 0] rfl rfl (news_at _ _ _ _ (by simp)) (one_ints [0, 0, 0, 0]) (by omega) (by unfold maxLen; omega) (by omega) _ rfl ?_)
        intro gx2 cap2 V hr hc hg hgl
        have F4 := ((unhide F3H).quiet ((Chg.refl _ _).alloc (.cells #[.int .i64 0, .int .i64 0, .int .i64 0, .int .i64 0] 80))).turnG (u := .slice (some ⟨gx2, 0, none⟩) (j + 1) cap2) (ng' := j + 1) (by
            rw [gcells_new, unhide hgsH]; exact hr) hc (by
          intro g' hg'
          have : gx2 = g' := by simpa [Value.ownBlock] using hg'
          subst this
          rcases hg with h | h
          · exact .inl h
          · right; rw [World.size_alloc]; simp at h ⊢; omega)
        have ch4 : Chg (fun k => w.heap.size ≤ k) w (V.setCell ⟨w.heap.size, 2, none⟩ (.slice (some ⟨gx2, 0, none⟩) (j + 1) cap2)) := by
          have e1 := (unhide ch3H).trans (((Chg.refl _ _).alloc (.cells #[.int .i64 0, .int .i64 0, .int .i64 0, .int .i64 0] 80)))
          exact (e1.trans (hc.mono (fun k _ hk => (unhide F3H).lm k hk))).setCell (.inl (Nat.le_refl _)) _
        have bV := hc.blk ((unhide F3H).blk.alloc (.cells #[.int .i64 0, .int .i64 0, .int .i64 0, .int .i64 0] 80)) (unhide F3H).gg
        have z2 : V.cell? ⟨w.heap.size, 2, none⟩ = some (.slice aG j capG) := bV.cell 2
        have fz2 := bV.frozen 2
        have hrel : startRel w n (j + 1) (V.setCell ⟨w.heap.size, 2, none⟩ (.slice (some ⟨gx2, 0, none⟩) (j + 1) cap2)) :=
          ⟨ch4.mono (fun k hk h => by omega), _, _, _, F4⟩
        have hrelH := hide hrel
        clear hc hr hg hgl hrG F3H F4 ch3H ch4 hrel y0 fy0 y2 fy2 bV hgsH
        go_wp2
        go_roundw
        case rel => exact ⟨j + 1, by omega, by go_num, unhide hrelH⟩
        case measure => simp [intOf]; omega
    · have k1 : ¬ (j : Int) < (n : Int) := by omega
      have d1 : decide ((j : Int) < (n : Int)) = false := by simp; omega
      obtain rfl : j = n := by omega
      go_wp2
      go_ret
      exact ⟨_, vX, vG, P, rfl, hq, F.done⟩
end Go.Proofs.Qxb6500367a
