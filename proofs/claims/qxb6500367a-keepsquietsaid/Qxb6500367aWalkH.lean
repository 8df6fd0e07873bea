/-
  The walk's states.
-/
import Derived.Test.Qxb6500367aBuild
import Derived.Deep.DeepCutAuto
namespace Go.Proofs.Qxb6500367a
open Go.RowKit Go.Qx
set_option linter.unusedSimpArgs false
set_option linter.unusedVariables false

/-- A script in memory. -/
structure IsOps (w : World) (a : Option Addr) (len cap : Nat) (ops : List Opr) : Prop where
  count : ops.length = len
  small : len ≤ 9223372036854775807
  cells : ∀ i (h : i < ops.length), ∃ b o, a = some ⟨b, o, none⟩ ∧ b < w.heap.size ∧
    w.cell? ⟨b, o + i * 6, none⟩ = some (.int .i64 ops[i].k) ∧ w.cell? ⟨b, o + i * 6 + 1, none⟩ = some (.int .i64 ops[i].a) ∧ w.cell? ⟨b, o + i * 6 + 2, none⟩ = some (.int .i64 ops[i].b) ∧
    w.cell? ⟨b, o + i * 6 + 3, none⟩ = some (.int .i64 ops[i].c) ∧ w.cell? ⟨b, o + i * 6 + 4, none⟩ = some (.string ops[i].s) ∧ w.cell? ⟨b, o + i * 6 + 5, none⟩ = some (.string ops[i].t)

/-- The walk's state: the law's world at u. -/
def Run (W : World) (u : Value) (wr : World) : Prop := ∃ v L, u = ptr v ∧ Wd W.heap.size wr v L ∧ L.length ≤ 4 ∧ Chg (fun k => W.heap.size ≤ k) W wr

theorem Run.quiet {W : World} {u : Value} {w w' : World} (h : Run W u w) (q : Quiet w w') : Run W u w' := by
  obtain ⟨v, L, h1, h2, h3, h4⟩ := h
  exact ⟨v, L, h1, h2.quiet q, h3, h4.trans (q.chg _)⟩

/-- The law's world, O being no block of it. -/
def WdO (B O : Nat) (w : World) (v : Nat) (L : List NP) : Prop := ∃ vX vM vW nW, Fr B w v vX (pxs L) vM (pms L) vW nW L ∧ v ≠ O ∧ vX.ownBlock ≠ some O ∧ vM.ownBlock ≠ some O ∧ vW.ownBlock ≠ some O ∧ ∀ p ∈ L, ¬ p.own O

theorem Wd.off {B : Nat} {w w' : World} {v : Nat} {L : List NP} (h : Wd B w v L) (q : Quiet w w') : WdO B w.heap.size w' v L := by
  obtain ⟨vX, vM, vW, nW, F⟩ := h
  refine ⟨vX, vM, vW, nW, F.quiet q, ?_, ?_, ?_, ?_, ?_⟩
  · have := F.blk.lt; omega
  · intro h; have := F.rx.lt h; omega
  · intro h; have := F.rm.lt h; omega
  · intro h; have := F.wi.lt h; omega
  · intro p hp h; have := F.plt hp h; omega

theorem Fr.low {B B' : Nat} {w : World} {v : Nat} {vX : Value} {X : List Value} {vM : Value} {M : List Value} {vW : Value} {nW : Nat} {L : List NP} (h : Fr B w v vX X vM M vW nW L) (hB : B' ≤ B) : Fr B' w v vX X vM M vW nW L :=
  { h with lv := Nat.le_trans hB h.lv, lx := fun k hk => Nat.le_trans hB (h.lx k hk), lm := fun k hk => Nat.le_trans hB (h.lm k hk), lw := fun k hk => Nat.le_trans hB (h.lw k hk), lp := fun p hp k hk => Nat.le_trans hB (h.lp p hp k hk) }

theorem Wd.above {B B' O : Nat} {w : World} {v : Nat} {L : List NP} (h : Wd B w v L) (hB : B' ≤ B) (hO : O < B) : WdO B' O w v L := by
  obtain ⟨vX, vM, vW, nW, F⟩ := h
  refine ⟨vX, vM, vW, nW, F.low hB, ?_, ?_, ?_, ?_, ?_⟩
  · have := F.lv; omega
  · intro h; have := F.lx _ h; omega
  · intro h; have := F.lm _ h; omega
  · intro h; have := F.lw _ h; omega
  · intro p hp h; have := F.lp p hp _ h; omega

/-- Amid a round: the step lies at O. -/
def Mid (W : World) (O : Nat) (u : Value) (wx : World) : Prop :=
  ∃ v L k a b c S T, u = ptr v ∧ WdO W.heap.size O wx v L ∧ L.length ≤ 4 ∧ Chg (fun k => W.heap.size ≤ k) W wx ∧ W.heap.size ≤ O ∧ Blk wx O 44 [.int .i64 k, .int .i64 a, .int .i64 b, .int .i64 c, .string S, .string T]

theorem Mid.run {W : World} {O : Nat} {u : Value} {wx : World} (h : Mid W O u wx) : Run W u wx := by
  obtain ⟨v, L, k, a, b, c, S, T, h1, ⟨vX, vM, vW, nW, F, _⟩, h3, h4, _⟩ := h
  exact ⟨v, L, h1, ⟨vX, vM, vW, nW, F⟩, h3, h4⟩

theorem WdO.quiet {B O : Nat} {w w' : World} {v : Nat} {L : List NP} (h : WdO B O w v L) (q : Quiet w w') : WdO B O w' v L := by
  obtain ⟨vX, vM, vW, nW, F, r⟩ := h
  exact ⟨vX, vM, vW, nW, F.quiet q, r⟩

theorem Mid.quiet {W : World} {O : Nat} {u : Value} {w w' : World} (h : Mid W O u w) (q : Quiet w w') : Mid W O u w' := by
  obtain ⟨v, L, k, a, b, c, S, T, h1, h2, h3, h4, h5, h6⟩ := h
  exact ⟨v, L, k, a, b, c, S, T, h1, h2.quiet q, h3, h4.trans (q.chg _), h5, q.blk h6⟩

theorem Wire.shape {w : World} {v : Value} {n : Nat} (h : Wire w v n) : ∃ ao cap, v = .slice ao n cap := by
  obtain ⟨_, xs, h⟩ := h
  exact h.shape


theorem Fr.op {B O : Nat} {w w' : World} {v : Nat} {vX : Value} {X : List Value} {vM : Value} {M : List Value} {vW : Value} {nW : Nat} {L : List NP} (h : Fr B w v vX X vM M vW nW L) (c : Chg (fun k => k = O) w w')
    (o1 : v ≠ O) (o2 : vX.ownBlock ≠ some O) (o3 : vM.ownBlock ≠ some O) (o4 : vW.ownBlock ≠ some O) (o5 : ∀ p ∈ L, ¬ p.own O) : Fr B w' v vX X vM M vW nW L :=
  { h with
    blk := c.blk h.blk o1
    rx := h.rx.of_chg c (fun k hk e => o2 (by rw [hk, e]))
    rm := h.rm.of_chg c (fun k hk e => o3 (by rw [hk, e]))
    wi := h.wi.of_chg c (fun k hk e => o4 (by rw [hk, e]))
    ok := fun p hp => (h.ok p hp).of_chg c (fun k e => by rw [e]; exact o5 p hp) }

theorem mid_took {w wc w2 : World} {O v : Nat} {L : List NP} {vX vM vW : Value} {nW : Nat} (F : Fr w.heap.size wc v vX (pxs L) vM (pms L) vW nW L)
    (o1 : v ≠ O) (o2 : vX.ownBlock ≠ some O) (o3 : vM.ownBlock ≠ some O) (o4 : vW.ownBlock ≠ some O) (o5 : ∀ p ∈ L, ¬ p.own O) (hL4 : L.length ≤ 4) (hch : Chg (fun k => w.heap.size ≤ k) w wc) (hwO : w.heap.size ≤ O)
    (u : Value) (n' : Nat) (hw2 : Wire w2 u n') (hc2 : Chg (fun x => vW.ownBlock = some x) wc.drew w2) (ho2 : u.ownBlock = vW.ownBlock) (x0 x1 x2 x3 x4 x5 : Value) (bo : Blk w2 O 44 [x0, x1, x2, x3, x4, x5]) (k a b c : Int) :
    Mid w O (ptr v) (((((((w2.setCell ⟨v, 2, none⟩ u).setCell ⟨O, 0, none⟩ (.int .i64 k)).setCell ⟨O, 1, none⟩ (.int .i64 a)).setCell ⟨O, 2, none⟩ (.int .i64 b)).setCell ⟨O, 3, none⟩ (.int .i64 c)).setCell ⟨O, 4, none⟩ (.string ⟨#[]⟩)).setCell ⟨O, 5, none⟩ (.string ⟨#[]⟩)) := by
  have F2 := (F.quiet ((Chg.refl _ wc).drew)).turnW u n' hw2 hc2 (fun g h => .inl (by rw [← ho2]; exact h))
  have c3 : ∀ V, Chg (fun x => x = O) V ((((((V.setCell ⟨O, 0, none⟩ (.int .i64 k)).setCell ⟨O, 1, none⟩ (.int .i64 a)).setCell ⟨O, 2, none⟩ (.int .i64 b)).setCell ⟨O, 3, none⟩ (.int .i64 c)).setCell ⟨O, 4, none⟩ (.string ⟨#[]⟩)).setCell ⟨O, 5, none⟩ (.string ⟨#[]⟩)) := fun V =>
    ((((((Chg.refl (fun x => x = O) V).setCell (p := ⟨O, 0, none⟩) (.inl rfl) _).setCell (p := ⟨O, 1, none⟩) (.inl rfl) _).setCell (p := ⟨O, 2, none⟩) (.inl rfl) _).setCell (p := ⟨O, 3, none⟩) (.inl rfl) _).setCell (p := ⟨O, 4, none⟩) (.inl rfl) _).setCell (p := ⟨O, 5, none⟩) (.inl rfl) _
  have o4' : u.ownBlock ≠ some O := by rw [ho2]; exact o4
  have hch2 : Chg (fun k => w.heap.size ≤ k) w (w2.setCell ⟨v, 2, none⟩ u) := (hch.drew.trans (hc2.mono (fun k _ hk => F.lw k hk))).setCell (.inl F.lv) _
  refine ⟨v, L, k, a, b, c, ⟨#[]⟩, ⟨#[]⟩, rfl, ⟨vX, vM, u, n', F2.op (c3 _) o1 o2 o3 o4' o5, o1, o2, o3, o4', o5⟩, hL4, hch2.trans ((c3 _).mono (fun i _ e => by rw [e]; exact hwO)), hwO, ?_⟩
  exact ((((((bo.set_other (a := ⟨v, 2, none⟩) (Ne.symm o1) u).set 0 _).set 1 _).set 2 _).set 3 _).set 4 _).set 5 _

/-- Behind Do at node p: its answer lies at u. -/
def HalfR (wc : World) (p : NP) (s' : Nd) (X : An) (u : Value) (wx : World) : Prop :=
  ∃ A, u = .pointer (some ⟨A, 0, none⟩) ∧ wc.heap.size ≤ A ∧ Blk wx A 65 [.int .i64 X.e, .int .i64 X.n, .int .i64 X.m, .string X.s] ∧ Chg (own p.x p.a p.b) wc wx ∧ Rep wx p.x p.a p.b s'

/-- Behind DoM at node p. -/
def HalfM (wc : World) (p : NP) (s' : Nd) (X : An) (u : Value) (wx : World) : Prop :=
  ∃ A, u = .pointer (some ⟨A, 0, none⟩) ∧ wc.heap.size ≤ A ∧ Blk wx A 65 [.int .i64 X.e, .int .i64 X.n, .int .i64 X.m, .string X.s] ∧ Chg (ownM p.m p.c) wc wx ∧ RepM wx p.m p.c (modelOf s')

theorem halfR_of {wc w2 : World} {p : NP} {s' : Nd} {X : An} (hc : Chg (own p.x p.a p.b) wc.drew w2) (r : Rep w2 p.x p.a p.b s') :
    HalfR wc p s' X (.pointer (some ⟨w2.heap.size, 0, none⟩)) (w2.alloc (.cells #[.int .i64 X.e, .int .i64 X.n, .int .i64 X.m, .string X.s] 65)) :=
  ⟨_, rfl, hc.size, Blk.new _ _ _, Chg.alloc (Chg.trans ((Chg.refl _ wc).drew) hc) _, r.quiet ((Chg.refl _ _).alloc _)⟩

theorem halfM_of {wc w2 : World} {p : NP} {s' : Nd} {X : An} (hc : Chg (ownM p.m p.c) wc.drew w2) (r : RepM w2 p.m p.c (modelOf s')) :
    HalfM wc p s' X (.pointer (some ⟨w2.heap.size, 0, none⟩)) (w2.alloc (.cells #[.int .i64 X.e, .int .i64 X.n, .int .i64 X.m, .string X.s] 65)) :=
  ⟨_, rfl, hc.size, Blk.new _ _ _, Chg.alloc (Chg.trans ((Chg.refl _ wc).drew) hc) _, r.quiet ((Chg.refl _ _).alloc _)⟩

theorem late_blk {S : Nat → Prop} {wc w2 : World} (hS : ∀ k, S k → k < wc.heap.size) (hc : Chg S (wc.alloc (.cells #[.int .i64 0, .int .i64 0, .int .i64 0, .string ⟨#[]⟩] 65)).drew w2) : Blk w2 wc.heap.size 65 [.int .i64 0, .int .i64 0, .int .i64 0, .string ⟨#[]⟩] :=
  hc.blk (Blk.new wc 65 [.int .i64 0, .int .i64 0, .int .i64 0, .string ⟨#[]⟩]).drew (fun h => by have := hS _ h; omega)

theorem late_chg {S : Nat → Prop} {wc w2 : World} (hc : Chg S (wc.alloc (.cells #[.int .i64 0, .int .i64 0, .int .i64 0, .string ⟨#[]⟩] 65)).drew w2) (x0 x1 x2 x3 : Value) :
    Chg S wc ((((w2.setCell ⟨wc.heap.size, 0, none⟩ x0).setCell ⟨wc.heap.size, 1, none⟩ x1).setCell ⟨wc.heap.size, 2, none⟩ x2).setCell ⟨wc.heap.size, 3, none⟩ x3) :=
  (((((((Chg.refl S wc).alloc _).drew).trans hc).setCell (.inr (Nat.le_refl _)) _).setCell (.inr (Nat.le_refl _)) _).setCell (.inr (Nat.le_refl _)) _).setCell (.inr (Nat.le_refl _)) _

theorem late_one {wc w2 : World} (x0 x1 x2 x3 : Value) : Chg (fun k => k = wc.heap.size) w2 ((((w2.setCell ⟨wc.heap.size, 0, none⟩ x0).setCell ⟨wc.heap.size, 1, none⟩ x1).setCell ⟨wc.heap.size, 2, none⟩ x2).setCell ⟨wc.heap.size, 3, none⟩ x3) :=
  ((((Chg.refl (fun k => k = wc.heap.size) w2).setCell (p := ⟨wc.heap.size, 0, none⟩) (.inl rfl) _).setCell (p := ⟨wc.heap.size, 1, none⟩) (.inl rfl) _).setCell (p := ⟨wc.heap.size, 2, none⟩) (.inl rfl) _).setCell (p := ⟨wc.heap.size, 3, none⟩) (.inl rfl) _

theorem halfR_late {wc w2 : World} {p : NP} {s' : Nd} {X : An} (hS : ∀ k, own p.x p.a p.b k → k < wc.heap.size) (hc : Chg (own p.x p.a p.b) (wc.alloc (.cells #[.int .i64 0, .int .i64 0, .int .i64 0, .string ⟨#[]⟩] 65)).drew w2) (r : Rep w2 p.x p.a p.b s') :
    HalfR wc p s' X (.pointer (some ⟨wc.heap.size, 0, none⟩)) ((((w2.setCell ⟨wc.heap.size, 0, none⟩ (.int .i64 X.e)).setCell ⟨wc.heap.size, 1, none⟩ (.int .i64 X.n)).setCell ⟨wc.heap.size, 2, none⟩ (.int .i64 X.m)).setCell ⟨wc.heap.size, 3, none⟩ (.string X.s)) :=
  ⟨_, rfl, Nat.le_refl _, ((((late_blk hS hc).set 0 _).set 1 _).set 2 _).set 3 _, late_chg hc _ _ _ _, r.of_chg (late_one _ _ _ _) (fun k hk h => by have := hS k h; omega)⟩

theorem halfM_late {wc w2 : World} {p : NP} {s' : Nd} {X : An} (hS : ∀ k, ownM p.m p.c k → k < wc.heap.size) (hc : Chg (ownM p.m p.c) (wc.alloc (.cells #[.int .i64 0, .int .i64 0, .int .i64 0, .string ⟨#[]⟩] 65)).drew w2) (r : RepM w2 p.m p.c (modelOf s')) :
    HalfM wc p s' X (.pointer (some ⟨wc.heap.size, 0, none⟩)) ((((w2.setCell ⟨wc.heap.size, 0, none⟩ (.int .i64 X.e)).setCell ⟨wc.heap.size, 1, none⟩ (.int .i64 X.n)).setCell ⟨wc.heap.size, 2, none⟩ (.int .i64 X.m)).setCell ⟨wc.heap.size, 3, none⟩ (.string X.s)) :=
  ⟨_, rfl, Nat.le_refl _, ((((late_blk hS hc).set 0 _).set 1 _).set 2 _).set 3 _, late_chg hc _ _ _ _, r.of_chg (late_one _ _ _ _) (fun k hk h => by have := hS k h; omega)⟩

/-- Both sides have played: the frame with the node turned. -/
theorem both_played {B : Nat} {wc wx wy : World} {v : Nat} {vX : Value} {X : List Value} {vM : Value} {M : List Value} {vW : Value} {nW : Nat} {L : List NP} (F : Fr B wc v vX X vM M vW nW L) (i : Nat) (p : NP) (hi : L[i]? = some p) (s' : Nd) (hs : Inv s')
    (h1 : Chg (own p.x p.a p.b) wc wx) (r : Rep wx p.x p.a p.b s') (h2 : Chg (ownM p.m p.c) wx wy) (m : RepM wy p.m p.c (modelOf s')) : Fr B wy v vX X vM M vW nW (L.set i { p with s := s' }) ∧ Chg p.own wc wy := by
  have hp := F.ok p (List.mem_of_getElem? hi)
  have hc : Chg p.own wc wy := (h1.mono (fun k _ h => .inl h)).trans (h2.mono (fun k _ h => .inr h))
  refine ⟨F.node i p hi s' hc ⟨?_, m, hs, hp.d⟩, hc⟩
  exact r.of_chg h2 (fun k hk ho => hp.d k ho hk)

/-- Post has been played. -/
theorem run_posted {w wy w2 : World} {v : Nat} {L : List NP} {vX vM vW : Value} {nW : Nat} (F : Fr w.heap.size wy v vX (pxs L) vM (pms L) vW nW L) (hL4 : L.length ≤ 4) (hch : Chg (fun k => w.heap.size ≤ k) w wy) (u : Value) (h : postRel wy.drew vW w2 u) :
    Run w (ptr v) (w2.setCell ⟨v, 2, none⟩ u) := by
  obtain ⟨n, h1, h2, h3⟩ := h
  have F2 := (F.quiet ((Chg.refl _ wy).drew)).turnW u n h1 h2 (fun g hg => by
    rcases h3 g hg with e | e
    · exact .inl e
    · exact .inr (Nat.le_of_lt e))
  exact ⟨v, L, rfl, ⟨vX, vM, u, n, F2⟩, hL4, (hch.drew.trans (h2.mono (fun k _ hk => F.lw k hk))).setCell (.inl F.lv) _⟩
end Go.Proofs.Qxb6500367a
