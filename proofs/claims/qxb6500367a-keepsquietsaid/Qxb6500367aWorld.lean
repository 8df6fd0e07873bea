/-
  The law's world: its frame in memory; Build, Seen.
-/
import Derived.Test.Qxb6500367aPlay
import Derived.Test.Qxb6500367aTake
namespace Go.Proofs.Qxb6500367a
open Go.RowKit Go.Qx
set_option linter.unusedSimpArgs false
set_option linter.unusedVariables false

/-- The law's world lies at v: its two rows of pointers, its wire; the nodes L; nothing shared; all at B and above. -/
structure Fr (B : Nat) (w : World) (v : Nat) (vX : Value) (X : List Value) (vM : Value) (M : List Value) (vW : Value) (nW : Nat) (L : List NP) : Prop where
  blk : Blk w v 63 [vX, vM, vW]
  rx : Row w 25 1 vX X.length X
  rm : Row w 58 1 vM M.length M
  wi : Wire w vW nW
  ok : ∀ p ∈ L, Pair w p
  xv : vX.ownBlock ≠ some v
  mv : vM.ownBlock ≠ some v
  wv : vW.ownBlock ≠ some v
  xm : ∀ k, vX.ownBlock = some k → vM.ownBlock ≠ some k
  xw : ∀ k, vX.ownBlock = some k → vW.ownBlock ≠ some k
  mw : ∀ k, vM.ownBlock = some k → vW.ownBlock ≠ some k
  dv : ∀ p ∈ L, ¬ p.own v
  dx : ∀ p ∈ L, ∀ k, vX.ownBlock = some k → ¬ p.own k
  dm : ∀ p ∈ L, ∀ k, vM.ownBlock = some k → ¬ p.own k
  dw : ∀ p ∈ L, ∀ k, vW.ownBlock = some k → ¬ p.own k
  dl : L.Pairwise (fun p q => ∀ k, p.own k → ¬ q.own k)
  lv : B ≤ v
  lx : ∀ k, vX.ownBlock = some k → B ≤ k
  lm : ∀ k, vM.ownBlock = some k → B ≤ k
  lw : ∀ k, vW.ownBlock = some k → B ≤ k
  lp : ∀ p ∈ L, ∀ k, p.own k → B ≤ k

theorem Fr.quiet {B : Nat} {w w' : World} {v : Nat} {vX : Value} {X : List Value} {vM : Value} {M : List Value} {vW : Value} {nW : Nat} {L : List NP} (h : Fr B w v vX X vM M vW nW L) (q : Quiet w w') : Fr B w' v vX X vM M vW nW L :=
  { h with blk := q.blk h.blk, rx := h.rx.quiet q, rm := h.rm.quiet q, wi := h.wi.quiet q, ok := fun p hp => (h.ok p hp).quiet q }

theorem Fr.plt {B : Nat} {w : World} {v : Nat} {vX : Value} {X : List Value} {vM : Value} {M : List Value} {vW : Value} {nW : Nat} {L : List NP} (h : Fr B w v vX X vM M vW nW L) {p : NP} (hp : p ∈ L) {k : Nat} (hk : p.own k) : k < w.heap.size := (h.ok p hp).lt hk

theorem blk_set3 (a b c : Value) (i : Nat) (v : Value) : [a, b, c].set 0 v = [v, b, c] ∧ [a, b, c].set 1 v = [a, v, c] ∧ [a, b, c].set 2 v = [a, b, v] := ⟨rfl, rfl, rfl⟩

/-- A field turned: its row has been turned by a call or an append, then the field is stored. -/
theorem Fr.turnX {B : Nat} {w W : World} {v : Nat} {vX : Value} {X : List Value} {vM : Value} {M : List Value} {vW : Value} {nW : Nat} {L : List NP} (h : Fr B w v vX X vM M vW nW L) (u : Value) (Y : List Value) (hr : Row W 25 1 u Y.length Y) (hc : Chg (fun x => vX.ownBlock = some x) w W) (hg : ∀ g, u.ownBlock = some g → vX.ownBlock = some g ∨ w.heap.size ≤ g) : Fr B (W.setCell ⟨v, 0, none⟩ u) v u Y vM M vW nW L := by
  have hb := hc.blk h.blk h.xv
  have hvl := h.blk.lt
  have c2 : Chg (fun x => x = v) W (W.setCell ⟨v, 0, none⟩ u) := Chg.setCell (S := fun x => x = v) (p := ⟨v, 0, none⟩) (Chg.refl _ W) (.inl rfl) u
  have nv : u.ownBlock ≠ some v := by
    intro e
    rcases hg v e with e2 | e2
    · exact h.xv e2
    · omega
  have ho : ∀ p ∈ L, ∀ k, u.ownBlock = some k → ¬ p.own k := by
    intro p hp k hk hpk
    rcases hg k hk with e2 | e2
    · exact h.dx p hp k e2 hpk
    · have := h.plt hp hpk; omega
  have hxm : ∀ k, u.ownBlock = some k → vM.ownBlock ≠ some k := by
    intro k hk hk2
    rcases hg k hk with e2 | e2
    · exact h.xm k e2 hk2
    · have := h.rm.lt hk2; omega
  have hxw : ∀ k, u.ownBlock = some k → vW.ownBlock ≠ some k := by
    intro k hk hk2
    rcases hg k hk with e2 | e2
    · exact h.xw k e2 hk2
    · have := h.wi.lt hk2; omega
  have hlo : ∀ k, u.ownBlock = some k → B ≤ k := fun k hk => by
    rcases hg k hk with e2 | e2
    · exact h.lx k e2
    · have := h.lv; omega
  exact ⟨by have := hb.set 0 u; exact this, hr.of_chg c2 (fun k hk hs => nv (by rw [hk, hs])), (h.rm.of_chg hc (fun k hk hs => h.xm k hs hk)).of_chg c2 (fun k hk hs => h.mv (by rw [hk, hs])), (h.wi.of_chg hc (fun k hk hs => h.xw k hs hk)).of_chg c2 (fun k hk hs => h.wv (by rw [hk, hs])), fun p hp => ((h.ok p hp).of_chg hc (fun k hk => h.dx p hp k hk)).of_chg c2 (fun k hk => by rw [hk]; exact h.dv p hp), nv, h.mv, h.wv, hxm, hxw, h.mw, h.dv, ho, h.dm, h.dw, h.dl, h.lv, hlo, h.lm, h.lw, h.lp⟩

theorem Fr.turnM {B : Nat} {w W : World} {v : Nat} {vX : Value} {X : List Value} {vM : Value} {M : List Value} {vW : Value} {nW : Nat} {L : List NP} (h : Fr B w v vX X vM M vW nW L) (u : Value) (Y : List Value) (hr : Row W 58 1 u Y.length Y) (hc : Chg (fun x => vM.ownBlock = some x) w W) (hg : ∀ g, u.ownBlock = some g → vM.ownBlock = some g ∨ w.heap.size ≤ g) : Fr B (W.setCell ⟨v, 1, none⟩ u) v vX X u Y vW nW L := by
  have hb := hc.blk h.blk h.mv
  have hvl := h.blk.lt
  have c2 : Chg (fun x => x = v) W (W.setCell ⟨v, 1, none⟩ u) := Chg.setCell (S := fun x => x = v) (p := ⟨v, 1, none⟩) (Chg.refl _ W) (.inl rfl) u
  have nv : u.ownBlock ≠ some v := by
    intro e
    rcases hg v e with e2 | e2
    · exact h.mv e2
    · omega
  have ho : ∀ p ∈ L, ∀ k, u.ownBlock = some k → ¬ p.own k := by
    intro p hp k hk hpk
    rcases hg k hk with e2 | e2
    · exact h.dm p hp k e2 hpk
    · have := h.plt hp hpk; omega
  have hmx : ∀ k, u.ownBlock = some k → vX.ownBlock ≠ some k := by
    intro k hk hk2
    rcases hg k hk with e2 | e2
    · exact h.xm k hk2 e2
    · have := h.rx.lt hk2; omega
  have hmw : ∀ k, u.ownBlock = some k → vW.ownBlock ≠ some k := by
    intro k hk hk2
    rcases hg k hk with e2 | e2
    · exact h.mw k e2 hk2
    · have := h.wi.lt hk2; omega
  have hlo : ∀ k, u.ownBlock = some k → B ≤ k := fun k hk => by
    rcases hg k hk with e2 | e2
    · exact h.lm k e2
    · have := h.lv; omega
  exact ⟨by have := hb.set 1 u; exact this, (h.rx.of_chg hc (fun k hk hs => h.xm k hk hs)).of_chg c2 (fun k hk hs => h.xv (by rw [hk, hs])), hr.of_chg c2 (fun k hk hs => nv (by rw [hk, hs])), (h.wi.of_chg hc (fun k hk hs => h.mw k hs hk)).of_chg c2 (fun k hk hs => h.wv (by rw [hk, hs])), fun p hp => ((h.ok p hp).of_chg hc (fun k hk => h.dm p hp k hk)).of_chg c2 (fun k hk => by rw [hk]; exact h.dv p hp), h.xv, nv, h.wv, fun k hk hk2 => hmx k hk2 hk, h.xw, hmw, h.dv, h.dx, ho, h.dw, h.dl, h.lv, h.lx, hlo, h.lw, h.lp⟩

theorem Fr.turnW {B : Nat} {w W : World} {v : Nat} {vX : Value} {X : List Value} {vM : Value} {M : List Value} {vW : Value} {nW : Nat} {L : List NP} (h : Fr B w v vX X vM M vW nW L) (u : Value) (n : Nat) (hr : Wire W u n) (hc : Chg (fun x => vW.ownBlock = some x) w W) (hg : ∀ g, u.ownBlock = some g → vW.ownBlock = some g ∨ w.heap.size ≤ g) : Fr B (W.setCell ⟨v, 2, none⟩ u) v vX X vM M u n L := by
  have hb := hc.blk h.blk h.wv
  have hvl := h.blk.lt
  have c2 : Chg (fun x => x = v) W (W.setCell ⟨v, 2, none⟩ u) := Chg.setCell (S := fun x => x = v) (p := ⟨v, 2, none⟩) (Chg.refl _ W) (.inl rfl) u
  have nv : u.ownBlock ≠ some v := by
    intro e
    rcases hg v e with e2 | e2
    · exact h.wv e2
    · omega
  have ho : ∀ p ∈ L, ∀ k, u.ownBlock = some k → ¬ p.own k := by
    intro p hp k hk hpk
    rcases hg k hk with e2 | e2
    · exact h.dw p hp k e2 hpk
    · have := h.plt hp hpk; omega
  have hwx : ∀ k, u.ownBlock = some k → vX.ownBlock ≠ some k := by
    intro k hk hk2
    rcases hg k hk with e2 | e2
    · exact h.xw k hk2 e2
    · have := h.rx.lt hk2; omega
  have hwm : ∀ k, u.ownBlock = some k → vM.ownBlock ≠ some k := by
    intro k hk hk2
    rcases hg k hk with e2 | e2
    · exact h.mw k hk2 e2
    · have := h.rm.lt hk2; omega
  have hlo : ∀ k, u.ownBlock = some k → B ≤ k := fun k hk => by
    rcases hg k hk with e2 | e2
    · exact h.lw k e2
    · have := h.lv; omega
  exact ⟨by have := hb.set 2 u; exact this, (h.rx.of_chg hc (fun k hk hs => h.xw k hk hs)).of_chg c2 (fun k hk hs => h.xv (by rw [hk, hs])), (h.rm.of_chg hc (fun k hk hs => h.mw k hk hs)).of_chg c2 (fun k hk hs => h.mv (by rw [hk, hs])), hr.of_chg c2 (fun k hk hs => nv (by rw [hk, hs])), fun p hp => ((h.ok p hp).of_chg hc (fun k hk => h.dw p hp k hk)).of_chg c2 (fun k hk => by rw [hk]; exact h.dv p hp), h.xv, h.mv, nv, h.xm, fun k hk hk2 => hwx k hk2 hk, fun k hk hk2 => hwm k hk2 hk, h.dv, h.dx, h.dm, ho, h.dl, h.lv, h.lx, h.lm, hlo, h.lp⟩

theorem Fr.add {B : Nat} {w : World} {v : Nat} {vX : Value} {X : List Value} {vM : Value} {M : List Value} {vW : Value} {nW : Nat} {L : List NP} (h : Fr B w v vX X vM M vW nW L) (p : NP) (hp : Pair w p) (Z : Nat) (hB : B ≤ Z) (hZ : ∀ k, p.own k → Z ≤ k)
    (hv : v < Z) (hx : ∀ k, vX.ownBlock = some k → ¬ p.own k) (hm : ∀ k, vM.ownBlock = some k → ¬ p.own k) (hw : ∀ k, vW.ownBlock = some k → ¬ p.own k) (ho : ∀ q ∈ L, ∀ k, q.own k → k < Z) : Fr B w v vX X vM M vW nW (L ++ [p]) := by
  have mem : ∀ q, q ∈ L ++ [p] → q ∈ L ∨ q = p := fun q hq => by simpa using hq
  refine ⟨h.blk, h.rx, h.rm, h.wi, ?_, h.xv, h.mv, h.wv, h.xm, h.xw, h.mw, ?_, ?_, ?_, ?_, ?_, h.lv, h.lx, h.lm, h.lw, ?_⟩
  · intro q hq
    rcases mem q hq with hq | rfl
    · exact h.ok q hq
    · exact hp
  · intro q hq
    rcases mem q hq with hq | rfl
    · exact h.dv q hq
    · intro hk; have := hZ _ hk; omega
  · intro q hq
    rcases mem q hq with hq | rfl
    · exact h.dx q hq
    · exact hx
  · intro q hq
    rcases mem q hq with hq | rfl
    · exact h.dm q hq
    · exact hm
  · intro q hq
    rcases mem q hq with hq | rfl
    · exact h.dw q hq
    · exact hw
  · rw [List.pairwise_append]
    refine ⟨h.dl, List.pairwise_singleton _ _, ?_⟩
    intro q hq r hr k hk hk2
    rw [List.mem_singleton] at hr
    subst hr
    have := ho q hq k hk
    have := hZ k hk2
    omega
  · intro q hq k hk
    rcases mem q hq with hq | rfl
    · exact h.lp q hq k hk
    · have := hZ k hk; omega

/-- A node turned within its own blocks. -/
theorem Fr.node {B : Nat} {w w' : World} {v : Nat} {vX : Value} {X : List Value} {vM : Value} {M : List Value} {vW : Value} {nW : Nat} {L : List NP} (h : Fr B w v vX X vM M vW nW L) (i : Nat) (p : NP) (hi : L[i]? = some p) (s' : Nd) (hc : Chg p.own w w') (hp : Pair w' { p with s := s' }) : Fr B w' v vX X vM M vW nW (L.set i { p with s := s' }) := by
  have hmem : p ∈ L := List.mem_of_getElem? hi
  have hil : i < L.length := (List.getElem?_eq_some_iff.1 hi).1
  have hpe : L[i] = p := (List.getElem?_eq_some_iff.1 hi).2
  have old : ∀ q, q ∈ L.set i { p with s := s' } → ∃ q0 ∈ L, ∀ k, q.own k ↔ q0.own k := by
    intro q hq
    rcases List.mem_or_eq_of_mem_set hq with h | rfl
    · exact ⟨q, h, fun _ => Iff.rfl⟩
    · exact ⟨p, hmem, fun _ => Iff.rfl⟩
  refine ⟨hc.blk h.blk (h.dv p hmem), h.rx.of_chg hc (fun k hk => h.dx p hmem k hk), h.rm.of_chg hc (fun k hk => h.dm p hmem k hk), h.wi.of_chg hc (fun k hk => h.dw p hmem k hk), ?_, h.xv, h.mv, h.wv, h.xm, h.xw, h.mw, ?_, ?_, ?_, ?_, ?_, h.lv, h.lx, h.lm, h.lw, ?_⟩
  · intro q hq
    obtain ⟨j, hj, rfl⟩ := List.mem_iff_getElem.1 hq
    rw [List.length_set] at hj
    by_cases e : i = j
    · subst e; rw [List.getElem_set_self]; exact hp
    · rw [List.getElem_set_ne e]
      refine (h.ok _ (List.getElem_mem hj)).of_chg hc ?_
      intro k hk hk2
      rcases Nat.lt_or_gt_of_ne e with hlt | hlt
      · exact List.pairwise_iff_getElem.1 h.dl i j hil hj hlt k (by rw [hpe]; exact hk) hk2
      · exact List.pairwise_iff_getElem.1 h.dl j i hj hil hlt k hk2 (by rw [hpe]; exact hk)
  · intro q hq hk
    obtain ⟨q0, h0, e⟩ := old q hq
    exact h.dv q0 h0 ((e _).1 hk)
  · intro q hq k hk hk2
    obtain ⟨q0, h0, e⟩ := old q hq
    exact h.dx q0 h0 k hk ((e _).1 hk2)
  · intro q hq k hk hk2
    obtain ⟨q0, h0, e⟩ := old q hq
    exact h.dm q0 h0 k hk ((e _).1 hk2)
  · intro q hq k hk hk2
    obtain ⟨q0, h0, e⟩ := old q hq
    exact h.dw q0 h0 k hk ((e _).1 hk2)
  · rw [List.pairwise_iff_getElem]
    intro a b ha hb hab k hk hk2
    rw [List.length_set] at ha hb
    have ea : ∀ k, (L.set i { p with s := s' })[a].own k ↔ L[a].own k := by
      intro k
      by_cases e : i = a
      · subst e; rw [List.getElem_set_self, hpe]; exact Iff.rfl
      · rw [List.getElem_set_ne e]
    have eb : ∀ k, (L.set i { p with s := s' })[b].own k ↔ L[b].own k := by
      intro k
      by_cases e : i = b
      · subst e; rw [List.getElem_set_self, hpe]; exact Iff.rfl
      · rw [List.getElem_set_ne e]
    exact List.pairwise_iff_getElem.1 h.dl a b ha hb hab k ((ea k).1 hk) ((eb k).1 hk2)
  · intro q hq k hk
    obtain ⟨q0, h0, e⟩ := old q hq
    exact h.lp q0 h0 k ((e _).1 hk)

def pxs (L : List NP) : List Value := L.map fun p => ptr p.x
def pms (L : List NP) : List Value := L.map fun p => ptr p.m

/-- The law's world with the nodes L. -/
def Wd (B : Nat) (w : World) (v : Nat) (L : List NP) : Prop := ∃ vX vM vW nW, Fr B w v vX (pxs L) vM (pms L) vW nW L

theorem Wd.quiet {B : Nat} {w w' : World} {v : Nat} {L : List NP} (h : Wd B w v L) (q : Quiet w w') : Wd B w' v L := by
  obtain ⟨a, b, c, d, h⟩ := h
  exact ⟨a, b, c, d, h.quiet q⟩

theorem pxs_set {L : List NP} {i : Nat} {p : NP} (hi : L[i]? = some p) (s' : Nd) : pxs (L.set i { p with s := s' }) = pxs L ∧ pms (L.set i { p with s := s' }) = pms L := by
  have hil : i < L.length := (List.getElem?_eq_some_iff.1 hi).1
  have hpe : L[i] = p := (List.getElem?_eq_some_iff.1 hi).2
  unfold pxs pms
  constructor
  · rw [List.map_set]
    apply List.ext_getElem?
    intro j
    rw [List.getElem?_set]
    split
    · rename_i e; subst e; simp [hil, hpe]
    · rfl
  · rw [List.map_set]
    apply List.ext_getElem?
    intro j
    rw [List.getElem?_set]
    split
    · rename_i e; subst e; simp [hil, hpe]
    · rfl
end Go.Proofs.Qxb6500367a
