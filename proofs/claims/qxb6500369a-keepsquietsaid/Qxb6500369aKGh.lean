/-
  369 Keeps: the law's ghost in memory; send, put. (gen9gh.py)
-/
import Derived.Test.Qxb6500369aSmall
import Derived.Test.Qxb6500369aKDel2
import Derived.BigQuiet
import Derived.Deep.RegionLaw
import Derived.Deep.DrawnRows
namespace Go.Proofs.Qxb6500369a
open Go.RowKit Go.Qx
set_option linter.unusedSimpArgs false
set_option linter.unusedVariables false

/-- All that the law remembers (its ok stays true). -/
structure Gh where
  ids : List Int
  wire : List (Nat × Ms)
  s1 : Int
  s2 : Int
  s3 : Int
  top : Nat
  mode : Int
  done : Nat
  worst : Bool

def wcells : List (Nat × Ms) → List Value
  | [] => []
  | p :: r => .int .i64 p.1 :: .int .i64 p.2.k :: .int .i64 p.2.id :: .int .i64 p.2.hop :: wcells r
theorem wcells_append : ∀ a b, wcells (a ++ b) = wcells a ++ wcells b
  | [], b => rfl
  | p :: r, b => by simp [wcells, wcells_append r b]
theorem wcells_length : ∀ a, (wcells a).length = a.length * 4
  | [] => rfl
  | p :: r => by simp [wcells, wcells_length r]; omega
theorem wcells_one : ∀ (q : List (Nat × Ms)), ∀ v ∈ wcells q, v.oneCell' = true
  | [], v, h => by simp [wcells] at h
  | s :: r, v, h => by
    simp only [wcells, List.mem_cons] at h
    rcases h with rfl | rfl | rfl | rfl | h
    · rfl
    · rfl
    · rfl
    · rfl
    · exact wcells_one r v h

def gC (vi vw : Value) (G : Gh) : List Value := [vi, vw, .int .i64 0, .int .i64 G.s1, .int .i64 G.s2, .int .i64 G.s3, .int .i64 G.top, .int .i64 G.mode, .int .i64 G.done, .bool G.worst, .bool true]

structure GhR (w : World) (g : Nat) (vi vw : Value) (G : Gh) : Prop where
  blk : Blk w g 38 (gC vi vw G)
  ri : Row w 3 1 vi G.ids.length (G.ids.map (Value.int .i64))
  rw : Row w 64 4 vw G.wire.length (wcells G.wire)
  gi : vi.ownBlock ≠ some g
  gw : vw.ownBlock ≠ some g
  iw : ∀ b, vi.ownBlock = some b → vw.ownBlock ≠ some b

def ownH (g : Nat) (vi vw : Value) (k : Nat) : Prop := k = g ∨ vi.ownBlock = some k ∨ vw.ownBlock = some k

theorem GhR.of_chg {S : Nat → Prop} {w w' : World} {g : Nat} {vi vw : Value} {G : Gh} (h : GhR w g vi vw G) (c : Chg S w w') (hS : ∀ k, ownH g vi vw k → ¬ S k) : GhR w' g vi vw G :=
  { h with blk := c.blk h.blk (hS g (.inl rfl)), ri := h.ri.of_chg c (fun b hb => hS b (.inr (.inl hb))), rw := h.rw.of_chg c (fun b hb => hS b (.inr (.inr hb))) }

/-- The ghost at g; all its blocks lie in O. -/
def GhO (w : World) (O : Nat → Prop) (g : Nat) (G : Gh) : Prop := ∃ vi vw, GhR w g vi vw G ∧ ∀ k, ownH g vi vw k → O k

theorem GhO.of_chg {S O : Nat → Prop} {w w' : World} {g : Nat} {G : Gh} (h : GhO w O g G) (c : Chg S w w') (hS : ∀ k, O k → ¬ S k) : GhO w' O g G := by
  obtain ⟨vi, vw, h1, h2⟩ := h
  exact ⟨vi, vw, h1.of_chg c (fun k hk => hS k (h2 k hk)), h2⟩
theorem GhO.quiet {O : Nat → Prop} {w w' : World} {g : Nat} {G : Gh} (h : GhO w O g G) (q : Quiet w w') : GhO w' O g G := h.of_chg q (fun _ _ f => f)
theorem GhO.mono {O O' : Nat → Prop} {w : World} {g : Nat} {G : Gh} (h : GhO w O g G) (hO : ∀ k, O k → O' k) : GhO w O' g G := by
  obtain ⟨vi, vw, h1, h2⟩ := h
  exact ⟨vi, vw, h1, fun k hk => hO k (h2 k hk)⟩

theorem info64 : (Try.prog.info? 64).map (fun i => (i.zero, i.size, i.bytes)) = some (some (.agg #[.int .i64 0, .int .i64 0, .int .i64 0, .int .i64 0]), 4, 32) := by kernel_rfl

def sendP (G : Gh) (l : Nat) (m : Ms) : Gh :=
  if m.k = 0 then G else { G with wire := G.wire ++ [(l, m)], s1 := G.s1 + (if m.k = 1 then 1 else 0), s2 := G.s2 + (if m.k = 2 then 1 else 0), s3 := G.s3 + (if m.k = 3 then 1 else 0) }

def MsF (m : Ms) : Prop := m.k = 0 ∨ m.k = 1 ∨ m.k = 2 ∨ m.k = 3

/-- What a call that turns the ghost leaves. -/
def GPost (w : World) (O : Nat → Prop) (g : Nat) (G' : Gh) (e : Ending) (w' : World) : Prop :=
  e = .returned (.tuple #[]) ∧ Chg O w w' ∧ GhO w' (fun k => O k ∨ w.heap.size ≤ k) g G'

set_option maxHeartbeats 8000000 in
set_option maxRecDepth 100000 in
theorem send_1 (w : World) (O : Nat → Prop) (g : Nat) (G : Gh) (hg : GhO w O g G) (l : Nat) (mi mh : Int) (h8 : G.ids.length ≤ 8) (hl : G.wire.length ≤ 2 * G.ids.length) (hs : 0 ≤ G.s1 ∧ G.s1 ≤ 1000000) :
    Calls Try.prog 38 #[ptr g, .int .i64 l, .agg #[.int .i64 1, .int .i64 mi, .int .i64 mh]] w (GPost w O g { G with wire := G.wire ++ [(l, ⟨1, mi, mh⟩)], s1 := G.s1 + 1 }) := by
  obtain ⟨vi, vw, R, hO⟩ := hg
  obtain ⟨ai, ci, rfl⟩ := R.ri.shape
  obtain ⟨aw, cw, rfl⟩ := R.rw.shape
  have OgH : Hid (O g) := hO g (.inl rfl)
  obtain ⟨W, hW⟩ : ∃ W, w.alloc (.cells #[.int .i64 1, .int .i64 mi, .int .i64 mh] 55) = W := ⟨_, rfl⟩
  have q0 : Quiet w W := by rw [← hW]; exact (Chg.refl _ _).alloc _
  have bm : Blk W w.heap.size 55 [.int .i64 1, .int .i64 mi, .int .i64 mh] := by rw [← hW]; exact Blk.new w 55 _
  have RW := R.of_chg q0 (fun _ _ f => f)
  have hgl := R.blk.lt
  have RH := hide R
  have x0 := bm.cell 0
  have x1 := bm.cell 1
  have x2 := bm.cell 2
  have c0 : W.cell? ⟨g, 0, none⟩ = some (.slice ai G.ids.length ci) := RW.blk.cell 0
  have c1 : W.cell? ⟨g, 1, none⟩ = some (.slice aw G.wire.length cw) := RW.blk.cell 1
  simp at x0 x1 x2
  obtain ⟨B, hB⟩ : ∃ B, w.heap.size = B := ⟨_, rfl⟩
  rw [hB] at bm x0 x1 x2
  have hsH := hide hs
  have w2n : IntKind.i64.wrap (2 * (G.ids.length : Int)) = 2 * (G.ids.length : Int) := by rw [IntKind.wrap_i64]; omega
  have g1 : ((G.wire.length : Int) ≤ 2 * (G.ids.length : Int)) = True := eq_true (by omega)
  have g2 : decide ((G.wire.length : Int) ≤ 2 * (G.ids.length : Int)) = true := by simp; omega
  generalize hNI : G.ids.length = NI at *
  generalize hNW : G.wire.length = NW at *
  have hNIH := hide hNI
  have hNWH := hide hNW
  have hbnd := hide (And.intro h8 hl)
  have RWH := hide RW
  have q0H := hide q0
  have bmH := hide bm
  have hglH := hide hgl
  clear R RW q0 bm hs hNI hNW h8 hl hgl
  unfold ptr
  go_enter Try.func38, Try.ntmps38
  go_wp2
  clear hW
  go_big_quiet (fail)
  have qd : Quiet W (W.drewN nq) := (Chg.refl _ _).drewN nq
  have RW2 := (unhide RWH).of_chg qd (fun _ _ f => f)
  have bm2 := qd.blk (unhide bmH)
  have Q2 := hide (Quiet.trans (unhide q0H) qd)
  generalize W.drewN nq = V at *
  clear x0 x1 x2 c0 c1 qd RWH bmH q0H
  have x0 := bm2.cell 0
  have x1 := bm2.cell 1
  have x2 := bm2.cell 2
  simp at x0 x1 x2
  have c1 : V.cell? ⟨g, 1, none⟩ = some (.slice aw NW cw) := by
    have := RW2.blk.cell 1
    simpa [gC] using this
  have f1 := RW2.blk.frozen 1
  have bG := RW2.blk
  have hgV := bG.lt
  have hmV := bm2.lt
  have hgB : g ≠ B := fun e => by have := unhide hglH; omega
  have row2 : Row V 64 4 (.slice aw NW cw) NW (wcells G.wire) := by
    have h := RW2.rw
    rwa [unhide hNWH] at h
  have hgt := RW2.gw
  have hB2 : (Value.slice aw NW cw).ownBlock ≠ some B := fun e => by
    have h1 : (Value.slice aw NW cw).ownBlock = some B := e
    have h2 := (unhide RH).rw.lt h1
    omega
  obtain ⟨i0, hi0, hz0, hz1, hz2⟩ := info_parts info64
  obtain ⟨hb1, hb2⟩ := unhide hbnd
  have RW2H := hide RW2
  clear RW2
  go_wp2
  go_region_law
    ((refine step_append_row (by rfl) _ _ _ (by rfl) 64 i0 _ 4 32 Try.underlying35 hi0 hz0 hz1 hz2 rfl (by omega) (.slice aw NW cw) NW (wcells G.wire) (by rfl) (row2.quiet (((Chg.refl _ _).alloc _).drew))
        ⟨V.heap.size, 0, none⟩ 1 1 [Value.int .i64 l, .int .i64 1, .int .i64 mi, .int .i64 mh] (by rfl) (by rfl) (World.news_of_block (cs := #[Value.int .i64 l, .int .i64 1, .int .i64 mi, .int .i64 mh]) (t := 64) (fr := (0, 0)) (heap_alloc_new V _)) (by simp [Value.oneCell'])
        (by omega) (by unfold maxLen; omega) (by omega) (V.heap.size + 1) (by simp) ?_
      intro g3 cap3 w3 row3 hch3 hat hlt
      have bG3 := hch3.blk ((bG.alloc (.cells #[Value.int .i64 l, .int .i64 1, .int .i64 mi, .int .i64 mh] 64)).drew) hgt
      have c3 : w3.cell? ⟨g, 1, none⟩ = some (.slice aw NW cw) := by
        have := bG3.cell 1
        simpa [gC] using this
      have f3 := bG3.frozen 1
      have bm3 := hch3.blk ((bm2.alloc (.cells #[Value.int .i64 l, .int .i64 1, .int .i64 mi, .int .i64 mh] 64)).drew) hB2))
  all_goals
    have hg3g : g3 ≠ g := fun e => by
      rcases hat with h | h
      · exact hgt (by rw [h, e])
      · omega
    have c4 : Chg (fun x' => x' = g ∨ (Value.slice aw NW cw).ownBlock = some x') V (w3.setCell ⟨g, 1, none⟩ (.slice (some ⟨g3, 0, none⟩) (NW + 1) cap3)) := ((((Chg.refl _ V).alloc _).drew).trans (hch3.mono (fun _ _ h => .inr h))).setCell (.inl (.inl rfl)) _
    have R4 : GhR (w3.setCell ⟨g, 1, none⟩ (.slice (some ⟨g3, 0, none⟩) (NW + 1) cap3)) g (.slice ai NI ci) (.slice (some ⟨g3, 0, none⟩) (NW + 1) cap3) { G with wire := G.wire ++ [(l, ⟨1, mi, mh⟩)] } := by
      refine ⟨bG3.set 1 _, ?_, ?_, (unhide RW2H).gi, ?_, ?_⟩
      · have h := (unhide RW2H).ri
        rw [unhide hNIH] at h
        show Row _ 3 1 _ G.ids.length _
        rw [unhide hNIH]
        refine h.of_chg c4 (fun b hb => ?_)
        rintro (e | e)
        · exact (unhide RW2H).gi (by rw [hb, e])
        · exact (unhide RW2H).iw b hb e
      · have h := Row.of_chg row3 ((Chg.refl (fun x => x = g) w3).setCell (p := ⟨g, 1, none⟩) (.inl rfl) (.slice (some ⟨g3, 0, none⟩) (NW + 1) cap3)) (fun x' hx' e => by simp [Value.ownBlock] at hx'; exact hg3g (by rw [hx', e]))
        show Row _ 64 4 _ (G.wire ++ [(l, (⟨1, mi, mh⟩ : Ms))]).length (wcells (G.wire ++ [(l, (⟨1, mi, mh⟩ : Ms))]))
        rw [List.length_append, unhide hNWH, wcells_append]
        exact h
      · simp [Value.ownBlock]; exact hg3g
      · intro b hb e
        have : g3 = b := by simpa [Value.ownBlock] using e
        subst this
        rcases hat with h | h
        · exact (unhide RW2H).iw _ hb h
        · have h2 := (unhide RW2H).ri.lt hb
          omega
    have C4 : Hid (Chg O w (w3.setCell ⟨g, 1, none⟩ (.slice (some ⟨g3, 0, none⟩) (NW + 1) cap3))) := Chg.trans' ((unhide Q2).chg O) c4 (fun x' _ h => by
      rcases h with h | h
      · exact hO x' (.inl h)
      · exact hO x' (.inr (.inr h)))
    have hO4 : Hid (∀ k, ownH g (.slice ai NI ci) (.slice (some ⟨g3, 0, none⟩) (NW + 1) cap3) k → O k ∨ w.heap.size ≤ k) := fun k hk => by
      rcases hk with h | h | h
      · exact .inl (hO k (.inl h))
      · exact .inl (hO k (.inr (.inl h)))
      · have : g3 = k := by simpa [Value.ownBlock] using h
        subst this
        rcases hat with h | h
        · exact .inl (hO _ (.inr (.inr h)))
        · right; have := (unhide Q2).size; omega
    have bm4 : Blk (w3.setCell ⟨g, 1, none⟩ (.slice (some ⟨g3, 0, none⟩) (NW + 1) cap3)) B 55 [.int .i64 1, .int .i64 mi, .int .i64 mh] := bm3.set_other (fun e => hgB e.symm) _
    clear c1 f1 row2 hgt row3 hch3 hat hlt bG3 c3 f3 c4 bG x0 x1 x2 bm2 bm3 hg3g hi0 hz0 hz1 hz2 RW2H
    generalize w3.setCell ⟨g, 1, none⟩ (.slice (some ⟨g3, 0, none⟩) (NW + 1) cap3) = W4 at *
    have x0 := bm4.cell 0
    have cs : W4.cell? ⟨g, 3, none⟩ = some (.int .i64 G.s1) := by
      have := R4.blk.cell (3)
      simpa [gC] using this
    have fs := R4.blk.frozen (3)
    simp at x0
    have ws : IntKind.i64.wrap (G.s1 + 1) = G.s1 + 1 := by
      have := unhide hsH
      rw [IntKind.wrap_i64]; omega
    have R4H := hide R4
    have hg4 := R4.blk.lt
    have hb4 := bm4.lt
    clear R4 bm4
    go_wp2
    go_region_law (fail)
    all_goals
      go_wp2
      go_end0
      have R5 : GhR (W4.setCell ⟨g, 3, none⟩ (.int .i64 (G.s1 + 1))) g (.slice ai NI ci) (.slice (some ⟨g3, 0, none⟩) (NW + 1) cap3) { G with wire := G.wire ++ [(l, ⟨1, mi, mh⟩)], s1 := G.s1 + 1 } := by
        have c5 : Chg (fun x' => x' = g) W4 (W4.setCell ⟨g, 3, none⟩ (.int .i64 (G.s1 + 1))) := Chg.setCell (S := fun x' => x' = g) (p := ⟨g, 3, none⟩) (Chg.refl _ W4) (.inl rfl) _
        exact { unhide R4H with blk := (unhide R4H).blk.set (3) _, ri := (unhide R4H).ri.of_chg c5 (fun b hb e => (unhide R4H).gi (by rw [hb, e])), rw := (unhide R4H).rw.of_chg c5 (fun b hb e => (unhide R4H).gw (by rw [hb, e])) }
      exact ⟨rfl, ((unhide C4).setCell (.inl (unhide OgH)) _).drew, _, _, R5.of_chg ((Chg.refl (fun _ => False) _).drew) (fun _ _ f => f), unhide hO4⟩

set_option maxHeartbeats 8000000 in
set_option maxRecDepth 100000 in
theorem send_2 (w : World) (O : Nat → Prop) (g : Nat) (G : Gh) (hg : GhO w O g G) (l : Nat) (mi mh : Int) (h8 : G.ids.length ≤ 8) (hl : G.wire.length ≤ 2 * G.ids.length) (hs : 0 ≤ G.s2 ∧ G.s2 ≤ 1000000) :
    Calls Try.prog 38 #[ptr g, .int .i64 l, .agg #[.int .i64 2, .int .i64 mi, .int .i64 mh]] w (GPost w O g { G with wire := G.wire ++ [(l, ⟨2, mi, mh⟩)], s2 := G.s2 + 1 }) := by
  obtain ⟨vi, vw, R, hO⟩ := hg
  obtain ⟨ai, ci, rfl⟩ := R.ri.shape
  obtain ⟨aw, cw, rfl⟩ := R.rw.shape
  have OgH : Hid (O g) := hO g (.inl rfl)
  obtain ⟨W, hW⟩ : ∃ W, w.alloc (.cells #[.int .i64 2, .int .i64 mi, .int .i64 mh] 55) = W := ⟨_, rfl⟩
  have q0 : Quiet w W := by rw [← hW]; exact (Chg.refl _ _).alloc _
  have bm : Blk W w.heap.size 55 [.int .i64 2, .int .i64 mi, .int .i64 mh] := by rw [← hW]; exact Blk.new w 55 _
  have RW := R.of_chg q0 (fun _ _ f => f)
  have hgl := R.blk.lt
  have RH := hide R
  have x0 := bm.cell 0
  have x1 := bm.cell 1
  have x2 := bm.cell 2
  have c0 : W.cell? ⟨g, 0, none⟩ = some (.slice ai G.ids.length ci) := RW.blk.cell 0
  have c1 : W.cell? ⟨g, 1, none⟩ = some (.slice aw G.wire.length cw) := RW.blk.cell 1
  simp at x0 x1 x2
  obtain ⟨B, hB⟩ : ∃ B, w.heap.size = B := ⟨_, rfl⟩
  rw [hB] at bm x0 x1 x2
  have hsH := hide hs
  have w2n : IntKind.i64.wrap (2 * (G.ids.length : Int)) = 2 * (G.ids.length : Int) := by rw [IntKind.wrap_i64]; omega
  have g1 : ((G.wire.length : Int) ≤ 2 * (G.ids.length : Int)) = True := eq_true (by omega)
  have g2 : decide ((G.wire.length : Int) ≤ 2 * (G.ids.length : Int)) = true := by simp; omega
  generalize hNI : G.ids.length = NI at *
  generalize hNW : G.wire.length = NW at *
  have hNIH := hide hNI
  have hNWH := hide hNW
  have hbnd := hide (And.intro h8 hl)
  have RWH := hide RW
  have q0H := hide q0
  have bmH := hide bm
  have hglH := hide hgl
  clear R RW q0 bm hs hNI hNW h8 hl hgl
  unfold ptr
  go_enter Try.func38, Try.ntmps38
  go_wp2
  clear hW
  go_big_quiet (fail)
  have qd : Quiet W (W.drewN nq) := (Chg.refl _ _).drewN nq
  have RW2 := (unhide RWH).of_chg qd (fun _ _ f => f)
  have bm2 := qd.blk (unhide bmH)
  have Q2 := hide (Quiet.trans (unhide q0H) qd)
  generalize W.drewN nq = V at *
  clear x0 x1 x2 c0 c1 qd RWH bmH q0H
  have x0 := bm2.cell 0
  have x1 := bm2.cell 1
  have x2 := bm2.cell 2
  simp at x0 x1 x2
  have c1 : V.cell? ⟨g, 1, none⟩ = some (.slice aw NW cw) := by
    have := RW2.blk.cell 1
    simpa [gC] using this
  have f1 := RW2.blk.frozen 1
  have bG := RW2.blk
  have hgV := bG.lt
  have hmV := bm2.lt
  have hgB : g ≠ B := fun e => by have := unhide hglH; omega
  have row2 : Row V 64 4 (.slice aw NW cw) NW (wcells G.wire) := by
    have h := RW2.rw
    rwa [unhide hNWH] at h
  have hgt := RW2.gw
  have hB2 : (Value.slice aw NW cw).ownBlock ≠ some B := fun e => by
    have h1 : (Value.slice aw NW cw).ownBlock = some B := e
    have h2 := (unhide RH).rw.lt h1
    omega
  obtain ⟨i0, hi0, hz0, hz1, hz2⟩ := info_parts info64
  obtain ⟨hb1, hb2⟩ := unhide hbnd
  have RW2H := hide RW2
  clear RW2
  go_wp2
  go_region_law
    ((refine step_append_row (by rfl) _ _ _ (by rfl) 64 i0 _ 4 32 Try.underlying35 hi0 hz0 hz1 hz2 rfl (by omega) (.slice aw NW cw) NW (wcells G.wire) (by rfl) (row2.quiet (((Chg.refl _ _).alloc _).drew))
        ⟨V.heap.size, 0, none⟩ 1 1 [Value.int .i64 l, .int .i64 2, .int .i64 mi, .int .i64 mh] (by rfl) (by rfl) (World.news_of_block (cs := #[Value.int .i64 l, .int .i64 2, .int .i64 mi, .int .i64 mh]) (t := 64) (fr := (0, 0)) (heap_alloc_new V _)) (by simp [Value.oneCell'])
        (by omega) (by unfold maxLen; omega) (by omega) (V.heap.size + 1) (by simp) ?_
      intro g3 cap3 w3 row3 hch3 hat hlt
      have bG3 := hch3.blk ((bG.alloc (.cells #[Value.int .i64 l, .int .i64 2, .int .i64 mi, .int .i64 mh] 64)).drew) hgt
      have c3 : w3.cell? ⟨g, 1, none⟩ = some (.slice aw NW cw) := by
        have := bG3.cell 1
        simpa [gC] using this
      have f3 := bG3.frozen 1
      have bm3 := hch3.blk ((bm2.alloc (.cells #[Value.int .i64 l, .int .i64 2, .int .i64 mi, .int .i64 mh] 64)).drew) hB2))
  all_goals
    have hg3g : g3 ≠ g := fun e => by
      rcases hat with h | h
      · exact hgt (by rw [h, e])
      · omega
    have c4 : Chg (fun x' => x' = g ∨ (Value.slice aw NW cw).ownBlock = some x') V (w3.setCell ⟨g, 1, none⟩ (.slice (some ⟨g3, 0, none⟩) (NW + 1) cap3)) := ((((Chg.refl _ V).alloc _).drew).trans (hch3.mono (fun _ _ h => .inr h))).setCell (.inl (.inl rfl)) _
    have R4 : GhR (w3.setCell ⟨g, 1, none⟩ (.slice (some ⟨g3, 0, none⟩) (NW + 1) cap3)) g (.slice ai NI ci) (.slice (some ⟨g3, 0, none⟩) (NW + 1) cap3) { G with wire := G.wire ++ [(l, ⟨2, mi, mh⟩)] } := by
      refine ⟨bG3.set 1 _, ?_, ?_, (unhide RW2H).gi, ?_, ?_⟩
      · have h := (unhide RW2H).ri
        rw [unhide hNIH] at h
        show Row _ 3 1 _ G.ids.length _
        rw [unhide hNIH]
        refine h.of_chg c4 (fun b hb => ?_)
        rintro (e | e)
        · exact (unhide RW2H).gi (by rw [hb, e])
        · exact (unhide RW2H).iw b hb e
      · have h := Row.of_chg row3 ((Chg.refl (fun x => x = g) w3).setCell (p := ⟨g, 1, none⟩) (.inl rfl) (.slice (some ⟨g3, 0, none⟩) (NW + 1) cap3)) (fun x' hx' e => by simp [Value.ownBlock] at hx'; exact hg3g (by rw [hx', e]))
        show Row _ 64 4 _ (G.wire ++ [(l, (⟨2, mi, mh⟩ : Ms))]).length (wcells (G.wire ++ [(l, (⟨2, mi, mh⟩ : Ms))]))
        rw [List.length_append, unhide hNWH, wcells_append]
        exact h
      · simp [Value.ownBlock]; exact hg3g
      · intro b hb e
        have : g3 = b := by simpa [Value.ownBlock] using e
        subst this
        rcases hat with h | h
        · exact (unhide RW2H).iw _ hb h
        · have h2 := (unhide RW2H).ri.lt hb
          omega
    have C4 : Hid (Chg O w (w3.setCell ⟨g, 1, none⟩ (.slice (some ⟨g3, 0, none⟩) (NW + 1) cap3))) := Chg.trans' ((unhide Q2).chg O) c4 (fun x' _ h => by
      rcases h with h | h
      · exact hO x' (.inl h)
      · exact hO x' (.inr (.inr h)))
    have hO4 : Hid (∀ k, ownH g (.slice ai NI ci) (.slice (some ⟨g3, 0, none⟩) (NW + 1) cap3) k → O k ∨ w.heap.size ≤ k) := fun k hk => by
      rcases hk with h | h | h
      · exact .inl (hO k (.inl h))
      · exact .inl (hO k (.inr (.inl h)))
      · have : g3 = k := by simpa [Value.ownBlock] using h
        subst this
        rcases hat with h | h
        · exact .inl (hO _ (.inr (.inr h)))
        · right; have := (unhide Q2).size; omega
    have bm4 : Blk (w3.setCell ⟨g, 1, none⟩ (.slice (some ⟨g3, 0, none⟩) (NW + 1) cap3)) B 55 [.int .i64 2, .int .i64 mi, .int .i64 mh] := bm3.set_other (fun e => hgB e.symm) _
    clear c1 f1 row2 hgt row3 hch3 hat hlt bG3 c3 f3 c4 bG x0 x1 x2 bm2 bm3 hg3g hi0 hz0 hz1 hz2 RW2H
    generalize w3.setCell ⟨g, 1, none⟩ (.slice (some ⟨g3, 0, none⟩) (NW + 1) cap3) = W4 at *
    have x0 := bm4.cell 0
    have cs : W4.cell? ⟨g, 4, none⟩ = some (.int .i64 G.s2) := by
      have := R4.blk.cell (4)
      simpa [gC] using this
    have fs := R4.blk.frozen (4)
    simp at x0
    have ws : IntKind.i64.wrap (G.s2 + 1) = G.s2 + 1 := by
      have := unhide hsH
      rw [IntKind.wrap_i64]; omega
    have R4H := hide R4
    have hg4 := R4.blk.lt
    have hb4 := bm4.lt
    clear R4 bm4
    go_wp2
    go_region_law (fail)
    all_goals
      go_wp2
      go_end0
      have R5 : GhR (W4.setCell ⟨g, 4, none⟩ (.int .i64 (G.s2 + 1))) g (.slice ai NI ci) (.slice (some ⟨g3, 0, none⟩) (NW + 1) cap3) { G with wire := G.wire ++ [(l, ⟨2, mi, mh⟩)], s2 := G.s2 + 1 } := by
        have c5 : Chg (fun x' => x' = g) W4 (W4.setCell ⟨g, 4, none⟩ (.int .i64 (G.s2 + 1))) := Chg.setCell (S := fun x' => x' = g) (p := ⟨g, 4, none⟩) (Chg.refl _ W4) (.inl rfl) _
        exact { unhide R4H with blk := (unhide R4H).blk.set (4) _, ri := (unhide R4H).ri.of_chg c5 (fun b hb e => (unhide R4H).gi (by rw [hb, e])), rw := (unhide R4H).rw.of_chg c5 (fun b hb e => (unhide R4H).gw (by rw [hb, e])) }
      exact ⟨rfl, ((unhide C4).setCell (.inl (unhide OgH)) _).drew, _, _, R5.of_chg ((Chg.refl (fun _ => False) _).drew) (fun _ _ f => f), unhide hO4⟩

set_option maxHeartbeats 8000000 in
set_option maxRecDepth 100000 in
theorem send_3 (w : World) (O : Nat → Prop) (g : Nat) (G : Gh) (hg : GhO w O g G) (l : Nat) (mi mh : Int) (h8 : G.ids.length ≤ 8) (hl : G.wire.length ≤ 2 * G.ids.length) (hs : 0 ≤ G.s3 ∧ G.s3 ≤ 1000000) :
    Calls Try.prog 38 #[ptr g, .int .i64 l, .agg #[.int .i64 3, .int .i64 mi, .int .i64 mh]] w (GPost w O g { G with wire := G.wire ++ [(l, ⟨3, mi, mh⟩)], s3 := G.s3 + 1 }) := by
  obtain ⟨vi, vw, R, hO⟩ := hg
  obtain ⟨ai, ci, rfl⟩ := R.ri.shape
  obtain ⟨aw, cw, rfl⟩ := R.rw.shape
  have OgH : Hid (O g) := hO g (.inl rfl)
  obtain ⟨W, hW⟩ : ∃ W, w.alloc (.cells #[.int .i64 3, .int .i64 mi, .int .i64 mh] 55) = W := ⟨_, rfl⟩
  have q0 : Quiet w W := by rw [← hW]; exact (Chg.refl _ _).alloc _
  have bm : Blk W w.heap.size 55 [.int .i64 3, .int .i64 mi, .int .i64 mh] := by rw [← hW]; exact Blk.new w 55 _
  have RW := R.of_chg q0 (fun _ _ f => f)
  have hgl := R.blk.lt
  have RH := hide R
  have x0 := bm.cell 0
  have x1 := bm.cell 1
  have x2 := bm.cell 2
  have c0 : W.cell? ⟨g, 0, none⟩ = some (.slice ai G.ids.length ci) := RW.blk.cell 0
  have c1 : W.cell? ⟨g, 1, none⟩ = some (.slice aw G.wire.length cw) := RW.blk.cell 1
  simp at x0 x1 x2
  obtain ⟨B, hB⟩ : ∃ B, w.heap.size = B := ⟨_, rfl⟩
  rw [hB] at bm x0 x1 x2
  have hsH := hide hs
  have w2n : IntKind.i64.wrap (2 * (G.ids.length : Int)) = 2 * (G.ids.length : Int) := by rw [IntKind.wrap_i64]; omega
  have g1 : ((G.wire.length : Int) ≤ 2 * (G.ids.length : Int)) = True := eq_true (by omega)
  have g2 : decide ((G.wire.length : Int) ≤ 2 * (G.ids.length : Int)) = true := by simp; omega
  generalize hNI : G.ids.length = NI at *
  generalize hNW : G.wire.length = NW at *
  have hNIH := hide hNI
  have hNWH := hide hNW
  have hbnd := hide (And.intro h8 hl)
  have RWH := hide RW
  have q0H := hide q0
  have bmH := hide bm
  have hglH := hide hgl
  clear R RW q0 bm hs hNI hNW h8 hl hgl
  unfold ptr
  go_enter Try.func38, Try.ntmps38
  go_wp2
  clear hW
  go_big_quiet (fail)
  have qd : Quiet W (W.drewN nq) := (Chg.refl _ _).drewN nq
  have RW2 := (unhide RWH).of_chg qd (fun _ _ f => f)
  have bm2 := qd.blk (unhide bmH)
  have Q2 := hide (Quiet.trans (unhide q0H) qd)
  generalize W.drewN nq = V at *
  clear x0 x1 x2 c0 c1 qd RWH bmH q0H
  have x0 := bm2.cell 0
  have x1 := bm2.cell 1
  have x2 := bm2.cell 2
  simp at x0 x1 x2
  have c1 : V.cell? ⟨g, 1, none⟩ = some (.slice aw NW cw) := by
    have := RW2.blk.cell 1
    simpa [gC] using this
  have f1 := RW2.blk.frozen 1
  have bG := RW2.blk
  have hgV := bG.lt
  have hmV := bm2.lt
  have hgB : g ≠ B := fun e => by have := unhide hglH; omega
  have row2 : Row V 64 4 (.slice aw NW cw) NW (wcells G.wire) := by
    have h := RW2.rw
    rwa [unhide hNWH] at h
  have hgt := RW2.gw
  have hB2 : (Value.slice aw NW cw).ownBlock ≠ some B := fun e => by
    have h1 : (Value.slice aw NW cw).ownBlock = some B := e
    have h2 := (unhide RH).rw.lt h1
    omega
  obtain ⟨i0, hi0, hz0, hz1, hz2⟩ := info_parts info64
  obtain ⟨hb1, hb2⟩ := unhide hbnd
  have RW2H := hide RW2
  clear RW2
  go_wp2
  go_region_law
    ((refine step_append_row (by rfl) _ _ _ (by rfl) 64 i0 _ 4 32 Try.underlying35 hi0 hz0 hz1 hz2 rfl (by omega) (.slice aw NW cw) NW (wcells G.wire) (by rfl) (row2.quiet (((Chg.refl _ _).alloc _).drew))
        ⟨V.heap.size, 0, none⟩ 1 1 [Value.int .i64 l, .int .i64 3, .int .i64 mi, .int .i64 mh] (by rfl) (by rfl) (World.news_of_block (cs := #[Value.int .i64 l, .int .i64 3, .int .i64 mi, .int .i64 mh]) (t := 64) (fr := (0, 0)) (heap_alloc_new V _)) (by simp [Value.oneCell'])
        (by omega) (by unfold maxLen; omega) (by omega) (V.heap.size + 1) (by simp) ?_
      intro g3 cap3 w3 row3 hch3 hat hlt
      have bG3 := hch3.blk ((bG.alloc (.cells #[Value.int .i64 l, .int .i64 3, .int .i64 mi, .int .i64 mh] 64)).drew) hgt
      have c3 : w3.cell? ⟨g, 1, none⟩ = some (.slice aw NW cw) := by
        have := bG3.cell 1
        simpa [gC] using this
      have f3 := bG3.frozen 1
      have bm3 := hch3.blk ((bm2.alloc (.cells #[Value.int .i64 l, .int .i64 3, .int .i64 mi, .int .i64 mh] 64)).drew) hB2))
  all_goals
    have hg3g : g3 ≠ g := fun e => by
      rcases hat with h | h
      · exact hgt (by rw [h, e])
      · omega
    have c4 : Chg (fun x' => x' = g ∨ (Value.slice aw NW cw).ownBlock = some x') V (w3.setCell ⟨g, 1, none⟩ (.slice (some ⟨g3, 0, none⟩) (NW + 1) cap3)) := ((((Chg.refl _ V).alloc _).drew).trans (hch3.mono (fun _ _ h => .inr h))).setCell (.inl (.inl rfl)) _
    have R4 : GhR (w3.setCell ⟨g, 1, none⟩ (.slice (some ⟨g3, 0, none⟩) (NW + 1) cap3)) g (.slice ai NI ci) (.slice (some ⟨g3, 0, none⟩) (NW + 1) cap3) { G with wire := G.wire ++ [(l, ⟨3, mi, mh⟩)] } := by
      refine ⟨bG3.set 1 _, ?_, ?_, (unhide RW2H).gi, ?_, ?_⟩
      · have h := (unhide RW2H).ri
        rw [unhide hNIH] at h
        show Row _ 3 1 _ G.ids.length _
        rw [unhide hNIH]
        refine h.of_chg c4 (fun b hb => ?_)
        rintro (e | e)
        · exact (unhide RW2H).gi (by rw [hb, e])
        · exact (unhide RW2H).iw b hb e
      · have h := Row.of_chg row3 ((Chg.refl (fun x => x = g) w3).setCell (p := ⟨g, 1, none⟩) (.inl rfl) (.slice (some ⟨g3, 0, none⟩) (NW + 1) cap3)) (fun x' hx' e => by simp [Value.ownBlock] at hx'; exact hg3g (by rw [hx', e]))
        show Row _ 64 4 _ (G.wire ++ [(l, (⟨3, mi, mh⟩ : Ms))]).length (wcells (G.wire ++ [(l, (⟨3, mi, mh⟩ : Ms))]))
        rw [List.length_append, unhide hNWH, wcells_append]
        exact h
      · simp [Value.ownBlock]; exact hg3g
      · intro b hb e
        have : g3 = b := by simpa [Value.ownBlock] using e
        subst this
        rcases hat with h | h
        · exact (unhide RW2H).iw _ hb h
        · have h2 := (unhide RW2H).ri.lt hb
          omega
    have C4 : Hid (Chg O w (w3.setCell ⟨g, 1, none⟩ (.slice (some ⟨g3, 0, none⟩) (NW + 1) cap3))) := Chg.trans' ((unhide Q2).chg O) c4 (fun x' _ h => by
      rcases h with h | h
      · exact hO x' (.inl h)
      · exact hO x' (.inr (.inr h)))
    have hO4 : Hid (∀ k, ownH g (.slice ai NI ci) (.slice (some ⟨g3, 0, none⟩) (NW + 1) cap3) k → O k ∨ w.heap.size ≤ k) := fun k hk => by
      rcases hk with h | h | h
      · exact .inl (hO k (.inl h))
      · exact .inl (hO k (.inr (.inl h)))
      · have : g3 = k := by simpa [Value.ownBlock] using h
        subst this
        rcases hat with h | h
        · exact .inl (hO _ (.inr (.inr h)))
        · right; have := (unhide Q2).size; omega
    have bm4 : Blk (w3.setCell ⟨g, 1, none⟩ (.slice (some ⟨g3, 0, none⟩) (NW + 1) cap3)) B 55 [.int .i64 3, .int .i64 mi, .int .i64 mh] := bm3.set_other (fun e => hgB e.symm) _
    clear c1 f1 row2 hgt row3 hch3 hat hlt bG3 c3 f3 c4 bG x0 x1 x2 bm2 bm3 hg3g hi0 hz0 hz1 hz2 RW2H
    generalize w3.setCell ⟨g, 1, none⟩ (.slice (some ⟨g3, 0, none⟩) (NW + 1) cap3) = W4 at *
    have x0 := bm4.cell 0
    have cs : W4.cell? ⟨g, 5, none⟩ = some (.int .i64 G.s3) := by
      have := R4.blk.cell (5)
      simpa [gC] using this
    have fs := R4.blk.frozen (5)
    simp at x0
    have ws : IntKind.i64.wrap (G.s3 + 1) = G.s3 + 1 := by
      have := unhide hsH
      rw [IntKind.wrap_i64]; omega
    have R4H := hide R4
    have hg4 := R4.blk.lt
    have hb4 := bm4.lt
    clear R4 bm4
    go_wp2
    go_region_law (fail)
    all_goals
      go_wp2
      go_end0
      have R5 : GhR (W4.setCell ⟨g, 5, none⟩ (.int .i64 (G.s3 + 1))) g (.slice ai NI ci) (.slice (some ⟨g3, 0, none⟩) (NW + 1) cap3) { G with wire := G.wire ++ [(l, ⟨3, mi, mh⟩)], s3 := G.s3 + 1 } := by
        have c5 : Chg (fun x' => x' = g) W4 (W4.setCell ⟨g, 5, none⟩ (.int .i64 (G.s3 + 1))) := Chg.setCell (S := fun x' => x' = g) (p := ⟨g, 5, none⟩) (Chg.refl _ W4) (.inl rfl) _
        exact { unhide R4H with blk := (unhide R4H).blk.set (5) _, ri := (unhide R4H).ri.of_chg c5 (fun b hb e => (unhide R4H).gi (by rw [hb, e])), rw := (unhide R4H).rw.of_chg c5 (fun b hb e => (unhide R4H).gw (by rw [hb, e])) }
      exact ⟨rfl, ((unhide C4).setCell (.inl (unhide OgH)) _).drew, _, _, R5.of_chg ((Chg.refl (fun _ => False) _).drew) (fun _ _ f => f), unhide hO4⟩
end Go.Proofs.Qxb6500369a
