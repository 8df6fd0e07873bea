/-
  The real ring's machines: Toward, crown, learn.
-/
import Derived.Test.Qxb6500369aNode
namespace Go.Proofs.Qxb6500369a
open Go.RowKit Go.Qx
set_option linter.unusedSimpArgs false
set_option linter.unusedVariables false

theorem toward_any (w : World) (dir : Int) (m : Ms) : Calls Try.prog 41 #[.int .i64 dir, msV m] w fun e w' => e = .returned (ouV (towardP dir m)) ∧ Quiet w w' := by
  obtain ⟨mk, mi, mh⟩ := m
  unfold msV
  by_cases h : dir = 0
  · have e : towardP dir ⟨mk, mi, mh⟩ = ⟨⟨mk, mi, mh⟩, m0⟩ := by simp [towardP, h]
    rw [e]
    subst h
    go_enter Try.func41, Try.ntmps41
    go_wp2
    refine bodyPost_ret (v := ouV ⟨⟨mk, mi, mh⟩, m0⟩) (by simp [results, Try.results41, go_sem, ouV, m0]) rfl ⟨rfl, ?_⟩
    exact ((Chg.refl _ _).alloc _).alloc _
  · have e : towardP dir ⟨mk, mi, mh⟩ = ⟨m0, ⟨mk, mi, mh⟩⟩ := by simp [towardP, h]
    rw [e]
    have b1 : (dir == 0) = false := by simpa using h
    clear h
    go_enter Try.func41, Try.ntmps41
    go_wp2
    refine bodyPost_ret (v := ouV ⟨m0, ⟨mk, mi, mh⟩⟩) (by simp [results, Try.results41, go_sem, ouV, m0]) rfl ⟨rfl, ?_⟩
    exact ((Chg.refl _ _).alloc _).alloc _

theorem set_same {ns : List N5} {i : Nat} {c : N5} (h : ns[i]? = some c) : ns.set i c = ns := by
  apply List.ext_getElem?
  intro j
  rw [List.getElem?_set]
  split
  · rename_i e; subst e
    have := (List.getElem?_eq_some_iff.1 h).1
    simp [this]; simpa [this] using h.symm
  · rfl

def z6 : List Value := [.int .i64 0, .int .i64 0, .int .i64 0, .int .i64 0, .int .i64 0, .int .i64 0]

/-- The world in which a machine works: the message boxed, the result laid. -/
structure Boxed (w V : World) (m : Ms) : Prop where
  m : Blk V w.heap.size 55 (msC m)
  r : Blk V (w.heap.size + 1) 57 [.int .i64 0, .int .i64 0, .int .i64 0, .int .i64 0, .int .i64 0, .int .i64 0]
  q : Quiet w V

theorem boxed (w : World) (m : Ms) : Boxed w ((w.alloc (.cells #[.int .i64 m.k, .int .i64 m.id, .int .i64 m.hop] 55)).alloc (.cells #[.int .i64 0, .int .i64 0, .int .i64 0, .int .i64 0, .int .i64 0, .int .i64 0] 57)) m :=
  ⟨(Blk.new w 55 (msC m)).alloc _, Blk.at_new (by simp), ((Chg.refl _ _).alloc _).alloc _⟩

theorem Boxed.quiet {w V V' : World} {m : Ms} (h : Boxed w V m) (q : Quiet V V') : Boxed w V' m := ⟨q.blk h.m, q.blk h.r, Quiet.trans h.q q⟩

/-- What a machine at cell i leaves. -/
def machPost (w : World) (a : Nat) (ns : List N5) (i : Nat) (sp : List Value) (R : N5 × Ou) (e : Ending) (w' : World) : Prop :=
  e = .returned (ouV R.2) ∧ Chg (fun k => k = a) w w' ∧ Blk w' a 80 (flat rc (ns.set i R.1) ++ sp)

/-- The result laid, six cells. -/
def six (V : World) (B : Nat) (o : Ou) : World := (((((V.setCell ⟨B, 0, none⟩ (.int .i64 o.cw.k)).setCell ⟨B, 1, none⟩ (.int .i64 o.cw.id)).setCell ⟨B, 2, none⟩ (.int .i64 o.cw.hop)).setCell ⟨B, 3, none⟩ (.int .i64 o.ccw.k)).setCell ⟨B, 4, none⟩ (.int .i64 o.ccw.id)).setCell ⟨B, 5, none⟩ (.int .i64 o.ccw.hop)

theorem six_chg (V : World) (B : Nat) (o : Ou) : Chg (fun k => k = B) V (six V B o) :=
  ((((((Chg.refl (fun k => k = B) V).setCell (p := ⟨B, 0, none⟩) (.inl rfl) _).setCell (p := ⟨B, 1, none⟩) (.inl rfl) _).setCell (p := ⟨B, 2, none⟩) (.inl rfl) _).setCell (p := ⟨B, 3, none⟩) (.inl rfl) _).setCell (p := ⟨B, 4, none⟩) (.inl rfl) _).setCell (p := ⟨B, 5, none⟩) (.inl rfl) _

theorem six_blk {V : World} {B : Nat} {u : TypeId} {x0 x1 x2 x3 x4 x5 : Value} (h : Blk V B u [x0, x1, x2, x3, x4, x5]) (o : Ou) : Blk (six V B o) B u (ouC o) :=
  (((((h.set 0 _).set 1 _).set 2 _).set 3 _).set 4 _).set 5 _

theorem mach_fin {w V Vc : World} {m : Ms} {a : Nat} {X : List Value} (hbx : Boxed w V m) (hal : a < w.heap.size) (hVc : Chg (fun k => k = a) V Vc) (hbc : Blk Vc a 80 X) (o : Ou) :
    Blk (six Vc (w.heap.size + 1) o) (w.heap.size + 1) 57 (ouC o) ∧ Chg (fun k => k = a) w (six Vc (w.heap.size + 1) o) ∧ Blk (six Vc (w.heap.size + 1) o) a 80 X := by
  have nR : w.heap.size + 1 ≠ a := by omega
  refine ⟨six_blk (hVc.blk hbx.r nR) o, ?_, (six_chg _ _ o).blk hbc (Ne.symm nR)⟩
  exact ((hbx.q.chg _).trans hVc).trans' (six_chg _ _ o) (fun k hk e => by omega)

theorem setN {w : World} {a : Nat} {ns : List N5} {sp : List Value} (hb : Blk w a 80 (flat rc ns ++ sp)) {i : Nat} {c : N5} (hi : ns[i]? = some c) (j : Nat) (hj : j < 4) (v : Value) (c' : N5) (e : (rc c).set j v = rc c') :
    Blk (w.setCell ⟨a, i * 4 + j, none⟩ v) a 80 (flat rc (ns.set i c') ++ sp) ∧ (ns.set i c')[i]? = some c' ∧ Chg (fun k => k = a) w (w.setCell ⟨a, i * 4 + j, none⟩ v) := by
  refine ⟨?_, ?_, Chg.setCell (S := fun k => k = a) (p := ⟨a, i * 4 + j, none⟩) (Chg.refl _ w) (.inl rfl) v⟩
  · have := hb.set (i * 4 + j) v
    rw [flat_set rc_length ns i j c c' v sp hi hj e] at this
    exact this
  · have := (List.getElem?_eq_some_iff.1 hi).1
    simp [this]

theorem fl_and2 : ∀ s, s < 3 → ∀ g, g < 2 → (bits BinOp.and IntKind.u8 (((s : Nat) : Int) + 4 * ((g : Nat) : Int)) 2 == 0) = !decide (s = 2) := by decide +kernel
theorem fl_and4 : ∀ s, s < 3 → ∀ g, g < 2 → bits BinOp.and IntKind.u8 (((s : Nat) : Int) + 4 * ((g : Nat) : Int)) 4 = 4 * ((g : Nat) : Int) := by decide +kernel
theorem fl_or : ∀ s, s < 3 → ∀ g, g < 2 → bits BinOp.or IntKind.u8 (4 * ((g : Nat) : Int)) ((s : Nat) : Int) = ((s : Nat) : Int) + 4 * ((g : Nat) : Int) := by decide +kernel
theorem fl_or4 : ∀ s, s < 3 → bits BinOp.or IntKind.u8 (((s : Nat) : Int) + 4 * 0) 4 = ((s : Nat) : Int) + 4 := by decide +kernel
theorem fl_not4 : ∀ s, s < 3 → ∀ g, g < 2 → bits BinOp.andNot IntKind.u8 (((s : Nat) : Int) + 4 * ((g : Nat) : Int)) 4 = ((s : Nat) : Int) := by decide +kernel
theorem fl_and3 : ∀ s, s < 3 → ∀ g, g < 2 → bits BinOp.and IntKind.u8 (((s : Nat) : Int) + 4 * ((g : Nat) : Int)) 3 = ((s : Nat) : Int) := by decide +kernel

structure Flags (c : N5) : Prop where
  a2 : (bits BinOp.and IntKind.u8 (c.st + 4 * c.got) 2 == 0) = !decide (c.st = 2)
  a4 : bits BinOp.and IntKind.u8 (c.st + 4 * c.got) 4 = 4 * c.got
  o1 : bits BinOp.or IntKind.u8 (4 * c.got) 1 = 1 + 4 * c.got
  o2 : bits BinOp.or IntKind.u8 (4 * c.got) 2 = 2 + 4 * c.got
  o4 : c.got = 0 → bits BinOp.or IntKind.u8 (c.st + 4 * c.got) 4 = c.st + 4 * 1
  n4 : bits BinOp.andNot IntKind.u8 (c.st + 4 * c.got) 4 = c.st + 4 * 0
  a3 : bits BinOp.and IntKind.u8 (c.st + 4 * c.got) 3 = c.st

theorem flags_of {c : N5} (hs : c.st = 0 ∨ c.st = 1 ∨ c.st = 2) (hg : c.got = 0 ∨ c.got = 1) : Flags c := by
  obtain ⟨s, hs3, es⟩ : ∃ s : Nat, s < 3 ∧ c.st = s := ⟨c.st.toNat, by omega, by omega⟩
  obtain ⟨g, hg2, eg⟩ : ∃ g : Nat, g < 2 ∧ c.got = g := ⟨c.got.toNat, by omega, by omega⟩
  refine ⟨?_, ?_, ?_, ?_, ?_, ?_, ?_⟩
  · rw [es, eg, fl_and2 s hs3 g hg2]
    congr 1
    rw [Bool.eq_iff_iff, decide_eq_true_iff, decide_eq_true_iff]; omega
  · rw [es, eg]; exact fl_and4 s hs3 g hg2
  · rw [eg]; exact fl_or 1 (by omega) g hg2
  · rw [eg]; exact fl_or 2 (by omega) g hg2
  · intro e0
    rw [e0, es]; exact fl_or4 s hs3
  · rw [es, eg, fl_not4 s hs3 g hg2]; omega
  · rw [es, eg]; exact fl_and3 s hs3 g hg2

set_option maxRecDepth 100000 in
set_option maxHeartbeats 2000000 in
theorem crown_any (w : World) (a : Nat) (ns : List N5) (i : Nat) (sp : List Value) (c : N5) (hi : ns[i]? = some c) (hb : Blk w a 80 (flat rc ns ++ sp)) (hf : Flags c) (m : Ms) :
    Calls Try.prog 51 #[.pointer (some ⟨a, i * 4, none⟩), msV m] w (machPost w a ns i sp (crownP c m)) := by
  have hbx := boxed w m
  have hal := hb.lt
  unfold msV
  go_enter Try.func51, Try.ntmps51
  go_wp2
  generalize (w.alloc (.cells #[.int .i64 m.k, .int .i64 m.id, .int .i64 m.hop] 55)).alloc (.cells #[.int .i64 0, .int .i64 0, .int .i64 0, .int .i64 0, .int .i64 0, .int .i64 0] 57) = V at *
  have hbV := hbx.q.blk hb
  obtain ⟨c0, c1, c2, c3⟩ := cellR_of hbV hi
  have m1 := hbx.m.cell 1
  simp [msC] at m1
  have fa2 := hf.a2
  have r0 := hbx.r.cell 0
  have r1 := hbx.r.cell 1
  have r2 := hbx.r.cell 2
  have r3 := hbx.r.cell 3
  have r4 := hbx.r.cell 4
  have r5 := hbx.r.cell 5
  simp at r0 r1 r2 r3 r4 r5
  have g0 := hbx.r.frozen 0
  have g1 := hbx.r.frozen 1
  have g2 := hbx.r.frozen 2
  have g3 := hbx.r.frozen 3
  have g4 := hbx.r.frozen 4
  have g5 := hbx.r.frozen 5
  have nR : w.heap.size + 1 ≠ a := by omega
  have nRa := Ne.symm nR
  have nM : w.heap.size ≠ a := by omega
  have none_fin : Hid (∀ n, crownP c m = (c, o0) → Blk (six (V.drewN n) (w.heap.size + 1) o0) (w.heap.size + 1) 57 (ouC o0) ∧ machPost w a ns i sp (crownP c m) (.returned (ouV o0)) (six (V.drewN n) (w.heap.size + 1) o0)) := by
    intro n e
    obtain ⟨z1, z2, z3⟩ := mach_fin hbx hal ((Chg.refl _ V).drewN n) (hbV.drewN n) o0
    refine ⟨z1, ?_, z2, ?_⟩
    · rw [e]
    · rw [e, set_same hi]; exact z3
  have hbxH := hide hbx
  have hiH := hide hi
  clear hbx hi hb
  by_cases h1 : m.id = c.id
  · have b1 : (m.id == c.id) = true := by simpa using h1
    have b1' : (m.id != c.id) = false := by rw [bne, b1]; rfl
    by_cases h2 : c.st = 2
    · have e : Hid (crownP c m = (c, o0)) := by show _ = _; simp [crownP, h2]
      have b2 : (bits BinOp.and IntKind.u8 (c.st + 4 * c.got) 2 == 0) = false := by rw [fa2]; simp [h2]
      have b2' : (bits BinOp.and IntKind.u8 (c.st + 4 * c.got) 2 != 0) = true := by rw [bne, b2]; rfl
      clear fa2 h2 h1
      go_big_quiet (fail)
      go_wp2
      exact bodyPost_ret (results_blk (u := 57) (cs := ouC o0) Try.results51 rfl Try.isAgg57 Try.sizeOf57 (unhide none_fin nq (unhide e)).1) rfl (unhide none_fin nq (unhide e)).2
    · have e : Hid (crownP c m = ({ c with lead := c.id, st := 2 }, ⟨⟨3, c.id, 0⟩, m0⟩)) := by show _ = _; simp [crownP, h2, h1]
      have b2 : (bits BinOp.and IntKind.u8 (c.st + 4 * c.got) 2 == 0) = true := by rw [fa2]; simp [h2]
      have b2' : (bits BinOp.and IntKind.u8 (c.st + 4 * c.got) 2 != 0) = false := by rw [bne, b2]; rfl
      have fa4 := hf.a4
      have fo2 := hf.o2
      have f1 := hbV.frozen (i * 4 + 1)
      have f3 := hbV.frozen (i * 4 + 3)
      clear fa2 h2 h1
      go_big_quiet (fail)
      go_wp2
      go_region_law (fail)
      all_goals
        obtain ⟨q1, q2, q3⟩ := setN (hbV.drewN (nq + 1)) (unhide hiH) 1 (by omega) (.int .i64 c.id) { c with lead := c.id } rfl
        obtain ⟨q4, q5, q6⟩ := setN q1 q2 3 (by omega) (.int .u8 (2 + 4 * c.got)) { c with lead := c.id, st := 2 } rfl
        rw [List.set_set] at q4
        have hch := (((Chg.refl (fun k => k = a) V).drewN (nq + 1)).trans q3).trans q6
        obtain ⟨z1, z2, z3⟩ := mach_fin (unhide hbxH) hal hch q4 ⟨⟨3, c.id, 0⟩, m0⟩
        have zH := hide (And.intro z1 (And.intro z2 z3))
        clear q1 q2 q3 q4 q5 q6 hch z1 z2 z3 hbV
        go_wp2
        refine bodyPost_ret (results_blk (u := 57) (cs := ouC ⟨⟨3, c.id, 0⟩, m0⟩) Try.results51 rfl Try.isAgg57 Try.sizeOf57 (unhide zH).1) rfl ?_
        rw [unhide e]
        exact ⟨rfl, (unhide zH).2.1, (unhide zH).2.2⟩
  · have b1 : (m.id == c.id) = false := by simpa using h1
    have b1' : (m.id != c.id) = true := by rw [bne, b1]; rfl
    have e : Hid (crownP c m = (c, o0)) := by show _ = _; simp [crownP, h1]
    clear fa2 h1
    go_big_quiet (fail)
    go_wp2
    exact bodyPost_ret (results_blk (u := 57) (cs := ouC o0) Try.results51 rfl Try.isAgg57 Try.sizeOf57 (unhide none_fin nq (unhide e)).1) rfl (unhide none_fin nq (unhide e)).2
end Go.Proofs.Qxb6500369a
