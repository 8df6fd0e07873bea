/-
  The abstract ring: Step, a theorem a rule. Written by gen9ms.py.
-/
import Derived.Test.Qxb6500369aProbes
namespace Go.Proofs.Qxb6500369a
open Go.RowKit Go.Qx
set_option linter.unusedSimpArgs false
set_option linter.unusedVariables false

def mstepPost (w : World) (x g cap : Nat) (sp : List Value) (mode : Int) (ns' : List N5) (o : Ou) (e : Ending) (w' : World) : Prop :=
  e = .returned (.tuple #[ouV o, .int .i64 0]) ∧ Chg (ownG x g) w w' ∧ RepG w' x g cap sp mode ns'

/-- The world behind the first statements: message, result, node, out are boxed. -/
structure MBox (w V : World) (m : Ms) (c : N5) : Prop where
  m : Blk V w.heap.size 55 (msC m)
  r : Blk V (w.heap.size + 1) 57 [.int .i64 0, .int .i64 0, .int .i64 0, .int .i64 0, .int .i64 0, .int .i64 0]
  d : Blk V (w.heap.size + 2) 28 (mc c)
  o : Blk V (w.heap.size + 3) 57 [.int .i64 0, .int .i64 0, .int .i64 0, .int .i64 0, .int .i64 0, .int .i64 0]
  q : Quiet w V

theorem mboxed (w : World) (m : Ms) (c : N5) : MBox w ((((w.alloc (.cells #[.int .i64 m.k, .int .i64 m.id, .int .i64 m.hop] 55)).alloc (.cells #[.int .i64 0, .int .i64 0, .int .i64 0, .int .i64 0, .int .i64 0, .int .i64 0] 57)).alloc (.cells #[.int .i64 c.id, .int .i64 c.st, .int .i64 c.lead, .int .i64 c.reach, .int .i64 c.got] 28)).alloc (.cells #[.int .i64 0, .int .i64 0, .int .i64 0, .int .i64 0, .int .i64 0, .int .i64 0] 57)) m c :=
  ⟨(((Blk.new w 55 (msC m)).alloc _).alloc _).alloc _, ((Blk.at_new (by simp)).alloc _).alloc _, (Blk.at_new (by simp)).alloc _, Blk.at_new (by simp), ((((Chg.refl _ _).alloc _).alloc _).alloc _).alloc _⟩

theorem ms_fin {w Vend : World} {x g cap : Nat} {sp : List Value} {mode : Int} {ns' : List N5} {u : TypeId} {y0 y1 y2 y3 y4 y5 : Value} (hx : x < w.heap.size) (hg : g < w.heap.size) (hR : Blk Vend (w.heap.size + 1) u [y0, y1, y2, y3, y4, y5]) (hc : Chg (ownG x g) w Vend) (rG : RepG Vend x g cap sp mode ns') (o : Ou) :
    Blk (six Vend (w.heap.size + 1) o) (w.heap.size + 1) u (ouC o) ∧ mstepPost w x g cap sp mode ns' o (.returned (.tuple #[ouV o, .int .i64 0])) (six Vend (w.heap.size + 1) o) := by
  refine ⟨six_blk hR o, rfl, hc.trans' (six_chg _ _ o) (fun k hk e => by omega), rG.of_chg (six_chg _ _ o) ?_⟩
  rintro k rfl (h | h) <;> omega

/-- Out's first message stored. -/
def three (V : World) (B : Nat) (m : Ms) : World := ((V.setCell ⟨B, 0, none⟩ (.int .i64 m.k)).setCell ⟨B, 1, none⟩ (.int .i64 m.id)).setCell ⟨B, 2, none⟩ (.int .i64 m.hop)

theorem three_chg (V : World) (B : Nat) (m : Ms) : Chg (fun k => k = B) V (three V B m) :=
  (((Chg.refl (fun k => k = B) V).setCell (p := ⟨B, 0, none⟩) (.inl rfl) _).setCell (p := ⟨B, 1, none⟩) (.inl rfl) _).setCell (p := ⟨B, 2, none⟩) (.inl rfl) _

theorem three_blk {V : World} {B : Nat} {u : TypeId} (h : Blk V B u [.int .i64 0, .int .i64 0, .int .i64 0, .int .i64 0, .int .i64 0, .int .i64 0]) (m : Ms) : Blk (three V B m) B u (ouC ⟨m, m0⟩) :=
  ((h.set 0 _).set 1 _).set 2 _

/-- What stands behind the rule: the nodes, the out's box, the result's box. -/
structure MEnd (w V : World) (x g cap : Nat) (sp : List Value) (mode : Int) (ns' : List N5) (o : Ou) : Prop where
  r : Blk V (w.heap.size + 1) 57 [.int .i64 0, .int .i64 0, .int .i64 0, .int .i64 0, .int .i64 0, .int .i64 0]
  o : Blk V (w.heap.size + 3) 57 (ouC o)
  c : Chg (ownG x g) w V
  g : RepG V x g cap sp mode ns'

theorem MEnd.three {w V : World} {x g cap : Nat} {sp : List Value} {mode : Int} {ns' : List N5} (hx : x < w.heap.size) (hg : g < w.heap.size) (h : MEnd w V x g cap sp mode ns' o0) (m : Ms) : MEnd w (three V (w.heap.size + 3) m) x g cap sp mode ns' ⟨m, m0⟩ := by
  have c3 := three_chg V (w.heap.size + 3) m
  refine ⟨c3.blk h.r (by omega), three_blk h.o m, h.c.trans' c3 (fun k hk e => by omega), h.g.of_chg c3 ?_⟩
  rintro k rfl (h | h) <;> omega

theorem MEnd.six {w V : World} {x g cap : Nat} {sp : List Value} {mode : Int} {ns' : List N5} (hx : x < w.heap.size) (hg : g < w.heap.size) (h : MEnd w V x g cap sp mode ns' o0) (o : Ou) : MEnd w (six V (w.heap.size + 3) o) x g cap sp mode ns' o := by
  have c3 := six_chg V (w.heap.size + 3) o
  refine ⟨c3.blk h.r (by omega), six_blk h.o o, h.c.trans' c3 (fun k hk e => by omega), h.g.of_chg c3 ?_⟩
  rintro k rfl (h | h) <;> omega

theorem MEnd.quiet {w V V' : World} {x g cap : Nat} {sp : List Value} {mode : Int} {ns' : List N5} {o : Ou} (h : MEnd w V x g cap sp mode ns' o) (q : Quiet V V') : MEnd w V' x g cap sp mode ns' o :=
  ⟨q.blk h.r, q.blk h.o, h.c.trans (q.chg _), h.g.quiet q⟩

theorem MEnd.set {w V : World} {x g cap : Nat} {sp : List Value} {mode : Int} {ns' : List N5} {o : Ou} (hg : g < w.heap.size) (h : MEnd w V x g cap sp mode ns' o) {i : Nat} {c : N5} (hi : ns'[i]? = some c) (j : Nat) (hj : j < 5) (v : Value) (c' : N5) (e : (mc c).set j v = mc c') : MEnd w (V.setCell ⟨g, i * 5 + j, none⟩ v) x g cap sp mode (ns'.set i c') o ∧ (ns'.set i c')[i]? = some c' := by
  obtain ⟨q1, q2, q3⟩ := h.g.set hi j hj v c' e
  exact ⟨⟨h.r.set_other (a := ⟨g, i * 5 + j, none⟩) (by show _ ≠ g; omega) v, h.o.set_other (a := ⟨g, i * 5 + j, none⟩) (by show _ ≠ g; omega) v, h.c.trans q3, q1⟩, q2⟩

theorem mend0 {w V : World} {x g cap : Nat} {sp : List Value} {mode : Int} {ns : List N5} {m : Ms} {c : N5} (h : MBox w V m c) (r : RepG w x g cap sp mode ns) : MEnd w V x g cap sp mode ns o0 :=
  ⟨h.r, h.o, h.q.chg _, r.quiet h.q⟩

set_option maxRecDepth 100000 in
set_option maxHeartbeats 4000000 in
theorem mstep_s4 (w : World) (x g cap : Nat) (sp : List Value) (mode : Int) (ns : List N5) (r : RepG w x g cap sp mode ns) (i : Nat) (c : N5) (hi : ns[i]? = some c) (dir : Int) (hm : mode = 0 ∨ mode = 1) (hd0 : 0 ≤ dir) (hd1 : dir ≤ mode) (mk mi mh : Int) (hhop : mh ≤ 9223372036854775807) (hk : Hid (mk = 4)) (hr : Hid (¬ c.reach = 0)) :
    Calls Try.prog 47 #[ptr x, .int .i64 i, .int .i64 dir, msV ⟨mk, mi, mh⟩] w (mstepPost w x g cap sp mode ns o0) := by
  have hbx := mboxed w ⟨mk, mi, mh⟩ c
  have hil := (List.getElem?_eq_some_iff.1 hi).1
  have hxl := r.blk.lt
  have hgl := r.gb.lt
  have i1 : (0 : Int) ≤ (i : Int) := by omega
  have i2 : (i : Int) < (ns.length : Int) := by omega
  have hmb : (mode == -1) = false := by rcases hm with rfl | rfl <;> rfl
  obtain ⟨a0, a1, a2, a3, a4⟩ := r.cells hi
  have x0 := r.blk.cell 0
  have x1 := r.blk.cell 1
  simp at x0 x1
  unfold ptr msV
  simp only at hbx ⊢
  go_enter Try.func47, Try.ntmps47
  go_upto_region 9 with fail
  generalize (((w.alloc (.cells #[.int .i64 mk, .int .i64 mi, .int .i64 mh] 55)).alloc (.cells #[.int .i64 0, .int .i64 0, .int .i64 0, .int .i64 0, .int .i64 0, .int .i64 0] 57)).alloc (.cells #[.int .i64 c.id, .int .i64 c.st, .int .i64 c.lead, .int .i64 c.reach, .int .i64 c.got] 28)).alloc (.cells #[.int .i64 0, .int .i64 0, .int .i64 0, .int .i64 0, .int .i64 0, .int .i64 0] 57) = V at *
  clear a0 a1 a2 a3 a4 x0 x1
  have hE := mend0 hbx r
  have rV := r.quiet hbx.q
  obtain ⟨a0, a1, a2, a3, a4⟩ := rV.cells hi
  have x0 := rV.blk.cell 0
  have x1 := rV.blk.cell 1
  simp at x0 x1
  have nxg := r.xg
  have ngx := Ne.symm r.xg
  have bd := hbx.d
  have bm := hbx.m
  have bo := hbx.o
  have br := hbx.r
  have d0 := bd.cell 0
  have d1 := bd.cell 1
  have d2 := bd.cell 2
  have d3 := bd.cell 3
  have d4 := bd.cell 4
  simp [mc] at d0 d1 d2 d3 d4
  have mm0 := bm.cell 0
  have mm1 := bm.cell 1
  have mm2 := bm.cell 2
  simp [msC] at mm0 mm1 mm2
  have p0 := bo.cell 0
  have p1 := bo.cell 1
  have p2 := bo.cell 2
  have p3 := bo.cell 3
  have p4 := bo.cell 4
  have p5 := bo.cell 5
  simp at p0 p1 p2 p3 p4 p5
  have fp0 := bo.frozen 0
  have fp1 := bo.frozen 1
  have fp2 := bo.frozen 2
  have fp3 := bo.frozen 3
  have fp4 := bo.frozen 4
  have fp5 := bo.frozen 5
  have r0 := br.cell 0
  have r1 := br.cell 1
  have r2 := br.cell 2
  have r3 := br.cell 3
  have r4 := br.cell 4
  have r5 := br.cell 5
  simp at r0 r1 r2 r3 r4 r5
  have fr0 := br.frozen 0
  have fr1 := br.frozen 1
  have fr2 := br.frozen 2
  have fr3 := br.frozen 3
  have fr4 := br.frozen 4
  have fr5 := br.frozen 5
  have fg1 := rV.gb.frozen (i * 5 + 1)
  have fg2 := rV.gb.frozen (i * 5 + 2)
  have fg3 := rV.gb.frozen (i * 5 + 3)
  have fg4 := rV.gb.frozen (i * 5 + 4)
  have n0 : w.heap.size ≠ g := by omega
  have n1 : w.heap.size + 1 ≠ g := by omega
  have n2 : w.heap.size + 2 ≠ g := by omega
  have n3 : w.heap.size + 3 ≠ g := by omega
  have n4 := Ne.symm n0
  have n5 := Ne.symm n1
  have n6 := Ne.symm n2
  have n7 := Ne.symm n3
  clear bd bm bo br
  have hk2 := unhide hk
  subst hk2
  clear hk
  have b1 : (c.reach == 0) = false := by simpa using unhide hr
  clear rV hbx r hi
  have bE := hE.r
  have oE := hE.o
  have fin := hide (ms_fin hxl hgl hE.r hE.c hE.g o0)
  have rr0 := bE.cell 0
  have rr1 := bE.cell 1
  have rr2 := bE.cell 2
  have rr3 := bE.cell 3
  have rr4 := bE.cell 4
  have rr5 := bE.cell 5
  simp at rr0 rr1 rr2 rr3 rr4 rr5
  have frr0 := bE.frozen 0
  have frr1 := bE.frozen 1
  have frr2 := bE.frozen 2
  have frr3 := bE.frozen 3
  have frr4 := bE.frozen 4
  have frr5 := bE.frozen 5
  have u0 := oE.cell 0
  have u1 := oE.cell 1
  have u2 := oE.cell 2
  have u3 := oE.cell 3
  have u4 := oE.cell 4
  have u5 := oE.cell 5
  simp [ouC, msC, o0, m0] at u0 u1 u2 u3 u4 u5
  have nn : w.heap.size + 1 ≠ w.heap.size + 3 := by omega
  clear hE bE oE
  go_wp2
  exact bodyPost_ret (v := .tuple #[ouV o0, .int .i64 0]) (results_blk_tmp (u := 57) (cs := ouC o0) Try.results47 rfl Try.isAgg57 Try.sizeOf57 (unhide fin).1) rfl (unhide fin).2

set_option maxRecDepth 100000 in
set_option maxHeartbeats 4000000 in
theorem mstep_r2 (w : World) (x g cap : Nat) (sp : List Value) (mode : Int) (ns : List N5) (r : RepG w x g cap sp mode ns) (i : Nat) (c : N5) (hi : ns[i]? = some c) (dir : Int) (hm : mode = 0 ∨ mode = 1) (hd0 : 0 ≤ dir) (hd1 : dir ≤ mode) (mk mi mh : Int) (hhop : mh ≤ 9223372036854775807) (hk : Hid (mk = 1)) (hlt : Hid (c.id < mi)) (h0 : Hid (mode = 0)) :
    Calls Try.prog 47 #[ptr x, .int .i64 i, .int .i64 dir, msV ⟨mk, mi, mh⟩] w (mstepPost w x g cap sp mode ns ⟨⟨mk, mi, mh⟩, m0⟩) := by
  have hbx := mboxed w ⟨mk, mi, mh⟩ c
  have hil := (List.getElem?_eq_some_iff.1 hi).1
  have hxl := r.blk.lt
  have hgl := r.gb.lt
  have i1 : (0 : Int) ≤ (i : Int) := by omega
  have i2 : (i : Int) < (ns.length : Int) := by omega
  have hmb : (mode == -1) = false := by rcases hm with rfl | rfl <;> rfl
  obtain ⟨a0, a1, a2, a3, a4⟩ := r.cells hi
  have x0 := r.blk.cell 0
  have x1 := r.blk.cell 1
  simp at x0 x1
  unfold ptr msV
  simp only at hbx ⊢
  go_enter Try.func47, Try.ntmps47
  go_upto_region 9 with fail
  generalize (((w.alloc (.cells #[.int .i64 mk, .int .i64 mi, .int .i64 mh] 55)).alloc (.cells #[.int .i64 0, .int .i64 0, .int .i64 0, .int .i64 0, .int .i64 0, .int .i64 0] 57)).alloc (.cells #[.int .i64 c.id, .int .i64 c.st, .int .i64 c.lead, .int .i64 c.reach, .int .i64 c.got] 28)).alloc (.cells #[.int .i64 0, .int .i64 0, .int .i64 0, .int .i64 0, .int .i64 0, .int .i64 0] 57) = V at *
  clear a0 a1 a2 a3 a4 x0 x1
  have hE := mend0 hbx r
  have rV := r.quiet hbx.q
  obtain ⟨a0, a1, a2, a3, a4⟩ := rV.cells hi
  have x0 := rV.blk.cell 0
  have x1 := rV.blk.cell 1
  simp at x0 x1
  have nxg := r.xg
  have ngx := Ne.symm r.xg
  have bd := hbx.d
  have bm := hbx.m
  have bo := hbx.o
  have br := hbx.r
  have d0 := bd.cell 0
  have d1 := bd.cell 1
  have d2 := bd.cell 2
  have d3 := bd.cell 3
  have d4 := bd.cell 4
  simp [mc] at d0 d1 d2 d3 d4
  have mm0 := bm.cell 0
  have mm1 := bm.cell 1
  have mm2 := bm.cell 2
  simp [msC] at mm0 mm1 mm2
  have p0 := bo.cell 0
  have p1 := bo.cell 1
  have p2 := bo.cell 2
  have p3 := bo.cell 3
  have p4 := bo.cell 4
  have p5 := bo.cell 5
  simp at p0 p1 p2 p3 p4 p5
  have fp0 := bo.frozen 0
  have fp1 := bo.frozen 1
  have fp2 := bo.frozen 2
  have fp3 := bo.frozen 3
  have fp4 := bo.frozen 4
  have fp5 := bo.frozen 5
  have r0 := br.cell 0
  have r1 := br.cell 1
  have r2 := br.cell 2
  have r3 := br.cell 3
  have r4 := br.cell 4
  have r5 := br.cell 5
  simp at r0 r1 r2 r3 r4 r5
  have fr0 := br.frozen 0
  have fr1 := br.frozen 1
  have fr2 := br.frozen 2
  have fr3 := br.frozen 3
  have fr4 := br.frozen 4
  have fr5 := br.frozen 5
  have fg1 := rV.gb.frozen (i * 5 + 1)
  have fg2 := rV.gb.frozen (i * 5 + 2)
  have fg3 := rV.gb.frozen (i * 5 + 3)
  have fg4 := rV.gb.frozen (i * 5 + 4)
  have n0 : w.heap.size ≠ g := by omega
  have n1 : w.heap.size + 1 ≠ g := by omega
  have n2 : w.heap.size + 2 ≠ g := by omega
  have n3 : w.heap.size + 3 ≠ g := by omega
  have n4 := Ne.symm n0
  have n5 := Ne.symm n1
  have n6 := Ne.symm n2
  have n7 := Ne.symm n3
  clear bd bm bo br
  have h02 := unhide h0
  have hlt2 := unhide hlt
  have b0 : (mode == 0) = true := by simpa using h02
  have b1 : (mi == c.id) = false := by rw [beq_eq_false_iff_ne]; omega
  have b2 : decide (c.id < mi) = true := by simpa using hlt2
  clear h02 h0
  have hk2 := unhide hk
  subst hk2
  clear hk
  have hE2 := hE.three hxl hgl ⟨1, mi, mh⟩
  clear hE
  have hE := hE2
  clear hE2
  clear rV hbx r hi
  have fin := hide (ms_fin hxl hgl hE.r hE.c hE.g ⟨⟨1, mi, mh⟩, m0⟩)
  clear hE
  unfold three at fin
  go_wp2
  exact bodyPost_ret (v := .tuple #[ouV ⟨⟨1, mi, mh⟩, m0⟩, .int .i64 0]) (results_blk_tmp (u := 57) (cs := ouC ⟨⟨1, mi, mh⟩, m0⟩) Try.results47 rfl Try.isAgg57 Try.sizeOf57 (unhide fin).1) rfl (unhide fin).2

set_option maxRecDepth 100000 in
set_option maxHeartbeats 4000000 in
theorem mstep_r5 (w : World) (x g cap : Nat) (sp : List Value) (mode : Int) (ns : List N5) (r : RepG w x g cap sp mode ns) (i : Nat) (c : N5) (hi : ns[i]? = some c) (dir : Int) (hm : mode = 0 ∨ mode = 1) (hd0 : 0 ≤ dir) (hd1 : dir ≤ mode) (mk mi mh : Int) (hhop : mh ≤ 9223372036854775807) (hk : Hid (mk = 2)) (hne : Hid (¬ mi = c.id)) (h1 : Hid (mode = 1)) :
    Calls Try.prog 47 #[ptr x, .int .i64 i, .int .i64 dir, msV ⟨mk, mi, mh⟩] w (mstepPost w x g cap sp mode ns (towardP (dir) ⟨2, mi, mh⟩)) := by
  have hbx := mboxed w ⟨mk, mi, mh⟩ c
  have hil := (List.getElem?_eq_some_iff.1 hi).1
  have hxl := r.blk.lt
  have hgl := r.gb.lt
  have i1 : (0 : Int) ≤ (i : Int) := by omega
  have i2 : (i : Int) < (ns.length : Int) := by omega
  have hmb : (mode == -1) = false := by rcases hm with rfl | rfl <;> rfl
  obtain ⟨a0, a1, a2, a3, a4⟩ := r.cells hi
  have x0 := r.blk.cell 0
  have x1 := r.blk.cell 1
  simp at x0 x1
  unfold ptr msV
  simp only at hbx ⊢
  go_enter Try.func47, Try.ntmps47
  go_upto_region 9 with fail
  generalize (((w.alloc (.cells #[.int .i64 mk, .int .i64 mi, .int .i64 mh] 55)).alloc (.cells #[.int .i64 0, .int .i64 0, .int .i64 0, .int .i64 0, .int .i64 0, .int .i64 0] 57)).alloc (.cells #[.int .i64 c.id, .int .i64 c.st, .int .i64 c.lead, .int .i64 c.reach, .int .i64 c.got] 28)).alloc (.cells #[.int .i64 0, .int .i64 0, .int .i64 0, .int .i64 0, .int .i64 0, .int .i64 0] 57) = V at *
  clear a0 a1 a2 a3 a4 x0 x1
  have hE := mend0 hbx r
  have rV := r.quiet hbx.q
  obtain ⟨a0, a1, a2, a3, a4⟩ := rV.cells hi
  have x0 := rV.blk.cell 0
  have x1 := rV.blk.cell 1
  simp at x0 x1
  have nxg := r.xg
  have ngx := Ne.symm r.xg
  have bd := hbx.d
  have bm := hbx.m
  have bo := hbx.o
  have br := hbx.r
  have d0 := bd.cell 0
  have d1 := bd.cell 1
  have d2 := bd.cell 2
  have d3 := bd.cell 3
  have d4 := bd.cell 4
  simp [mc] at d0 d1 d2 d3 d4
  have mm0 := bm.cell 0
  have mm1 := bm.cell 1
  have mm2 := bm.cell 2
  simp [msC] at mm0 mm1 mm2
  have p0 := bo.cell 0
  have p1 := bo.cell 1
  have p2 := bo.cell 2
  have p3 := bo.cell 3
  have p4 := bo.cell 4
  have p5 := bo.cell 5
  simp at p0 p1 p2 p3 p4 p5
  have fp0 := bo.frozen 0
  have fp1 := bo.frozen 1
  have fp2 := bo.frozen 2
  have fp3 := bo.frozen 3
  have fp4 := bo.frozen 4
  have fp5 := bo.frozen 5
  have r0 := br.cell 0
  have r1 := br.cell 1
  have r2 := br.cell 2
  have r3 := br.cell 3
  have r4 := br.cell 4
  have r5 := br.cell 5
  simp at r0 r1 r2 r3 r4 r5
  have fr0 := br.frozen 0
  have fr1 := br.frozen 1
  have fr2 := br.frozen 2
  have fr3 := br.frozen 3
  have fr4 := br.frozen 4
  have fr5 := br.frozen 5
  have fg1 := rV.gb.frozen (i * 5 + 1)
  have fg2 := rV.gb.frozen (i * 5 + 2)
  have fg3 := rV.gb.frozen (i * 5 + 3)
  have fg4 := rV.gb.frozen (i * 5 + 4)
  have n0 : w.heap.size ≠ g := by omega
  have n1 : w.heap.size + 1 ≠ g := by omega
  have n2 : w.heap.size + 2 ≠ g := by omega
  have n3 : w.heap.size + 3 ≠ g := by omega
  have n4 := Ne.symm n0
  have n5 := Ne.symm n1
  have n6 := Ne.symm n2
  have n7 := Ne.symm n3
  clear bd bm bo br
  have h12 := unhide h1
  have b0 : (mode == 1) = true := by simpa using h12
  have b1 : (mi == c.id) = false := by simpa using unhide hne
  have b1n : (mi != c.id) = true := by rw [bne, b1]; rfl
  clear h12 h1
  have hk2 := unhide hk
  subst hk2
  clear hk
  have htw := fun V' => toward_any V' (dir) ⟨2, mi, mh⟩
  unfold msV at htw
  go_wp2_with fail
  refine (htw _).mono ?_
  rintro e Vc ⟨rfl, hq2⟩
  have hEc := hE.quiet hq2
  clear a0 a1 a2 a3 a4 x0 x1 d0 d1 d2 d3 d4 mm0 mm1 mm2 p0 p1 p2 p3 p4 p5 fp0 fp1 fp2 fp3 fp4 fp5 r0 r1 r2 r3 r4 r5 fr0 fr1 fr2 fr3 fr4 fr5 fg1 fg2 fg3 fg4 hE rV hbx r hi htw hq2
  have bE := hEc.r
  have oE := hEc.o
  have rr0 := bE.cell 0
  have rr1 := bE.cell 1
  have rr2 := bE.cell 2
  have rr3 := bE.cell 3
  have rr4 := bE.cell 4
  have rr5 := bE.cell 5
  simp at rr0 rr1 rr2 rr3 rr4 rr5
  have frr0 := bE.frozen 0
  have frr1 := bE.frozen 1
  have frr2 := bE.frozen 2
  have frr3 := bE.frozen 3
  have frr4 := bE.frozen 4
  have frr5 := bE.frozen 5
  have pp0 := oE.cell 0
  have pp1 := oE.cell 1
  have pp2 := oE.cell 2
  have pp3 := oE.cell 3
  have pp4 := oE.cell 4
  have pp5 := oE.cell 5
  simp [ouC, msC, o0, m0] at pp0 pp1 pp2 pp3 pp4 pp5
  have fpp0 := oE.frozen 0
  have fpp1 := oE.frozen 1
  have fpp2 := oE.frozen 2
  have fpp3 := oE.frozen 3
  have fpp4 := oE.frozen 4
  have fpp5 := oE.frozen 5
  generalize towardP (dir) ⟨2, mi, mh⟩ = R at *
  have hE := hEc.six hxl hgl R
  have fin := hide (ms_fin hxl hgl hE.r hE.c hE.g R)
  clear hE hEc bE oE
  have nn : w.heap.size + 1 ≠ w.heap.size + 3 := by omega
  have nn2 := Ne.symm nn
  unfold six at fin
  unfold ouV
  go_wp2
  exact bodyPost_ret (v := .tuple #[ouV R, .int .i64 0]) (results_blk_tmp (u := 57) (cs := ouC R) Try.results47 rfl Try.isAgg57 Try.sizeOf57 (unhide fin).1) rfl (unhide fin).2

set_option maxRecDepth 100000 in
set_option maxHeartbeats 4000000 in
theorem mstep_r3 (w : World) (x g cap : Nat) (sp : List Value) (mode : Int) (ns : List N5) (r : RepG w x g cap sp mode ns) (i : Nat) (c : N5) (hi : ns[i]? = some c) (dir : Int) (hm : mode = 0 ∨ mode = 1) (hd0 : 0 ≤ dir) (hd1 : dir ≤ mode) (mk mi mh : Int) (hhop : mh ≤ 9223372036854775807) (hk : Hid (mk = 1)) (hlt : Hid (c.id < mi)) (h1 : Hid (mode = 1)) (hh : Hid (1 < mh)) :
    Calls Try.prog 47 #[ptr x, .int .i64 i, .int .i64 dir, msV ⟨mk, mi, mh⟩] w (mstepPost w x g cap sp mode ns (towardP (dir) ⟨1, mi, mh - 1⟩)) := by
  have hbx := mboxed w ⟨mk, mi, mh⟩ c
  have hil := (List.getElem?_eq_some_iff.1 hi).1
  have hxl := r.blk.lt
  have hgl := r.gb.lt
  have i1 : (0 : Int) ≤ (i : Int) := by omega
  have i2 : (i : Int) < (ns.length : Int) := by omega
  have hmb : (mode == -1) = false := by rcases hm with rfl | rfl <;> rfl
  obtain ⟨a0, a1, a2, a3, a4⟩ := r.cells hi
  have x0 := r.blk.cell 0
  have x1 := r.blk.cell 1
  simp at x0 x1
  unfold ptr msV
  simp only at hbx ⊢
  go_enter Try.func47, Try.ntmps47
  go_upto_region 9 with fail
  generalize (((w.alloc (.cells #[.int .i64 mk, .int .i64 mi, .int .i64 mh] 55)).alloc (.cells #[.int .i64 0, .int .i64 0, .int .i64 0, .int .i64 0, .int .i64 0, .int .i64 0] 57)).alloc (.cells #[.int .i64 c.id, .int .i64 c.st, .int .i64 c.lead, .int .i64 c.reach, .int .i64 c.got] 28)).alloc (.cells #[.int .i64 0, .int .i64 0, .int .i64 0, .int .i64 0, .int .i64 0, .int .i64 0] 57) = V at *
  clear a0 a1 a2 a3 a4 x0 x1
  have hE := mend0 hbx r
  have rV := r.quiet hbx.q
  obtain ⟨a0, a1, a2, a3, a4⟩ := rV.cells hi
  have x0 := rV.blk.cell 0
  have x1 := rV.blk.cell 1
  simp at x0 x1
  have nxg := r.xg
  have ngx := Ne.symm r.xg
  have bd := hbx.d
  have bm := hbx.m
  have bo := hbx.o
  have br := hbx.r
  have d0 := bd.cell 0
  have d1 := bd.cell 1
  have d2 := bd.cell 2
  have d3 := bd.cell 3
  have d4 := bd.cell 4
  simp [mc] at d0 d1 d2 d3 d4
  have mm0 := bm.cell 0
  have mm1 := bm.cell 1
  have mm2 := bm.cell 2
  simp [msC] at mm0 mm1 mm2
  have p0 := bo.cell 0
  have p1 := bo.cell 1
  have p2 := bo.cell 2
  have p3 := bo.cell 3
  have p4 := bo.cell 4
  have p5 := bo.cell 5
  simp at p0 p1 p2 p3 p4 p5
  have fp0 := bo.frozen 0
  have fp1 := bo.frozen 1
  have fp2 := bo.frozen 2
  have fp3 := bo.frozen 3
  have fp4 := bo.frozen 4
  have fp5 := bo.frozen 5
  have r0 := br.cell 0
  have r1 := br.cell 1
  have r2 := br.cell 2
  have r3 := br.cell 3
  have r4 := br.cell 4
  have r5 := br.cell 5
  simp at r0 r1 r2 r3 r4 r5
  have fr0 := br.frozen 0
  have fr1 := br.frozen 1
  have fr2 := br.frozen 2
  have fr3 := br.frozen 3
  have fr4 := br.frozen 4
  have fr5 := br.frozen 5
  have fg1 := rV.gb.frozen (i * 5 + 1)
  have fg2 := rV.gb.frozen (i * 5 + 2)
  have fg3 := rV.gb.frozen (i * 5 + 3)
  have fg4 := rV.gb.frozen (i * 5 + 4)
  have n0 : w.heap.size ≠ g := by omega
  have n1 : w.heap.size + 1 ≠ g := by omega
  have n2 : w.heap.size + 2 ≠ g := by omega
  have n3 : w.heap.size + 3 ≠ g := by omega
  have n4 := Ne.symm n0
  have n5 := Ne.symm n1
  have n6 := Ne.symm n2
  have n7 := Ne.symm n3
  clear bd bm bo br
  have hlt2 := unhide hlt
  have b1 : (mi == c.id) = false := by rw [beq_eq_false_iff_ne]; omega
  have b2 : decide (c.id < mi) = true := by simpa using hlt2
  have h12 := unhide h1
  have b0 : (mode == 1) = true := by simpa using h12
  have b00 : (mode == 0) = false := by rw [h12]; rfl
  clear h12 h1
  have hh2 := unhide hh
  have b3 : decide (1 < mh) = true := by simpa using hh2
  have hw1 : IntKind.i64.wrap (mh - 1) = mh - 1 := by rw [IntKind.wrap_i64]; omega
  have hk2 := unhide hk
  subst hk2
  clear hk
  have htw := fun V' => toward_any V' (dir) ⟨1, mi, mh - 1⟩
  unfold msV at htw
  go_wp2_with fail
  refine (htw _).mono ?_
  rintro e Vc ⟨rfl, hq2⟩
  have hEc := hE.quiet hq2
  clear a0 a1 a2 a3 a4 x0 x1 d0 d1 d2 d3 d4 mm0 mm1 mm2 p0 p1 p2 p3 p4 p5 fp0 fp1 fp2 fp3 fp4 fp5 r0 r1 r2 r3 r4 r5 fr0 fr1 fr2 fr3 fr4 fr5 fg1 fg2 fg3 fg4 hE rV hbx r hi htw hq2
  have bE := hEc.r
  have oE := hEc.o
  have rr0 := bE.cell 0
  have rr1 := bE.cell 1
  have rr2 := bE.cell 2
  have rr3 := bE.cell 3
  have rr4 := bE.cell 4
  have rr5 := bE.cell 5
  simp at rr0 rr1 rr2 rr3 rr4 rr5
  have frr0 := bE.frozen 0
  have frr1 := bE.frozen 1
  have frr2 := bE.frozen 2
  have frr3 := bE.frozen 3
  have frr4 := bE.frozen 4
  have frr5 := bE.frozen 5
  have pp0 := oE.cell 0
  have pp1 := oE.cell 1
  have pp2 := oE.cell 2
  have pp3 := oE.cell 3
  have pp4 := oE.cell 4
  have pp5 := oE.cell 5
  simp [ouC, msC, o0, m0] at pp0 pp1 pp2 pp3 pp4 pp5
  have fpp0 := oE.frozen 0
  have fpp1 := oE.frozen 1
  have fpp2 := oE.frozen 2
  have fpp3 := oE.frozen 3
  have fpp4 := oE.frozen 4
  have fpp5 := oE.frozen 5
  generalize towardP (dir) ⟨1, mi, mh - 1⟩ = R at *
  have hE := hEc.six hxl hgl R
  have fin := hide (ms_fin hxl hgl hE.r hE.c hE.g R)
  clear hE hEc bE oE
  have nn : w.heap.size + 1 ≠ w.heap.size + 3 := by omega
  have nn2 := Ne.symm nn
  unfold six at fin
  unfold ouV
  go_wp2
  exact bodyPost_ret (v := .tuple #[ouV R, .int .i64 0]) (results_blk_tmp (u := 57) (cs := ouC R) Try.results47 rfl Try.isAgg57 Try.sizeOf57 (unhide fin).1) rfl (unhide fin).2

set_option maxRecDepth 100000 in
set_option maxHeartbeats 4000000 in
theorem mstep_r4 (w : World) (x g cap : Nat) (sp : List Value) (mode : Int) (ns : List N5) (r : RepG w x g cap sp mode ns) (i : Nat) (c : N5) (hi : ns[i]? = some c) (dir : Int) (hm : mode = 0 ∨ mode = 1) (hd0 : 0 ≤ dir) (hd1 : dir ≤ mode) (mk mi mh : Int) (hhop : mh ≤ 9223372036854775807) (hk : Hid (mk = 1)) (hlt : Hid (c.id < mi)) (h1 : Hid (mode = 1)) (hh : Hid (¬ 1 < mh)) :
    Calls Try.prog 47 #[ptr x, .int .i64 i, .int .i64 dir, msV ⟨mk, mi, mh⟩] w (mstepPost w x g cap sp mode ns (towardP (1 - dir) ⟨2, mi, 0⟩)) := by
  have hbx := mboxed w ⟨mk, mi, mh⟩ c
  have hil := (List.getElem?_eq_some_iff.1 hi).1
  have hxl := r.blk.lt
  have hgl := r.gb.lt
  have i1 : (0 : Int) ≤ (i : Int) := by omega
  have i2 : (i : Int) < (ns.length : Int) := by omega
  have hmb : (mode == -1) = false := by rcases hm with rfl | rfl <;> rfl
  obtain ⟨a0, a1, a2, a3, a4⟩ := r.cells hi
  have x0 := r.blk.cell 0
  have x1 := r.blk.cell 1
  simp at x0 x1
  unfold ptr msV
  simp only at hbx ⊢
  go_enter Try.func47, Try.ntmps47
  go_upto_region 9 with fail
  generalize (((w.alloc (.cells #[.int .i64 mk, .int .i64 mi, .int .i64 mh] 55)).alloc (.cells #[.int .i64 0, .int .i64 0, .int .i64 0, .int .i64 0, .int .i64 0, .int .i64 0] 57)).alloc (.cells #[.int .i64 c.id, .int .i64 c.st, .int .i64 c.lead, .int .i64 c.reach, .int .i64 c.got] 28)).alloc (.cells #[.int .i64 0, .int .i64 0, .int .i64 0, .int .i64 0, .int .i64 0, .int .i64 0] 57) = V at *
  clear a0 a1 a2 a3 a4 x0 x1
  have hE := mend0 hbx r
  have rV := r.quiet hbx.q
  obtain ⟨a0, a1, a2, a3, a4⟩ := rV.cells hi
  have x0 := rV.blk.cell 0
  have x1 := rV.blk.cell 1
  simp at x0 x1
  have nxg := r.xg
  have ngx := Ne.symm r.xg
  have bd := hbx.d
  have bm := hbx.m
  have bo := hbx.o
  have br := hbx.r
  have d0 := bd.cell 0
  have d1 := bd.cell 1
  have d2 := bd.cell 2
  have d3 := bd.cell 3
  have d4 := bd.cell 4
  simp [mc] at d0 d1 d2 d3 d4
  have mm0 := bm.cell 0
  have mm1 := bm.cell 1
  have mm2 := bm.cell 2
  simp [msC] at mm0 mm1 mm2
  have p0 := bo.cell 0
  have p1 := bo.cell 1
  have p2 := bo.cell 2
  have p3 := bo.cell 3
  have p4 := bo.cell 4
  have p5 := bo.cell 5
  simp at p0 p1 p2 p3 p4 p5
  have fp0 := bo.frozen 0
  have fp1 := bo.frozen 1
  have fp2 := bo.frozen 2
  have fp3 := bo.frozen 3
  have fp4 := bo.frozen 4
  have fp5 := bo.frozen 5
  have r0 := br.cell 0
  have r1 := br.cell 1
  have r2 := br.cell 2
  have r3 := br.cell 3
  have r4 := br.cell 4
  have r5 := br.cell 5
  simp at r0 r1 r2 r3 r4 r5
  have fr0 := br.frozen 0
  have fr1 := br.frozen 1
  have fr2 := br.frozen 2
  have fr3 := br.frozen 3
  have fr4 := br.frozen 4
  have fr5 := br.frozen 5
  have fg1 := rV.gb.frozen (i * 5 + 1)
  have fg2 := rV.gb.frozen (i * 5 + 2)
  have fg3 := rV.gb.frozen (i * 5 + 3)
  have fg4 := rV.gb.frozen (i * 5 + 4)
  have n0 : w.heap.size ≠ g := by omega
  have n1 : w.heap.size + 1 ≠ g := by omega
  have n2 : w.heap.size + 2 ≠ g := by omega
  have n3 : w.heap.size + 3 ≠ g := by omega
  have n4 := Ne.symm n0
  have n5 := Ne.symm n1
  have n6 := Ne.symm n2
  have n7 := Ne.symm n3
  clear bd bm bo br
  have hlt2 := unhide hlt
  have b1 : (mi == c.id) = false := by rw [beq_eq_false_iff_ne]; omega
  have b2 : decide (c.id < mi) = true := by simpa using hlt2
  have hdd : dir ≤ 1 := by have := unhide h1; omega
  have h12 := unhide h1
  have b0 : (mode == 1) = true := by simpa using h12
  have b00 : (mode == 0) = false := by rw [h12]; rfl
  clear h12 h1
  have hh2 : mh ≤ 1 := by have := unhide hh; omega
  have b3 : decide (1 < mh) = false := by simpa using unhide hh
  have hw1 : IntKind.i64.wrap (1 - dir) = 1 - dir := by rw [IntKind.wrap_i64]; omega
  have hk2 := unhide hk
  subst hk2
  clear hk
  have htw := fun V' => toward_any V' (1 - dir) ⟨2, mi, 0⟩
  unfold msV at htw
  go_wp2_with fail
  refine (htw _).mono ?_
  rintro e Vc ⟨rfl, hq2⟩
  have hEc := hE.quiet hq2
  clear a0 a1 a2 a3 a4 x0 x1 d0 d1 d2 d3 d4 mm0 mm1 mm2 p0 p1 p2 p3 p4 p5 fp0 fp1 fp2 fp3 fp4 fp5 r0 r1 r2 r3 r4 r5 fr0 fr1 fr2 fr3 fr4 fr5 fg1 fg2 fg3 fg4 hE rV hbx r hi htw hq2
  have bE := hEc.r
  have oE := hEc.o
  have rr0 := bE.cell 0
  have rr1 := bE.cell 1
  have rr2 := bE.cell 2
  have rr3 := bE.cell 3
  have rr4 := bE.cell 4
  have rr5 := bE.cell 5
  simp at rr0 rr1 rr2 rr3 rr4 rr5
  have frr0 := bE.frozen 0
  have frr1 := bE.frozen 1
  have frr2 := bE.frozen 2
  have frr3 := bE.frozen 3
  have frr4 := bE.frozen 4
  have frr5 := bE.frozen 5
  have pp0 := oE.cell 0
  have pp1 := oE.cell 1
  have pp2 := oE.cell 2
  have pp3 := oE.cell 3
  have pp4 := oE.cell 4
  have pp5 := oE.cell 5
  simp [ouC, msC, o0, m0] at pp0 pp1 pp2 pp3 pp4 pp5
  have fpp0 := oE.frozen 0
  have fpp1 := oE.frozen 1
  have fpp2 := oE.frozen 2
  have fpp3 := oE.frozen 3
  have fpp4 := oE.frozen 4
  have fpp5 := oE.frozen 5
  generalize towardP (1 - dir) ⟨2, mi, 0⟩ = R at *
  have hE := hEc.six hxl hgl R
  have fin := hide (ms_fin hxl hgl hE.r hE.c hE.g R)
  clear hE hEc bE oE
  have nn : w.heap.size + 1 ≠ w.heap.size + 3 := by omega
  have nn2 := Ne.symm nn
  unfold six at fin
  unfold ouV
  go_wp2
  exact bodyPost_ret (v := .tuple #[ouV R, .int .i64 0]) (results_blk_tmp (u := 57) (cs := ouC R) Try.results47 rfl Try.isAgg57 Try.sizeOf57 (unhide fin).1) rfl (unhide fin).2

set_option maxRecDepth 100000 in
set_option maxHeartbeats 4000000 in
theorem mstep_s1a (w : World) (x g cap : Nat) (sp : List Value) (mode : Int) (ns : List N5) (r : RepG w x g cap sp mode ns) (i : Nat) (c : N5) (hi : ns[i]? = some c) (dir : Int) (hm : mode = 0 ∨ mode = 1) (hd0 : 0 ≤ dir) (hd1 : dir ≤ mode) (mk mi mh : Int) (hhop : mh ≤ 9223372036854775807) (hk : Hid (mk = 1)) (he : Hid (mi = c.id)) (hs : Hid (c.st = 2)) :
    Calls Try.prog 47 #[ptr x, .int .i64 i, .int .i64 dir, msV ⟨mk, mi, mh⟩] w (mstepPost w x g cap sp mode ns o0) := by
  have hbx := mboxed w ⟨mk, mi, mh⟩ c
  have hil := (List.getElem?_eq_some_iff.1 hi).1
  have hxl := r.blk.lt
  have hgl := r.gb.lt
  have i1 : (0 : Int) ≤ (i : Int) := by omega
  have i2 : (i : Int) < (ns.length : Int) := by omega
  have hmb : (mode == -1) = false := by rcases hm with rfl | rfl <;> rfl
  obtain ⟨a0, a1, a2, a3, a4⟩ := r.cells hi
  have x0 := r.blk.cell 0
  have x1 := r.blk.cell 1
  simp at x0 x1
  unfold ptr msV
  simp only at hbx ⊢
  go_enter Try.func47, Try.ntmps47
  go_upto_region 9 with fail
  generalize (((w.alloc (.cells #[.int .i64 mk, .int .i64 mi, .int .i64 mh] 55)).alloc (.cells #[.int .i64 0, .int .i64 0, .int .i64 0, .int .i64 0, .int .i64 0, .int .i64 0] 57)).alloc (.cells #[.int .i64 c.id, .int .i64 c.st, .int .i64 c.lead, .int .i64 c.reach, .int .i64 c.got] 28)).alloc (.cells #[.int .i64 0, .int .i64 0, .int .i64 0, .int .i64 0, .int .i64 0, .int .i64 0] 57) = V at *
  clear a0 a1 a2 a3 a4 x0 x1
  have hE := mend0 hbx r
  have rV := r.quiet hbx.q
  obtain ⟨a0, a1, a2, a3, a4⟩ := rV.cells hi
  have x0 := rV.blk.cell 0
  have x1 := rV.blk.cell 1
  simp at x0 x1
  have nxg := r.xg
  have ngx := Ne.symm r.xg
  have bd := hbx.d
  have bm := hbx.m
  have bo := hbx.o
  have br := hbx.r
  have d0 := bd.cell 0
  have d1 := bd.cell 1
  have d2 := bd.cell 2
  have d3 := bd.cell 3
  have d4 := bd.cell 4
  simp [mc] at d0 d1 d2 d3 d4
  have mm0 := bm.cell 0
  have mm1 := bm.cell 1
  have mm2 := bm.cell 2
  simp [msC] at mm0 mm1 mm2
  have p0 := bo.cell 0
  have p1 := bo.cell 1
  have p2 := bo.cell 2
  have p3 := bo.cell 3
  have p4 := bo.cell 4
  have p5 := bo.cell 5
  simp at p0 p1 p2 p3 p4 p5
  have fp0 := bo.frozen 0
  have fp1 := bo.frozen 1
  have fp2 := bo.frozen 2
  have fp3 := bo.frozen 3
  have fp4 := bo.frozen 4
  have fp5 := bo.frozen 5
  have r0 := br.cell 0
  have r1 := br.cell 1
  have r2 := br.cell 2
  have r3 := br.cell 3
  have r4 := br.cell 4
  have r5 := br.cell 5
  simp at r0 r1 r2 r3 r4 r5
  have fr0 := br.frozen 0
  have fr1 := br.frozen 1
  have fr2 := br.frozen 2
  have fr3 := br.frozen 3
  have fr4 := br.frozen 4
  have fr5 := br.frozen 5
  have fg1 := rV.gb.frozen (i * 5 + 1)
  have fg2 := rV.gb.frozen (i * 5 + 2)
  have fg3 := rV.gb.frozen (i * 5 + 3)
  have fg4 := rV.gb.frozen (i * 5 + 4)
  have n0 : w.heap.size ≠ g := by omega
  have n1 : w.heap.size + 1 ≠ g := by omega
  have n2 : w.heap.size + 2 ≠ g := by omega
  have n3 : w.heap.size + 3 ≠ g := by omega
  have n4 := Ne.symm n0
  have n5 := Ne.symm n1
  have n6 := Ne.symm n2
  have n7 := Ne.symm n3
  clear bd bm bo br
  have hlt2 : decide (c.id < mi) = false := by have := unhide he; simp; omega
  have hlt3 : mi ≤ c.id := by have := unhide he; omega
  have b4 : (c.st == 2) = true := by simpa using unhide hs
  have b5 : (c.st != 2) = false := by rw [bne, b4]; rfl
  clear hs
  have b1 : (mi == c.id) = true := by simpa using unhide he
  have b1n : (mi != c.id) = false := by rw [bne, b1]; rfl
  clear he
  have hk2 := unhide hk
  subst hk2
  clear hk
  clear rV hbx r hi
  have bE := hE.r
  have oE := hE.o
  have fin := hide (ms_fin hxl hgl hE.r hE.c hE.g o0)
  have rr0 := bE.cell 0
  have rr1 := bE.cell 1
  have rr2 := bE.cell 2
  have rr3 := bE.cell 3
  have rr4 := bE.cell 4
  have rr5 := bE.cell 5
  simp at rr0 rr1 rr2 rr3 rr4 rr5
  have frr0 := bE.frozen 0
  have frr1 := bE.frozen 1
  have frr2 := bE.frozen 2
  have frr3 := bE.frozen 3
  have frr4 := bE.frozen 4
  have frr5 := bE.frozen 5
  have u0 := oE.cell 0
  have u1 := oE.cell 1
  have u2 := oE.cell 2
  have u3 := oE.cell 3
  have u4 := oE.cell 4
  have u5 := oE.cell 5
  simp [ouC, msC, o0, m0] at u0 u1 u2 u3 u4 u5
  have nn : w.heap.size + 1 ≠ w.heap.size + 3 := by omega
  clear hE bE oE
  go_wp2
  exact bodyPost_ret (v := .tuple #[ouV o0, .int .i64 0]) (results_blk_tmp (u := 57) (cs := ouC o0) Try.results47 rfl Try.isAgg57 Try.sizeOf57 (unhide fin).1) rfl (unhide fin).2

set_option maxRecDepth 100000 in
set_option maxHeartbeats 4000000 in
theorem mstep_s1b (w : World) (x g cap : Nat) (sp : List Value) (mode : Int) (ns : List N5) (r : RepG w x g cap sp mode ns) (i : Nat) (c : N5) (hi : ns[i]? = some c) (dir : Int) (hm : mode = 0 ∨ mode = 1) (hd0 : 0 ≤ dir) (hd1 : dir ≤ mode) (mk mi mh : Int) (hhop : mh ≤ 9223372036854775807) (hk : Hid (mk = 1)) (hlt : Hid (mi < c.id)) :
    Calls Try.prog 47 #[ptr x, .int .i64 i, .int .i64 dir, msV ⟨mk, mi, mh⟩] w (mstepPost w x g cap sp mode ns o0) := by
  have hbx := mboxed w ⟨mk, mi, mh⟩ c
  have hil := (List.getElem?_eq_some_iff.1 hi).1
  have hxl := r.blk.lt
  have hgl := r.gb.lt
  have i1 : (0 : Int) ≤ (i : Int) := by omega
  have i2 : (i : Int) < (ns.length : Int) := by omega
  have hmb : (mode == -1) = false := by rcases hm with rfl | rfl <;> rfl
  obtain ⟨a0, a1, a2, a3, a4⟩ := r.cells hi
  have x0 := r.blk.cell 0
  have x1 := r.blk.cell 1
  simp at x0 x1
  unfold ptr msV
  simp only at hbx ⊢
  go_enter Try.func47, Try.ntmps47
  go_upto_region 9 with fail
  generalize (((w.alloc (.cells #[.int .i64 mk, .int .i64 mi, .int .i64 mh] 55)).alloc (.cells #[.int .i64 0, .int .i64 0, .int .i64 0, .int .i64 0, .int .i64 0, .int .i64 0] 57)).alloc (.cells #[.int .i64 c.id, .int .i64 c.st, .int .i64 c.lead, .int .i64 c.reach, .int .i64 c.got] 28)).alloc (.cells #[.int .i64 0, .int .i64 0, .int .i64 0, .int .i64 0, .int .i64 0, .int .i64 0] 57) = V at *
  clear a0 a1 a2 a3 a4 x0 x1
  have hE := mend0 hbx r
  have rV := r.quiet hbx.q
  obtain ⟨a0, a1, a2, a3, a4⟩ := rV.cells hi
  have x0 := rV.blk.cell 0
  have x1 := rV.blk.cell 1
  simp at x0 x1
  have nxg := r.xg
  have ngx := Ne.symm r.xg
  have bd := hbx.d
  have bm := hbx.m
  have bo := hbx.o
  have br := hbx.r
  have d0 := bd.cell 0
  have d1 := bd.cell 1
  have d2 := bd.cell 2
  have d3 := bd.cell 3
  have d4 := bd.cell 4
  simp [mc] at d0 d1 d2 d3 d4
  have mm0 := bm.cell 0
  have mm1 := bm.cell 1
  have mm2 := bm.cell 2
  simp [msC] at mm0 mm1 mm2
  have p0 := bo.cell 0
  have p1 := bo.cell 1
  have p2 := bo.cell 2
  have p3 := bo.cell 3
  have p4 := bo.cell 4
  have p5 := bo.cell 5
  simp at p0 p1 p2 p3 p4 p5
  have fp0 := bo.frozen 0
  have fp1 := bo.frozen 1
  have fp2 := bo.frozen 2
  have fp3 := bo.frozen 3
  have fp4 := bo.frozen 4
  have fp5 := bo.frozen 5
  have r0 := br.cell 0
  have r1 := br.cell 1
  have r2 := br.cell 2
  have r3 := br.cell 3
  have r4 := br.cell 4
  have r5 := br.cell 5
  simp at r0 r1 r2 r3 r4 r5
  have fr0 := br.frozen 0
  have fr1 := br.frozen 1
  have fr2 := br.frozen 2
  have fr3 := br.frozen 3
  have fr4 := br.frozen 4
  have fr5 := br.frozen 5
  have fg1 := rV.gb.frozen (i * 5 + 1)
  have fg2 := rV.gb.frozen (i * 5 + 2)
  have fg3 := rV.gb.frozen (i * 5 + 3)
  have fg4 := rV.gb.frozen (i * 5 + 4)
  have n0 : w.heap.size ≠ g := by omega
  have n1 : w.heap.size + 1 ≠ g := by omega
  have n2 : w.heap.size + 2 ≠ g := by omega
  have n3 : w.heap.size + 3 ≠ g := by omega
  have n4 := Ne.symm n0
  have n5 := Ne.symm n1
  have n6 := Ne.symm n2
  have n7 := Ne.symm n3
  clear bd bm bo br
  have hlt2 : decide (c.id < mi) = false := by have := unhide hlt; simp; omega
  have hlt3 : mi ≤ c.id := by have := unhide hlt; omega
  have b1 : (mi == c.id) = false := by rw [beq_eq_false_iff_ne]; have := unhide hlt; omega
  clear hlt
  have hk2 := unhide hk
  subst hk2
  clear hk
  clear rV hbx r hi
  have bE := hE.r
  have oE := hE.o
  have fin := hide (ms_fin hxl hgl hE.r hE.c hE.g o0)
  have rr0 := bE.cell 0
  have rr1 := bE.cell 1
  have rr2 := bE.cell 2
  have rr3 := bE.cell 3
  have rr4 := bE.cell 4
  have rr5 := bE.cell 5
  simp at rr0 rr1 rr2 rr3 rr4 rr5
  have frr0 := bE.frozen 0
  have frr1 := bE.frozen 1
  have frr2 := bE.frozen 2
  have frr3 := bE.frozen 3
  have frr4 := bE.frozen 4
  have frr5 := bE.frozen 5
  have u0 := oE.cell 0
  have u1 := oE.cell 1
  have u2 := oE.cell 2
  have u3 := oE.cell 3
  have u4 := oE.cell 4
  have u5 := oE.cell 5
  simp [ouC, msC, o0, m0] at u0 u1 u2 u3 u4 u5
  have nn : w.heap.size + 1 ≠ w.heap.size + 3 := by omega
  clear hE bE oE
  go_wp2
  exact bodyPost_ret (v := .tuple #[ouV o0, .int .i64 0]) (results_blk_tmp (u := 57) (cs := ouC o0) Try.results47 rfl Try.isAgg57 Try.sizeOf57 (unhide fin).1) rfl (unhide fin).2

set_option maxRecDepth 100000 in
set_option maxHeartbeats 4000000 in
theorem mstep_s2a (w : World) (x g cap : Nat) (sp : List Value) (mode : Int) (ns : List N5) (r : RepG w x g cap sp mode ns) (i : Nat) (c : N5) (hi : ns[i]? = some c) (dir : Int) (hm : mode = 0 ∨ mode = 1) (hd0 : 0 ≤ dir) (hd1 : dir ≤ mode) (mk mi mh : Int) (hhop : mh ≤ 9223372036854775807) (hk : Hid (mk = 2)) (h0 : Hid (mode = 0)) :
    Calls Try.prog 47 #[ptr x, .int .i64 i, .int .i64 dir, msV ⟨mk, mi, mh⟩] w (mstepPost w x g cap sp mode ns o0) := by
  have hbx := mboxed w ⟨mk, mi, mh⟩ c
  have hil := (List.getElem?_eq_some_iff.1 hi).1
  have hxl := r.blk.lt
  have hgl := r.gb.lt
  have i1 : (0 : Int) ≤ (i : Int) := by omega
  have i2 : (i : Int) < (ns.length : Int) := by omega
  have hmb : (mode == -1) = false := by rcases hm with rfl | rfl <;> rfl
  obtain ⟨a0, a1, a2, a3, a4⟩ := r.cells hi
  have x0 := r.blk.cell 0
  have x1 := r.blk.cell 1
  simp at x0 x1
  unfold ptr msV
  simp only at hbx ⊢
  go_enter Try.func47, Try.ntmps47
  go_upto_region 9 with fail
  generalize (((w.alloc (.cells #[.int .i64 mk, .int .i64 mi, .int .i64 mh] 55)).alloc (.cells #[.int .i64 0, .int .i64 0, .int .i64 0, .int .i64 0, .int .i64 0, .int .i64 0] 57)).alloc (.cells #[.int .i64 c.id, .int .i64 c.st, .int .i64 c.lead, .int .i64 c.reach, .int .i64 c.got] 28)).alloc (.cells #[.int .i64 0, .int .i64 0, .int .i64 0, .int .i64 0, .int .i64 0, .int .i64 0] 57) = V at *
  clear a0 a1 a2 a3 a4 x0 x1
  have hE := mend0 hbx r
  have rV := r.quiet hbx.q
  obtain ⟨a0, a1, a2, a3, a4⟩ := rV.cells hi
  have x0 := rV.blk.cell 0
  have x1 := rV.blk.cell 1
  simp at x0 x1
  have nxg := r.xg
  have ngx := Ne.symm r.xg
  have bd := hbx.d
  have bm := hbx.m
  have bo := hbx.o
  have br := hbx.r
  have d0 := bd.cell 0
  have d1 := bd.cell 1
  have d2 := bd.cell 2
  have d3 := bd.cell 3
  have d4 := bd.cell 4
  simp [mc] at d0 d1 d2 d3 d4
  have mm0 := bm.cell 0
  have mm1 := bm.cell 1
  have mm2 := bm.cell 2
  simp [msC] at mm0 mm1 mm2
  have p0 := bo.cell 0
  have p1 := bo.cell 1
  have p2 := bo.cell 2
  have p3 := bo.cell 3
  have p4 := bo.cell 4
  have p5 := bo.cell 5
  simp at p0 p1 p2 p3 p4 p5
  have fp0 := bo.frozen 0
  have fp1 := bo.frozen 1
  have fp2 := bo.frozen 2
  have fp3 := bo.frozen 3
  have fp4 := bo.frozen 4
  have fp5 := bo.frozen 5
  have r0 := br.cell 0
  have r1 := br.cell 1
  have r2 := br.cell 2
  have r3 := br.cell 3
  have r4 := br.cell 4
  have r5 := br.cell 5
  simp at r0 r1 r2 r3 r4 r5
  have fr0 := br.frozen 0
  have fr1 := br.frozen 1
  have fr2 := br.frozen 2
  have fr3 := br.frozen 3
  have fr4 := br.frozen 4
  have fr5 := br.frozen 5
  have fg1 := rV.gb.frozen (i * 5 + 1)
  have fg2 := rV.gb.frozen (i * 5 + 2)
  have fg3 := rV.gb.frozen (i * 5 + 3)
  have fg4 := rV.gb.frozen (i * 5 + 4)
  have n0 : w.heap.size ≠ g := by omega
  have n1 : w.heap.size + 1 ≠ g := by omega
  have n2 : w.heap.size + 2 ≠ g := by omega
  have n3 : w.heap.size + 3 ≠ g := by omega
  have n4 := Ne.symm n0
  have n5 := Ne.symm n1
  have n6 := Ne.symm n2
  have n7 := Ne.symm n3
  clear bd bm bo br
  have b0 : (mode == 1) = false := by rw [unhide h0]; rfl
  clear h0
  have hk2 := unhide hk
  subst hk2
  clear hk
  clear rV hbx r hi
  have bE := hE.r
  have oE := hE.o
  have fin := hide (ms_fin hxl hgl hE.r hE.c hE.g o0)
  have rr0 := bE.cell 0
  have rr1 := bE.cell 1
  have rr2 := bE.cell 2
  have rr3 := bE.cell 3
  have rr4 := bE.cell 4
  have rr5 := bE.cell 5
  simp at rr0 rr1 rr2 rr3 rr4 rr5
  have frr0 := bE.frozen 0
  have frr1 := bE.frozen 1
  have frr2 := bE.frozen 2
  have frr3 := bE.frozen 3
  have frr4 := bE.frozen 4
  have frr5 := bE.frozen 5
  have u0 := oE.cell 0
  have u1 := oE.cell 1
  have u2 := oE.cell 2
  have u3 := oE.cell 3
  have u4 := oE.cell 4
  have u5 := oE.cell 5
  simp [ouC, msC, o0, m0] at u0 u1 u2 u3 u4 u5
  have nn : w.heap.size + 1 ≠ w.heap.size + 3 := by omega
  clear hE bE oE
  go_wp2
  exact bodyPost_ret (v := .tuple #[ouV o0, .int .i64 0]) (results_blk_tmp (u := 57) (cs := ouC o0) Try.results47 rfl Try.isAgg57 Try.sizeOf57 (unhide fin).1) rfl (unhide fin).2

set_option maxRecDepth 100000 in
set_option maxHeartbeats 4000000 in
theorem mstep_s2b (w : World) (x g cap : Nat) (sp : List Value) (mode : Int) (ns : List N5) (r : RepG w x g cap sp mode ns) (i : Nat) (c : N5) (hi : ns[i]? = some c) (dir : Int) (hm : mode = 0 ∨ mode = 1) (hd0 : 0 ≤ dir) (hd1 : dir ≤ mode) (mk mi mh : Int) (hhop : mh ≤ 9223372036854775807) (hk : Hid (mk = 2)) (he : Hid (mi = c.id)) (h1 : Hid (mode = 1)) (hr : Hid (c.reach < 1)) :
    Calls Try.prog 47 #[ptr x, .int .i64 i, .int .i64 dir, msV ⟨mk, mi, mh⟩] w (mstepPost w x g cap sp mode ns o0) := by
  have hbx := mboxed w ⟨mk, mi, mh⟩ c
  have hil := (List.getElem?_eq_some_iff.1 hi).1
  have hxl := r.blk.lt
  have hgl := r.gb.lt
  have i1 : (0 : Int) ≤ (i : Int) := by omega
  have i2 : (i : Int) < (ns.length : Int) := by omega
  have hmb : (mode == -1) = false := by rcases hm with rfl | rfl <;> rfl
  obtain ⟨a0, a1, a2, a3, a4⟩ := r.cells hi
  have x0 := r.blk.cell 0
  have x1 := r.blk.cell 1
  simp at x0 x1
  unfold ptr msV
  simp only at hbx ⊢
  go_enter Try.func47, Try.ntmps47
  go_upto_region 9 with fail
  generalize (((w.alloc (.cells #[.int .i64 mk, .int .i64 mi, .int .i64 mh] 55)).alloc (.cells #[.int .i64 0, .int .i64 0, .int .i64 0, .int .i64 0, .int .i64 0, .int .i64 0] 57)).alloc (.cells #[.int .i64 c.id, .int .i64 c.st, .int .i64 c.lead, .int .i64 c.reach, .int .i64 c.got] 28)).alloc (.cells #[.int .i64 0, .int .i64 0, .int .i64 0, .int .i64 0, .int .i64 0, .int .i64 0] 57) = V at *
  clear a0 a1 a2 a3 a4 x0 x1
  have hE := mend0 hbx r
  have rV := r.quiet hbx.q
  obtain ⟨a0, a1, a2, a3, a4⟩ := rV.cells hi
  have x0 := rV.blk.cell 0
  have x1 := rV.blk.cell 1
  simp at x0 x1
  have nxg := r.xg
  have ngx := Ne.symm r.xg
  have bd := hbx.d
  have bm := hbx.m
  have bo := hbx.o
  have br := hbx.r
  have d0 := bd.cell 0
  have d1 := bd.cell 1
  have d2 := bd.cell 2
  have d3 := bd.cell 3
  have d4 := bd.cell 4
  simp [mc] at d0 d1 d2 d3 d4
  have mm0 := bm.cell 0
  have mm1 := bm.cell 1
  have mm2 := bm.cell 2
  simp [msC] at mm0 mm1 mm2
  have p0 := bo.cell 0
  have p1 := bo.cell 1
  have p2 := bo.cell 2
  have p3 := bo.cell 3
  have p4 := bo.cell 4
  have p5 := bo.cell 5
  simp at p0 p1 p2 p3 p4 p5
  have fp0 := bo.frozen 0
  have fp1 := bo.frozen 1
  have fp2 := bo.frozen 2
  have fp3 := bo.frozen 3
  have fp4 := bo.frozen 4
  have fp5 := bo.frozen 5
  have r0 := br.cell 0
  have r1 := br.cell 1
  have r2 := br.cell 2
  have r3 := br.cell 3
  have r4 := br.cell 4
  have r5 := br.cell 5
  simp at r0 r1 r2 r3 r4 r5
  have fr0 := br.frozen 0
  have fr1 := br.frozen 1
  have fr2 := br.frozen 2
  have fr3 := br.frozen 3
  have fr4 := br.frozen 4
  have fr5 := br.frozen 5
  have fg1 := rV.gb.frozen (i * 5 + 1)
  have fg2 := rV.gb.frozen (i * 5 + 2)
  have fg3 := rV.gb.frozen (i * 5 + 3)
  have fg4 := rV.gb.frozen (i * 5 + 4)
  have n0 : w.heap.size ≠ g := by omega
  have n1 : w.heap.size + 1 ≠ g := by omega
  have n2 : w.heap.size + 2 ≠ g := by omega
  have n3 : w.heap.size + 3 ≠ g := by omega
  have n4 := Ne.symm n0
  have n5 := Ne.symm n1
  have n6 := Ne.symm n2
  have n7 := Ne.symm n3
  clear bd bm bo br
  have b1 : (mi == c.id) = true := by simpa using unhide he
  have b1n : (mi != c.id) = false := by rw [bne, b1]; rfl
  clear he
  have h12 := unhide h1
  have b0 : (mode == 1) = true := by simpa using h12
  have b00 : (mode == 0) = false := by rw [h12]; rfl
  clear h12 h1
  have b4 : decide (1 ≤ c.reach) = false := by have := unhide hr; simp; omega
  have b5 : c.reach < 1 := unhide hr
  have hk2 := unhide hk
  subst hk2
  clear hk
  clear rV hbx r hi
  have bE := hE.r
  have oE := hE.o
  have fin := hide (ms_fin hxl hgl hE.r hE.c hE.g o0)
  have rr0 := bE.cell 0
  have rr1 := bE.cell 1
  have rr2 := bE.cell 2
  have rr3 := bE.cell 3
  have rr4 := bE.cell 4
  have rr5 := bE.cell 5
  simp at rr0 rr1 rr2 rr3 rr4 rr5
  have frr0 := bE.frozen 0
  have frr1 := bE.frozen 1
  have frr2 := bE.frozen 2
  have frr3 := bE.frozen 3
  have frr4 := bE.frozen 4
  have frr5 := bE.frozen 5
  have u0 := oE.cell 0
  have u1 := oE.cell 1
  have u2 := oE.cell 2
  have u3 := oE.cell 3
  have u4 := oE.cell 4
  have u5 := oE.cell 5
  simp [ouC, msC, o0, m0] at u0 u1 u2 u3 u4 u5
  have nn : w.heap.size + 1 ≠ w.heap.size + 3 := by omega
  clear hE bE oE
  go_wp2
  exact bodyPost_ret (v := .tuple #[ouV o0, .int .i64 0]) (results_blk_tmp (u := 57) (cs := ouC o0) Try.results47 rfl Try.isAgg57 Try.sizeOf57 (unhide fin).1) rfl (unhide fin).2

set_option maxRecDepth 100000 in
set_option maxHeartbeats 4000000 in
theorem mstep_s2c (w : World) (x g cap : Nat) (sp : List Value) (mode : Int) (ns : List N5) (r : RepG w x g cap sp mode ns) (i : Nat) (c : N5) (hi : ns[i]? = some c) (dir : Int) (hm : mode = 0 ∨ mode = 1) (hd0 : 0 ≤ dir) (hd1 : dir ≤ mode) (mk mi mh : Int) (hhop : mh ≤ 9223372036854775807) (hk : Hid (mk = 2)) (he : Hid (mi = c.id)) (h1 : Hid (mode = 1)) (hr : Hid (8 ≤ c.reach)) :
    Calls Try.prog 47 #[ptr x, .int .i64 i, .int .i64 dir, msV ⟨mk, mi, mh⟩] w (mstepPost w x g cap sp mode ns o0) := by
  have hbx := mboxed w ⟨mk, mi, mh⟩ c
  have hil := (List.getElem?_eq_some_iff.1 hi).1
  have hxl := r.blk.lt
  have hgl := r.gb.lt
  have i1 : (0 : Int) ≤ (i : Int) := by omega
  have i2 : (i : Int) < (ns.length : Int) := by omega
  have hmb : (mode == -1) = false := by rcases hm with rfl | rfl <;> rfl
  obtain ⟨a0, a1, a2, a3, a4⟩ := r.cells hi
  have x0 := r.blk.cell 0
  have x1 := r.blk.cell 1
  simp at x0 x1
  unfold ptr msV
  simp only at hbx ⊢
  go_enter Try.func47, Try.ntmps47
  go_upto_region 9 with fail
  generalize (((w.alloc (.cells #[.int .i64 mk, .int .i64 mi, .int .i64 mh] 55)).alloc (.cells #[.int .i64 0, .int .i64 0, .int .i64 0, .int .i64 0, .int .i64 0, .int .i64 0] 57)).alloc (.cells #[.int .i64 c.id, .int .i64 c.st, .int .i64 c.lead, .int .i64 c.reach, .int .i64 c.got] 28)).alloc (.cells #[.int .i64 0, .int .i64 0, .int .i64 0, .int .i64 0, .int .i64 0, .int .i64 0] 57) = V at *
  clear a0 a1 a2 a3 a4 x0 x1
  have hE := mend0 hbx r
  have rV := r.quiet hbx.q
  obtain ⟨a0, a1, a2, a3, a4⟩ := rV.cells hi
  have x0 := rV.blk.cell 0
  have x1 := rV.blk.cell 1
  simp at x0 x1
  have nxg := r.xg
  have ngx := Ne.symm r.xg
  have bd := hbx.d
  have bm := hbx.m
  have bo := hbx.o
  have br := hbx.r
  have d0 := bd.cell 0
  have d1 := bd.cell 1
  have d2 := bd.cell 2
  have d3 := bd.cell 3
  have d4 := bd.cell 4
  simp [mc] at d0 d1 d2 d3 d4
  have mm0 := bm.cell 0
  have mm1 := bm.cell 1
  have mm2 := bm.cell 2
  simp [msC] at mm0 mm1 mm2
  have p0 := bo.cell 0
  have p1 := bo.cell 1
  have p2 := bo.cell 2
  have p3 := bo.cell 3
  have p4 := bo.cell 4
  have p5 := bo.cell 5
  simp at p0 p1 p2 p3 p4 p5
  have fp0 := bo.frozen 0
  have fp1 := bo.frozen 1
  have fp2 := bo.frozen 2
  have fp3 := bo.frozen 3
  have fp4 := bo.frozen 4
  have fp5 := bo.frozen 5
  have r0 := br.cell 0
  have r1 := br.cell 1
  have r2 := br.cell 2
  have r3 := br.cell 3
  have r4 := br.cell 4
  have r5 := br.cell 5
  simp at r0 r1 r2 r3 r4 r5
  have fr0 := br.frozen 0
  have fr1 := br.frozen 1
  have fr2 := br.frozen 2
  have fr3 := br.frozen 3
  have fr4 := br.frozen 4
  have fr5 := br.frozen 5
  have fg1 := rV.gb.frozen (i * 5 + 1)
  have fg2 := rV.gb.frozen (i * 5 + 2)
  have fg3 := rV.gb.frozen (i * 5 + 3)
  have fg4 := rV.gb.frozen (i * 5 + 4)
  have n0 : w.heap.size ≠ g := by omega
  have n1 : w.heap.size + 1 ≠ g := by omega
  have n2 : w.heap.size + 2 ≠ g := by omega
  have n3 : w.heap.size + 3 ≠ g := by omega
  have n4 := Ne.symm n0
  have n5 := Ne.symm n1
  have n6 := Ne.symm n2
  have n7 := Ne.symm n3
  clear bd bm bo br
  have b1 : (mi == c.id) = true := by simpa using unhide he
  have b1n : (mi != c.id) = false := by rw [bne, b1]; rfl
  clear he
  have h12 := unhide h1
  have b0 : (mode == 1) = true := by simpa using h12
  have b00 : (mode == 0) = false := by rw [h12]; rfl
  clear h12 h1
  have b4 : decide (1 ≤ c.reach) = true := by have := unhide hr; simp; omega
  have b5 : decide (c.reach < 8) = false := by have := unhide hr; simp; omega
  have b6 : 1 ≤ c.reach := by have := unhide hr; omega
  have b7 : 8 ≤ c.reach := unhide hr
  have hk2 := unhide hk
  subst hk2
  clear hk
  clear rV hbx r hi
  have bE := hE.r
  have oE := hE.o
  have fin := hide (ms_fin hxl hgl hE.r hE.c hE.g o0)
  have rr0 := bE.cell 0
  have rr1 := bE.cell 1
  have rr2 := bE.cell 2
  have rr3 := bE.cell 3
  have rr4 := bE.cell 4
  have rr5 := bE.cell 5
  simp at rr0 rr1 rr2 rr3 rr4 rr5
  have frr0 := bE.frozen 0
  have frr1 := bE.frozen 1
  have frr2 := bE.frozen 2
  have frr3 := bE.frozen 3
  have frr4 := bE.frozen 4
  have frr5 := bE.frozen 5
  have u0 := oE.cell 0
  have u1 := oE.cell 1
  have u2 := oE.cell 2
  have u3 := oE.cell 3
  have u4 := oE.cell 4
  have u5 := oE.cell 5
  simp [ouC, msC, o0, m0] at u0 u1 u2 u3 u4 u5
  have nn : w.heap.size + 1 ≠ w.heap.size + 3 := by omega
  clear hE bE oE
  go_wp2
  exact bodyPost_ret (v := .tuple #[ouV o0, .int .i64 0]) (results_blk_tmp (u := 57) (cs := ouC o0) Try.results47 rfl Try.isAgg57 Try.sizeOf57 (unhide fin).1) rfl (unhide fin).2

set_option maxRecDepth 100000 in
set_option maxHeartbeats 4000000 in
theorem mstep_s3 (w : World) (x g cap : Nat) (sp : List Value) (mode : Int) (ns : List N5) (r : RepG w x g cap sp mode ns) (i : Nat) (c : N5) (hi : ns[i]? = some c) (dir : Int) (hm : mode = 0 ∨ mode = 1) (hd0 : 0 ≤ dir) (hd1 : dir ≤ mode) (mk mi mh : Int) (hhop : mh ≤ 9223372036854775807) (hk : Hid (mk = 3)) (he : Hid (mi = c.id)) :
    Calls Try.prog 47 #[ptr x, .int .i64 i, .int .i64 dir, msV ⟨mk, mi, mh⟩] w (mstepPost w x g cap sp mode ns o0) := by
  have hbx := mboxed w ⟨mk, mi, mh⟩ c
  have hil := (List.getElem?_eq_some_iff.1 hi).1
  have hxl := r.blk.lt
  have hgl := r.gb.lt
  have i1 : (0 : Int) ≤ (i : Int) := by omega
  have i2 : (i : Int) < (ns.length : Int) := by omega
  have hmb : (mode == -1) = false := by rcases hm with rfl | rfl <;> rfl
  obtain ⟨a0, a1, a2, a3, a4⟩ := r.cells hi
  have x0 := r.blk.cell 0
  have x1 := r.blk.cell 1
  simp at x0 x1
  unfold ptr msV
  simp only at hbx ⊢
  go_enter Try.func47, Try.ntmps47
  go_upto_region 9 with fail
  generalize (((w.alloc (.cells #[.int .i64 mk, .int .i64 mi, .int .i64 mh] 55)).alloc (.cells #[.int .i64 0, .int .i64 0, .int .i64 0, .int .i64 0, .int .i64 0, .int .i64 0] 57)).alloc (.cells #[.int .i64 c.id, .int .i64 c.st, .int .i64 c.lead, .int .i64 c.reach, .int .i64 c.got] 28)).alloc (.cells #[.int .i64 0, .int .i64 0, .int .i64 0, .int .i64 0, .int .i64 0, .int .i64 0] 57) = V at *
  clear a0 a1 a2 a3 a4 x0 x1
  have hE := mend0 hbx r
  have rV := r.quiet hbx.q
  obtain ⟨a0, a1, a2, a3, a4⟩ := rV.cells hi
  have x0 := rV.blk.cell 0
  have x1 := rV.blk.cell 1
  simp at x0 x1
  have nxg := r.xg
  have ngx := Ne.symm r.xg
  have bd := hbx.d
  have bm := hbx.m
  have bo := hbx.o
  have br := hbx.r
  have d0 := bd.cell 0
  have d1 := bd.cell 1
  have d2 := bd.cell 2
  have d3 := bd.cell 3
  have d4 := bd.cell 4
  simp [mc] at d0 d1 d2 d3 d4
  have mm0 := bm.cell 0
  have mm1 := bm.cell 1
  have mm2 := bm.cell 2
  simp [msC] at mm0 mm1 mm2
  have p0 := bo.cell 0
  have p1 := bo.cell 1
  have p2 := bo.cell 2
  have p3 := bo.cell 3
  have p4 := bo.cell 4
  have p5 := bo.cell 5
  simp at p0 p1 p2 p3 p4 p5
  have fp0 := bo.frozen 0
  have fp1 := bo.frozen 1
  have fp2 := bo.frozen 2
  have fp3 := bo.frozen 3
  have fp4 := bo.frozen 4
  have fp5 := bo.frozen 5
  have r0 := br.cell 0
  have r1 := br.cell 1
  have r2 := br.cell 2
  have r3 := br.cell 3
  have r4 := br.cell 4
  have r5 := br.cell 5
  simp at r0 r1 r2 r3 r4 r5
  have fr0 := br.frozen 0
  have fr1 := br.frozen 1
  have fr2 := br.frozen 2
  have fr3 := br.frozen 3
  have fr4 := br.frozen 4
  have fr5 := br.frozen 5
  have fg1 := rV.gb.frozen (i * 5 + 1)
  have fg2 := rV.gb.frozen (i * 5 + 2)
  have fg3 := rV.gb.frozen (i * 5 + 3)
  have fg4 := rV.gb.frozen (i * 5 + 4)
  have n0 : w.heap.size ≠ g := by omega
  have n1 : w.heap.size + 1 ≠ g := by omega
  have n2 : w.heap.size + 2 ≠ g := by omega
  have n3 : w.heap.size + 3 ≠ g := by omega
  have n4 := Ne.symm n0
  have n5 := Ne.symm n1
  have n6 := Ne.symm n2
  have n7 := Ne.symm n3
  clear bd bm bo br
  have b1 : (mi == c.id) = true := by simpa using unhide he
  have b1n : (mi != c.id) = false := by rw [bne, b1]; rfl
  clear he
  have hk2 := unhide hk
  subst hk2
  clear hk
  clear rV hbx r hi
  have bE := hE.r
  have oE := hE.o
  have fin := hide (ms_fin hxl hgl hE.r hE.c hE.g o0)
  have rr0 := bE.cell 0
  have rr1 := bE.cell 1
  have rr2 := bE.cell 2
  have rr3 := bE.cell 3
  have rr4 := bE.cell 4
  have rr5 := bE.cell 5
  simp at rr0 rr1 rr2 rr3 rr4 rr5
  have frr0 := bE.frozen 0
  have frr1 := bE.frozen 1
  have frr2 := bE.frozen 2
  have frr3 := bE.frozen 3
  have frr4 := bE.frozen 4
  have frr5 := bE.frozen 5
  have u0 := oE.cell 0
  have u1 := oE.cell 1
  have u2 := oE.cell 2
  have u3 := oE.cell 3
  have u4 := oE.cell 4
  have u5 := oE.cell 5
  simp [ouC, msC, o0, m0] at u0 u1 u2 u3 u4 u5
  have nn : w.heap.size + 1 ≠ w.heap.size + 3 := by omega
  clear hE bE oE
  go_wp2
  exact bodyPost_ret (v := .tuple #[ouV o0, .int .i64 0]) (results_blk_tmp (u := 57) (cs := ouC o0) Try.results47 rfl Try.isAgg57 Try.sizeOf57 (unhide fin).1) rfl (unhide fin).2

set_option maxRecDepth 100000 in
set_option maxHeartbeats 4000000 in
theorem mstep_s0 (w : World) (x g cap : Nat) (sp : List Value) (mode : Int) (ns : List N5) (r : RepG w x g cap sp mode ns) (i : Nat) (c : N5) (hi : ns[i]? = some c) (dir : Int) (hm : mode = 0 ∨ mode = 1) (hd0 : 0 ≤ dir) (hd1 : dir ≤ mode) (mk mi mh : Int) (hhop : mh ≤ 9223372036854775807) (k4 : (mk == 4) = false) (k1 : (mk == 1) = false) (k2 : (mk == 2) = false) (k3 : (mk == 3) = false) :
    Calls Try.prog 47 #[ptr x, .int .i64 i, .int .i64 dir, msV ⟨mk, mi, mh⟩] w (mstepPost w x g cap sp mode ns o0) := by
  have hbx := mboxed w ⟨mk, mi, mh⟩ c
  have hil := (List.getElem?_eq_some_iff.1 hi).1
  have hxl := r.blk.lt
  have hgl := r.gb.lt
  have i1 : (0 : Int) ≤ (i : Int) := by omega
  have i2 : (i : Int) < (ns.length : Int) := by omega
  have hmb : (mode == -1) = false := by rcases hm with rfl | rfl <;> rfl
  obtain ⟨a0, a1, a2, a3, a4⟩ := r.cells hi
  have x0 := r.blk.cell 0
  have x1 := r.blk.cell 1
  simp at x0 x1
  unfold ptr msV
  simp only at hbx ⊢
  go_enter Try.func47, Try.ntmps47
  go_upto_region 9 with fail
  generalize (((w.alloc (.cells #[.int .i64 mk, .int .i64 mi, .int .i64 mh] 55)).alloc (.cells #[.int .i64 0, .int .i64 0, .int .i64 0, .int .i64 0, .int .i64 0, .int .i64 0] 57)).alloc (.cells #[.int .i64 c.id, .int .i64 c.st, .int .i64 c.lead, .int .i64 c.reach, .int .i64 c.got] 28)).alloc (.cells #[.int .i64 0, .int .i64 0, .int .i64 0, .int .i64 0, .int .i64 0, .int .i64 0] 57) = V at *
  clear a0 a1 a2 a3 a4 x0 x1
  have hE := mend0 hbx r
  have rV := r.quiet hbx.q
  obtain ⟨a0, a1, a2, a3, a4⟩ := rV.cells hi
  have x0 := rV.blk.cell 0
  have x1 := rV.blk.cell 1
  simp at x0 x1
  have nxg := r.xg
  have ngx := Ne.symm r.xg
  have bd := hbx.d
  have bm := hbx.m
  have bo := hbx.o
  have br := hbx.r
  have d0 := bd.cell 0
  have d1 := bd.cell 1
  have d2 := bd.cell 2
  have d3 := bd.cell 3
  have d4 := bd.cell 4
  simp [mc] at d0 d1 d2 d3 d4
  have mm0 := bm.cell 0
  have mm1 := bm.cell 1
  have mm2 := bm.cell 2
  simp [msC] at mm0 mm1 mm2
  have p0 := bo.cell 0
  have p1 := bo.cell 1
  have p2 := bo.cell 2
  have p3 := bo.cell 3
  have p4 := bo.cell 4
  have p5 := bo.cell 5
  simp at p0 p1 p2 p3 p4 p5
  have fp0 := bo.frozen 0
  have fp1 := bo.frozen 1
  have fp2 := bo.frozen 2
  have fp3 := bo.frozen 3
  have fp4 := bo.frozen 4
  have fp5 := bo.frozen 5
  have r0 := br.cell 0
  have r1 := br.cell 1
  have r2 := br.cell 2
  have r3 := br.cell 3
  have r4 := br.cell 4
  have r5 := br.cell 5
  simp at r0 r1 r2 r3 r4 r5
  have fr0 := br.frozen 0
  have fr1 := br.frozen 1
  have fr2 := br.frozen 2
  have fr3 := br.frozen 3
  have fr4 := br.frozen 4
  have fr5 := br.frozen 5
  have fg1 := rV.gb.frozen (i * 5 + 1)
  have fg2 := rV.gb.frozen (i * 5 + 2)
  have fg3 := rV.gb.frozen (i * 5 + 3)
  have fg4 := rV.gb.frozen (i * 5 + 4)
  have n0 : w.heap.size ≠ g := by omega
  have n1 : w.heap.size + 1 ≠ g := by omega
  have n2 : w.heap.size + 2 ≠ g := by omega
  have n3 : w.heap.size + 3 ≠ g := by omega
  have n4 := Ne.symm n0
  have n5 := Ne.symm n1
  have n6 := Ne.symm n2
  have n7 := Ne.symm n3
  clear bd bm bo br

  clear rV hbx r hi
  have bE := hE.r
  have oE := hE.o
  have fin := hide (ms_fin hxl hgl hE.r hE.c hE.g o0)
  have rr0 := bE.cell 0
  have rr1 := bE.cell 1
  have rr2 := bE.cell 2
  have rr3 := bE.cell 3
  have rr4 := bE.cell 4
  have rr5 := bE.cell 5
  simp at rr0 rr1 rr2 rr3 rr4 rr5
  have frr0 := bE.frozen 0
  have frr1 := bE.frozen 1
  have frr2 := bE.frozen 2
  have frr3 := bE.frozen 3
  have frr4 := bE.frozen 4
  have frr5 := bE.frozen 5
  have u0 := oE.cell 0
  have u1 := oE.cell 1
  have u2 := oE.cell 2
  have u3 := oE.cell 3
  have u4 := oE.cell 4
  have u5 := oE.cell 5
  simp [ouC, msC, o0, m0] at u0 u1 u2 u3 u4 u5
  have nn : w.heap.size + 1 ≠ w.heap.size + 3 := by omega
  clear hE bE oE
  go_wp2
  exact bodyPost_ret (v := .tuple #[ouV o0, .int .i64 0]) (results_blk_tmp (u := 57) (cs := ouC o0) Try.results47 rfl Try.isAgg57 Try.sizeOf57 (unhide fin).1) rfl (unhide fin).2

set_option maxRecDepth 100000 in
set_option maxHeartbeats 4000000 in
theorem mstep_r6 (w : World) (x g cap : Nat) (sp : List Value) (mode : Int) (ns : List N5) (r : RepG w x g cap sp mode ns) (i : Nat) (c : N5) (hi : ns[i]? = some c) (dir : Int) (hm : mode = 0 ∨ mode = 1) (hd0 : 0 ≤ dir) (hd1 : dir ≤ mode) (mk mi mh : Int) (hhop : mh ≤ 9223372036854775807) (hk : Hid (mk = 2)) (he : Hid (mi = c.id)) (h1 : Hid (mode = 1)) (hr1 : Hid (1 ≤ c.reach)) (hr2 : Hid (c.reach < 8)) (hg : Hid (c.got = 0)) :
    Calls Try.prog 47 #[ptr x, .int .i64 i, .int .i64 dir, msV ⟨mk, mi, mh⟩] w (mstepPost w x g cap sp mode (ns.set i { c with got := 1 }) o0) := by
  have hbx := mboxed w ⟨mk, mi, mh⟩ c
  have hil := (List.getElem?_eq_some_iff.1 hi).1
  have hxl := r.blk.lt
  have hgl := r.gb.lt
  have i1 : (0 : Int) ≤ (i : Int) := by omega
  have i2 : (i : Int) < (ns.length : Int) := by omega
  have hmb : (mode == -1) = false := by rcases hm with rfl | rfl <;> rfl
  obtain ⟨a0, a1, a2, a3, a4⟩ := r.cells hi
  have x0 := r.blk.cell 0
  have x1 := r.blk.cell 1
  simp at x0 x1
  unfold ptr msV
  simp only at hbx ⊢
  go_enter Try.func47, Try.ntmps47
  go_upto_region 9 with fail
  generalize (((w.alloc (.cells #[.int .i64 mk, .int .i64 mi, .int .i64 mh] 55)).alloc (.cells #[.int .i64 0, .int .i64 0, .int .i64 0, .int .i64 0, .int .i64 0, .int .i64 0] 57)).alloc (.cells #[.int .i64 c.id, .int .i64 c.st, .int .i64 c.lead, .int .i64 c.reach, .int .i64 c.got] 28)).alloc (.cells #[.int .i64 0, .int .i64 0, .int .i64 0, .int .i64 0, .int .i64 0, .int .i64 0] 57) = V at *
  clear a0 a1 a2 a3 a4 x0 x1
  have hE := mend0 hbx r
  have rV := r.quiet hbx.q
  obtain ⟨a0, a1, a2, a3, a4⟩ := rV.cells hi
  have x0 := rV.blk.cell 0
  have x1 := rV.blk.cell 1
  simp at x0 x1
  have nxg := r.xg
  have ngx := Ne.symm r.xg
  have bd := hbx.d
  have bm := hbx.m
  have bo := hbx.o
  have br := hbx.r
  have d0 := bd.cell 0
  have d1 := bd.cell 1
  have d2 := bd.cell 2
  have d3 := bd.cell 3
  have d4 := bd.cell 4
  simp [mc] at d0 d1 d2 d3 d4
  have mm0 := bm.cell 0
  have mm1 := bm.cell 1
  have mm2 := bm.cell 2
  simp [msC] at mm0 mm1 mm2
  have p0 := bo.cell 0
  have p1 := bo.cell 1
  have p2 := bo.cell 2
  have p3 := bo.cell 3
  have p4 := bo.cell 4
  have p5 := bo.cell 5
  simp at p0 p1 p2 p3 p4 p5
  have fp0 := bo.frozen 0
  have fp1 := bo.frozen 1
  have fp2 := bo.frozen 2
  have fp3 := bo.frozen 3
  have fp4 := bo.frozen 4
  have fp5 := bo.frozen 5
  have r0 := br.cell 0
  have r1 := br.cell 1
  have r2 := br.cell 2
  have r3 := br.cell 3
  have r4 := br.cell 4
  have r5 := br.cell 5
  simp at r0 r1 r2 r3 r4 r5
  have fr0 := br.frozen 0
  have fr1 := br.frozen 1
  have fr2 := br.frozen 2
  have fr3 := br.frozen 3
  have fr4 := br.frozen 4
  have fr5 := br.frozen 5
  have fg1 := rV.gb.frozen (i * 5 + 1)
  have fg2 := rV.gb.frozen (i * 5 + 2)
  have fg3 := rV.gb.frozen (i * 5 + 3)
  have fg4 := rV.gb.frozen (i * 5 + 4)
  have n0 : w.heap.size ≠ g := by omega
  have n1 : w.heap.size + 1 ≠ g := by omega
  have n2 : w.heap.size + 2 ≠ g := by omega
  have n3 : w.heap.size + 3 ≠ g := by omega
  have n4 := Ne.symm n0
  have n5 := Ne.symm n1
  have n6 := Ne.symm n2
  have n7 := Ne.symm n3
  clear bd bm bo br
  have b1 : (mi == c.id) = true := by simpa using unhide he
  have b1n : (mi != c.id) = false := by rw [bne, b1]; rfl
  clear he
  have h12 := unhide h1
  have b0 : (mode == 1) = true := by simpa using h12
  have b00 : (mode == 0) = false := by rw [h12]; rfl
  clear h12 h1
  have b4 : decide (1 ≤ c.reach) = true := by have := unhide hr1; simp; omega
  have b5 : decide (c.reach < 8) = true := by have := unhide hr2; simp; omega
  have b6 : 1 ≤ c.reach := unhide hr1
  have b7 : c.reach < 8 := unhide hr2
  have b8 : (c.got == 0) = true := by simpa using unhide hg
  clear hg
  have hk2 := unhide hk
  subst hk2
  clear hk
  obtain ⟨hE2, hi2⟩ := hE.set hgl hi 4 (by omega) (.int .i64 1) { c with got := 1 } rfl
  clear rV hbx r hi hi2 hE
  have fin := hide (ms_fin hxl hgl hE2.r hE2.c hE2.g o0)
  clear hE2
  go_wp2
  exact bodyPost_ret (v := .tuple #[ouV o0, .int .i64 0]) (results_blk_tmp (u := 57) (cs := ouC o0) Try.results47 rfl Try.isAgg57 Try.sizeOf57 (unhide fin).1) rfl (unhide fin).2

end Go.Proofs.Qxb6500369a
