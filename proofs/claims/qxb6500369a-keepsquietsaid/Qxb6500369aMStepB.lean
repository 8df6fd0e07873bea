/-
  The abstract ring: Step, a theorem a rule. Written by gen9ms.py.
-/
import Derived.Test.Qxb6500369aMStep
namespace Go.Proofs.Qxb6500369a
open Go.RowKit Go.Qx
set_option linter.unusedSimpArgs false
set_option linter.unusedVariables false

set_option maxRecDepth 100000 in
set_option maxHeartbeats 4000000 in
theorem mstep_r1 (w : World) (x g cap : Nat) (sp : List Value) (mode : Int) (ns : List N5) (r : RepG w x g cap sp mode ns) (i : Nat) (c : N5) (hi : ns[i]? = some c) (dir : Int) (hm : mode = 0 ∨ mode = 1) (hd0 : 0 ≤ dir) (hd1 : dir ≤ mode) (mk mi mh : Int) (hhop : mh ≤ 9223372036854775807) (hk : Hid (mk = 1)) (he : Hid (mi = c.id)) (hs : Hid (¬ c.st = 2)) :
    Calls Try.prog 47 #[ptr x, .int .i64 i, .int .i64 dir, msV ⟨mk, mi, mh⟩] w (mstepPost w x g cap sp mode (ns.set i { c with st := 2, lead := c.id }) ⟨⟨3, c.id, 0⟩, m0⟩) := by
  have hbx := mboxed w ⟨mk, mi, mh⟩ c
  have hil := (List.getElem?_eq_some_iff.1 hi).1
  have hxl := r.blk.lt
  have hgl := r.gb.lt
  have i1 : (0 : Int) ≤ (i : Int) := by omega
  have i2 : (i : Int) < (ns.length : Int) := by omega
  have hmb : (mode == -1) = false := by rcases hm with rfl | rfl <;> rfl
  obtain ⟨a0, a1, a2, a3, a4⟩ := r.cells hi
  have x0 := r.blk.cell 0
  have x1 := r.blk.cell 1
  simp at x0 x1
  unfold ptr msV
  simp only at hbx ⊢
  go_enter Try.func47, Try.ntmps47
  go_upto_region 9 with fail
  generalize (((w.alloc (.cells #[.int .i64 mk, .int .i64 mi, .int .i64 mh] 55)).alloc (.cells #[.int .i64 0, .int .i64 0, .int .i64 0, .int .i64 0, .int .i64 0, .int .i64 0] 57)).alloc (.cells #[.int .i64 c.id, .int .i64 c.st, .int .i64 c.lead, .int .i64 c.reach, .int .i64 c.got] 28)).alloc (.cells #[.int .i64 0, .int .i64 0, .int .i64 0, .int .i64 0, .int .i64 0, .int .i64 0] 57) = V at *
  clear a0 a1 a2 a3 a4 x0 x1
  have hE := mend0 hbx r
  have rV := r.quiet hbx.q
  obtain ⟨a0, a1, a2, a3, a4⟩ := rV.cells hi
  have x0 := rV.blk.cell 0
  have x1 := rV.blk.cell 1
  simp at x0 x1
  have nxg := r.xg
  have ngx := Ne.symm r.xg
  have bd := hbx.d
  have bm := hbx.m
  have bo := hbx.o
  have br := hbx.r
  have d0 := bd.cell 0
  have d1 := bd.cell 1
  have d2 := bd.cell 2
  have d3 := bd.cell 3
  have d4 := bd.cell 4
  simp [mc] at d0 d1 d2 d3 d4
  have mm0 := bm.cell 0
  have mm1 := bm.cell 1
  have mm2 := bm.cell 2
  simp [msC] at mm0 mm1 mm2
  have p0 := bo.cell 0
  have p1 := bo.cell 1
  have p2 := bo.cell 2
  have p3 := bo.cell 3
  have p4 := bo.cell 4
  have p5 := bo.cell 5
  simp at p0 p1 p2 p3 p4 p5
  have fp0 := bo.frozen 0
  have fp1 := bo.frozen 1
  have fp2 := bo.frozen 2
  have fp3 := bo.frozen 3
  have fp4 := bo.frozen 4
  have fp5 := bo.frozen 5
  have r0 := br.cell 0
  have r1 := br.cell 1
  have r2 := br.cell 2
  have r3 := br.cell 3
  have r4 := br.cell 4
  have r5 := br.cell 5
  simp at r0 r1 r2 r3 r4 r5
  have fr0 := br.frozen 0
  have fr1 := br.frozen 1
  have fr2 := br.frozen 2
  have fr3 := br.frozen 3
  have fr4 := br.frozen 4
  have fr5 := br.frozen 5
  have fg1 := rV.gb.frozen (i * 5 + 1)
  have fg2 := rV.gb.frozen (i * 5 + 2)
  have fg3 := rV.gb.frozen (i * 5 + 3)
  have fg4 := rV.gb.frozen (i * 5 + 4)
  have n0 : w.heap.size ≠ g := by omega
  have n1 : w.heap.size + 1 ≠ g := by omega
  have n2 : w.heap.size + 2 ≠ g := by omega
  have n3 : w.heap.size + 3 ≠ g := by omega
  have n4 := Ne.symm n0
  have n5 := Ne.symm n1
  have n6 := Ne.symm n2
  have n7 := Ne.symm n3
  clear bd bm bo br
  have b4 : (c.st == 2) = false := by simpa using unhide hs
  have b5 : (c.st != 2) = true := by rw [bne, b4]; rfl
  clear hs
  have b1 : (mi == c.id) = true := by simpa using unhide he
  have b1n : (mi != c.id) = false := by rw [bne, b1]; rfl
  clear he
  have hk2 := unhide hk
  subst hk2
  clear hk
  go_wp2
  go_region_held3 (fun w' => w'.cell? ⟨x, 1, none⟩ = some (.slice (some ⟨g, 0, none⟩) ns.length cap) ∧ w'.cell? ⟨w.heap.size + 2, 0, none⟩ = some (.int .i64 c.id)) (go_keep) (fail)
  rename_i hHeld
  clear hHeld
  obtain ⟨hE1, hi1⟩ := hE.set hgl hi 1 (by omega) (.int .i64 2) { c with st := 2 } rfl
  obtain ⟨hE2, hi2⟩ := hE1.set hgl hi1 2 (by omega) (.int .i64 c.id) { c with st := 2, lead := c.id } rfl
  rw [List.set_set] at hE2 hi2
  have hE3 := hE2.quiet ((Chg.refl _ _).drew)
  have bd := ((hbx.d.set_other (a := ⟨g, i * 5 + 1, none⟩) n2 (.int .i64 2)).set_other (a := ⟨g, i * 5 + 2, none⟩) n2 (.int .i64 c.id)).drew
  have bm := ((hbx.m.set_other (a := ⟨g, i * 5 + 1, none⟩) n0 (.int .i64 2)).set_other (a := ⟨g, i * 5 + 2, none⟩) n0 (.int .i64 c.id)).drew
  clear a0 a1 a2 a3 a4 x0 x1 d0 d1 d2 d3 d4 mm0 mm1 mm2 p0 p1 p2 p3 p4 p5 fp0 fp1 fp2 fp3 fp4 fp5 r0 r1 r2 r3 r4 r5 fr0 fr1 fr2 fr3 fr4 fr5 fg1 fg2 fg3 fg4 hE hE1 hE2 hi1 rV hbx r hi
  generalize ((V.setCell ⟨g, i * 5 + 1, none⟩ (.int .i64 2)).setCell ⟨g, i * 5 + 2, none⟩ (.int .i64 c.id)).drew = Vq at *
  have bE := hE3.r
  have oE := hE3.o
  have d0 := bd.cell 0
  have d1 := bd.cell 1
  have d2 := bd.cell 2
  have d3 := bd.cell 3
  have d4 := bd.cell 4
  simp [mc] at d0 d1 d2 d3 d4
  have mm0 := bm.cell 0
  have mm1 := bm.cell 1
  have mm2 := bm.cell 2
  simp [msC] at mm0 mm1 mm2
  have rr0 := bE.cell 0
  have rr1 := bE.cell 1
  have rr2 := bE.cell 2
  have rr3 := bE.cell 3
  have rr4 := bE.cell 4
  have rr5 := bE.cell 5
  simp at rr0 rr1 rr2 rr3 rr4 rr5
  have frr0 := bE.frozen 0
  have frr1 := bE.frozen 1
  have frr2 := bE.frozen 2
  have frr3 := bE.frozen 3
  have frr4 := bE.frozen 4
  have frr5 := bE.frozen 5
  have pp0 := oE.cell 0
  have pp1 := oE.cell 1
  have pp2 := oE.cell 2
  have pp3 := oE.cell 3
  have pp4 := oE.cell 4
  have pp5 := oE.cell 5
  simp [ouC, msC, o0, m0] at pp0 pp1 pp2 pp3 pp4 pp5
  have fpp0 := oE.frozen 0
  have fpp1 := oE.frozen 1
  have fpp2 := oE.frozen 2
  have fpp3 := oE.frozen 3
  have fpp4 := oE.frozen 4
  have fpp5 := oE.frozen 5
  have nn : w.heap.size + 1 ≠ w.heap.size + 3 := by omega
  have nn2 := Ne.symm nn
  have hE4 := hE3.three hxl hgl ⟨3, c.id, 0⟩
  have fin := hide (ms_fin hxl hgl hE4.r hE4.c hE4.g ⟨⟨3, c.id, 0⟩, m0⟩)
  clear hE3 hE4 bE oE bd bm
  unfold three at fin
  go_wp2
  exact bodyPost_ret (v := .tuple #[ouV ⟨⟨3, c.id, 0⟩, m0⟩, .int .i64 0]) (results_blk_tmp (u := 57) (cs := ouC ⟨⟨3, c.id, 0⟩, m0⟩) Try.results47 rfl Try.isAgg57 Try.sizeOf57 (unhide fin).1) rfl (unhide fin).2

set_option maxRecDepth 100000 in
set_option maxHeartbeats 4000000 in
theorem mstep_r8 (w : World) (x g cap : Nat) (sp : List Value) (mode : Int) (ns : List N5) (r : RepG w x g cap sp mode ns) (i : Nat) (c : N5) (hi : ns[i]? = some c) (dir : Int) (hm : mode = 0 ∨ mode = 1) (hd0 : 0 ≤ dir) (hd1 : dir ≤ mode) (mk mi mh : Int) (hhop : mh ≤ 9223372036854775807) (hk : Hid (mk = 3)) (hne : Hid (¬ mi = c.id)) :
    Calls Try.prog 47 #[ptr x, .int .i64 i, .int .i64 dir, msV ⟨mk, mi, mh⟩] w (mstepPost w x g cap sp mode (ns.set i { c with st := 1, lead := mi }) ⟨⟨mk, mi, mh⟩, m0⟩) := by
  have hbx := mboxed w ⟨mk, mi, mh⟩ c
  have hil := (List.getElem?_eq_some_iff.1 hi).1
  have hxl := r.blk.lt
  have hgl := r.gb.lt
  have i1 : (0 : Int) ≤ (i : Int) := by omega
  have i2 : (i : Int) < (ns.length : Int) := by omega
  have hmb : (mode == -1) = false := by rcases hm with rfl | rfl <;> rfl
  obtain ⟨a0, a1, a2, a3, a4⟩ := r.cells hi
  have x0 := r.blk.cell 0
  have x1 := r.blk.cell 1
  simp at x0 x1
  unfold ptr msV
  simp only at hbx ⊢
  go_enter Try.func47, Try.ntmps47
  go_upto_region 9 with fail
  generalize (((w.alloc (.cells #[.int .i64 mk, .int .i64 mi, .int .i64 mh] 55)).alloc (.cells #[.int .i64 0, .int .i64 0, .int .i64 0, .int .i64 0, .int .i64 0, .int .i64 0] 57)).alloc (.cells #[.int .i64 c.id, .int .i64 c.st, .int .i64 c.lead, .int .i64 c.reach, .int .i64 c.got] 28)).alloc (.cells #[.int .i64 0, .int .i64 0, .int .i64 0, .int .i64 0, .int .i64 0, .int .i64 0] 57) = V at *
  clear a0 a1 a2 a3 a4 x0 x1
  have hE := mend0 hbx r
  have rV := r.quiet hbx.q
  obtain ⟨a0, a1, a2, a3, a4⟩ := rV.cells hi
  have x0 := rV.blk.cell 0
  have x1 := rV.blk.cell 1
  simp at x0 x1
  have nxg := r.xg
  have ngx := Ne.symm r.xg
  have bd := hbx.d
  have bm := hbx.m
  have bo := hbx.o
  have br := hbx.r
  have d0 := bd.cell 0
  have d1 := bd.cell 1
  have d2 := bd.cell 2
  have d3 := bd.cell 3
  have d4 := bd.cell 4
  simp [mc] at d0 d1 d2 d3 d4
  have mm0 := bm.cell 0
  have mm1 := bm.cell 1
  have mm2 := bm.cell 2
  simp [msC] at mm0 mm1 mm2
  have p0 := bo.cell 0
  have p1 := bo.cell 1
  have p2 := bo.cell 2
  have p3 := bo.cell 3
  have p4 := bo.cell 4
  have p5 := bo.cell 5
  simp at p0 p1 p2 p3 p4 p5
  have fp0 := bo.frozen 0
  have fp1 := bo.frozen 1
  have fp2 := bo.frozen 2
  have fp3 := bo.frozen 3
  have fp4 := bo.frozen 4
  have fp5 := bo.frozen 5
  have r0 := br.cell 0
  have r1 := br.cell 1
  have r2 := br.cell 2
  have r3 := br.cell 3
  have r4 := br.cell 4
  have r5 := br.cell 5
  simp at r0 r1 r2 r3 r4 r5
  have fr0 := br.frozen 0
  have fr1 := br.frozen 1
  have fr2 := br.frozen 2
  have fr3 := br.frozen 3
  have fr4 := br.frozen 4
  have fr5 := br.frozen 5
  have fg1 := rV.gb.frozen (i * 5 + 1)
  have fg2 := rV.gb.frozen (i * 5 + 2)
  have fg3 := rV.gb.frozen (i * 5 + 3)
  have fg4 := rV.gb.frozen (i * 5 + 4)
  have n0 : w.heap.size ≠ g := by omega
  have n1 : w.heap.size + 1 ≠ g := by omega
  have n2 : w.heap.size + 2 ≠ g := by omega
  have n3 : w.heap.size + 3 ≠ g := by omega
  have n4 := Ne.symm n0
  have n5 := Ne.symm n1
  have n6 := Ne.symm n2
  have n7 := Ne.symm n3
  clear bd bm bo br
  have b1 : (mi == c.id) = false := by simpa using unhide hne
  have b1n : (mi != c.id) = true := by rw [bne, b1]; rfl
  clear hne
  have hk2 := unhide hk
  subst hk2
  clear hk
  go_wp2
  go_region_held3 (fun w' => w'.cell? ⟨x, 1, none⟩ = some (.slice (some ⟨g, 0, none⟩) ns.length cap) ∧ w'.cell? ⟨w.heap.size, 1, none⟩ = some (.int .i64 mi)) (go_keep) (fail)
  rename_i hHeld
  clear hHeld
  obtain ⟨hE1, hi1⟩ := hE.set hgl hi 1 (by omega) (.int .i64 1) { c with st := 1 } rfl
  obtain ⟨hE2, hi2⟩ := hE1.set hgl hi1 2 (by omega) (.int .i64 mi) { c with st := 1, lead := mi } rfl
  rw [List.set_set] at hE2 hi2
  have hE3 := hE2.quiet ((Chg.refl _ _).drew)
  have bd := ((hbx.d.set_other (a := ⟨g, i * 5 + 1, none⟩) n2 (.int .i64 1)).set_other (a := ⟨g, i * 5 + 2, none⟩) n2 (.int .i64 mi)).drew
  have bm := ((hbx.m.set_other (a := ⟨g, i * 5 + 1, none⟩) n0 (.int .i64 1)).set_other (a := ⟨g, i * 5 + 2, none⟩) n0 (.int .i64 mi)).drew
  clear a0 a1 a2 a3 a4 x0 x1 d0 d1 d2 d3 d4 mm0 mm1 mm2 p0 p1 p2 p3 p4 p5 fp0 fp1 fp2 fp3 fp4 fp5 r0 r1 r2 r3 r4 r5 fr0 fr1 fr2 fr3 fr4 fr5 fg1 fg2 fg3 fg4 hE hE1 hE2 hi1 rV hbx r hi
  generalize ((V.setCell ⟨g, i * 5 + 1, none⟩ (.int .i64 1)).setCell ⟨g, i * 5 + 2, none⟩ (.int .i64 mi)).drew = Vq at *
  have bE := hE3.r
  have oE := hE3.o
  have d0 := bd.cell 0
  have d1 := bd.cell 1
  have d2 := bd.cell 2
  have d3 := bd.cell 3
  have d4 := bd.cell 4
  simp [mc] at d0 d1 d2 d3 d4
  have mm0 := bm.cell 0
  have mm1 := bm.cell 1
  have mm2 := bm.cell 2
  simp [msC] at mm0 mm1 mm2
  have rr0 := bE.cell 0
  have rr1 := bE.cell 1
  have rr2 := bE.cell 2
  have rr3 := bE.cell 3
  have rr4 := bE.cell 4
  have rr5 := bE.cell 5
  simp at rr0 rr1 rr2 rr3 rr4 rr5
  have frr0 := bE.frozen 0
  have frr1 := bE.frozen 1
  have frr2 := bE.frozen 2
  have frr3 := bE.frozen 3
  have frr4 := bE.frozen 4
  have frr5 := bE.frozen 5
  have pp0 := oE.cell 0
  have pp1 := oE.cell 1
  have pp2 := oE.cell 2
  have pp3 := oE.cell 3
  have pp4 := oE.cell 4
  have pp5 := oE.cell 5
  simp [ouC, msC, o0, m0] at pp0 pp1 pp2 pp3 pp4 pp5
  have fpp0 := oE.frozen 0
  have fpp1 := oE.frozen 1
  have fpp2 := oE.frozen 2
  have fpp3 := oE.frozen 3
  have fpp4 := oE.frozen 4
  have fpp5 := oE.frozen 5
  have nn : w.heap.size + 1 ≠ w.heap.size + 3 := by omega
  have nn2 := Ne.symm nn
  have hE4 := hE3.three hxl hgl ⟨3, mi, mh⟩
  have fin := hide (ms_fin hxl hgl hE4.r hE4.c hE4.g ⟨⟨3, mi, mh⟩, m0⟩)
  clear hE3 hE4 bE oE bd bm
  unfold three at fin
  go_wp2
  exact bodyPost_ret (v := .tuple #[ouV ⟨⟨3, mi, mh⟩, m0⟩, .int .i64 0]) (results_blk_tmp (u := 57) (cs := ouC ⟨⟨3, mi, mh⟩, m0⟩) Try.results47 rfl Try.isAgg57 Try.sizeOf57 (unhide fin).1) rfl (unhide fin).2

set_option maxRecDepth 100000 in
set_option maxHeartbeats 4000000 in
theorem mstep_r7 (w : World) (x g cap : Nat) (sp : List Value) (mode : Int) (ns : List N5) (r : RepG w x g cap sp mode ns) (i : Nat) (c : N5) (hi : ns[i]? = some c) (dir : Int) (hm : mode = 0 ∨ mode = 1) (hd0 : 0 ≤ dir) (hd1 : dir ≤ mode) (mk mi mh : Int) (hhop : mh ≤ 9223372036854775807) (hk : Hid (mk = 2)) (he : Hid (mi = c.id)) (h1 : Hid (mode = 1)) (hr1 : Hid (1 ≤ c.reach)) (hr2 : Hid (c.reach < 8)) (hg : Hid (¬ c.got = 0)) :
    Calls Try.prog 47 #[ptr x, .int .i64 i, .int .i64 dir, msV ⟨mk, mi, mh⟩] w (mstepPost w x g cap sp mode (ns.set i { c with got := 0, reach := 2 * c.reach }) (probesP mode { c with got := 0, reach := 2 * c.reach })) := by
  have hbx := mboxed w ⟨mk, mi, mh⟩ c
  have hil := (List.getElem?_eq_some_iff.1 hi).1
  have hxl := r.blk.lt
  have hgl := r.gb.lt
  have i1 : (0 : Int) ≤ (i : Int) := by omega
  have i2 : (i : Int) < (ns.length : Int) := by omega
  have hmb : (mode == -1) = false := by rcases hm with rfl | rfl <;> rfl
  obtain ⟨a0, a1, a2, a3, a4⟩ := r.cells hi
  have x0 := r.blk.cell 0
  have x1 := r.blk.cell 1
  simp at x0 x1
  unfold ptr msV
  simp only at hbx ⊢
  go_enter Try.func47, Try.ntmps47
  go_upto_region 9 with fail
  generalize (((w.alloc (.cells #[.int .i64 mk, .int .i64 mi, .int .i64 mh] 55)).alloc (.cells #[.int .i64 0, .int .i64 0, .int .i64 0, .int .i64 0, .int .i64 0, .int .i64 0] 57)).alloc (.cells #[.int .i64 c.id, .int .i64 c.st, .int .i64 c.lead, .int .i64 c.reach, .int .i64 c.got] 28)).alloc (.cells #[.int .i64 0, .int .i64 0, .int .i64 0, .int .i64 0, .int .i64 0, .int .i64 0] 57) = V at *
  clear a0 a1 a2 a3 a4 x0 x1
  have hE := mend0 hbx r
  have rV := r.quiet hbx.q
  obtain ⟨a0, a1, a2, a3, a4⟩ := rV.cells hi
  have x0 := rV.blk.cell 0
  have x1 := rV.blk.cell 1
  simp at x0 x1
  have nxg := r.xg
  have ngx := Ne.symm r.xg
  have bd := hbx.d
  have bm := hbx.m
  have bo := hbx.o
  have br := hbx.r
  have d0 := bd.cell 0
  have d1 := bd.cell 1
  have d2 := bd.cell 2
  have d3 := bd.cell 3
  have d4 := bd.cell 4
  simp [mc] at d0 d1 d2 d3 d4
  have mm0 := bm.cell 0
  have mm1 := bm.cell 1
  have mm2 := bm.cell 2
  simp [msC] at mm0 mm1 mm2
  have p0 := bo.cell 0
  have p1 := bo.cell 1
  have p2 := bo.cell 2
  have p3 := bo.cell 3
  have p4 := bo.cell 4
  have p5 := bo.cell 5
  simp at p0 p1 p2 p3 p4 p5
  have fp0 := bo.frozen 0
  have fp1 := bo.frozen 1
  have fp2 := bo.frozen 2
  have fp3 := bo.frozen 3
  have fp4 := bo.frozen 4
  have fp5 := bo.frozen 5
  have r0 := br.cell 0
  have r1 := br.cell 1
  have r2 := br.cell 2
  have r3 := br.cell 3
  have r4 := br.cell 4
  have r5 := br.cell 5
  simp at r0 r1 r2 r3 r4 r5
  have fr0 := br.frozen 0
  have fr1 := br.frozen 1
  have fr2 := br.frozen 2
  have fr3 := br.frozen 3
  have fr4 := br.frozen 4
  have fr5 := br.frozen 5
  have fg1 := rV.gb.frozen (i * 5 + 1)
  have fg2 := rV.gb.frozen (i * 5 + 2)
  have fg3 := rV.gb.frozen (i * 5 + 3)
  have fg4 := rV.gb.frozen (i * 5 + 4)
  have n0 : w.heap.size ≠ g := by omega
  have n1 : w.heap.size + 1 ≠ g := by omega
  have n2 : w.heap.size + 2 ≠ g := by omega
  have n3 : w.heap.size + 3 ≠ g := by omega
  have n4 := Ne.symm n0
  have n5 := Ne.symm n1
  have n6 := Ne.symm n2
  have n7 := Ne.symm n3
  clear bd bm bo br
  have b1 : (mi == c.id) = true := by simpa using unhide he
  have b1n : (mi != c.id) = false := by rw [bne, b1]; rfl
  clear he
  have h12 := unhide h1
  have b0 : (mode == 1) = true := by simpa using h12
  have b00 : (mode == 0) = false := by rw [h12]; rfl
  clear h12 h1
  have b4 : decide (1 ≤ c.reach) = true := by have := unhide hr1; simp; omega
  have b5 : decide (c.reach < 8) = true := by have := unhide hr2; simp; omega
  have b6 : 1 ≤ c.reach := unhide hr1
  have b7 : c.reach < 8 := unhide hr2
  have b8 : (c.got == 0) = false := by simpa using unhide hg
  clear hg
  have hw2 : IntKind.i64.wrap (2 * c.reach) = 2 * c.reach := by rw [IntKind.wrap_i64]; omega
  have hk2 := unhide hk
  subst hk2
  clear hk
  go_wp2
  go_region_held3 (fun w' => w'.cell? ⟨x, 1, none⟩ = some (.slice (some ⟨g, 0, none⟩) ns.length cap) ∧ w'.cell? ⟨w.heap.size + 2, 3, none⟩ = some (.int .i64 c.reach)) (go_keep) (fail)
  rename_i hHeld
  clear hHeld
  obtain ⟨hE1, hi1⟩ := hE.set hgl hi 4 (by omega) (.int .i64 0) { c with got := 0 } rfl
  obtain ⟨hE2, hi2⟩ := hE1.set hgl hi1 3 (by omega) (.int .i64 (2 * c.reach)) { c with got := 0, reach := 2 * c.reach } rfl
  rw [List.set_set] at hE2 hi2
  have hE3 := hE2.quiet ((Chg.refl _ _).drew)
  have bd := ((hbx.d.set_other (a := ⟨g, i * 5 + 4, none⟩) n2 (.int .i64 0)).set_other (a := ⟨g, i * 5 + 3, none⟩) n2 (.int .i64 (2 * c.reach))).drew
  have bm := ((hbx.m.set_other (a := ⟨g, i * 5 + 4, none⟩) n0 (.int .i64 0)).set_other (a := ⟨g, i * 5 + 3, none⟩) n0 (.int .i64 (2 * c.reach))).drew
  clear a0 a1 a2 a3 a4 x0 x1 d0 d1 d2 d3 d4 mm0 mm1 mm2 p0 p1 p2 p3 p4 p5 fp0 fp1 fp2 fp3 fp4 fp5 r0 r1 r2 r3 r4 r5 fr0 fr1 fr2 fr3 fr4 fr5 fg1 fg2 fg3 fg4 hE hE1 hE2 hi1 rV hbx r hi
  generalize ((V.setCell ⟨g, i * 5 + 4, none⟩ (.int .i64 0)).setCell ⟨g, i * 5 + 3, none⟩ (.int .i64 (2 * c.reach))).drew = Vq at *
  have bE := hE3.r
  have oE := hE3.o
  have d0 := bd.cell 0
  have d1 := bd.cell 1
  have d2 := bd.cell 2
  have d3 := bd.cell 3
  have d4 := bd.cell 4
  simp [mc] at d0 d1 d2 d3 d4
  have mm0 := bm.cell 0
  have mm1 := bm.cell 1
  have mm2 := bm.cell 2
  simp [msC] at mm0 mm1 mm2
  have rr0 := bE.cell 0
  have rr1 := bE.cell 1
  have rr2 := bE.cell 2
  have rr3 := bE.cell 3
  have rr4 := bE.cell 4
  have rr5 := bE.cell 5
  simp at rr0 rr1 rr2 rr3 rr4 rr5
  have frr0 := bE.frozen 0
  have frr1 := bE.frozen 1
  have frr2 := bE.frozen 2
  have frr3 := bE.frozen 3
  have frr4 := bE.frozen 4
  have frr5 := bE.frozen 5
  have pp0 := oE.cell 0
  have pp1 := oE.cell 1
  have pp2 := oE.cell 2
  have pp3 := oE.cell 3
  have pp4 := oE.cell 4
  have pp5 := oE.cell 5
  simp [ouC, msC, o0, m0] at pp0 pp1 pp2 pp3 pp4 pp5
  have fpp0 := oE.frozen 0
  have fpp1 := oE.frozen 1
  have fpp2 := oE.frozen 2
  have fpp3 := oE.frozen 3
  have fpp4 := oE.frozen 4
  have fpp5 := oE.frozen 5
  have nn : w.heap.size + 1 ≠ w.heap.size + 3 := by omega
  have nn2 := Ne.symm nn
  have hpr := fun V' (q : Quiet Vq V') => probes_any V' x g cap sp mode _ (hE3.g.quiet q) i _ hi2
  unfold ptr at hpr
  go_wp2_with fail
  refine (hpr _ (Chg.refl _ _)).mono ?_
  rintro e Vc ⟨rfl, hq2⟩
  have hEc := hE3.quiet hq2
  clear hpr rr0 rr1 rr2 rr3 rr4 rr5 frr0 frr1 frr2 frr3 frr4 frr5 pp0 pp1 pp2 pp3 pp4 pp5 fpp0 fpp1 fpp2 fpp3 fpp4 fpp5 d0 d1 d2 d3 d4 mm0 mm1 mm2 bE oE bd bm nn nn2 hE3 hi2
  have bE := hEc.r
  have oE := hEc.o
  have rr0 := bE.cell 0
  have rr1 := bE.cell 1
  have rr2 := bE.cell 2
  have rr3 := bE.cell 3
  have rr4 := bE.cell 4
  have rr5 := bE.cell 5
  simp at rr0 rr1 rr2 rr3 rr4 rr5
  have frr0 := bE.frozen 0
  have frr1 := bE.frozen 1
  have frr2 := bE.frozen 2
  have frr3 := bE.frozen 3
  have frr4 := bE.frozen 4
  have frr5 := bE.frozen 5
  have pp0 := oE.cell 0
  have pp1 := oE.cell 1
  have pp2 := oE.cell 2
  have pp3 := oE.cell 3
  have pp4 := oE.cell 4
  have pp5 := oE.cell 5
  simp [ouC, msC, o0, m0] at pp0 pp1 pp2 pp3 pp4 pp5
  have fpp0 := oE.frozen 0
  have fpp1 := oE.frozen 1
  have fpp2 := oE.frozen 2
  have fpp3 := oE.frozen 3
  have fpp4 := oE.frozen 4
  have fpp5 := oE.frozen 5
  have nn : w.heap.size + 1 ≠ w.heap.size + 3 := by omega
  have nn2 := Ne.symm nn
  generalize probesP mode { c with got := 0, reach := 2 * c.reach } = R at *
  have hE := hEc.six hxl hgl R
  have fin := hide (ms_fin hxl hgl hE.r hE.c hE.g R)
  clear hE hEc bE oE
  unfold six at fin
  unfold ouV
  go_wp2
  exact bodyPost_ret (v := .tuple #[ouV R, .int .i64 0]) (results_blk_tmp (u := 57) (cs := ouC R) Try.results47 rfl Try.isAgg57 Try.sizeOf57 (unhide fin).1) rfl (unhide fin).2

set_option maxRecDepth 100000 in
set_option maxHeartbeats 4000000 in
theorem mstep_r0 (w : World) (x g cap : Nat) (sp : List Value) (mode : Int) (ns : List N5) (r : RepG w x g cap sp mode ns) (i : Nat) (c : N5) (hi : ns[i]? = some c) (dir : Int) (hm : mode = 0 ∨ mode = 1) (hd0 : 0 ≤ dir) (hd1 : dir ≤ mode) (mk mi mh : Int) (hhop : mh ≤ 9223372036854775807) (hk : Hid (mk = 4)) (hr : Hid (c.reach = 0)) :
    Calls Try.prog 47 #[ptr x, .int .i64 i, .int .i64 dir, msV ⟨mk, mi, mh⟩] w (mstepPost w x g cap sp mode (ns.set i { c with reach := 1 }) (probesP mode { c with reach := 1 })) := by
  have hbx := mboxed w ⟨mk, mi, mh⟩ c
  have hil := (List.getElem?_eq_some_iff.1 hi).1
  have hxl := r.blk.lt
  have hgl := r.gb.lt
  have i1 : (0 : Int) ≤ (i : Int) := by omega
  have i2 : (i : Int) < (ns.length : Int) := by omega
  have hmb : (mode == -1) = false := by rcases hm with rfl | rfl <;> rfl
  obtain ⟨a0, a1, a2, a3, a4⟩ := r.cells hi
  have x0 := r.blk.cell 0
  have x1 := r.blk.cell 1
  simp at x0 x1
  unfold ptr msV
  simp only at hbx ⊢
  go_enter Try.func47, Try.ntmps47
  go_upto_region 9 with fail
  generalize (((w.alloc (.cells #[.int .i64 mk, .int .i64 mi, .int .i64 mh] 55)).alloc (.cells #[.int .i64 0, .int .i64 0, .int .i64 0, .int .i64 0, .int .i64 0, .int .i64 0] 57)).alloc (.cells #[.int .i64 c.id, .int .i64 c.st, .int .i64 c.lead, .int .i64 c.reach, .int .i64 c.got] 28)).alloc (.cells #[.int .i64 0, .int .i64 0, .int .i64 0, .int .i64 0, .int .i64 0, .int .i64 0] 57) = V at *
  clear a0 a1 a2 a3 a4 x0 x1
  have hE := mend0 hbx r
  have rV := r.quiet hbx.q
  obtain ⟨a0, a1, a2, a3, a4⟩ := rV.cells hi
  have x0 := rV.blk.cell 0
  have x1 := rV.blk.cell 1
  simp at x0 x1
  have nxg := r.xg
  have ngx := Ne.symm r.xg
  have bd := hbx.d
  have bm := hbx.m
  have bo := hbx.o
  have br := hbx.r
  have d0 := bd.cell 0
  have d1 := bd.cell 1
  have d2 := bd.cell 2
  have d3 := bd.cell 3
  have d4 := bd.cell 4
  simp [mc] at d0 d1 d2 d3 d4
  have mm0 := bm.cell 0
  have mm1 := bm.cell 1
  have mm2 := bm.cell 2
  simp [msC] at mm0 mm1 mm2
  have p0 := bo.cell 0
  have p1 := bo.cell 1
  have p2 := bo.cell 2
  have p3 := bo.cell 3
  have p4 := bo.cell 4
  have p5 := bo.cell 5
  simp at p0 p1 p2 p3 p4 p5
  have fp0 := bo.frozen 0
  have fp1 := bo.frozen 1
  have fp2 := bo.frozen 2
  have fp3 := bo.frozen 3
  have fp4 := bo.frozen 4
  have fp5 := bo.frozen 5
  have r0 := br.cell 0
  have r1 := br.cell 1
  have r2 := br.cell 2
  have r3 := br.cell 3
  have r4 := br.cell 4
  have r5 := br.cell 5
  simp at r0 r1 r2 r3 r4 r5
  have fr0 := br.frozen 0
  have fr1 := br.frozen 1
  have fr2 := br.frozen 2
  have fr3 := br.frozen 3
  have fr4 := br.frozen 4
  have fr5 := br.frozen 5
  have fg1 := rV.gb.frozen (i * 5 + 1)
  have fg2 := rV.gb.frozen (i * 5 + 2)
  have fg3 := rV.gb.frozen (i * 5 + 3)
  have fg4 := rV.gb.frozen (i * 5 + 4)
  have n0 : w.heap.size ≠ g := by omega
  have n1 : w.heap.size + 1 ≠ g := by omega
  have n2 : w.heap.size + 2 ≠ g := by omega
  have n3 : w.heap.size + 3 ≠ g := by omega
  have n4 := Ne.symm n0
  have n5 := Ne.symm n1
  have n6 := Ne.symm n2
  have n7 := Ne.symm n3
  clear bd bm bo br
  have b1 : (c.reach == 0) = true := by simpa using unhide hr
  clear hr
  have hk2 := unhide hk
  subst hk2
  clear hk
  obtain ⟨hE3, hi2⟩ := hE.set hgl hi 3 (by omega) (.int .i64 1) { c with reach := 1 } rfl
  go_upto_region 11 with fail
  clear a0 a1 a2 a3 a4 x0 x1 d0 d1 d2 d3 d4 mm0 mm1 mm2 p0 p1 p2 p3 p4 p5 fp0 fp1 fp2 fp3 fp4 fp5 r0 r1 r2 r3 r4 r5 fr0 fr1 fr2 fr3 fr4 fr5 fg1 fg2 fg3 fg4 hE rV hbx r hi
  generalize V.setCell ⟨g, i * 5 + 3, none⟩ (.int .i64 1) = Vq at *
  have hpr := fun V' (q : Quiet Vq V') => probes_any V' x g cap sp mode _ (hE3.g.quiet q) i _ hi2
  unfold ptr at hpr
  go_wp2_with fail
  refine (hpr _ (Chg.refl _ _)).mono ?_
  rintro e Vc ⟨rfl, hq2⟩
  have hEc := hE3.quiet hq2
  clear hpr hE3 hi2
  have bE := hEc.r
  have oE := hEc.o
  have rr0 := bE.cell 0
  have rr1 := bE.cell 1
  have rr2 := bE.cell 2
  have rr3 := bE.cell 3
  have rr4 := bE.cell 4
  have rr5 := bE.cell 5
  simp at rr0 rr1 rr2 rr3 rr4 rr5
  have frr0 := bE.frozen 0
  have frr1 := bE.frozen 1
  have frr2 := bE.frozen 2
  have frr3 := bE.frozen 3
  have frr4 := bE.frozen 4
  have frr5 := bE.frozen 5
  have pp0 := oE.cell 0
  have pp1 := oE.cell 1
  have pp2 := oE.cell 2
  have pp3 := oE.cell 3
  have pp4 := oE.cell 4
  have pp5 := oE.cell 5
  simp [ouC, msC, o0, m0] at pp0 pp1 pp2 pp3 pp4 pp5
  have fpp0 := oE.frozen 0
  have fpp1 := oE.frozen 1
  have fpp2 := oE.frozen 2
  have fpp3 := oE.frozen 3
  have fpp4 := oE.frozen 4
  have fpp5 := oE.frozen 5
  have nn : w.heap.size + 1 ≠ w.heap.size + 3 := by omega
  have nn2 := Ne.symm nn
  generalize probesP mode { c with reach := 1 } = R at *
  have hE := hEc.six hxl hgl R
  have fin := hide (ms_fin hxl hgl hE.r hE.c hE.g R)
  clear hE hEc bE oE
  unfold six at fin
  unfold ouV
  go_wp2
  exact bodyPost_ret (v := .tuple #[ouV R, .int .i64 0]) (results_blk_tmp (u := 57) (cs := ouC R) Try.results47 rfl Try.isAgg57 Try.sizeOf57 (unhide fin).1) rfl (unhide fin).2

end Go.Proofs.Qxb6500369a
