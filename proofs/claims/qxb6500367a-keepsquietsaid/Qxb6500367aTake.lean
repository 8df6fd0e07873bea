/-
  The law's wire: Take.
-/
import Derived.Test.Qxb6500367aWire
import Derived.Test.Qxb6500367aLibB
namespace Go.Qx
open Go.RowKit
/-- Two results, the second a struct in a block of its own. -/
theorem results_tmp_blk {P : Program} {fn : Func} {tmps : Array Value} {w : World} {p q : Tmp} {ty : TypeId} {b : Nat} {u : TypeId} {cs : List Value} (h : fn.results = #[.tmp q, .cell p ty]) (ht : tmps.getD p undef = .pointer (some ⟨b, 0, none⟩))
    (ha : ∀ w, (isAgg ty).run P w = .ok true w) (hs : ∀ w, (sizeOf ty).run P w = .ok cs.length w) (hb : Blk w b u cs) : (results fn tmps).run P w = .ok (.tuple #[tmps.getD q undef, .agg cs.toArray]) w := by
  have ht' : tmps[p]?.getD undef = .pointer (some ⟨b, 0, none⟩) := by rw [← ht]; simp
  simp only [results, h]
  simp [ht', asAddr, loadVar, ha, hs, run_loadCells_blk hb]
end Go.Qx
namespace Go.Proofs.Qxb6500367a
open Go.RowKit Go.Qx
set_option linter.unusedSimpArgs false
set_option linter.unusedVariables false

theorem size82 : (Try.prog.info? 82).map (·.size) = some 4 := by kernel_rfl

/-- Elements taken out of the middle: the rest comes down. -/
theorem over_shift (p m r sp : List Value) : ∃ sp2, over (p ++ m ++ r ++ sp) p.length r = p ++ r ++ sp2 ∧ sp2.length = m.length + sp.length := by
  refine ⟨(m ++ r ++ sp).drop r.length, ?_, ?_⟩
  · have := over_mid r p ((m ++ r ++ sp).take r.length) ((m ++ r ++ sp).drop r.length) (by simp; omega)
    rw [List.append_assoc p, List.take_append_drop] at this
    rw [← this]
    simp only [List.append_assoc]
  · simp; omega

def zeroOp : List Value := [.int .i64 0, .int .i64 0, .int .i64 0, .int .i64 0, .string ⟨#[]⟩, .string ⟨#[]⟩]

def takePost (w : World) (v : Value) (e : Ending) (w' : World) : Prop :=
  ∃ v' n k a b c, e = .returned (.tuple #[v', opv k a b c ⟨#[]⟩ ⟨#[]⟩]) ∧ Wire w' v' n ∧ Chg (fun x => v.ownBlock = some x) w w' ∧ v'.ownBlock = v.ownBlock

theorem xs_get (xs : List Int) (sp : List Value) (i : Nat) (hi : i < xs.length) : (xs.map (Value.int .i64) ++ sp)[i]? = some (.int .i64 (xs.getD i 0)) := by
  rw [List.getElem?_append_left (by simpa using hi), List.getElem?_map, List.getD_eq_getElem?_getD, List.getElem?_eq_getElem hi]; rfl

set_option maxRecDepth 100000 in
set_option maxHeartbeats 4000000 in
theorem take_any (w : World) (v : Value) (n : Nat) (hw : Wire w v n) (f t : Int) : Calls Try.prog 24 #[v, .int .i64 f, .int .i64 t] w (takePost w v) := by
  obtain ⟨h36, xs, hrow⟩ := hw
  have hxl := hrow.len
  rw [List.length_map] at hxl
  obtain ⟨ao, cap, rfl⟩ := hrow.shape
  have bR := Blk.new w 44 zeroOp
  have none_found : ∀ V, Quiet w V → Wire V (.slice ao n cap) n := fun V q => ⟨h36, xs, hrow.quiet q⟩
  have nfH := hide none_found
  clear none_found
  have hRl : w.heap.size < (w.alloc (.cells zeroOp.toArray 44)).heap.size := bR.lt
  have qR : Quiet w (w.alloc (.cells zeroOp.toArray 44)) := (Chg.refl _ _).alloc _
  have hrowH := hide hrow
  clear hrow
  unfold zeroOp at *
  go_enter Try.func24, Try.ntmps24
  go_wp2
  go_loopw [8] (fun i wr => ∃ k : Nat, k ≤ n ∧ i = .int .i64 k ∧ Quiet w wr ∧ Blk wr w.heap.size 44 [.int .i64 0, .int .i64 0, .int .i64 0, .int .i64 0, .string ⟨#[]⟩, .string ⟨#[]⟩]) (fun i _ => 37 - (intOf i).toNat)
  case atStart => exact ⟨0, Nat.zero_le _, rfl, qR, bR⟩
  case round =>
    obtain ⟨k, hk, rfl, qk, bk⟩ := hrel
    clear bR qR hRl
    have k0 : (0 : Int) ≤ (k : Int) := by omega
    by_cases hlt : k < n
    · have k1 : (k : Int) < (n : Int) := by omega
      obtain ⟨g, cap', sp, hv, hb, hnc, hcm, hbl⟩ | ⟨_, hn0, _⟩ := (unhide hrowH).form.symm
      · cases hv
        have hbk := qk.blk hb
        have hgl := hb.lt
        have e0 := (hbk.cell (k * 4)).trans (xs_get xs sp (k * 4) (by omega))
        have e1 := (hbk.cell (k * 4 + 1)).trans (xs_get xs sp (k * 4 + 1) (by omega))
        have e2 := (hbk.cell (k * 4 + 2)).trans (xs_get xs sp (k * 4 + 2) (by omega))
        have e3 := (hbk.cell (k * 4 + 3)).trans (xs_get xs sp (k * 4 + 3) (by omega))
        generalize xs.getD (k * 4) 0 = x0 at e0
        generalize xs.getD (k * 4 + 1) 0 = x1 at e1
        generalize xs.getD (k * 4 + 2) 0 = x2 at e2
        generalize xs.getD (k * 4 + 3) 0 = x3 at e3
        by_cases hf : x1 = f ∧ x2 = t
        · obtain ⟨rfl, rfl⟩ := hf
          have b1 : (x1 == x1) = true := by simp
          have b2 : (x2 == x2) = true := by simp
          have hbm := hbk.alloc (.cells #[.int .i64 x0, .int .i64 x1, .int .i64 x2, .int .i64 x3] 82)
          have bM := Blk.new wr 82 [.int .i64 x0, .int .i64 x1, .int .i64 x2, .int .i64 x3]
          have bRm := bk.alloc (.cells #[.int .i64 x0, .int .i64 x1, .int .i64 x2, .int .i64 x3] 82)
          have qm : Quiet w (wr.alloc (.cells #[.int .i64 x0, .int .i64 x1, .int .i64 x2, .int .i64 x3] 82)) := qk.alloc _
          have hks := bk.lt
          go_wp2
          clear e0 e1 e2 e3 hbk bk
          generalize wr.alloc (.cells #[.int .i64 x0, .int .i64 x1, .int .i64 x2, .int .i64 x3] 82) = wm at *
          generalize wr.heap.size = M at *
          have nMg : M ≠ g := by omega
          have nMR : M ≠ w.heap.size := by omega
          have nRg : w.heap.size ≠ g := by omega
          obtain ⟨sp2, hs2, hs3⟩ := over_shift ((xs.take (k * 4)).map (Value.int .i64)) (((xs.drop (k * 4)).take 4).map (Value.int .i64)) ((xs.drop ((k + 1) * 4)).map (Value.int .i64)) sp
          have hxx : (xs.take (k * 4)).map (Value.int .i64) ++ ((xs.drop (k * 4)).take 4).map (Value.int .i64) ++ (xs.drop ((k + 1) * 4)).map (Value.int .i64) = xs.map (Value.int .i64) := by
            rw [← List.map_append, ← List.map_append, List.append_assoc]
            congr 1
            rw [show (k + 1) * 4 = k * 4 + 4 by omega, ← List.drop_drop, List.take_append_drop, List.take_append_drop]
          have hpl : ((xs.take (k * 4)).map (Value.int .i64)).length = k * 4 := by simp; omega
          rw [hxx, hpl, ← List.map_append] at hs2
          rw [List.length_map, List.length_take, List.length_drop] at hs3
          have fin : Hid (∀ V, Chg (fun x => x = g) w V → Blk V g 82 ((xs.take (k * 4) ++ xs.drop ((k + 1) * 4)).map (Value.int .i64) ++ sp2) → ∀ V', Chg (fun x => x = g) w V' → V'.heap[g]? = V.heap[g]? → Wire V' (.slice (some ⟨g, 0, none⟩) (n - 1) cap) (n - 1) ∧ Chg (fun x => (Value.slice (some ⟨g, 0, none⟩) n cap).ownBlock = some x) w V' ∧ (Value.slice (some ⟨g, 0, none⟩) (n - 1) cap).ownBlock = (Value.slice (some ⟨g, 0, none⟩) n cap).ownBlock) := by
            intro V hV hbV V' hV' he
            refine ⟨⟨by omega, _, Row.of_blk (hbV.of_heap he) ?_ (by omega) hcm ?_⟩, hV'.mono (fun x _ h => by simp [Value.ownBlock, h]), rfl⟩
            · simp; omega
            · rw [List.length_append, List.length_map] at hbl
              simp only [List.length_append, List.length_map, List.length_take, List.length_drop]
              omega
          have hs2H := hide hs2
          clear hs2 hs3 hxx hpl nfH hrowH qk
          by_cases hcap : cap = k + 1
          · obtain ⟨rfl⟩ : n = k + 1 := by omega
            subst hcap
            have w1 : IntKind.i64.wrap ((k : Int) + 1) = (k : Int) + 1 := by rw [IntKind.wrap_i64]; omega
            have w2 : IntKind.i64.wrap (k : Int) = (k : Int) := by rw [IntKind.wrap_i64]; omega
            have w3 : IntKind.i64.wrap ((k : Int) + 1 - 1) = (k : Int) := by rw [IntKind.wrap_i64]; omega
            have i3 : (0 : Int) ≤ (k : Int) + 1 := by omega
            have i4 : (k : Int) ≤ (k : Int) + 1 := by omega
            have e9 : k + 1 - k = 1 := by omega
            have hcp := run_copy_wide (P := Try.prog) wm.drew 46 46 3 82 g (k * 4) 1 1 ⟨g, 0, none⟩ 0 0 4 [] Try.underlying46 size82 0 (by simp) rfl
              (by simp) (by simp) (by simp) (by simp)
            simp only [World.setCells] at hcp
            go_region_law (fail)
            all_goals
              have hV : Chg (fun x => x = g) w wm.drew := (Quiet.chg qm _).drew
              have bMV : Blk wm.drew M 82 [.int .i64 x0, .int .i64 x1, .int .i64 x2, .int .i64 x3] := bM.drew
              have bRV : Blk wm.drew w.heap.size 44 [.int .i64 0, .int .i64 0, .int .i64 0, .int .i64 0, .string ⟨#[]⟩, .string ⟨#[]⟩] := bRm.drew
              have bgV : Blk wm.drew g 82 ((xs.take (k * 4) ++ xs.drop ((k + 1) * 4)).map (Value.int .i64) ++ sp2) := by
                rw [← unhide hs2H]; rw [List.drop_eq_nil_of_le (by omega)]; exact hbm.drew
              clear hcp hbm bM bRm qm
              generalize wm.drew = V at *
              have m0 := bMV.cell 0
              have m3 := bMV.cell 3
              simp at m0 m3
              have r0 := bRV.cell 0
              have r1 := bRV.cell 1
              have r2 := bRV.cell 2
              have r3 := bRV.cell 3
              have r4 := bRV.cell 4
              have r5 := bRV.cell 5
              simp at r0 r1 r2 r3 r4 r5
              have q0 := bRV.frozen 0
              have q1 := bRV.frozen 1
              have q2 := bRV.frozen 2
              have q3 := bRV.frozen 3
              have q4 := bRV.frozen 4
              have q5 := bRV.frozen 5
              have nRM := Ne.symm nMR
              go_wp2
              go_region_law (fail)
              all_goals
                go_wp2
                refine bodyPost_ret (v := .tuple #[.slice (some ⟨g, 0, none⟩) k (k + 1), opv x0 x2 x1 x3 ⟨#[]⟩ ⟨#[]⟩]) (results_tmp_blk (u := 44) (cs := [.int .i64 x0, .int .i64 x2, .int .i64 x1, .int .i64 x3, .string ⟨#[]⟩, .string ⟨#[]⟩]) Try.results24 rfl Try.isAgg44 Try.sizeOf44 ?_) rfl ?_
                · exact ((((((bRV.set 0 _).set 1 _).set 2 _).set 3 _).set 4 _).set 5 _).drew
                · have hV2 : Chg (fun x => x = g) w ((((((V.setCell ⟨w.heap.size, 0, none⟩ (.int .i64 x0)).setCell ⟨w.heap.size, 1, none⟩ (.int .i64 x2)).setCell ⟨w.heap.size, 2, none⟩ (.int .i64 x1)).setCell ⟨w.heap.size, 3, none⟩ (.int .i64 x3)).setCell ⟨w.heap.size, 4, none⟩ (.string ⟨#[]⟩)).setCell ⟨w.heap.size, 5, none⟩ (.string ⟨#[]⟩)).drew := ((((((hV.setCell (.inr (Nat.le_refl _)) _).setCell (.inr (Nat.le_refl _)) _).setCell (.inr (Nat.le_refl _)) _).setCell (.inr (Nat.le_refl _)) _).setCell (.inr (Nat.le_refl _)) _).setCell (.inr (Nat.le_refl _)) _).drew
                  have bg2 := ((((((bgV.set_other (a := ⟨w.heap.size, 0, none⟩) (Ne.symm nRg) (.int .i64 x0)).set_other (a := ⟨w.heap.size, 1, none⟩) (Ne.symm nRg) (.int .i64 x2)).set_other (a := ⟨w.heap.size, 2, none⟩) (Ne.symm nRg) (.int .i64 x1)).set_other (a := ⟨w.heap.size, 3, none⟩) (Ne.symm nRg) (.int .i64 x3)).set_other (a := ⟨w.heap.size, 4, none⟩) (Ne.symm nRg) (.string ⟨#[]⟩)).set_other (a := ⟨w.heap.size, 5, none⟩) (Ne.symm nRg) (.string ⟨#[]⟩)).drew
                  obtain ⟨z1, z2, z3⟩ := unhide fin _ hV2 bg2 _ hV2 rfl
                  exact ⟨_, _, _, _, _, _, rfl, z1, z2, z3⟩
          · have i3 : (k : Int) + 1 ≤ (n : Int) := by omega
            have i4 : (0 : Int) ≤ (k : Int) + 1 := by omega
            have w1 : IntKind.i64.wrap ((k : Int) + 1) = (k : Int) + 1 := by rw [IntKind.wrap_i64]; omega
            have i5 : (k : Int) ≤ (n : Int) := by omega
            have n1 : ¬ cap = k := by omega
            have hmin : Nat.min (n - (k + 1)) (n - k) = n - (k + 1) := Nat.min_eq_left (by omega)
            have hlen : ((xs.drop ((k + 1) * 4)).map (Value.int .i64)).length = (n - (k + 1)) * 4 := by rw [List.length_map, List.length_drop]; omega
            have hspare : ∀ j, j < ((xs.drop ((k + 1) * 4)).map (Value.int .i64)).length → (wm.drew.cell? ⟨g, k * 4 + j, none⟩).isSome = true := by
              intro j hj
              rw [hbm.drew.cell (k * 4 + j), List.getElem?_eq_getElem (by rw [List.length_append, List.length_map]; omega)]; rfl
            have hsrc : ∀ j u, ((xs.drop ((k + 1) * 4)).map (Value.int .i64))[j]? = some u → wm.drew.cell? ((⟨g, (k + 1) * 4, none⟩ : Addr).add j) = some u := by
              intro j u hj
              have hjl : j < ((xs.drop ((k + 1) * 4)).map (Value.int .i64)).length := by
                rw [List.getElem?_eq_some_iff] at hj; exact hj.1
              rw [show (⟨g, (k + 1) * 4, none⟩ : Addr).add j = ⟨g, (k + 1) * 4 + j, none⟩ by unfold Addr.add; split <;> simp_all, hbm.drew.cell ((k + 1) * 4 + j), List.getElem?_append_left (by rw [List.length_map]; omega), List.getElem?_map]
              rw [List.getElem?_map, List.getElem?_drop] at hj
              exact hj
            have hcp := run_copy_wide (P := Try.prog) wm.drew 46 46 3 82 g (k * 4) (n - k) (cap - k) ⟨g, (k + 1) * 4, none⟩ (n - (k + 1)) (cap - (k + 1)) 4 ((xs.drop ((k + 1) * 4)).map (Value.int .i64)) Try.underlying46 size82 (n - (k + 1)) hmin hlen
              hsrc hspare (fun j _ => hbm.drew.frozen _) (one_ints _)
            clear hmin hlen hspare hsrc
            go_region_law (fail)
            all_goals
              have hV : Chg (fun x => x = g) w (wm.drew.setCells g (k * 4) (List.drop ((k + 1) * 4) (List.map (Value.int IntKind.i64) xs))) := Chg.setCells (S := fun x => x = g) (.inl rfl) _ _ (Quiet.chg qm _).drew
              have bMV : Blk (wm.drew.setCells g (k * 4) (List.drop ((k + 1) * 4) (List.map (Value.int IntKind.i64) xs))) M 82 [.int .i64 x0, .int .i64 x1, .int .i64 x2, .int .i64 x3] := bM.drew.setCells_other nMg _ _
              have bRV : Blk (wm.drew.setCells g (k * 4) (List.drop ((k + 1) * 4) (List.map (Value.int IntKind.i64) xs))) w.heap.size 44 [.int .i64 0, .int .i64 0, .int .i64 0, .int .i64 0, .string ⟨#[]⟩, .string ⟨#[]⟩] := bRm.drew.setCells_other nRg _ _
              have bgV : Blk (wm.drew.setCells g (k * 4) (List.drop ((k + 1) * 4) (List.map (Value.int IntKind.i64) xs))) g 82 ((xs.take (k * 4) ++ xs.drop ((k + 1) * 4)).map (Value.int .i64) ++ sp2) := by
                rw [← unhide hs2H]; rw [List.map_drop]; exact hbm.drew.setCells _ _
              clear hcp hbm bM bRm qm
              generalize (wm.drew.setCells g (k * 4) (List.drop ((k + 1) * 4) (List.map (Value.int IntKind.i64) xs))) = V at *
              have m0 := bMV.cell 0
              have m3 := bMV.cell 3
              simp at m0 m3
              have r0 := bRV.cell 0
              have r1 := bRV.cell 1
              have r2 := bRV.cell 2
              have r3 := bRV.cell 3
              have r4 := bRV.cell 4
              have r5 := bRV.cell 5
              simp at r0 r1 r2 r3 r4 r5
              have q0 := bRV.frozen 0
              have q1 := bRV.frozen 1
              have q2 := bRV.frozen 2
              have q3 := bRV.frozen 3
              have q4 := bRV.frozen 4
              have q5 := bRV.frozen 5
              have i9 : (1 : Int) ≤ (n : Int) := by omega
              have i6 : (n : Int) - 1 ≤ (n : Int) := by omega
              have i7 : (0 : Int) ≤ (n : Int) - 1 := by omega
              have i8 : (n : Int) - 1 ≤ (cap : Int) := by omega
              have w2 : IntKind.i64.wrap ((n : Int) - 1) = (n : Int) - 1 := by rw [IntKind.wrap_i64]; omega
              have nRM := Ne.symm nMR
              go_wp2
              go_region_law (fail)
              all_goals
                go_wp2
                refine bodyPost_ret (v := .tuple #[.slice (some ⟨g, 0, none⟩) (n - 1) cap, opv x0 x2 x1 x3 ⟨#[]⟩ ⟨#[]⟩]) (results_tmp_blk (u := 44) (cs := [.int .i64 x0, .int .i64 x2, .int .i64 x1, .int .i64 x3, .string ⟨#[]⟩, .string ⟨#[]⟩]) Try.results24 rfl Try.isAgg44 Try.sizeOf44 ?_) rfl ?_
                · exact ((((((bRV.set 0 _).set 1 _).set 2 _).set 3 _).set 4 _).set 5 _).drew
                · have hV2 : Chg (fun x => x = g) w ((((((V.setCell ⟨w.heap.size, 0, none⟩ (.int .i64 x0)).setCell ⟨w.heap.size, 1, none⟩ (.int .i64 x2)).setCell ⟨w.heap.size, 2, none⟩ (.int .i64 x1)).setCell ⟨w.heap.size, 3, none⟩ (.int .i64 x3)).setCell ⟨w.heap.size, 4, none⟩ (.string ⟨#[]⟩)).setCell ⟨w.heap.size, 5, none⟩ (.string ⟨#[]⟩)).drew := ((((((hV.setCell (.inr (Nat.le_refl _)) _).setCell (.inr (Nat.le_refl _)) _).setCell (.inr (Nat.le_refl _)) _).setCell (.inr (Nat.le_refl _)) _).setCell (.inr (Nat.le_refl _)) _).setCell (.inr (Nat.le_refl _)) _).drew
                  have bg2 := ((((((bgV.set_other (a := ⟨w.heap.size, 0, none⟩) (Ne.symm nRg) (.int .i64 x0)).set_other (a := ⟨w.heap.size, 1, none⟩) (Ne.symm nRg) (.int .i64 x2)).set_other (a := ⟨w.heap.size, 2, none⟩) (Ne.symm nRg) (.int .i64 x1)).set_other (a := ⟨w.heap.size, 3, none⟩) (Ne.symm nRg) (.int .i64 x3)).set_other (a := ⟨w.heap.size, 4, none⟩) (Ne.symm nRg) (.string ⟨#[]⟩)).set_other (a := ⟨w.heap.size, 5, none⟩) (Ne.symm nRg) (.string ⟨#[]⟩)).drew
                  obtain ⟨z1, z2, z3⟩ := unhide fin _ hV2 bg2 _ hV2 rfl
                  exact ⟨_, _, _, _, _, _, rfl, z1, z2, z3⟩
        · have hskip : Hid (∀ V, Quiet wr V → ∃ q : Nat, q ≤ n ∧ Value.int .i64 ((k : Int) + 1) = .int .i64 q ∧ Quiet w V ∧ Blk V w.heap.size 44 [.int .i64 0, .int .i64 0, .int .i64 0, .int .i64 0, .string ⟨#[]⟩, .string ⟨#[]⟩]) := by
            intro V q
            exact ⟨k + 1, by omega, by go_num, Quiet.trans qk q, q.blk bk⟩
          by_cases hf1 : x1 = f
          · have b1 : (x1 == f) = true := by simpa using hf1
            have b2 : (x2 == t) = false := by rw [beq_eq_false_iff_ne]; exact fun h => hf ⟨hf1, h⟩
            clear hf hf1
            go_wp2
            go_roundw
            case rel => exact unhide hskip _ ((Chg.refl _ _).alloc _)
            case measure => simp [intOf]; omega
          · have b1 : (x1 == f) = false := by simpa using hf1
            clear hf hf1
            go_wp2
            go_roundw
            case rel => exact unhide hskip _ ((Chg.refl _ _).alloc _)
            case measure => simp [intOf]; omega
      · omega
    · have k1 : ¬ (k : Int) < (n : Int) := by omega
      have f0 := bk.frozen
      have c0 := bk.cell
      go_wp2
      refine bodyPost_ret (v := .tuple #[.slice ao n cap, opv 6 0 0 0 ⟨#[]⟩ ⟨#[]⟩]) (results_tmp_blk (u := 44) (cs := [.int .i64 6, .int .i64 0, .int .i64 0, .int .i64 0, .string ⟨#[]⟩, .string ⟨#[]⟩]) Try.results24 rfl Try.isAgg44 Try.sizeOf44 ?_) rfl ?_
      · exact (((((bk.set 0 _).set 1 _).set 2 _).set 3 _).set 4 _).set 5 _
      · have q2 : Quiet w ((((((wr.setCell ⟨w.heap.size, 0, none⟩ (.int .i64 6)).setCell ⟨w.heap.size, 1, none⟩ (.int .i64 0)).setCell ⟨w.heap.size, 2, none⟩ (.int .i64 0)).setCell ⟨w.heap.size, 3, none⟩ (.int .i64 0)).setCell ⟨w.heap.size, 4, none⟩ (.string ⟨#[]⟩)).setCell ⟨w.heap.size, 5, none⟩ (.string ⟨#[]⟩)) := (((((qk.setCell (.inr (Nat.le_refl _)) _).setCell (.inr (Nat.le_refl _)) _).setCell (.inr (Nat.le_refl _)) _).setCell (.inr (Nat.le_refl _)) _).setCell (.inr (Nat.le_refl _)) _).setCell (.inr (Nat.le_refl _)) _
        exact ⟨_, n, 6, 0, 0, 0, rfl, unhide nfH _ q2, q2.chg _, rfl⟩
end Go.Proofs.Qxb6500367a
