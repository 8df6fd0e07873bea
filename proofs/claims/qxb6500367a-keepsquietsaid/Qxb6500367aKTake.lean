/-
  367 Keeps: Take, with the wire's contents. (gen7take.py)
-/
import Derived.Test.Qxb6500367aKPost
import Derived.Test.Qxb6500367aTake
namespace Go.Proofs.Qxb6500367a
open Go.RowKit Go.Qx
set_option linter.unusedSimpArgs false
set_option linter.unusedVariables false

def takePostK (w : World) (v : Value) (W : List M4) (f t : Int) (e : Ending) (w' : World) : Prop :=
  (∃ L1 m L2 v', W = L1 ++ m :: L2 ∧ (m.f : Int) = f ∧ (m.t : Int) = t ∧ (∀ x, x ∈ L1 → ¬ ((x.f : Int) = f ∧ (x.t : Int) = t)) ∧ e = .returned (.tuple #[v', opv m.k t f m.c ⟨#[]⟩ ⟨#[]⟩]) ∧ Row w' 82 4 v' (L1 ++ L2).length (mcells (L1 ++ L2)) ∧ Chg (fun x => v.ownBlock = some x) w w' ∧ v'.ownBlock = v.ownBlock)
  ∨ ((∀ x, x ∈ W → ¬ ((x.f : Int) = f ∧ (x.t : Int) = t)) ∧ ∃ v', e = .returned (.tuple #[v', opv 6 0 0 0 ⟨#[]⟩ ⟨#[]⟩]) ∧ Row w' 82 4 v' W.length (mcells W) ∧ Chg (fun x => v.ownBlock = some x) w w' ∧ v'.ownBlock = v.ownBlock)

theorem mem_take_succ {W : List M4} {k : Nat} {m : M4} (h : W[k]? = some m) {P : M4 → Prop} (ht : ∀ x, x ∈ W.take k → P x) (hm : P m) : ∀ x, x ∈ W.take (k + 1) → P x := by
  intro x hx
  rw [List.take_add_one, h] at hx
  rcases List.mem_append.1 hx with hx | hx
  · exact ht x hx
  · simp at hx; rw [hx]; exact hm
theorem cut_at {W : List M4} {k : Nat} {m : M4} (h : W[k]? = some m) : W = W.take k ++ m :: W.drop (k + 1) := by
  obtain ⟨hl, e⟩ := List.getElem?_eq_some_iff.1 h
  rw [← e, List.getElem_cons_drop, List.take_append_drop]

set_option maxRecDepth 100000 in
set_option maxHeartbeats 4000000 in
theorem takeK_any (w : World) (v : Value) (W : List M4) (hw : Row w 82 4 v W.length (mcells W)) (h36 : W.length ≤ 36) (f t : Int) : Calls Try.prog 24 #[v, .int .i64 f, .int .i64 t] w (takePostK w v W f t) := by
  have hrow := hw
  clear hw
  have hxl := mcells_length W
  generalize hN : W.length = n at *
  have hNH := hide hN
  clear hN
  obtain ⟨ao, cap, rfl⟩ := hrow.shape
  have bR := Blk.new w 44 zeroOp
  have none_found : ∀ V, Quiet w V → Row V 82 4 (.slice ao n cap) n (mcells W) := fun V q => hrow.quiet q
  have nfH := hide none_found
  clear none_found
  have hRl : w.heap.size < (w.alloc (.cells zeroOp.toArray 44)).heap.size := bR.lt
  have qR : Quiet w (w.alloc (.cells zeroOp.toArray 44)) := (Chg.refl _ _).alloc _
  have hrowH := hide hrow
  clear hrow
  unfold zeroOp at *
  go_enter Try.func24, Try.ntmps24
  go_wp2
  go_loopw [8] (fun i wr => ∃ k : Nat, k ≤ n ∧ i = .int .i64 k ∧ (∀ x, x ∈ W.take k → ¬ ((x.f : Int) = f ∧ (x.t : Int) = t)) ∧ Quiet w wr ∧ Blk wr w.heap.size 44 [.int .i64 0, .int .i64 0, .int .i64 0, .int .i64 0, .string ⟨#[]⟩, .string ⟨#[]⟩]) (fun i _ => 37 - (intOf i).toNat)
  case atStart => exact ⟨0, Nat.zero_le _, rfl, fun x hx => by simp at hx, qR, bR⟩
  case round =>
    obtain ⟨k, hk, rfl, hno, qk, bk⟩ := hrel
    have hnoH := hide hno
    clear hno
    clear bR qR hRl
    have k0 : (0 : Int) ≤ (k : Int) := by omega
    by_cases hlt : k < n
    · have k1 : (k : Int) < (n : Int) := by omega
      obtain ⟨g, cap', sp, hv, hb, hnc, hcm, hbl⟩ | ⟨_, hn0, _⟩ := (unhide hrowH).form.symm
      · cases hv
        have hbk := qk.blk hb
        have hgl := hb.lt
        obtain ⟨m, hm⟩ : ∃ m, W[k]? = some m := ⟨_, List.getElem?_eq_getElem (by rw [unhide hNH]; exact hlt)⟩
        have e0 : wr.cell? ⟨g, k * 4, none⟩ = some (.int .i64 m.k) := (hbk.cell (k * 4)).trans (by have := mcells_get W sp k 0 m hm (by omega); rw [Nat.add_zero] at this; exact this)
        have e1 : wr.cell? ⟨g, k * 4 + 1, none⟩ = some (.int .i64 m.f) := (hbk.cell (k * 4 + 1)).trans (mcells_get W sp k 1 m hm (by omega))
        have e2 : wr.cell? ⟨g, k * 4 + 2, none⟩ = some (.int .i64 m.t) := (hbk.cell (k * 4 + 2)).trans (mcells_get W sp k 2 m hm (by omega))
        have e3 : wr.cell? ⟨g, k * 4 + 3, none⟩ = some (.int .i64 m.c) := (hbk.cell (k * 4 + 3)).trans (mcells_get W sp k 3 m hm (by omega))
        have hmH : Hid (∃ x0 x1 x2 x3 : Int, m.k = x0 ∧ (m.f : Int) = x1 ∧ (m.t : Int) = x2 ∧ m.c = x3) := ⟨_, _, _, _, rfl, rfl, rfl, rfl⟩
        have hcut := hide (cut_at hm)
        have hsucc : Hid (¬ ((m.f : Int) = f ∧ (m.t : Int) = t) → ∀ x, x ∈ W.take (k + 1) → ¬ ((x.f : Int) = f ∧ (x.t : Int) = t)) := fun h => mem_take_succ (P := fun x => ¬ ((x.f : Int) = f ∧ (x.t : Int) = t)) hm (unhide hnoH) h
        have hmx : Hid (∀ v' e w', e = Ending.returned (.tuple #[v', opv m.k m.t m.f m.c ⟨#[]⟩ ⟨#[]⟩]) → (m.f : Int) = f → (m.t : Int) = t → Row w' 82 4 v' (n - 1) (mcells (W.take k ++ W.drop (k + 1))) → Chg (fun x => (Value.slice (some ⟨g, 0, none⟩) n cap).ownBlock = some x) w w' → v'.ownBlock = (Value.slice (some ⟨g, 0, none⟩) n cap).ownBlock → takePostK w (.slice (some ⟨g, 0, none⟩) n cap) W f t e w') := by
          intro v' e w' he h1 h2 h3 h4 h5
          refine .inl ⟨W.take k, m, W.drop (k + 1), v', unhide hcut, h1, h2, unhide hnoH, ?_, ?_, h4, h5⟩
          · rw [he, h1, h2]
          · have h7 : (W.take k ++ W.drop (k + 1)).length = n - 1 := by
              have h6 := unhide hNH
              rw [List.length_append, List.length_take, List.length_drop]; omega
            rw [h7]; exact h3
        clear hm
        have hmk : Hid (∀ V, V = mcells [m] → V = [.int .i64 m.k, .int .i64 m.f, .int .i64 m.t, .int .i64 m.c]) := fun V h => h
        have hwm : Hid (mcells (W.take k) ++ [.int .i64 m.k, .int .i64 m.f, .int .i64 m.t, .int .i64 m.c] ++ mcells (W.drop (k + 1)) = mcells W) := by
          have h6 := unhide hcut
          show _ = _
          conv => rhs; rw [h6]
          rw [mcells_append]
          simp [mcells]
        generalize m.k = x0 at *
        generalize (m.f : Int) = x1 at *
        generalize (m.t : Int) = x2 at *
        generalize m.c = x3 at *
        clear hmH hcut hmk
        by_cases hf : x1 = f ∧ x2 = t
        · obtain ⟨rfl, rfl⟩ := hf
          clear hsucc
          have b1 : (x1 == x1) = true := by simp
          have b2 : (x2 == x2) = true := by simp
          have hbm := hbk.alloc (.cells #[.int .i64 x0, .int .i64 x1, .int .i64 x2, .int .i64 x3] 82)
          have bM := Blk.new wr 82 [.int .i64 x0, .int .i64 x1, .int .i64 x2, .int .i64 x3]
          have bRm := bk.alloc (.cells #[.int .i64 x0, .int .i64 x1, .int .i64 x2, .int .i64 x3] 82)
          have qm : Quiet w (wr.alloc (.cells #[.int .i64 x0, .int .i64 x1, .int .i64 x2, .int .i64 x3] 82)) := qk.alloc _
          have hks := bk.lt
          go_wp2
          clear e0 e1 e2 e3 hbk bk
          generalize wr.alloc (.cells #[.int .i64 x0, .int .i64 x1, .int .i64 x2, .int .i64 x3] 82) = wm at *
          generalize wr.heap.size = M at *
          have nMg : M ≠ g := by omega
          have nMR : M ≠ w.heap.size := by omega
          have nRg : w.heap.size ≠ g := by omega
          have hpl : (mcells (W.take k)).length = k * 4 := by have h6 := unhide hNH; rw [mcells_length, List.length_take]; omega
          have hrl : (mcells (W.drop (k + 1))).length = (n - (k + 1)) * 4 := by have h6 := unhide hNH; rw [mcells_length, List.length_drop]; omega
          have hone : ∀ u ∈ mcells (W.drop (k + 1)), u.oneCell' = true := mcells_one _
          have happ : mcells (W.take k ++ W.drop (k + 1)) = mcells (W.take k) ++ mcells (W.drop (k + 1)) := mcells_append _ _
          have hsrc0 : ∀ j u, (mcells (W.drop (k + 1)))[j]? = some u → (mcells W ++ sp)[(k + 1) * 4 + j]? = some u := by
            intro j u hj
            rw [← unhide hwm, List.append_assoc, List.append_assoc, List.getElem?_append_right (by rw [hpl]; omega), hpl, List.getElem?_append_right (by simp; omega)]
            rw [List.getElem?_append_left (by rw [List.getElem?_eq_some_iff] at hj; obtain ⟨h9, _⟩ := hj; simp; omega)]
            rw [← hj]; congr 1; simp; omega
          obtain ⟨sp2, hs2, hs3⟩ := over_shift (mcells (W.take k)) [.int .i64 x0, .int .i64 x1, .int .i64 x2, .int .i64 x3] (mcells (W.drop (k + 1))) sp
          rw [unhide hwm, hpl, ← happ] at hs2
          rw [show [Value.int .i64 x0, .int .i64 x1, .int .i64 x2, .int .i64 x3].length = 4 from rfl] at hs3
          have hA1 : (mcells (W.take k ++ W.drop (k + 1))).length = (n - 1) * 4 := by rw [happ, List.length_append, hpl, hrl]; omega
          have hR0 : n = k + 1 → mcells (W.drop (k + 1)) = [] := fun h => List.eq_nil_of_length_eq_zero (by rw [hrl, h]; omega)
          clear happ
          generalize mcells (W.drop (k + 1)) = R at *
          generalize mcells (W.take k ++ W.drop (k + 1)) = A at *
          have fin : Hid (∀ V, Chg (fun x => x = g) w V → Blk V g 82 (A ++ sp2) → ∀ V', Chg (fun x => x = g) w V' → V'.heap[g]? = V.heap[g]? → Row V' 82 4 (.slice (some ⟨g, 0, none⟩) (n - 1) cap) (n - 1) A ∧ Chg (fun x => (Value.slice (some ⟨g, 0, none⟩) n cap).ownBlock = some x) w V' ∧ (Value.slice (some ⟨g, 0, none⟩) (n - 1) cap).ownBlock = (Value.slice (some ⟨g, 0, none⟩) n cap).ownBlock) := by
            intro V hV hbV V' hV' he
            refine ⟨Row.of_blk (hbV.of_heap he) hA1 (by omega) hcm ?_, hV'.mono (fun x _ h => by simp [Value.ownBlock, h]), rfl⟩
            rw [List.length_append, hxl] at hbl
            rw [List.length_append, hA1]
            omega
          have hs2H := hide hs2
          clear hs2 hs3 hpl nfH hrowH qk hwm hnoH
          by_cases hcap : cap = k + 1
          · obtain ⟨rfl⟩ : n = k + 1 := by omega
            subst hcap
            have w1 : IntKind.i64.wrap ((k : Int) + 1) = (k : Int) + 1 := by rw [IntKind.wrap_i64]; omega
            have w2 : IntKind.i64.wrap (k : Int) = (k : Int) := by rw [IntKind.wrap_i64]; omega
            have w3 : IntKind.i64.wrap ((k : Int) + 1 - 1) = (k : Int) := by rw [IntKind.wrap_i64]; omega
            have i3 : (0 : Int) ≤ (k : Int) + 1 := by omega
            have i4 : (k : Int) ≤ (k : Int) + 1 := by omega
            have e9 : k + 1 - k = 1 := by omega
            clear hsrc0 hrl hone hA1
            have hR0H := hide hR0
            clear hR0
            have hcp := run_copy_wide (P := Try.prog) wm.drew 46 46 3 82 g (k * 4) 1 1 ⟨g, 0, none⟩ 0 0 4 [] Try.underlying46 size82 0 (by simp) rfl
              (by simp) (by simp) (by simp) (by simp)
            simp only [World.setCells] at hcp
            go_region_law (fail)
            all_goals
              have hV : Chg (fun x => x = g) w wm.drew := (Quiet.chg qm _).drew
              have bMV : Blk wm.drew M 82 [.int .i64 x0, .int .i64 x1, .int .i64 x2, .int .i64 x3] := bM.drew
              have bRV : Blk wm.drew w.heap.size 44 [.int .i64 0, .int .i64 0, .int .i64 0, .int .i64 0, .string ⟨#[]⟩, .string ⟨#[]⟩] := bRm.drew
              have bgV : Blk wm.drew g 82 (A ++ sp2) := by
                rw [← unhide hs2H, unhide hR0H rfl]; exact hbm.drew
              clear hcp hbm bM bRm qm
              generalize wm.drew = V at *
              have m0 := bMV.cell 0
              have m3 := bMV.cell 3
              simp at m0 m3
              have r0 := bRV.cell 0
              have r1 := bRV.cell 1
              have r2 := bRV.cell 2
              have r3 := bRV.cell 3
              have r4 := bRV.cell 4
              have r5 := bRV.cell 5
              simp at r0 r1 r2 r3 r4 r5
              have q0 := bRV.frozen 0
              have q1 := bRV.frozen 1
              have q2 := bRV.frozen 2
              have q3 := bRV.frozen 3
              have q4 := bRV.frozen 4
              have q5 := bRV.frozen 5
              have nRM := Ne.symm nMR
              go_wp2
              go_region_law (fail)
              all_goals
                go_wp2
                refine bodyPost_ret (v := .tuple #[.slice (some ⟨g, 0, none⟩) k (k + 1), opv x0 x2 x1 x3 ⟨#[]⟩ ⟨#[]⟩]) (results_tmp_blk (u := 44) (cs := [.int .i64 x0, .int .i64 x2, .int .i64 x1, .int .i64 x3, .string ⟨#[]⟩, .string ⟨#[]⟩]) Try.results24 rfl Try.isAgg44 Try.sizeOf44 ?_) rfl ?_
                · exact ((((((bRV.set 0 _).set 1 _).set 2 _).set 3 _).set 4 _).set 5 _).drew
                · have hV2 : Chg (fun x => x = g) w ((((((V.setCell ⟨w.heap.size, 0, none⟩ (.int .i64 x0)).setCell ⟨w.heap.size, 1, none⟩ (.int .i64 x2)).setCell ⟨w.heap.size, 2, none⟩ (.int .i64 x1)).setCell ⟨w.heap.size, 3, none⟩ (.int .i64 x3)).setCell ⟨w.heap.size, 4, none⟩ (.string ⟨#[]⟩)).setCell ⟨w.heap.size, 5, none⟩ (.string ⟨#[]⟩)).drew := ((((((hV.setCell (.inr (Nat.le_refl _)) _).setCell (.inr (Nat.le_refl _)) _).setCell (.inr (Nat.le_refl _)) _).setCell (.inr (Nat.le_refl _)) _).setCell (.inr (Nat.le_refl _)) _).setCell (.inr (Nat.le_refl _)) _).drew
                  have bg2 := ((((((bgV.set_other (a := ⟨w.heap.size, 0, none⟩) (Ne.symm nRg) (.int .i64 x0)).set_other (a := ⟨w.heap.size, 1, none⟩) (Ne.symm nRg) (.int .i64 x2)).set_other (a := ⟨w.heap.size, 2, none⟩) (Ne.symm nRg) (.int .i64 x1)).set_other (a := ⟨w.heap.size, 3, none⟩) (Ne.symm nRg) (.int .i64 x3)).set_other (a := ⟨w.heap.size, 4, none⟩) (Ne.symm nRg) (.string ⟨#[]⟩)).set_other (a := ⟨w.heap.size, 5, none⟩) (Ne.symm nRg) (.string ⟨#[]⟩)).drew
                  obtain ⟨z1, z2, z3⟩ := unhide fin _ hV2 bg2 _ hV2 rfl
                  exact unhide hmx _ _ _ (by first | rfl | trivial) (by first | rfl | trivial) (by first | rfl | trivial) z1 z2 z3
          · have i3 : (k : Int) + 1 ≤ (n : Int) := by omega
            have i4 : (0 : Int) ≤ (k : Int) + 1 := by omega
            have w1 : IntKind.i64.wrap ((k : Int) + 1) = (k : Int) + 1 := by rw [IntKind.wrap_i64]; omega
            have i5 : (k : Int) ≤ (n : Int) := by omega
            have n1 : ¬ cap = k := by omega
            have hmin : Nat.min (n - (k + 1)) (n - k) = n - (k + 1) := Nat.min_eq_left (by omega)
            have hlen : R.length = (n - (k + 1)) * 4 := hrl
            have hspare : ∀ j, j < R.length → (wm.drew.cell? ⟨g, k * 4 + j, none⟩).isSome = true := by
              intro j hj
              rw [hbm.drew.cell (k * 4 + j), List.getElem?_eq_getElem (by rw [List.length_append, hxl]; omega)]; rfl
            have hsrc : ∀ j u, R[j]? = some u → wm.drew.cell? ((⟨g, (k + 1) * 4, none⟩ : Addr).add j) = some u := by
              intro j u hj
              rw [show (⟨g, (k + 1) * 4, none⟩ : Addr).add j = ⟨g, (k + 1) * 4 + j, none⟩ by unfold Addr.add; split <;> simp_all, hbm.drew.cell ((k + 1) * 4 + j)]
              exact hsrc0 j u hj
            have hcp := run_copy_wide (P := Try.prog) wm.drew 46 46 3 82 g (k * 4) (n - k) (cap - k) ⟨g, (k + 1) * 4, none⟩ (n - (k + 1)) (cap - (k + 1)) 4 R Try.underlying46 size82 (n - (k + 1)) hmin hlen
              hsrc hspare (fun j _ => hbm.drew.frozen _) hone
            clear hmin hlen hspare hsrc hsrc0 hrl hone hA1 hR0
            go_region_law (fail)
            all_goals
              have hV : Chg (fun x => x = g) w (wm.drew.setCells g (k * 4) R) := Chg.setCells (S := fun x => x = g) (.inl rfl) _ _ (Quiet.chg qm _).drew
              have bMV : Blk (wm.drew.setCells g (k * 4) R) M 82 [.int .i64 x0, .int .i64 x1, .int .i64 x2, .int .i64 x3] := bM.drew.setCells_other nMg _ _
              have bRV : Blk (wm.drew.setCells g (k * 4) R) w.heap.size 44 [.int .i64 0, .int .i64 0, .int .i64 0, .int .i64 0, .string ⟨#[]⟩, .string ⟨#[]⟩] := bRm.drew.setCells_other nRg _ _
              have bgV : Blk (wm.drew.setCells g (k * 4) R) g 82 (A ++ sp2) := by
                rw [← unhide hs2H]; exact hbm.drew.setCells _ _
              clear hcp hbm bM bRm qm
              generalize (wm.drew.setCells g (k * 4) R) = V at *
              have m0 := bMV.cell 0
              have m3 := bMV.cell 3
              simp at m0 m3
              have r0 := bRV.cell 0
              have r1 := bRV.cell 1
              have r2 := bRV.cell 2
              have r3 := bRV.cell 3
              have r4 := bRV.cell 4
              have r5 := bRV.cell 5
              simp at r0 r1 r2 r3 r4 r5
              have q0 := bRV.frozen 0
              have q1 := bRV.frozen 1
              have q2 := bRV.frozen 2
              have q3 := bRV.frozen 3
              have q4 := bRV.frozen 4
              have q5 := bRV.frozen 5
              have i9 : (1 : Int) ≤ (n : Int) := by omega
              have i6 : (n : Int) - 1 ≤ (n : Int) := by omega
              have i7 : (0 : Int) ≤ (n : Int) - 1 := by omega
              have i8 : (n : Int) - 1 ≤ (cap : Int) := by omega
              have w2 : IntKind.i64.wrap ((n : Int) - 1) = (n : Int) - 1 := by rw [IntKind.wrap_i64]; omega
              have nRM := Ne.symm nMR
              go_wp2
              go_region_law (fail)
              all_goals
                go_wp2
                refine bodyPost_ret (v := .tuple #[.slice (some ⟨g, 0, none⟩) (n - 1) cap, opv x0 x2 x1 x3 ⟨#[]⟩ ⟨#[]⟩]) (results_tmp_blk (u := 44) (cs := [.int .i64 x0, .int .i64 x2, .int .i64 x1, .int .i64 x3, .string ⟨#[]⟩, .string ⟨#[]⟩]) Try.results24 rfl Try.isAgg44 Try.sizeOf44 ?_) rfl ?_
                · exact ((((((bRV.set 0 _).set 1 _).set 2 _).set 3 _).set 4 _).set 5 _).drew
                · have hV2 : Chg (fun x => x = g) w ((((((V.setCell ⟨w.heap.size, 0, none⟩ (.int .i64 x0)).setCell ⟨w.heap.size, 1, none⟩ (.int .i64 x2)).setCell ⟨w.heap.size, 2, none⟩ (.int .i64 x1)).setCell ⟨w.heap.size, 3, none⟩ (.int .i64 x3)).setCell ⟨w.heap.size, 4, none⟩ (.string ⟨#[]⟩)).setCell ⟨w.heap.size, 5, none⟩ (.string ⟨#[]⟩)).drew := ((((((hV.setCell (.inr (Nat.le_refl _)) _).setCell (.inr (Nat.le_refl _)) _).setCell (.inr (Nat.le_refl _)) _).setCell (.inr (Nat.le_refl _)) _).setCell (.inr (Nat.le_refl _)) _).setCell (.inr (Nat.le_refl _)) _).drew
                  have bg2 := ((((((bgV.set_other (a := ⟨w.heap.size, 0, none⟩) (Ne.symm nRg) (.int .i64 x0)).set_other (a := ⟨w.heap.size, 1, none⟩) (Ne.symm nRg) (.int .i64 x2)).set_other (a := ⟨w.heap.size, 2, none⟩) (Ne.symm nRg) (.int .i64 x1)).set_other (a := ⟨w.heap.size, 3, none⟩) (Ne.symm nRg) (.int .i64 x3)).set_other (a := ⟨w.heap.size, 4, none⟩) (Ne.symm nRg) (.string ⟨#[]⟩)).set_other (a := ⟨w.heap.size, 5, none⟩) (Ne.symm nRg) (.string ⟨#[]⟩)).drew
                  obtain ⟨z1, z2, z3⟩ := unhide fin _ hV2 bg2 _ hV2 rfl
                  exact unhide hmx _ _ _ (by first | rfl | trivial) (by first | rfl | trivial) (by first | rfl | trivial) z1 z2 z3
        · have hskip : Hid (∀ V, Quiet wr V → ∃ q : Nat, q ≤ n ∧ Value.int .i64 ((k : Int) + 1) = .int .i64 q ∧ (∀ x, x ∈ W.take q → ¬ ((x.f : Int) = f ∧ (x.t : Int) = t)) ∧ Quiet w V ∧ Blk V w.heap.size 44 [.int .i64 0, .int .i64 0, .int .i64 0, .int .i64 0, .string ⟨#[]⟩, .string ⟨#[]⟩]) := by
            intro V q
            exact ⟨k + 1, by omega, by go_num, unhide hsucc hf, Quiet.trans qk q, q.blk bk⟩
          by_cases hf1 : x1 = f
          · have b1 : (x1 == f) = true := by simpa using hf1
            have b2 : (x2 == t) = false := by rw [beq_eq_false_iff_ne]; exact fun h => hf ⟨hf1, h⟩
            clear hf hf1 hsucc hmx hwm hnoH
            go_wp2
            go_roundw
            case rel => exact unhide hskip _ ((Chg.refl _ _).alloc _)
            case measure => simp [intOf]; omega
          · have b1 : (x1 == f) = false := by simpa using hf1
            clear hf hf1 hsucc hmx hwm hnoH
            go_wp2
            go_roundw
            case rel => exact unhide hskip _ ((Chg.refl _ _).alloc _)
            case measure => simp [intOf]; omega
      · omega
    · have k1 : ¬ (k : Int) < (n : Int) := by omega
      have hall : ∀ x, x ∈ W → ¬ ((x.f : Int) = f ∧ (x.t : Int) = t) := by
        have h6 := unhide hnoH
        rw [List.take_of_length_le (by rw [unhide hNH]; omega)] at h6
        exact h6
      have hallH := hide hall
      clear hall hnoH
      have f0 := bk.frozen
      have c0 := bk.cell
      go_wp2
      refine bodyPost_ret (v := .tuple #[.slice ao n cap, opv 6 0 0 0 ⟨#[]⟩ ⟨#[]⟩]) (results_tmp_blk (u := 44) (cs := [.int .i64 6, .int .i64 0, .int .i64 0, .int .i64 0, .string ⟨#[]⟩, .string ⟨#[]⟩]) Try.results24 rfl Try.isAgg44 Try.sizeOf44 ?_) rfl ?_
      · exact (((((bk.set 0 _).set 1 _).set 2 _).set 3 _).set 4 _).set 5 _
      · have q2 : Quiet w ((((((wr.setCell ⟨w.heap.size, 0, none⟩ (.int .i64 6)).setCell ⟨w.heap.size, 1, none⟩ (.int .i64 0)).setCell ⟨w.heap.size, 2, none⟩ (.int .i64 0)).setCell ⟨w.heap.size, 3, none⟩ (.int .i64 0)).setCell ⟨w.heap.size, 4, none⟩ (.string ⟨#[]⟩)).setCell ⟨w.heap.size, 5, none⟩ (.string ⟨#[]⟩)) := (((((qk.setCell (.inr (Nat.le_refl _)) _).setCell (.inr (Nat.le_refl _)) _).setCell (.inr (Nat.le_refl _)) _).setCell (.inr (Nat.le_refl _)) _).setCell (.inr (Nat.le_refl _)) _).setCell (.inr (Nat.le_refl _)) _
        exact .inr ⟨unhide hallH, _, rfl, by rw [unhide hNH]; exact unhide nfH _ q2, q2.chg _, rfl⟩
end Go.Proofs.Qxb6500367a
