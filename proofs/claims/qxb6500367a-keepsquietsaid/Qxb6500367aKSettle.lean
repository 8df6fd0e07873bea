/-
  367 Keeps: Settle. (gen7settle.py)
-/
import Derived.Test.Qxb6500367aKEvK
import Derived.Test.Qxb6500367aKTake
import Derived.Test.Qxb6500367aQz
namespace Go.Proofs.Qxb6500367a
open Go.RowKit Go.Qx
set_option linter.unusedSimpArgs false
set_option linter.unusedVariables false

/-- Behind Take and the store of the step into its box A. -/
structure TK (w V : World) (vW v' : Value) (A : Nat) (W' : List M4) (op : List Value) : Prop where
  chg : Chg (fun x => vW.ownBlock = some x) w V
  row : Row V 82 4 v' W'.length (mcells W')
  own : v'.ownBlock = vW.ownBlock
  op : Blk V A 44 op
  lt : w.heap.size ≤ A
theorem TK.quiet {w V V' : World} {vW v' : Value} {A : Nat} {W' : List M4} {op : List Value} (h : TK w V vW v' A W' op) (q : Quiet V V') : TK w V' vW v' A W' op := ⟨h.chg.trans (q.chg _), h.row.quiet q, h.own, q.blk h.op, h.lt⟩
theorem TK.set {w V : World} {vW v' : Value} {A : Nat} {W' : List M4} {op : List Value} (h : TK w V vW v' A W' op) (hv : ∀ b, vW.ownBlock = some b → b < w.heap.size) (o : Nat) (x : Value) : TK w (V.setCell ⟨A, o, none⟩ x) vW v' A W' (op.set o x) := by
  have c2 : Chg (fun z => z = A) V (V.setCell ⟨A, o, none⟩ x) := Chg.setCell (S := fun z => z = A) (p := ⟨A, o, none⟩) (Chg.refl _ V) (.inl rfl) x
  refine ⟨Chg.setCell (p := ⟨A, o, none⟩) h.chg (.inr h.lt) x, h.row.of_chg c2 (fun b hb e => ?_), h.own, h.op.set o x, h.lt⟩
  rw [h.own] at hb
  have := hv b hb
  have := h.lt
  omega

def settleR (B : Nat) (w : World) (g n : Nat) (C : Int) (k : Nat) (wr : World) : Prop := ∃ S W, KX B wr g n S W (C + 2 * k) ∧ ms W + k ≤ 72 ∧ Chg (fun x => B ≤ x) w wr

set_option maxHeartbeats 8000000 in
set_option maxRecDepth 100000 in
theorem settle_any (B : Nat) (w : World) (g n : Nat) (S : Nat → Nd) (W : List M4) (C : Int) (h : KX B w g n S W C) (hC : C + 144 ≤ 1152921504606846000) (qu : Bool) :
    Calls Try.prog 23 #[ptr g, .bool qu] w fun e w' => e = .returned (.bool true) ∧ (∃ S' W', KX B w' g n S' W' (C + 144)) ∧ Chg (fun k => B ≤ k) w w' := by
  have hst : settleR B w g n C 0 w := ⟨S, W, h.mono (by omega), by
    obtain ⟨vX, vW, vG, P, K, L⟩ := h
    have := ms_le (L.ai.len36 L.n4); omega, Chg.refl _ _⟩
  have hstH := hide hst
  clear h hst
  unfold ptr
  go_enter Try.func23, Try.ntmps23
  go_wp2
  go_loopw [5] (fun r wr => ∃ k : Nat, r = .int .i64 k ∧ settleR B w g n C k wr) (fun r _ => 73 - (intOf r).toNat)
  case atStart => exact ⟨0, rfl, unhide hstH⟩
  case round =>
    clear hstH
    obtain ⟨k, rfl, S1, W1, ⟨vX, vW, vG, P, K, L⟩, hms, hch⟩ := hrel
    have h4 := L.n4
    have h36 := L.ai.len36 h4
    have k0 : (0 : Int) ≤ (k : Int) := by omega
    obtain ⟨aw, cw, rfl⟩ := K.gr.rW.shape
    have c1 : wr.cell? ⟨g, 1, none⟩ = some (.slice aw W1.length cw) := K.gr.blk.cell 1
    have hgl := K.gr.blk.lt
    have hchH := hide hch
    clear hch
    cases hW : W1 with
    | nil =>
      subst hW
      have hfin : Hid (KX B wr g n S1 [] (C + 144)) := KX.mono ⟨_, _, _, _, K, L⟩ (by omega)
      have hfst := hide (first_any wr g vX _ vG n h4 _ [] S1 K.gr)
      unfold ptr at hfst
      have c1' : wr.cell? ⟨g, 1, none⟩ = some (.slice aw 0 cw) := c1
      have KH := hide K
      have LH := hide L
      clear K L c1 hms h36
      have hrest : Hid (∀ b : Int, firstTo (fun j => (S1 j).mine) n = b → b < 0 ∨ ∃ j : Nat, j < n ∧ b = j ∧ (S1 j).phase = 2) := fun b hb => by
        rcases firstTo_char (fun j => (S1 j).mine) n with ⟨h1, _⟩ | ⟨j, hj, h1, h2, h3⟩
        · left; omega
        · right; exact ⟨j, hj, by omega, (unhide LH).dry hj h2 h3⟩
      generalize hfb : firstTo (fun j => (S1 j).mine) n = fb at *
      have hfbH := hide hfb
      clear hfb
      by_cases hk : k < 72
      · have k1 : (k : Int) < 72 := by omega
        go_wp2_with fail
        refine (unhide hfst).mono ?_
        clear hfst
        rintro e w1 ⟨rfl, q1⟩
        have K1 := (unhide KH).quiet q1
        have Q1 := hide (q1.chg (fun k => B ≤ k))
        have hfin1 := hide ((unhide hfin).quiet q1)
        rcases unhide hrest fb rfl with hb | ⟨j, hj, rfl, hp⟩
        · have b1 : decide (fb < 0) = true := by simpa using hb
          clear K1 q1 hb
          go_wp2
          go_ret
          exact ⟨rfl, ⟨_, _, unhide hfin1⟩, (unhide hchH).trans (unhide Q1)⟩
        · obtain ⟨gb, cg, rfl, _, m1, _, _⟩ := K1.gr.mind hj
          have c2 : w1.cell? ⟨g, 2, none⟩ = some (.slice (some ⟨gb, 0, none⟩) n cg) := K1.gr.blk.cell 2
          have hgl1 := K1.gr.blk.lt
          rw [hp] at m1
          have j0 : (0 : Int) ≤ (j : Int) := by omega
          have j1 : (j : Int) < (n : Int) := by omega
          have b1 : decide ((j : Int) < 0) = false := by simp
          have b2 : ¬ (j : Int) < 0 := by omega
          clear K1 q1 hp
          go_wp2
          go_ret
          exact ⟨rfl, ⟨_, _, unhide hfin1⟩, (unhide hchH).trans (unhide Q1)⟩
      · have k1 : ¬ (k : Int) < 72 := by omega
        go_wp2_with fail
        refine (unhide hfst).mono ?_
        clear hfst
        rintro e w1 ⟨rfl, q1⟩
        have K1 := (unhide KH).quiet q1
        have Q1 := hide (q1.chg (fun k => B ≤ k))
        have hfin1 := hide ((unhide hfin).quiet q1)
        rcases unhide hrest fb rfl with hb | ⟨j, hj, rfl, hp⟩
        · have b1 : decide (fb < 0) = true := by simpa using hb
          clear K1 q1 hb
          go_wp2
          go_ret
          exact ⟨rfl, ⟨_, _, unhide hfin1⟩, (unhide hchH).trans (unhide Q1)⟩
        · obtain ⟨gb, cg, rfl, _, m1, _, _⟩ := K1.gr.mind hj
          have c2 : w1.cell? ⟨g, 2, none⟩ = some (.slice (some ⟨gb, 0, none⟩) n cg) := K1.gr.blk.cell 2
          have hgl1 := K1.gr.blk.lt
          rw [hp] at m1
          have j0 : (0 : Int) ≤ (j : Int) := by omega
          have j1 : (j : Int) < (n : Int) := by omega
          have b1 : decide ((j : Int) < 0) = false := by simp
          have b2 : ¬ (j : Int) < 0 := by omega
          clear K1 q1 hp
          go_wp2
          go_ret
          exact ⟨rfl, ⟨_, _, unhide hfin1⟩, (unhide hchH).trans (unhide Q1)⟩
    | cons m0 W2 =>
      have hms1 : 1 ≤ ms W1 := by rw [hW]; unfold ms; simp; omega
      have k1 : (k : Int) < 72 := by omega
      have kk : k < 72 := by omega
      have hm0 : W1[0]? = some m0 := by rw [hW]; rfl
      have hlen : 0 < W1.length := by rw [hW]; simp
      have hmem : m0 ∈ W1 := by rw [hW]; simp
      clear hW W2
      obtain ⟨wb, cw', hv, _, p1, p2, _⟩ := K.gr.post hm0
      injection hv with e1 e2 e3
      subst e1 e3
      have p1' : wr.cell? ⟨wb, 1, none⟩ = some (.int .i64 m0.f) := by have := p1; simpa using this
      have p2' : wr.cell? ⟨wb, 2, none⟩ = some (.int .i64 m0.t) := by have := p2; simpa using this
      have y1 : ∀ q : QW wr, q.w.cell? ⟨g, 1, none⟩ = some (.slice (some ⟨wb, 0, none⟩) W1.length cw) := fun q => Quiet.cell (QW.q q) c1
      have y2 : ∀ q : QW wr, q.w.cell? ⟨wb, 1, none⟩ = some (.int .i64 m0.f) := fun q => Quiet.cell (QW.q q) p1'
      have y3 : ∀ q : QW wr, q.w.cell? ⟨wb, 2, none⟩ = some (.int .i64 m0.t) := fun q => Quiet.cell (QW.q q) p2'
      have yg : ∀ q : QW wr, g < q.w.heap.size := fun q => Nat.lt_of_lt_of_le hgl (QW.q q).size
      have hl0 : (0 : Int) < (W1.length : Int) := by omega
      have htk : Hid (∀ V, Quiet wr V → Calls Try.prog 24 #[.slice (some ⟨wb, 0, none⟩) W1.length cw, .int .i64 m0.f, .int .i64 m0.t] V (takePostK V (.slice (some ⟨wb, 0, none⟩) W1.length cw) W1 m0.f m0.t)) := fun V q => takeK_any V _ W1 (K.gr.rW.quiet q) h36 m0.f m0.t
      have hnone : Hid (¬ ∀ x, x ∈ W1 → ¬ ((x.f : Int) = (m0.f : Int) ∧ (x.t : Int) = (m0.t : Int))) := fun h => h m0 hmem ⟨rfl, rfl⟩
      have hwl : Hid (∀ b, (Value.slice (some ⟨wb, 0, none⟩) W1.length cw).ownBlock = some b → b < wr.heap.size) := fun b hb => K.gr.rW.lt hb
      have KH := hide K
      have LH := hide L
      have hmsH := hide hms
      clear K L hm0 hmem p1 p2 p1' p2' hms e2 h36 hlen
      have hWl : Hid True := trivial
      generalize hN : W1.length = N at *
      have hNH := hide hN
      clear hN
      generalize hfi : (m0.f : Int) = fi at *
      generalize hti : (m0.t : Int) = ti at *
      have hfiH := hide hfi
      have htiH := hide hti
      clear hfi hti
      go_wp2
      refine wp_region_noPanic ?_
      try simp only [List.append_eq, List.cons_append, List.nil_append]
      refine wp_region_early [0, 1, 2, 3, 4, 5, 6, 7, 8, 9, 10, 11, 12, 13, 14, 15, 16, 17] [18, 24] 18 22 [(19, true), (20, true), (21, true), (22, false), (23, false), (24, false)] [(19, true), (20, true), (21, true), (23, false), (24, false)] (by kernel_rfl) (by kernel_rfl) (fun _ _ _ _ _ h => h) ?_
      simp only [pickO, List.getElem?_cons_zero, List.getElem?_cons_succ]
      repeat (go_big_quiet_step (fail))
      refine wpQuiet_nil ?_
      clear y1 y2 y3 yg
      refine ⟨?_, ?_⟩
      · have hd : Quiet wr wr.drew := (Chg.refl _ _).drew
        refine wpOp_go rfl rfl (fun K hK => ?_)
        go_simp
        go_at_call 24
        refine (unhide htk _ hd).mono ?_
        clear htk
        rintro e V2 (⟨L1, m, L2, v', hW, hf, ht, hold, rfl, hr, hc, ho⟩ | ⟨hno, _⟩)
        case inr => exact absurd hno (unhide hnone)
        obtain ⟨av, cv, rfl⟩ := hr.shape
        unfold opv
        generalize hLn : (L1 ++ L2).length = L' at *
        have hLnH := hide hLn
        clear hLn
        refine hK _ _ ?_
        clear hK K
        refine wpTail_pure (by simp only [List.getElem?_toArray, List.getElem?_cons_succ, List.getElem?_cons_zero]; rfl) rfl (fun K hK => ?_)
        go_big_quiet_op
        refine hK _ ?_
        clear hK K
        refine wpTail_pure (by simp only [List.getElem?_toArray, List.getElem?_cons_succ, List.getElem?_cons_zero]; rfl) rfl (fun K hK => ?_)
        go_big_quiet_op
        refine hK _ ?_
        clear hK K
        refine wpTail_pure (by simp only [List.getElem?_toArray, List.getElem?_cons_succ, List.getElem?_cons_zero]; rfl) rfl (fun K hK => ?_)
        go_big_quiet_op
        refine hK _ ?_
        clear hK K
        refine wpTail_go (by simp only [List.getElem?_toArray, List.getElem?_cons_succ, List.getElem?_cons_zero]; rfl) rfl (fun K hK => ?_)
        go_simp
        refine hK _ _ ?_
        clear hK K
        refine wpTail_go (by simp only [List.getElem?_toArray, List.getElem?_cons_succ, List.getElem?_cons_zero]; rfl) rfl (fun K hK => ?_)
        go_simp
        refine hK _ _ ?_
        clear hK K
        refine wpTail_go (by simp only [List.getElem?_toArray, List.getElem?_cons_succ, List.getElem?_cons_zero]; rfl) rfl (fun K hK => ?_)
        go_simp
        refine hK _ _ ?_
        clear hK K
        refine wpTail_nil ?_
        refine NoPanic.normal ?_
        have TKH : Hid (TK wr (V2.alloc (.cells #[.int .i64 m.k, .int .i64 ti, .int .i64 fi, .int .i64 m.c, .string ⟨#[]⟩, .string ⟨#[]⟩] 44)) (.slice (some ⟨wb, 0, none⟩) N cw) (.slice av L' cv) V2.heap.size (L1 ++ L2) [.int .i64 m.k, .int .i64 ti, .int .i64 fi, .int .i64 m.c, .string ⟨#[]⟩, .string ⟨#[]⟩]) := by
          have hsz := ((hd.chg _).trans hc).size
          exact ⟨((hd.chg _).trans hc).alloc _, by rw [unhide hLnH]; exact hr.quiet ((Chg.refl _ _).alloc _), ho, Blk.new V2 44 _, hsz⟩
        clear hr hc ho hd
        generalize V2.alloc (.cells #[.int .i64 m.k, .int .i64 ti, .int .i64 fi, .int .i64 m.c, .string ⟨#[]⟩, .string ⟨#[]⟩] 44) = V3 at *
        generalize V2.heap.size = A at *
        have bg := (unhide TKH).chg.blk (unhide KH).gr.blk (unhide KH).gr.gw
        have d1 : V3.cell? ⟨g, 1, none⟩ = some (.slice (some ⟨wb, 0, none⟩) N cw) := bg.cell 1
        have fd1 := bg.frozen 1
        have hgl3 := bg.lt
        have hKb : B ≤ g := (unhide KH).lo g (.inl rfl)
        have K4 := (unhide KH).wire (w' := V3) (u := .slice av L' cv) (W' := L1 ++ L2) (unhide TKH).row (unhide TKH).chg (fun b hb => .inl (by rw [← (unhide TKH).own]; exact hb))
        have hAg : A ≠ g := by have := (unhide TKH).lt; omega
        have op4 : Blk (V3.setCell ⟨g, 1, none⟩ (.slice av L' cv)) A 44 [.int .i64 m.k, .int .i64 ti, .int .i64 fi, .int .i64 m.c, .string ⟨#[]⟩, .string ⟨#[]⟩] := (unhide TKH).op.set_other hAg _
        have LK := unhide LH
        have hmsK := unhide hmsH
        rw [hW] at LK hmsK
        have hev := evk_del K4 LK (by omega) (fun x hx hh => hold x hx ⟨by rw [← hf]; omega, by rw [← ht]; omega⟩) ⟨#[]⟩ ⟨#[]⟩ qu
        rw [hf, ht] at hev
        unfold ptr at hev
        have ch4 : Chg (fun x => B ≤ x) w (V3.setCell ⟨g, 1, none⟩ (.slice av L' cv)) := ((unhide hchH).trans ((unhide TKH).chg.mono (fun z _ hz => (unhide KH).lo z (.inr (.inr (.inl hz)))))).setCell (.inl hKb) _
        have o0 : (V3.setCell ⟨g, 1, none⟩ (.slice av L' cv)).cell? ⟨A, 0, none⟩ = some (.int .i64 m.k) := op4.cell 0
        have o1 : (V3.setCell ⟨g, 1, none⟩ (.slice av L' cv)).cell? ⟨A, 1, none⟩ = some (.int .i64 ti) := op4.cell 1
        have o2 : (V3.setCell ⟨g, 1, none⟩ (.slice av L' cv)).cell? ⟨A, 2, none⟩ = some (.int .i64 fi) := op4.cell 2
        have o3 : (V3.setCell ⟨g, 1, none⟩ (.slice av L' cv)).cell? ⟨A, 3, none⟩ = some (.int .i64 m.c) := op4.cell 3
        have o4 : (V3.setCell ⟨g, 1, none⟩ (.slice av L' cv)).cell? ⟨A, 4, none⟩ = some (.string ⟨#[]⟩) := op4.cell 4
        have o5 : (V3.setCell ⟨g, 1, none⟩ (.slice av L' cv)).cell? ⟨A, 5, none⟩ = some (.string ⟨#[]⟩) := op4.cell 5
        have hevH := hide hev
        have ch4H := hide ch4
        have hmsK2 := hide hmsK
        clear bg K4 op4 LK hev ch4 hW hold KH LH TKH hgl c1 hmsK hchH hwl hnone hms1 hmsH hAg
        go_wp2_with fail
        refine (unhide hevH).mono ?_
        clear hevH o0 o1 o2 o3 o4 o5 d1 fd1 hgl3
        rintro e V5 ⟨rfl, ⟨S5, W5, hkx, hm5⟩, ch5⟩
        have hrelH : Hid (settleR B w g n C (k + 1) V5) := ⟨S5, W5, hkx.mono (by push_cast; omega), by have := unhide hmsK2; omega, (unhide ch4H).trans ch5⟩
        clear hkx hm5 ch5 ch4H
        go_wp2
        go_roundw
        case rel => exact ⟨k + 1, by go_num, unhide hrelH⟩
        case measure => simp [intOf]; omega
      · have hd : Quiet wr (wr.drew.alloc (.cells #[.int .i64 0, .int .i64 0, .int .i64 0, .int .i64 0, .string ⟨#[]⟩, .string ⟨#[]⟩] 44)) := (Chg.drew (Chg.refl _ _)).alloc _
        have hz : Blk (wr.drew.alloc (.cells #[.int .i64 0, .int .i64 0, .int .i64 0, .int .i64 0, .string ⟨#[]⟩, .string ⟨#[]⟩] 44)) wr.heap.size 44 [.int .i64 0, .int .i64 0, .int .i64 0, .int .i64 0, .string ⟨#[]⟩, .string ⟨#[]⟩] := Blk.new wr.drew 44 [.int .i64 0, .int .i64 0, .int .i64 0, .int .i64 0, .string ⟨#[]⟩, .string ⟨#[]⟩]
        refine wpOp_go rfl rfl (fun K hK => ?_)
        go_simp
        refine hK _ _ ⟨⟨QW.mk hd, rfl⟩, ?_⟩
        clear hK K
        refine wpOp_go rfl rfl (fun K hK => ?_)
        go_simp
        go_at_call 24
        refine (unhide htk _ hd).mono ?_
        clear htk
        rintro e V2 (⟨L1, m, L2, v', hW, hf, ht, hold, rfl, hr, hc, ho⟩ | ⟨hno, _⟩)
        case inr => exact absurd hno (unhide hnone)
        obtain ⟨av, cv, rfl⟩ := hr.shape
        unfold opv
        generalize hLn : (L1 ++ L2).length = L' at *
        have hLnH := hide hLn
        clear hLn
        have hz2 := hc.blk hz (fun e => by have := unhide hwl _ e; omega)
        have r0 : V2.cell? ⟨wr.heap.size, 0, none⟩ = some (.int .i64 0) := hz2.cell 0
        have r1 : V2.cell? ⟨wr.heap.size, 1, none⟩ = some (.int .i64 0) := hz2.cell 1
        have r2 : V2.cell? ⟨wr.heap.size, 2, none⟩ = some (.int .i64 0) := hz2.cell 2
        have r3 : V2.cell? ⟨wr.heap.size, 3, none⟩ = some (.int .i64 0) := hz2.cell 3
        have r4 : V2.cell? ⟨wr.heap.size, 4, none⟩ = some (.string ⟨#[]⟩) := hz2.cell 4
        have r5 : V2.cell? ⟨wr.heap.size, 5, none⟩ = some (.string ⟨#[]⟩) := hz2.cell 5
        have q0 := hz2.frozen 0
        have q1 := hz2.frozen 1
        have q2 := hz2.frozen 2
        have q3 := hz2.frozen 3
        have q4 := hz2.frozen 4
        have q5 := hz2.frozen 5
        have TK0 : TK wr V2 (.slice (some ⟨wb, 0, none⟩) N cw) (.slice av L' cv) wr.heap.size (L1 ++ L2) [.int .i64 0, .int .i64 0, .int .i64 0, .int .i64 0, .string ⟨#[]⟩, .string ⟨#[]⟩] := ⟨(hd.chg _).trans hc, by rw [unhide hLnH]; exact hr, ho, hz2, Nat.le_refl _⟩
        have hzl2 := hz2.lt
        refine hK _ _ ?_
        clear hK K
        refine wpTail_pure (by simp only [List.getElem?_toArray, List.getElem?_cons_succ, List.getElem?_cons_zero]; rfl) rfl (fun K hK => ?_)
        go_big_quiet_op
        refine hK _ ?_
        clear hK K
        refine wpTail_pure (by simp only [List.getElem?_toArray, List.getElem?_cons_succ, List.getElem?_cons_zero]; rfl) rfl (fun K hK => ?_)
        go_big_quiet_op
        refine hK _ ?_
        clear hK K
        refine wpTail_pure (by simp only [List.getElem?_toArray, List.getElem?_cons_succ, List.getElem?_cons_zero]; rfl) rfl (fun K hK => ?_)
        go_big_quiet_op
        refine hK _ ?_
        clear hK K
        refine wpTail_go (by simp only [List.getElem?_toArray, List.getElem?_cons_succ, List.getElem?_cons_zero]; rfl) rfl (fun K hK => ?_)
        go_simp
        refine hK _ _ ?_
        clear hK K
        refine wpTail_go (by simp only [List.getElem?_toArray, List.getElem?_cons_succ, List.getElem?_cons_zero]; rfl) rfl (fun K hK => ?_)
        go_simp
        refine hK _ _ ?_
        clear hK K
        refine wpTail_nil ?_
        refine NoPanic.normal ?_
        have TKH : Hid (TK wr (((((((V2.setCell ⟨wr.heap.size, 0, none⟩ (.int .i64 m.k)).setCell ⟨wr.heap.size, 1, none⟩ (.int .i64 ti)).setCell ⟨wr.heap.size, 2, none⟩ (.int .i64 fi)).setCell ⟨wr.heap.size, 3, none⟩ (.int .i64 m.c)).setCell ⟨wr.heap.size, 4, none⟩ (.string ⟨#[]⟩)).setCell ⟨wr.heap.size, 5, none⟩ (.string ⟨#[]⟩))) (.slice (some ⟨wb, 0, none⟩) N cw) (.slice av L' cv) wr.heap.size (L1 ++ L2) [.int .i64 m.k, .int .i64 ti, .int .i64 fi, .int .i64 m.c, .string ⟨#[]⟩, .string ⟨#[]⟩]) := (((((TK0.set (unhide hwl) 0 _).set (unhide hwl) 1 _).set (unhide hwl) 2 _).set (unhide hwl) 3 _).set (unhide hwl) 4 _).set (unhide hwl) 5 _
        clear hr hc ho hd hz hz2 r0 r1 r2 r3 r4 r5 q0 q1 q2 q3 q4 q5 TK0 hzl2
        generalize (((((((V2.setCell ⟨wr.heap.size, 0, none⟩ (.int .i64 m.k)).setCell ⟨wr.heap.size, 1, none⟩ (.int .i64 ti)).setCell ⟨wr.heap.size, 2, none⟩ (.int .i64 fi)).setCell ⟨wr.heap.size, 3, none⟩ (.int .i64 m.c)).setCell ⟨wr.heap.size, 4, none⟩ (.string ⟨#[]⟩)).setCell ⟨wr.heap.size, 5, none⟩ (.string ⟨#[]⟩))) = V3 at *
        have hAlt : Hid True := trivial
        generalize hAe : wr.heap.size = A at *
        clear hAe
        have bg := (unhide TKH).chg.blk (unhide KH).gr.blk (unhide KH).gr.gw
        have d1 : V3.cell? ⟨g, 1, none⟩ = some (.slice (some ⟨wb, 0, none⟩) N cw) := bg.cell 1
        have fd1 := bg.frozen 1
        have hgl3 := bg.lt
        have hKb : B ≤ g := (unhide KH).lo g (.inl rfl)
        have K4 := (unhide KH).wire (w' := V3) (u := .slice av L' cv) (W' := L1 ++ L2) (unhide TKH).row (unhide TKH).chg (fun b hb => .inl (by rw [← (unhide TKH).own]; exact hb))
        have hAg : A ≠ g := by have := (unhide TKH).lt; omega
        have op4 : Blk (V3.setCell ⟨g, 1, none⟩ (.slice av L' cv)) A 44 [.int .i64 m.k, .int .i64 ti, .int .i64 fi, .int .i64 m.c, .string ⟨#[]⟩, .string ⟨#[]⟩] := (unhide TKH).op.set_other hAg _
        have LK := unhide LH
        have hmsK := unhide hmsH
        rw [hW] at LK hmsK
        have hev := evk_del K4 LK (by omega) (fun x hx hh => hold x hx ⟨by rw [← hf]; omega, by rw [← ht]; omega⟩) ⟨#[]⟩ ⟨#[]⟩ qu
        rw [hf, ht] at hev
        unfold ptr at hev
        have ch4 : Chg (fun x => B ≤ x) w (V3.setCell ⟨g, 1, none⟩ (.slice av L' cv)) := ((unhide hchH).trans ((unhide TKH).chg.mono (fun z _ hz => (unhide KH).lo z (.inr (.inr (.inl hz)))))).setCell (.inl hKb) _
        have o0 : (V3.setCell ⟨g, 1, none⟩ (.slice av L' cv)).cell? ⟨A, 0, none⟩ = some (.int .i64 m.k) := op4.cell 0
        have o1 : (V3.setCell ⟨g, 1, none⟩ (.slice av L' cv)).cell? ⟨A, 1, none⟩ = some (.int .i64 ti) := op4.cell 1
        have o2 : (V3.setCell ⟨g, 1, none⟩ (.slice av L' cv)).cell? ⟨A, 2, none⟩ = some (.int .i64 fi) := op4.cell 2
        have o3 : (V3.setCell ⟨g, 1, none⟩ (.slice av L' cv)).cell? ⟨A, 3, none⟩ = some (.int .i64 m.c) := op4.cell 3
        have o4 : (V3.setCell ⟨g, 1, none⟩ (.slice av L' cv)).cell? ⟨A, 4, none⟩ = some (.string ⟨#[]⟩) := op4.cell 4
        have o5 : (V3.setCell ⟨g, 1, none⟩ (.slice av L' cv)).cell? ⟨A, 5, none⟩ = some (.string ⟨#[]⟩) := op4.cell 5
        have hevH := hide hev
        have ch4H := hide ch4
        have hmsK2 := hide hmsK
        clear bg K4 op4 LK hev ch4 hW hold KH LH TKH hgl c1 hmsK hchH hwl hnone hms1 hmsH hAg
        go_wp2_with fail
        refine (unhide hevH).mono ?_
        clear hevH o0 o1 o2 o3 o4 o5 d1 fd1 hgl3
        rintro e V5 ⟨rfl, ⟨S5, W5, hkx, hm5⟩, ch5⟩
        have hrelH : Hid (settleR B w g n C (k + 1) V5) := ⟨S5, W5, hkx.mono (by push_cast; omega), by have := unhide hmsK2; omega, (unhide ch4H).trans ch5⟩
        clear hkx hm5 ch5 ch4H
        go_wp2
        go_roundw
        case rel => exact ⟨k + 1, by go_num, unhide hrelH⟩
        case measure => simp [intOf]; omega
end Go.Proofs.Qxb6500367a
