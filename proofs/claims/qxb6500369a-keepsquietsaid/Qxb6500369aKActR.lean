/-
  369 Keeps: act's switch, case by case. (gen9act2.py)
-/
import Derived.Test.Qxb6500369aKActT
import Derived.Deep.CutBlock
import Derived.Deep.CutRange
namespace Go.Proofs.Qxb6500369a
open Go.RowKit Go.Qx
set_option linter.unusedSimpArgs false
set_option linter.unusedVariables false


set_option maxHeartbeats 8000000 in
set_option maxRecDepth 100000 in
theorem tail14_reset (w V : World) (x a b g B A : Nat) (oa : Int) (ob oc : Int) (os ot : ByteArray) (vi vw : Value) (G : Gh) (KK : Int × List N5) (N : Int) (ou : Ou) (d : N5) (S : ByteArray)
    (AI : ActIn w V x a b g B A 3 oa ob oc os ot vi vw G KK 0 N ou d S) (hdis : ∀ k, ownH g vi vw k → ¬ own x a b k) (hol : ∀ k, ownH g vi vw k → k < w.heap.size) 
    (u2 u3 u4 u8 u9 u10 u11 u12 u13 u14 u15 u16 u17 u18 u19 u20 u21 u22 u23 u24 u25 u26 u27 u28 u29 u30 u31 u32 u33 u34 u35 u36 u37 u38 u39 u40 u41 u42 u43 u44 u45 u46 u47 u48 u49 u50 u51 u52 u53 u54 u55 u56 u57 u58 u59 u60 u61 u62 u63 u64 u65 u66 u67 u68 u69 u70 u71 u72 u73 u74 u75 u76 u77 u78 u79 u80 u81 u82 u83 u84 u85 u86 u87 u88 u89 u90 u91 u92 u93 u94 u95 u96 u97 u98 u99 u100 u101 u102 u103 u104 u105 u106 u107 u108 u109 u110 u111 u112 u113 u114 u115 : Value) (Q : Ending → World → Prop)
    (hQ : ∀ wx, Chg (fun k => ownH g vi vw k ∨ own x a b k) w wx → LP wx x a b KK → GhO wx (fun k => ownH g vi vw k ∨ w.heap.size ≤ k) g gh0 → Q (.returned (.tuple #[])) wx) :
    Code.wp Try.prog tail14 (bodyPost Try.prog Try.f14 Q) ⟨(Value.pointer (some ⟨x, 0, none⟩) :: Value.pointer (some ⟨g, 0, none⟩) :: u2 :: u3 :: u4 :: Value.pointer (some ⟨B, 0, none⟩) :: Value.pointer (some ⟨A, 0, none⟩) :: Value.int .i64 0 :: u8 :: u9 :: u10 :: u11 :: u12 :: u13 :: u14 :: u15 :: u16 :: u17 :: u18 :: u19 :: u20 :: u21 :: u22 :: u23 :: u24 :: u25 :: u26 :: u27 :: u28 :: u29 :: u30 :: u31 :: u32 :: u33 :: u34 :: u35 :: u36 :: u37 :: u38 :: u39 :: u40 :: u41 :: u42 :: u43 :: u44 :: u45 :: u46 :: u47 :: u48 :: u49 :: u50 :: u51 :: u52 :: u53 :: u54 :: u55 :: u56 :: u57 :: u58 :: u59 :: u60 :: u61 :: u62 :: u63 :: u64 :: u65 :: u66 :: u67 :: u68 :: u69 :: u70 :: u71 :: u72 :: u73 :: u74 :: u75 :: u76 :: u77 :: u78 :: u79 :: u80 :: u81 :: u82 :: u83 :: u84 :: u85 :: u86 :: u87 :: u88 :: u89 :: u90 :: u91 :: u92 :: u93 :: u94 :: u95 :: u96 :: u97 :: u98 :: u99 :: u100 :: u101 :: u102 :: u103 :: u104 :: u105 :: u106 :: u107 :: u108 :: u109 :: u110 :: u111 :: u112 :: u113 :: u114 :: u115 :: ([] : List Value)).toArray, []⟩ V := by
  conv => arg 2; whnf
  have o0 := AI.op.cell 0
  have o1 := AI.op.cell 1
  simp at o0 o1
  have hfin : Hid (∀ wx, Chg (fun k => ownH g vi vw k) V wx → GhO wx (fun k => ownH g vi vw k ∨ w.heap.size ≤ k) g gh0 → Q (.returned (.tuple #[])) wx) := fun wx cx gx => hQ wx (Chg.trans (AI.chg.mono (fun k _ h => by
    rcases h with h | h
    · exact .inl (.inl h)
    · exact .inr h)) (cx.mono (fun k _ h => .inl h))) (AI.lp.of_chg cx hdis) gx
  obtain ⟨ai, ci, rfl⟩ := AI.gh.ri.shape
  obtain ⟨aw, cw, rfl⟩ := AI.gh.rw.shape
  have c0 := AI.gh.blk.cell 0
  have f0 := AI.gh.blk.frozen 0
  have c1 := AI.gh.blk.cell 1
  have f1 := AI.gh.blk.frozen 1
  have c2 := AI.gh.blk.cell 2
  have f2 := AI.gh.blk.frozen 2
  have c3 := AI.gh.blk.cell 3
  have f3 := AI.gh.blk.frozen 3
  have c4 := AI.gh.blk.cell 4
  have f4 := AI.gh.blk.frozen 4
  have c5 := AI.gh.blk.cell 5
  have f5 := AI.gh.blk.frozen 5
  have c6 := AI.gh.blk.cell 6
  have f6 := AI.gh.blk.frozen 6
  have c7 := AI.gh.blk.cell 7
  have f7 := AI.gh.blk.frozen 7
  have c8 := AI.gh.blk.cell 8
  have f8 := AI.gh.blk.frozen 8
  have c9 := AI.gh.blk.cell 9
  have f9 := AI.gh.blk.frozen 9
  simp [gC] at c0 c1 c2 c3 c4 c5 c6 c7 c8 c9
  have H := AI.gh
  have hgV := H.blk.lt
  have i0 : (0 : Int) ≤ (G.ids.length : Int) := by omega
  have i1 : (0 : Int) ≤ (G.wire.length : Int) := by omega
  have hfinal : ∀ vi' vw' V', Chg (fun k => k = g) V V' → Blk V' g 38 (gC vi' vw' gh0) → ((vi' = .slice ai 0 ci) ∧ (vw' = .slice aw 0 cw)) → Q (.returned (.tuple #[])) V' := by
    intro vi' vw' V' cV bV hv
    obtain ⟨rfl, rfl⟩ := hv
    refine unhide hfin V' (cV.mono (fun k _ h => .inl h)) ⟨.slice ai 0 ci, .slice aw 0 cw, ⟨bV, ?_, ?_, ?_, ?_, ?_⟩, ?_⟩
    · show Row _ 3 1 _ 0 []
      have h1 := H.ri.of_chg cV (fun b' hb' e => H.gi (by rw [hb', e]))
      rcases h1.form with ⟨e, _, _⟩ | ⟨ib, cp, sp, e, hb, hn, hm, hl⟩
      · injection e with e1 e2 e3
        rw [e1, e3]; exact Row.nil _ _ _
      · injection e with e1 e2 e3
        rw [e1, e3]
        exact Row.of_blk (xs := []) (spare := G.ids.map (Value.int .i64) ++ sp) hb (by simp) (by omega) hm hl
    · show Row _ 64 4 _ 0 []
      have h1 := H.rw.of_chg cV (fun b' hb' e => H.gw (by rw [hb', e]))
      rcases h1.form with ⟨e, _, _⟩ | ⟨ib, cp, sp, e, hb, hn, hm, hl⟩
      · injection e with e1 e2 e3
        rw [e1, e3]; exact Row.nil _ _ _
      · injection e with e1 e2 e3
        rw [e1, e3]
        exact Row.of_blk (xs := []) (spare := wcells G.wire ++ sp) hb (by simp) (by omega) hm hl
    · intro e
      cases ai with
      | none => simp [Value.ownBlock] at e
      | some q => exact H.gi e
    · intro e
      cases aw with
      | none => simp [Value.ownBlock] at e
      | some q => exact H.gw e
    · intro b' e1 e2
      cases ai with
      | none => simp [Value.ownBlock] at e1
      | some q =>
        cases aw with
        | none => simp [Value.ownBlock] at e2
        | some q' => exact H.iw b' e1 e2
    · intro k hk
      left
      rcases hk with h | h | h
      · exact .inl h
      · cases ai with
        | none => simp [Value.ownBlock] at h
        | some q => exact .inr (.inl h)
      · cases aw with
        | none => simp [Value.ownBlock] at h
        | some q => exact .inr (.inr h)
  have hfinalH := hide hfinal
  have HH := hide H
  have hIs := H.ri.form
  have hWs := H.rw.form
  have hIs' : ai = none ∨ ∃ ib, ai = some ⟨ib, 0, none⟩ ∧ G.ids.length ≤ ci := by
    rcases hIs with ⟨e, _, _⟩ | ⟨ib, cp, sp, e, _, h, _⟩
    · injection e with e1 e2 e3; exact .inl e1
    · injection e with e1 e2 e3; exact .inr ⟨ib, e1, by omega⟩
  have hWs' : aw = none ∨ ∃ ib, aw = some ⟨ib, 0, none⟩ ∧ G.wire.length ≤ cw := by
    rcases hWs with ⟨e, _, _⟩ | ⟨ib, cp, sp, e, _, h, _⟩
    · injection e with e1 e2 e3; exact .inl e1
    · injection e with e1 e2 e3; exact .inr ⟨ib, e1, by omega⟩
  have hci : (0 : Int) ≤ (ci : Int) := by omega
  have hcw : (0 : Int) ≤ (cw : Int) := by omega
  clear H hfinal hfin hol hdis hQ AI hIs hWs
  rcases hIs' with rfl | ⟨ib, rfl, _⟩ <;> rcases hWs' with rfl | ⟨wb, rfl, _⟩
  · go_upto_region 15 with fail
    go_region_law (fail)
    all_goals
      have bV := ((((((((unhide HH).blk.set 0 (.slice none 0 ci)).set 1 (.slice none 0 cw)).set 2 (.int .i64 0)).set 3 (.int .i64 0)).set 4 (.int .i64 0)).set 5 (.int .i64 0)).drew)
      have cV := ((((((chg_set (fun k => k = g) V g 0 (.slice none 0 ci) rfl).trans (chg_set (fun k => k = g) _ g 1 (.slice none 0 cw) rfl)).trans (chg_set (fun k => k = g) _ g 2 (.int .i64 0) rfl)).trans (chg_set (fun k => k = g) _ g 3 (.int .i64 0) rfl)).trans (chg_set (fun k => k = g) _ g 4 (.int .i64 0) rfl)).trans (chg_set (fun k => k = g) _ g 5 (.int .i64 0) rfl)).drew
      clear c0 c1 c2 c3 c4 c5 c6 c7 c8 c9 f0 f1 f2 f3 f4 f5 f6 f7 f8 f9 o0 o1
      generalize World.drew _ = W5 at bV cV ⊢
      have c6 : W5.cell? ⟨g, 6, none⟩ = some (.int .i64 G.top) := bV.cell 6
      have c7 : W5.cell? ⟨g, 7, none⟩ = some (.int .i64 G.mode) := bV.cell 7
      have c8 : W5.cell? ⟨g, 8, none⟩ = some (.int .i64 G.done) := bV.cell 8
      have c9 : W5.cell? ⟨g, 9, none⟩ = some (.bool G.worst) := bV.cell 9
      have f6 := bV.frozen 6
      have f7 := bV.frozen 7
      have f8 := bV.frozen 8
      have f9 := bV.frozen 9
      have b6 : Blk _ g 38 (gC (.slice none 0 ci) (.slice none 0 cw) gh0) := (((bV.set 6 (.int .i64 0)).set 7 (.int .i64 (-1))).set 8 (.int .i64 0)).set 9 (.bool false)
      have c6' := (((cV.trans (chg_set (fun k => k = g) _ g 6 (.int .i64 0) rfl)).trans (chg_set (fun k => k = g) _ g 7 (.int .i64 (-1)) rfl)).trans (chg_set (fun k => k = g) _ g 8 (.int .i64 0) rfl)).trans (chg_set (fun k => k = g) _ g 9 (.bool false) rfl)
      have fin := hide (unhide hfinalH _ _ _ c6' b6 ⟨rfl, rfl⟩)
      clear b6 c6' bV cV hfinalH HH
      go_wp2
      go_end0
      exact unhide fin
  · go_upto_region 15 with fail
    go_region_law (fail)
    all_goals
      have bV := ((((((((unhide HH).blk.set 0 (.slice none 0 ci)).set 1 (.slice (some ⟨wb, 0, none⟩) 0 cw)).set 2 (.int .i64 0)).set 3 (.int .i64 0)).set 4 (.int .i64 0)).set 5 (.int .i64 0)).drew)
      have cV := ((((((chg_set (fun k => k = g) V g 0 (.slice none 0 ci) rfl).trans (chg_set (fun k => k = g) _ g 1 (.slice (some ⟨wb, 0, none⟩) 0 cw) rfl)).trans (chg_set (fun k => k = g) _ g 2 (.int .i64 0) rfl)).trans (chg_set (fun k => k = g) _ g 3 (.int .i64 0) rfl)).trans (chg_set (fun k => k = g) _ g 4 (.int .i64 0) rfl)).trans (chg_set (fun k => k = g) _ g 5 (.int .i64 0) rfl)).drew
      clear c0 c1 c2 c3 c4 c5 c6 c7 c8 c9 f0 f1 f2 f3 f4 f5 f6 f7 f8 f9 o0 o1
      generalize World.drew _ = W5 at bV cV ⊢
      have c6 : W5.cell? ⟨g, 6, none⟩ = some (.int .i64 G.top) := bV.cell 6
      have c7 : W5.cell? ⟨g, 7, none⟩ = some (.int .i64 G.mode) := bV.cell 7
      have c8 : W5.cell? ⟨g, 8, none⟩ = some (.int .i64 G.done) := bV.cell 8
      have c9 : W5.cell? ⟨g, 9, none⟩ = some (.bool G.worst) := bV.cell 9
      have f6 := bV.frozen 6
      have f7 := bV.frozen 7
      have f8 := bV.frozen 8
      have f9 := bV.frozen 9
      have b6 : Blk _ g 38 (gC (.slice none 0 ci) (.slice (some ⟨wb, 0, none⟩) 0 cw) gh0) := (((bV.set 6 (.int .i64 0)).set 7 (.int .i64 (-1))).set 8 (.int .i64 0)).set 9 (.bool false)
      have c6' := (((cV.trans (chg_set (fun k => k = g) _ g 6 (.int .i64 0) rfl)).trans (chg_set (fun k => k = g) _ g 7 (.int .i64 (-1)) rfl)).trans (chg_set (fun k => k = g) _ g 8 (.int .i64 0) rfl)).trans (chg_set (fun k => k = g) _ g 9 (.bool false) rfl)
      have fin := hide (unhide hfinalH _ _ _ c6' b6 ⟨rfl, rfl⟩)
      clear b6 c6' bV cV hfinalH HH
      go_wp2
      go_end0
      exact unhide fin
  · go_upto_region 15 with fail
    go_region_law (fail)
    all_goals
      have bV := ((((((((unhide HH).blk.set 0 (.slice (some ⟨ib, 0, none⟩) 0 ci)).set 1 (.slice none 0 cw)).set 2 (.int .i64 0)).set 3 (.int .i64 0)).set 4 (.int .i64 0)).set 5 (.int .i64 0)).drew)
      have cV := ((((((chg_set (fun k => k = g) V g 0 (.slice (some ⟨ib, 0, none⟩) 0 ci) rfl).trans (chg_set (fun k => k = g) _ g 1 (.slice none 0 cw) rfl)).trans (chg_set (fun k => k = g) _ g 2 (.int .i64 0) rfl)).trans (chg_set (fun k => k = g) _ g 3 (.int .i64 0) rfl)).trans (chg_set (fun k => k = g) _ g 4 (.int .i64 0) rfl)).trans (chg_set (fun k => k = g) _ g 5 (.int .i64 0) rfl)).drew
      clear c0 c1 c2 c3 c4 c5 c6 c7 c8 c9 f0 f1 f2 f3 f4 f5 f6 f7 f8 f9 o0 o1
      generalize World.drew _ = W5 at bV cV ⊢
      have c6 : W5.cell? ⟨g, 6, none⟩ = some (.int .i64 G.top) := bV.cell 6
      have c7 : W5.cell? ⟨g, 7, none⟩ = some (.int .i64 G.mode) := bV.cell 7
      have c8 : W5.cell? ⟨g, 8, none⟩ = some (.int .i64 G.done) := bV.cell 8
      have c9 : W5.cell? ⟨g, 9, none⟩ = some (.bool G.worst) := bV.cell 9
      have f6 := bV.frozen 6
      have f7 := bV.frozen 7
      have f8 := bV.frozen 8
      have f9 := bV.frozen 9
      have b6 : Blk _ g 38 (gC (.slice (some ⟨ib, 0, none⟩) 0 ci) (.slice none 0 cw) gh0) := (((bV.set 6 (.int .i64 0)).set 7 (.int .i64 (-1))).set 8 (.int .i64 0)).set 9 (.bool false)
      have c6' := (((cV.trans (chg_set (fun k => k = g) _ g 6 (.int .i64 0) rfl)).trans (chg_set (fun k => k = g) _ g 7 (.int .i64 (-1)) rfl)).trans (chg_set (fun k => k = g) _ g 8 (.int .i64 0) rfl)).trans (chg_set (fun k => k = g) _ g 9 (.bool false) rfl)
      have fin := hide (unhide hfinalH _ _ _ c6' b6 ⟨rfl, rfl⟩)
      clear b6 c6' bV cV hfinalH HH
      go_wp2
      go_end0
      exact unhide fin
  · go_upto_region 15 with fail
    go_region_law (fail)
    all_goals
      have bV := ((((((((unhide HH).blk.set 0 (.slice (some ⟨ib, 0, none⟩) 0 ci)).set 1 (.slice (some ⟨wb, 0, none⟩) 0 cw)).set 2 (.int .i64 0)).set 3 (.int .i64 0)).set 4 (.int .i64 0)).set 5 (.int .i64 0)).drew)
      have cV := ((((((chg_set (fun k => k = g) V g 0 (.slice (some ⟨ib, 0, none⟩) 0 ci) rfl).trans (chg_set (fun k => k = g) _ g 1 (.slice (some ⟨wb, 0, none⟩) 0 cw) rfl)).trans (chg_set (fun k => k = g) _ g 2 (.int .i64 0) rfl)).trans (chg_set (fun k => k = g) _ g 3 (.int .i64 0) rfl)).trans (chg_set (fun k => k = g) _ g 4 (.int .i64 0) rfl)).trans (chg_set (fun k => k = g) _ g 5 (.int .i64 0) rfl)).drew
      clear c0 c1 c2 c3 c4 c5 c6 c7 c8 c9 f0 f1 f2 f3 f4 f5 f6 f7 f8 f9 o0 o1
      generalize World.drew _ = W5 at bV cV ⊢
      have c6 : W5.cell? ⟨g, 6, none⟩ = some (.int .i64 G.top) := bV.cell 6
      have c7 : W5.cell? ⟨g, 7, none⟩ = some (.int .i64 G.mode) := bV.cell 7
      have c8 : W5.cell? ⟨g, 8, none⟩ = some (.int .i64 G.done) := bV.cell 8
      have c9 : W5.cell? ⟨g, 9, none⟩ = some (.bool G.worst) := bV.cell 9
      have f6 := bV.frozen 6
      have f7 := bV.frozen 7
      have f8 := bV.frozen 8
      have f9 := bV.frozen 9
      have b6 : Blk _ g 38 (gC (.slice (some ⟨ib, 0, none⟩) 0 ci) (.slice (some ⟨wb, 0, none⟩) 0 cw) gh0) := (((bV.set 6 (.int .i64 0)).set 7 (.int .i64 (-1))).set 8 (.int .i64 0)).set 9 (.bool false)
      have c6' := (((cV.trans (chg_set (fun k => k = g) _ g 6 (.int .i64 0) rfl)).trans (chg_set (fun k => k = g) _ g 7 (.int .i64 (-1)) rfl)).trans (chg_set (fun k => k = g) _ g 8 (.int .i64 0) rfl)).trans (chg_set (fun k => k = g) _ g 9 (.bool false) rfl)
      have fin := hide (unhide hfinalH _ _ _ c6' b6 ⟨rfl, rfl⟩)
      clear b6 c6' bV cV hfinalH HH
      go_wp2
      go_end0
      exact unhide fin
end Go.Proofs.Qxb6500369a
