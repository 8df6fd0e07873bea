/-
  369 Keeps: act's switch, case by case. (gen9act2.py)
-/
import Derived.Test.Qxb6500369aKAct
import Derived.Deep.CutBlock
import Derived.Deep.CutRange
namespace Go.Proofs.Qxb6500369a
open Go.RowKit Go.Qx
set_option linter.unusedSimpArgs false
set_option linter.unusedVariables false

theorem GhR.set1c {w : World} {g : Nat} {vi vw : Value} {G G' : Gh} (h : GhR w g vi vw G) (o : Nat) (v : Value) (hc : (gC vi vw G).set o v = gC vi vw G') (h1 : G'.ids = G.ids) (h2 : G'.wire = G.wire) : GhR (w.setCell ⟨g, o, none⟩ v) g vi vw G' := by
  have c5 : Chg (fun x' => x' = g) w (w.setCell ⟨g, o, none⟩ v) := Chg.setCell (S := fun x' => x' = g) (p := ⟨g, o, none⟩) (Chg.refl _ w) (.inl rfl) _
  refine ⟨?_, ?_, ?_, h.gi, h.gw, h.iw⟩
  · rw [← hc]; exact h.blk.set o _
  · rw [h1]; exact h.ri.of_chg c5 (fun b hb e => h.gi (by rw [hb, e]))
  · rw [h2]; exact h.rw.of_chg c5 (fun b hb e => h.gw (by rw [hb, e]))
theorem chg_set (S : Nat → Prop) (w : World) (g o : Nat) (v : Value) (h : S g) : Chg S w (w.setCell ⟨g, o, none⟩ v) := Chg.setCell (S := S) (p := ⟨g, o, none⟩) (Chg.refl _ w) (.inl h) _
theorem info3' : (Try.prog.info? 3).map (fun i => (i.zero, i.size, i.bytes)) = some (some (.int .i64 0), 1, 8) := by kernel_rfl
theorem LP.of_chg {S : Nat → Prop} {w w' : World} {x a b : Nat} {K : Int × List N5} (h : LP w x a b K) (c : Chg S w w') (hS : ∀ k, S k → ¬ own x a b k) : LP w' x a b K := by
  obtain ⟨ord, R, I⟩ := h
  exact ⟨ord, R.of_chg c hS, I⟩

set_option maxHeartbeats 8000000 in
set_option maxRecDepth 100000 in
theorem tail14_start (w V : World) (x a b g B A : Nat) (oa : Int) (ob oc : Int) (os ot : ByteArray) (vi vw : Value) (G : Gh) (KK : Int × List N5) (N : Int) (ou : Ou) (d : N5) (S : ByteArray)
    (AI : ActIn w V x a b g B A 2 oa ob oc os ot vi vw G KK 0 N ou d S) (hdis : ∀ k, ownH g vi vw k → ¬ own x a b k) (hol : ∀ k, ownH g vi vw k → k < w.heap.size) 
    (u2 u3 u4 u8 u9 u10 u11 u12 u13 u14 u15 u16 u17 u18 u19 u20 u21 u22 u23 u24 u25 u26 u27 u28 u29 u30 u31 u32 u33 u34 u35 u36 u37 u38 u39 u40 u41 u42 u43 u44 u45 u46 u47 u48 u49 u50 u51 u52 u53 u54 u55 u56 u57 u58 u59 u60 u61 u62 u63 u64 u65 u66 u67 u68 u69 u70 u71 u72 u73 u74 u75 u76 u77 u78 u79 u80 u81 u82 u83 u84 u85 u86 u87 u88 u89 u90 u91 u92 u93 u94 u95 u96 u97 u98 u99 u100 u101 u102 u103 u104 u105 u106 u107 u108 u109 u110 u111 u112 u113 u114 u115 : Value) (Q : Ending → World → Prop)
    (hQ : ∀ wx, Chg (fun k => ownH g vi vw k ∨ own x a b k) w wx → LP wx x a b KK → GhO wx (fun k => ownH g vi vw k ∨ w.heap.size ≤ k) g { G with mode := oa } → Q (.returned (.tuple #[])) wx) :
    Code.wp Try.prog tail14 (bodyPost Try.prog Try.f14 Q) ⟨(Value.pointer (some ⟨x, 0, none⟩) :: Value.pointer (some ⟨g, 0, none⟩) :: u2 :: u3 :: u4 :: Value.pointer (some ⟨B, 0, none⟩) :: Value.pointer (some ⟨A, 0, none⟩) :: Value.int .i64 0 :: u8 :: u9 :: u10 :: u11 :: u12 :: u13 :: u14 :: u15 :: u16 :: u17 :: u18 :: u19 :: u20 :: u21 :: u22 :: u23 :: u24 :: u25 :: u26 :: u27 :: u28 :: u29 :: u30 :: u31 :: u32 :: u33 :: u34 :: u35 :: u36 :: u37 :: u38 :: u39 :: u40 :: u41 :: u42 :: u43 :: u44 :: u45 :: u46 :: u47 :: u48 :: u49 :: u50 :: u51 :: u52 :: u53 :: u54 :: u55 :: u56 :: u57 :: u58 :: u59 :: u60 :: u61 :: u62 :: u63 :: u64 :: u65 :: u66 :: u67 :: u68 :: u69 :: u70 :: u71 :: u72 :: u73 :: u74 :: u75 :: u76 :: u77 :: u78 :: u79 :: u80 :: u81 :: u82 :: u83 :: u84 :: u85 :: u86 :: u87 :: u88 :: u89 :: u90 :: u91 :: u92 :: u93 :: u94 :: u95 :: u96 :: u97 :: u98 :: u99 :: u100 :: u101 :: u102 :: u103 :: u104 :: u105 :: u106 :: u107 :: u108 :: u109 :: u110 :: u111 :: u112 :: u113 :: u114 :: u115 :: ([] : List Value)).toArray, []⟩ V := by
  conv => arg 2; whnf
  have o0 := AI.op.cell 0
  have o1 := AI.op.cell 1
  simp at o0 o1
  have hfin : Hid (∀ wx, Chg (fun k => ownH g vi vw k) V wx → GhO wx (fun k => ownH g vi vw k ∨ w.heap.size ≤ k) g { G with mode := oa } → Q (.returned (.tuple #[])) wx) := fun wx cx gx => hQ wx (Chg.trans (AI.chg.mono (fun k _ h => by
    rcases h with h | h
    · exact .inl (.inl h)
    · exact .inr h)) (cx.mono (fun k _ h => .inl h))) (AI.lp.of_chg cx hdis) gx
  have f7 := AI.gh.blk.frozen 7
  have c7 : V.cell? ⟨g, 7, none⟩ = some (.int .i64 G.mode) := AI.gh.blk.cell 7
  have H2 := AI.gh.set1c (G' := { G with mode := oa }) 7 (.int .i64 oa) rfl rfl rfl
  have fin := hide (unhide hfin _ (chg_set _ V g 7 _ (.inl rfl)) ⟨_, _, H2, fun k h => .inl h⟩)
  clear H2 hfin AI hdis hol hQ
  go_wp2
  go_end0
  exact unhide fin

set_option maxHeartbeats 8000000 in
set_option maxRecDepth 100000 in
theorem tail14_wake (w V : World) (x a b g B A : Nat) (j : Nat) (ob oc : Int) (os ot : ByteArray) (vi vw : Value) (G : Gh) (KK : Int × List N5) (N : Int) (ou : Ou) (d : N5) (S : ByteArray)
    (AI : ActIn w V x a b g B A 4 (j : Int) ob oc os ot vi vw G KK 0 N ou d S) (hdis : ∀ k, ownH g vi vw k → ¬ own x a b k) (hol : ∀ k, ownH g vi vw k → k < w.heap.size) (hj : j < 8) (hf1 : MsF ou.cw) (hf2 : MsF ou.ccw) (h8 : G.ids.length ≤ 8) (hl : (G.wire ++ outsP j ou).length ≤ 2 * G.ids.length + 1) (h1 : 0 ≤ G.s1 ∧ G.s1 ≤ 100000) (h2 : 0 ≤ G.s2 ∧ G.s2 ≤ 100000) (h3 : 0 ≤ G.s3 ∧ G.s3 ≤ 100000)
    (u2 u3 u4 u8 u9 u10 u11 u12 u13 u14 u15 u16 u17 u18 u19 u20 u21 u22 u23 u24 u25 u26 u27 u28 u29 u30 u31 u32 u33 u34 u35 u36 u37 u38 u39 u40 u41 u42 u43 u44 u45 u46 u47 u48 u49 u50 u51 u52 u53 u54 u55 u56 u57 u58 u59 u60 u61 u62 u63 u64 u65 u66 u67 u68 u69 u70 u71 u72 u73 u74 u75 u76 u77 u78 u79 u80 u81 u82 u83 u84 u85 u86 u87 u88 u89 u90 u91 u92 u93 u94 u95 u96 u97 u98 u99 u100 u101 u102 u103 u104 u105 u106 u107 u108 u109 u110 u111 u112 u113 u114 u115 : Value) (Q : Ending → World → Prop)
    (hQ : ∀ wx, Chg (fun k => ownH g vi vw k ∨ own x a b k) w wx → LP wx x a b KK → GhO wx (fun k => ownH g vi vw k ∨ w.heap.size ≤ k) g (putP G j ou) → Q (.returned (.tuple #[])) wx) :
    Code.wp Try.prog tail14 (bodyPost Try.prog Try.f14 Q) ⟨(Value.pointer (some ⟨x, 0, none⟩) :: Value.pointer (some ⟨g, 0, none⟩) :: u2 :: u3 :: u4 :: Value.pointer (some ⟨B, 0, none⟩) :: Value.pointer (some ⟨A, 0, none⟩) :: Value.int .i64 0 :: u8 :: u9 :: u10 :: u11 :: u12 :: u13 :: u14 :: u15 :: u16 :: u17 :: u18 :: u19 :: u20 :: u21 :: u22 :: u23 :: u24 :: u25 :: u26 :: u27 :: u28 :: u29 :: u30 :: u31 :: u32 :: u33 :: u34 :: u35 :: u36 :: u37 :: u38 :: u39 :: u40 :: u41 :: u42 :: u43 :: u44 :: u45 :: u46 :: u47 :: u48 :: u49 :: u50 :: u51 :: u52 :: u53 :: u54 :: u55 :: u56 :: u57 :: u58 :: u59 :: u60 :: u61 :: u62 :: u63 :: u64 :: u65 :: u66 :: u67 :: u68 :: u69 :: u70 :: u71 :: u72 :: u73 :: u74 :: u75 :: u76 :: u77 :: u78 :: u79 :: u80 :: u81 :: u82 :: u83 :: u84 :: u85 :: u86 :: u87 :: u88 :: u89 :: u90 :: u91 :: u92 :: u93 :: u94 :: u95 :: u96 :: u97 :: u98 :: u99 :: u100 :: u101 :: u102 :: u103 :: u104 :: u105 :: u106 :: u107 :: u108 :: u109 :: u110 :: u111 :: u112 :: u113 :: u114 :: u115 :: ([] : List Value)).toArray, []⟩ V := by
  conv => arg 2; whnf
  obtain ⟨⟨ok1, oi1, oh1⟩, ⟨ok2, oi2, oh2⟩⟩ := ou
  have o0 := AI.op.cell 0
  have o1 := AI.op.cell 1
  simp at o0 o1
  have hfin : Hid (∀ wx, Chg (fun k => ownH g vi vw k) V wx → GhO wx (fun k => ownH g vi vw k ∨ w.heap.size ≤ k) g (putP G j ⟨⟨ok1, oi1, oh1⟩, ⟨ok2, oi2, oh2⟩⟩) → Q (.returned (.tuple #[])) wx) := fun wx cx gx => hQ wx (Chg.trans (AI.chg.mono (fun k _ h => by
    rcases h with h | h
    · exact .inl (.inl h)
    · exact .inr h)) (cx.mono (fun k _ h => .inl h))) (AI.lp.of_chg cx hdis) gx
  have a2 := AI.an.cell 2
  have a3 := AI.an.cell 3
  have a4 := AI.an.cell 4
  have a5 := AI.an.cell 5
  have a6 := AI.an.cell 6
  have a7 := AI.an.cell 7
  simp [ansC] at a2 a3 a4 a5 a6 a7
  have hput := hide (put_any V (ownH g vi vw) g G ⟨_, _, AI.gh, fun k h => h⟩ (fun k h => by
    have := hol k h
    have := AI.chg.size
    omega) j (by omega) ⟨⟨ok1, oi1, oh1⟩, ⟨ok2, oi2, oh2⟩⟩ hf1 hf2 h8 hl h1 h2 h3)
  unfold ouV ptr at hput
  dsimp only at hput
  have hsz := hide AI.chg.size
  clear AI hdis hol hQ hf1 hf2 h8 hl h1 h2 h3
  go_wp2_with fail
  refine (unhide hput).mono ?_
  rintro e v1 ⟨rfl, c1, g1⟩
  have fin := hide (unhide hfin _ c1 (g1.mono (fun k h => by
    have := unhide hsz
    rcases h with h | h
    · exact .inl h
    · right; omega)))
  clear c1 g1 hput hfin a2 a3 a4 a5 a6 a7 o0 o1
  go_wp2
  go_end0
  exact unhide fin

set_option maxHeartbeats 8000000 in
set_option maxRecDepth 100000 in
theorem tail14_join (w V : World) (x a b g B A : Nat) (oa : Int) (ob oc : Int) (os ot : ByteArray) (vi vw : Value) (G : Gh) (KK : Int × List N5) (N : Int) (ou : Ou) (d : N5) (S : ByteArray)
    (AI : ActIn w V x a b g B A 1 oa ob oc os ot vi vw G KK 0 N ou d S) (hdis : ∀ k, ownH g vi vw k → ¬ own x a b k) (hol : ∀ k, ownH g vi vw k → k < w.heap.size) (h8 : G.ids.length < 8) (ht : G.top ≤ G.ids.length)
    (u2 u3 u4 u8 u9 u10 u11 u12 u13 u14 u15 u16 u17 u18 u19 u20 u21 u22 u23 u24 u25 u26 u27 u28 u29 u30 u31 u32 u33 u34 u35 u36 u37 u38 u39 u40 u41 u42 u43 u44 u45 u46 u47 u48 u49 u50 u51 u52 u53 u54 u55 u56 u57 u58 u59 u60 u61 u62 u63 u64 u65 u66 u67 u68 u69 u70 u71 u72 u73 u74 u75 u76 u77 u78 u79 u80 u81 u82 u83 u84 u85 u86 u87 u88 u89 u90 u91 u92 u93 u94 u95 u96 u97 u98 u99 u100 u101 u102 u103 u104 u105 u106 u107 u108 u109 u110 u111 u112 u113 u114 u115 : Value) (Q : Ending → World → Prop)
    (hQ : ∀ wx, Chg (fun k => ownH g vi vw k ∨ own x a b k) w wx → LP wx x a b KK → GhO wx (fun k => ownH g vi vw k ∨ w.heap.size ≤ k) g { G with ids := G.ids ++ [oa], top := if (G.ids ++ [oa]).getD G.top 0 < oa then G.ids.length else G.top } → Q (.returned (.tuple #[])) wx) :
    Code.wp Try.prog tail14 (bodyPost Try.prog Try.f14 Q) ⟨(Value.pointer (some ⟨x, 0, none⟩) :: Value.pointer (some ⟨g, 0, none⟩) :: u2 :: u3 :: u4 :: Value.pointer (some ⟨B, 0, none⟩) :: Value.pointer (some ⟨A, 0, none⟩) :: Value.int .i64 0 :: u8 :: u9 :: u10 :: u11 :: u12 :: u13 :: u14 :: u15 :: u16 :: u17 :: u18 :: u19 :: u20 :: u21 :: u22 :: u23 :: u24 :: u25 :: u26 :: u27 :: u28 :: u29 :: u30 :: u31 :: u32 :: u33 :: u34 :: u35 :: u36 :: u37 :: u38 :: u39 :: u40 :: u41 :: u42 :: u43 :: u44 :: u45 :: u46 :: u47 :: u48 :: u49 :: u50 :: u51 :: u52 :: u53 :: u54 :: u55 :: u56 :: u57 :: u58 :: u59 :: u60 :: u61 :: u62 :: u63 :: u64 :: u65 :: u66 :: u67 :: u68 :: u69 :: u70 :: u71 :: u72 :: u73 :: u74 :: u75 :: u76 :: u77 :: u78 :: u79 :: u80 :: u81 :: u82 :: u83 :: u84 :: u85 :: u86 :: u87 :: u88 :: u89 :: u90 :: u91 :: u92 :: u93 :: u94 :: u95 :: u96 :: u97 :: u98 :: u99 :: u100 :: u101 :: u102 :: u103 :: u104 :: u105 :: u106 :: u107 :: u108 :: u109 :: u110 :: u111 :: u112 :: u113 :: u114 :: u115 :: ([] : List Value)).toArray, []⟩ V := by
  conv => arg 2; whnf
  have o0 := AI.op.cell 0
  have o1 := AI.op.cell 1
  simp at o0 o1
  have hfin : Hid (∀ wx, Chg (fun k => ownH g vi vw k) V wx → GhO wx (fun k => ownH g vi vw k ∨ w.heap.size ≤ k) g { G with ids := G.ids ++ [oa], top := if (G.ids ++ [oa]).getD G.top 0 < oa then G.ids.length else G.top } → Q (.returned (.tuple #[])) wx) := fun wx cx gx => hQ wx (Chg.trans (AI.chg.mono (fun k _ h => by
    rcases h with h | h
    · exact .inl (.inl h)
    · exact .inr h)) (cx.mono (fun k _ h => .inl h))) (AI.lp.of_chg cx hdis) gx
  obtain ⟨ai, ci, rfl⟩ := AI.gh.ri.shape
  have H := AI.gh
  have bop := AI.op
  have hsz := hide AI.chg.size
  have hBw := hide AI.nb
  have hgw := hide (hol g (.inl rfl))
  have holH := hide hol
  have c0 : V.cell? ⟨g, 0, none⟩ = some (.slice ai G.ids.length ci) := H.blk.cell 0
  have f0 := H.blk.frozen 0
  have bG := H.blk
  have hgV := bG.lt
  have hBV := bop.lt
  have hgt := H.gi
  have row2 := H.ri
  have hBi : (Value.slice ai G.ids.length ci).ownBlock ≠ some B := fun e => by
    have := hol B (.inr (.inl e))
    have := AI.nb
    omega
  have hBg : B ≠ g := fun e => by
    have := AI.nb
    have := hol g (.inl rfl)
    omega
  obtain ⟨i0, hi0, hz0, hz1, hz2⟩ := info_parts info3'
  have HH := hide H
  have AIH := hide AI
  have htH := hide ht
  generalize hNI : G.ids.length = NI at *
  have hNIH := hide hNI
  clear H hol hdis hQ AI hNI ht
  go_upto_region 7 with fail
  go_region_law
    ((refine step_append_row (by rfl) _ _ _ (by rfl) 3 i0 _ 1 8 Try.underlying34 hi0 hz0 hz1 hz2 rfl (by omega) (.slice ai NI ci) NI (G.ids.map (Value.int .i64)) (by rfl) (row2.quiet (((Chg.refl _ _).alloc _).drew))
        ⟨V.heap.size, 0, none⟩ 1 1 [Value.int .i64 oa] (by rfl) (by rfl) (World.news_of_block (cs := #[Value.int .i64 oa]) (t := 3) (fr := (0, 0)) (heap_alloc_new V _)) (by simp [Value.oneCell'])
        (by omega) (by unfold maxLen; omega) (by omega) (V.heap.size + 1) (by simp) ?_
      intro g3 cap3 w3 row3 hch3 hat hlt
      have bG3 := hch3.blk ((bG.alloc (.cells #[Value.int .i64 oa] 3)).drew) hgt
      have c3 : w3.cell? ⟨g, 0, none⟩ = some (.slice ai NI ci) := by
        have := bG3.cell 0
        simpa [gC] using this
      have f3 := bG3.frozen 0
      have bm3 := hch3.blk ((bop.alloc (.cells #[Value.int .i64 oa] 3)).drew) hBi))
  all_goals
    have hg3g : g3 ≠ g := fun e => by
      rcases hat with h | h
      · exact hgt (by rw [h, e])
      · omega
    have c4 : Chg (fun x' => x' = g ∨ (Value.slice ai NI ci).ownBlock = some x') V (w3.setCell ⟨g, 0, none⟩ (.slice (some ⟨g3, 0, none⟩) (NI + 1) cap3)) := ((((Chg.refl _ V).alloc _).drew).trans (hch3.mono (fun _ _ h => .inr h))).setCell (.inl (.inl rfl)) _
    have R4 : GhR (w3.setCell ⟨g, 0, none⟩ (.slice (some ⟨g3, 0, none⟩) (NI + 1) cap3)) g (.slice (some ⟨g3, 0, none⟩) (NI + 1) cap3) vw { G with ids := G.ids ++ [oa] } := by
      refine ⟨bG3.set 0 _, ?_, ?_, ?_, (unhide HH).gw, ?_⟩
      · have h := Row.of_chg row3 ((Chg.refl (fun x => x = g) w3).setCell (p := ⟨g, 0, none⟩) (.inl rfl) (.slice (some ⟨g3, 0, none⟩) (NI + 1) cap3)) (fun x' hx' e => by simp [Value.ownBlock] at hx'; exact hg3g (by rw [hx', e]))
        show Row _ 3 1 _ (G.ids ++ [oa]).length ((G.ids ++ [oa]).map (Value.int .i64))
        rw [List.length_append, unhide hNIH, List.map_append]
        exact h
      · refine (unhide HH).rw.of_chg c4 (fun b' hb' => ?_)
        rintro (e | e)
        · exact (unhide HH).gw (by rw [hb', e])
        · exact (unhide HH).iw b' e hb'
      · simp [Value.ownBlock]; exact hg3g
      · intro b' hb' e
        have : g3 = b' := by simpa [Value.ownBlock] using hb'
        subst this
        rcases hat with h | h
        · exact (unhide HH).iw _ h e
        · have h2 := (unhide HH).rw.lt e
          omega
    have C4 : Hid (Chg (fun k => ownH g (.slice ai NI ci) vw k) V (w3.setCell ⟨g, 0, none⟩ (.slice (some ⟨g3, 0, none⟩) (NI + 1) cap3))) := c4.mono (fun k _ h => by
      rcases h with h | h
      · exact .inl h
      · exact .inr (.inl h))
    have hO4 : Hid (∀ k, ownH g (.slice (some ⟨g3, 0, none⟩) (NI + 1) cap3) vw k → ownH g (.slice ai NI ci) vw k ∨ w.heap.size ≤ k) := fun k hk => by
      rcases hk with h | h | h
      · exact .inl (.inl h)
      · have : g3 = k := by simpa [Value.ownBlock] using h
        subst this
        rcases hat with h | h
        · exact .inl (.inr (.inl h))
        · right; have := unhide hsz; omega
      · exact .inl (.inr (.inr h))
    have bm4 := bm3.set_other (a := ⟨g, 0, none⟩) hBg (.slice (some ⟨g3, 0, none⟩) (NI + 1) cap3)
    clear c0 f0 row2 hgt row3 hch3 hat hlt bG3 c3 f3 c4 bG bm3 hg3g hi0 hz0 hz1 hz2 bop hBi o0 o1
    generalize w3.setCell ⟨g, 0, none⟩ (.slice (some ⟨g3, 0, none⟩) (NI + 1) cap3) = W4 at *
    have o1 := bm4.cell 1
    simp at o1
    have c0 : W4.cell? ⟨g, 0, none⟩ = some (.slice (some ⟨g3, 0, none⟩) (NI + 1) cap3) := R4.blk.cell 0
    have c6 : W4.cell? ⟨g, 6, none⟩ = some (.int .i64 G.top) := R4.blk.cell 6
    have htl := unhide htH
    obtain ⟨v, hv⟩ : ∃ v, (G.ids ++ [oa])[G.top]? = some v := ⟨_, List.getElem?_eq_getElem (by rw [List.length_append, unhide hNIH]; simp; omega)⟩
    have hvD : (G.ids ++ [oa]).getD G.top 0 = v := by rw [List.getD_eq_getElem?_getD, hv]; rfl
    have ct : W4.cell? ⟨g3, G.top, none⟩ = some (.int .i64 v) := by
      have hr := R4.ri
      have hl2 : ({ G with ids := G.ids ++ [oa] } : Gh).ids.length = NI + 1 := by
        show (G.ids ++ [oa]).length = _
        rw [List.length_append, unhide hNIH]; rfl
      rw [hl2] at hr
      obtain ⟨sp, hb, _⟩ := hr.some_form
      have hm : (((G.ids ++ [oa]).map (Value.int .i64)) ++ sp)[G.top]? = some (.int .i64 v) := by
        rw [List.getElem?_append_left (by rw [List.length_map, List.length_append, unhide hNIH]; simp; omega), List.getElem?_map, hv]; rfl
      exact (hb.cell G.top).trans hm
    have t0 : (0 : Int) ≤ (G.top : Int) := by omega
    have t1 : (G.top : Int) < (NI : Int) + 1 := by omega
    have t1' : (G.top : Int) < ((NI + 1 : Nat) : Int) := by push_cast; omega
    have hall := hide (And.intro R4 (And.intro bm4 hvD))
    clear R4 bm4 hvD hv
    go_upto_region 8 with fail
    go_big_quiet (fail)
    have qd : Quiet W4 (W4.drewN nq) := (Chg.refl _ _).drewN nq
    have R5 := (unhide hall).1.of_chg qd (fun _ _ f => f)
    have C5 := hide ((unhide C4).trans (qd.chg _))
    have hvD := hide (unhide hall).2.2
    generalize W4.drewN nq = W5 at *
    clear c0 c6 ct o1 qd C4 hall nq
    have c0 : W5.cell? ⟨g, 0, none⟩ = some (.slice (some ⟨g3, 0, none⟩) (NI + 1) cap3) := R5.blk.cell 0
    have f6 := R5.blk.frozen 6
    have c6 : W5.cell? ⟨g, 6, none⟩ = some (.int .i64 G.top) := R5.blk.cell 6
    have hgW := R5.blk.lt
    have R5H := hide R5
    clear R5
    by_cases hlt : v < oa
    · have l1 : decide (v < oa) = true := decide_eq_true hlt
      have w1 : IntKind.i64.wrap ((NI : Int) + 1 - 1) = (NI : Int) := by rw [IntKind.wrap_i64]; omega
      have w1' : IntKind.i64.wrap (((NI + 1 : Nat) : Int) - 1) = (NI : Int) := by rw [IntKind.wrap_i64]; push_cast; omega
      have H6 := (unhide R5H).set1c (G' := { G with ids := G.ids ++ [oa], top := NI }) 6 (.int .i64 NI) rfl rfl rfl
      have fin := hide (unhide hfin _ ((unhide C5).trans (chg_set _ W5 g 6 (.int .i64 NI) (.inl rfl))) (by
        rw [unhide hvD, if_pos hlt]
        exact ⟨_, _, H6, unhide hO4⟩))
      clear H6 hfin
      go_wp2
      go_end0
      exact unhide fin
    · have l1 : decide (v < oa) = false := decide_eq_false hlt
      have l2 : oa ≤ v := by omega
      have fin := hide (unhide hfin _ (unhide C5) (by
        rw [unhide hvD, if_neg hlt]
        exact ⟨_, _, unhide R5H, unhide hO4⟩))
      clear hfin
      go_wp2
      go_end0
      exact unhide fin
end Go.Proofs.Qxb6500369a
