/-
  369 Keeps: deliver from 'm := w.wire[k].m' on. (gen9cut.py)
-/
import Derived.Test.Qxb6500369aKDelT
import Derived.Laws.Cover4
namespace Go
/-- copy(d, s) of elements of 'size' cells, as one step of a region that draws its order. -/
theorem run_copy_wide {P : Program} (w : World) (dT sT ty elem : TypeId) (b o dLen dCap : Nat) (a : Addr) (sLen sCap size : Nat) (cs : List Value)
    (hu : P.underlying dT = some (.slice elem)) (hs : (P.info? elem).map (·.size) = some size) (n : Nat) (hmin : Nat.min sLen dLen = n) (hn : cs.length = n * size)
    (hsrc : ∀ j v, cs[j]? = some v → w.cell? (a.add j) = some v) (hc : ∀ j, j < cs.length → (w.cell? ⟨b, o + j, none⟩).isSome = true) (hf : ∀ j, j < cs.length → w.frozen? ⟨b, o + j, none⟩ = false) (h1 : ∀ v ∈ cs, v.oneCell' = true) :
    (Builtin.copy_ #[dT, sT] ty #[.slice (some ⟨b, o, none⟩) dLen dCap, .slice (some a) sLen sCap]).run P w = .ok (goInt n) (w.setCells b o cs) := by
  have hl := run_loadCells_list (P := P) w a cs hsrc
  have hst := run_storeCells_cells (P := P) b o cs 0 w (by simpa using hc) (by simpa using hf) h1
  cases hq : P.info? elem with
  | none => simp [hq] at hs
  | some i =>
    have hi : i.size = size := by simpa [hq] using hs
    rw [hn] at hl
    simp [Builtin.copy_, run_underlying hu, Builtin.lenOf, Builtin.firstCells, sizeOf, typeInfo, hq, hi, hmin, hl, hst]
end Go
namespace Go.Proofs.Qxb6500369a
open Go.RowKit Go.Qx
set_option linter.unusedSimpArgs false
set_option linter.unusedVariables false

theorem addr_add (a k j : Nat) : (⟨a, k, none⟩ : Addr).add j = ⟨a, k + j, none⟩ := by
  unfold Addr.add; split <;> simp_all
theorem wover_drop (q : List (Nat × Ms)) (k : Nat) (hk : k < q.length) (sp : List Value) : ∃ sp2, over (wcells q ++ sp) (k * 4) (wcells (q.drop (k + 1))) = wcells (q.take k ++ q.drop (k + 1)) ++ sp2 ∧ (wcells (q.take k ++ q.drop (k + 1)) ++ sp2).length = (wcells q ++ sp).length := by
  have hpl : (wcells (q.take k)).length = k * 4 := by rw [wcells_length, List.length_take, Nat.min_eq_left (by omega)]
  have hsplit : wcells q = wcells (q.take k) ++ wcells (q.drop k) := by rw [← wcells_append, List.take_append_drop]
  have hml : (wcells (q.drop (k + 1))).length ≤ (wcells (q.drop k) ++ sp).length := by
    rw [List.length_append, wcells_length, wcells_length, List.length_drop, List.length_drop]; omega
  refine ⟨(wcells (q.drop k) ++ sp).drop (wcells (q.drop (k + 1))).length, ?_, ?_⟩
  · have := over_mid (wcells (q.drop (k + 1))) (wcells (q.take k)) ((wcells (q.drop k) ++ sp).take (wcells (q.drop (k + 1))).length) ((wcells (q.drop k) ++ sp).drop (wcells (q.drop (k + 1))).length) (by rw [List.length_take]; omega)
    rw [List.append_assoc, List.take_append_drop, hpl] at this
    rw [hsplit, List.append_assoc, this, wcells_append]
  · rw [wcells_append]
    conv => rhs; rw [hsplit]
    simp only [List.length_append, List.length_drop] at hml ⊢
    omega
theorem wsrc_drop {w : World} {a : Nat} {q : List (Nat × Ms)} {sp : List Value} (h : Blk w a 64 (wcells q ++ sp)) (k : Nat) (hk : k ≤ q.length) : ∀ j v, (wcells (q.drop k))[j]? = some v → w.cell? ((⟨a, k * 4, none⟩ : Addr).add j) = some v := by
  intro j v hv
  rw [addr_add, h.cell]
  have hsplit : wcells q = wcells (q.take k) ++ wcells (q.drop k) := by rw [← wcells_append, List.take_append_drop]
  have hpl : (wcells (q.take k)).length = k * 4 := by rw [wcells_length, List.length_take, Nat.min_eq_left hk]
  rw [hsplit, List.append_assoc, List.getElem?_append_right (by omega), hpl]
  rw [show k * 4 + j - k * 4 = j by omega, List.getElem?_append_left (List.getElem?_eq_some_iff.1 hv).1]
  exact hv
theorem wcell_at {w : World} {a : Nat} {q : List (Nat × Ms)} {sp : List Value} (h : Blk w a 64 (wcells q ++ sp)) (k l : Nat) (m : Ms) (hk : q[k]? = some (l, m)) :
    w.cell? ⟨a, k * 4, none⟩ = some (.int .i64 l) ∧ w.cell? ⟨a, k * 4 + 1, none⟩ = some (.int .i64 m.k) ∧ w.cell? ⟨a, k * 4 + 2, none⟩ = some (.int .i64 m.id) ∧ w.cell? ⟨a, k * 4 + 3, none⟩ = some (.int .i64 m.hop) := by
  have hkl : k < q.length := (List.getElem?_eq_some_iff.1 hk).1
  have hd : q.drop k = (l, m) :: q.drop (k + 1) := by
    rw [List.drop_eq_getElem_cons hkl]
    congr 1
    exact (List.getElem?_eq_some_iff.1 hk).2
  have hs := wsrc_drop h k (by omega)
  rw [hd] at hs
  have h0 := hs 0 _ rfl
  have h1 := hs 1 _ rfl
  have h2 := hs 2 _ rfl
  have h3 := hs 3 _ rfl
  rw [addr_add] at h0 h1 h2 h3
  exact ⟨h0, h1, h2, h3⟩
theorem size64 : (Try.prog.info? 64).map (·.size) = some 4 := by kernel_rfl
theorem erase_split {α : Type} : ∀ (q : List α) (k : Nat), q.eraseIdx k = q.take k ++ q.drop (k + 1)
  | [], k => by simp
  | a :: r, 0 => by simp
  | a :: r, k + 1 => by simp [erase_split r k]

/-- deliver from 'm := w.wire[k].m' on. -/
noncomputable def cut15 : Code := cSnd (cSnd (cSnd body15))

/-- What the walk of deliver's end wants to know (the same for every part). -/
structure DelIn (mode : Int) (ns : List N5) (G : Gh) (l : Nat) (m : Ms) (c : N5) (ou : Ou) (j : Nat) : Prop where
  mo : G.mode = mode
  md : mode = 0 ∨ mode = 1
  nn : G.ids.length = ns.length
  l2 : l < 2 * ns.length
  jj : toP ns.length l = j
  jn : j < ns.length
  dd : ((l % 2 : Nat) : Int) ≤ mode
  kk : 1 ≤ m.k ∧ m.k ≤ 3
  hh : 0 ≤ m.hop ∧ m.hop ≤ 8
  done : G.done ≤ 100000
  mach : machP mode (vf ns j) ((l % 2 : Nat) : Int) m = (c, ou)
  f1 : MsF ou.cw
  f2 : MsF ou.ccw
  s1 : 0 ≤ G.s1 ∧ G.s1 ≤ 100000
  s2 : 0 ≤ G.s2 ∧ G.s2 ≤ 100000
  s3 : 0 ≤ G.s3 ∧ G.s3 ≤ 100000

set_option maxHeartbeats 8000000 in
set_option maxRecDepth 100000 in
theorem cut15_a (V : World) (x a b g l k N cap ab : Nat) (mode : Int) (ns : List N5) (ord : List Int) (G : Gh) (vi : Value) (m : Ms) (c : N5) (ou : Ou) (j : Nat)
    (R : Rep V x a b mode ns ord) (I : Inv mode ns ord) (H : GhR V g vi (.slice (some ⟨ab, 0, none⟩) N cap) G) (hdis : ∀ k, ownH g vi (.slice (some ⟨ab, 0, none⟩) N cap) k → ¬ own x a b k) (hN : G.wire.length = N) (hN17 : N ≤ 17)
    (hkm : G.wire[k]? = some (l, m)) (D : DelIn mode ns G l m c ou j) (hlen : (G.wire.eraseIdx k ++ outsP j ou).length ≤ 2 * ns.length + 1) (hcap : cap = k + 1)
    (u3 u4 u5 u7 u8 u9 u10 u11 u12 u13 u14 u15 u16 u17 u18 u19 u20 u21 u22 u23 u24 u25 u26 u27 u28 u29 u30 u31 u32 u33 u34 u35 u36 u37 u38 u39 u40 u41 u42 u43 u44 u45 u46 u47 u48 u49 u50 u51 u52 u53 u54 u55 u56 u57 u58 u59 u60 u61 u62 u63 u64 u65 u66 u67 u68 u69 u70 u71 u72 u73 u74 u75 u76 u77 u78 u79 u80 u81 u82 u83 u84 u85 u86 u87 u88 u89 u90 u91 u92 u93 u94 u95 u96 u97 u98 u99 u100 u101 u102 u103 u104 u105 u106 u107 u108 u109 u110 u111 u112 u113 u114 u115 u116 u117 u118 u119 u120 u121 u122 u123 u124 u125 : Value) (Q : Ending → World → Prop)
    (hQ : ∀ wx, Chg (fun k => ownH g vi (.slice (some ⟨ab, 0, none⟩) N cap) k ∨ own x a b k) V wx → Rep wx x a b mode (ns.set j c) ord → GhO wx (fun k' => ownH g vi (.slice (some ⟨ab, 0, none⟩) N cap) k' ∨ V.heap.size ≤ k') g (putP { G with wire := G.wire.eraseIdx k, done := G.done + 1 } j ou) → Q (.returned (.tuple #[])) wx) :
    Code.wp Try.prog cut15 (bodyPost Try.prog Try.f15 Q) ⟨(Value.pointer (some ⟨x, 0, none⟩) :: Value.pointer (some ⟨g, 0, none⟩) :: Value.int .i64 (l : Int) :: u3 :: u4 :: u5 :: Value.int .i64 (k : Int) :: u7 :: u8 :: u9 :: u10 :: u11 :: u12 :: u13 :: u14 :: u15 :: u16 :: u17 :: u18 :: u19 :: u20 :: u21 :: u22 :: u23 :: u24 :: u25 :: u26 :: u27 :: u28 :: u29 :: u30 :: u31 :: u32 :: u33 :: u34 :: u35 :: u36 :: u37 :: u38 :: u39 :: u40 :: u41 :: u42 :: u43 :: u44 :: u45 :: u46 :: u47 :: u48 :: u49 :: u50 :: u51 :: u52 :: u53 :: u54 :: u55 :: u56 :: u57 :: u58 :: u59 :: u60 :: u61 :: u62 :: u63 :: u64 :: u65 :: u66 :: u67 :: u68 :: u69 :: u70 :: u71 :: u72 :: u73 :: u74 :: u75 :: u76 :: u77 :: u78 :: u79 :: u80 :: u81 :: u82 :: u83 :: u84 :: u85 :: u86 :: u87 :: u88 :: u89 :: u90 :: u91 :: u92 :: u93 :: u94 :: u95 :: u96 :: u97 :: u98 :: u99 :: u100 :: u101 :: u102 :: u103 :: u104 :: u105 :: u106 :: u107 :: u108 :: u109 :: u110 :: u111 :: u112 :: u113 :: u114 :: u115 :: u116 :: u117 :: u118 :: u119 :: u120 :: u121 :: u122 :: u123 :: u124 :: u125 :: ([] : List Value)).toArray, []⟩ V := by
  conv => arg 2; whnf
  have hkl : k < G.wire.length := (List.getElem?_eq_some_iff.1 hkm).1
  have hrow := H.rw
  rw [hN] at hrow
  obtain ⟨sp, ba, hNc, hcm, hbl⟩ := hrow.some_form
  obtain ⟨w0, w1, w2, w3⟩ := wcell_at ba k l m hkm
  obtain ⟨sp2, hsp2, hsp2b⟩ := wover_drop G.wire k hkl sp
  obtain ⟨mk, mi, mh⟩ := m
  dsimp only at w1 w2 w3
  have w2' : V.cell? ⟨ab, k * 4 + 1 + 1, none⟩ = some (.int .i64 mi) := w2
  have w3' : V.cell? ⟨ab, k * 4 + 1 + 2, none⟩ = some (.int .i64 mh) := w3
  have c1 : V.cell? ⟨g, 1, none⟩ = some (.slice (some ⟨ab, 0, none⟩) N cap) := H.blk.cell 1
  have al : Quiet V (V.alloc (.cells #[.int .i64 mk, .int .i64 mi, .int .i64 mh] 55)) := (Chg.refl _ _).alloc _
  have i1 : (0 : Int) ≤ (k : Int) := by omega
  have i2 : (k : Int) < (N : Int) := by omega
  have i5 : (k : Int) ≤ (N : Int) := by omega
  have hgl := H.blk.lt
  have habl := ba.lt
  have hgab : g ≠ ab := fun e => H.gw (by rw [e]; rfl)
  have hfr : Hid (ab ≠ V.heap.size ∧ g ≠ V.heap.size) := ⟨by omega, by omega⟩
  have bm := Blk.new V 55 [.int .i64 mk, .int .i64 mi, .int .i64 mh]
  have baA := al.blk ba
  have HA := H.of_chg al (fun _ _ f => f)
  have RA := R.quiet al
  have hown : Hid (∀ k, ownH g vi (.slice (some ⟨ab, 0, none⟩) N cap) k → k < V.heap.size) := fun k hk => by
    rcases hk with h | h | h
    · rw [h]; exact H.blk.lt
    · exact H.ri.lt h
    · exact H.rw.lt h
  have hownR : Hid (∀ k, own x a b k → k < V.heap.size) := R.lts
  have hall := hide (And.intro HA (And.intro RA (And.intro bm (And.intro I (And.intro hdis hkm)))))
  have DH := hide D
  have hlenH := hide hlen
  have hQH := hide hQ
  have hspH := hide (And.intro hsp2 hsp2b)
  have hNH := hide hN
  have alH := hide al
  have baAH := hide baA
  have hblH := hide (And.intro hbl (And.intro hNc (And.intro hcm hkl)))
  clear H HA R RA bm I hdis hkm D hlen hQ hsp2 hsp2b al ba baA hbl hrow
  go_upto_region 5 with fail
  obtain ⟨W, hW⟩ : ∃ W, V.alloc (.cells #[.int .i64 mk, .int .i64 mi, .int .i64 mh] 55) = W := ⟨_, rfl⟩
  obtain ⟨B, hB⟩ : ∃ B, V.heap.size = B := ⟨_, rfl⟩
  rw [hW] at hall alH baAH ⊢
  rw [hB] at hall hfr hown hownR ⊢
  have hBH := hide hB
  clear hW w0 w1 w2 w3 w2' w3' c1 hB hgl habl
  have c1 : W.cell? ⟨g, 1, none⟩ = some (.slice (some ⟨ab, 0, none⟩) N cap) := (unhide hall).1.blk.cell 1
  have ba := unhide baAH
  obtain ⟨hbl, hNc, hcm, hkl⟩ := unhide hblH
  obtain ⟨rfl⟩ : cap = k + 1 := by omega
  obtain ⟨rfl⟩ : N = k + 1 := by
    have := unhide hNH
    omega
  have ww1 : IntKind.i64.wrap ((k : Int) + 1) = (k : Int) + 1 := by rw [IntKind.wrap_i64]; omega
  have ww2 : IntKind.i64.wrap (k : Int) = (k : Int) := by rw [IntKind.wrap_i64]; omega
  have i3 : (0 : Int) ≤ (k : Int) + 1 := by omega
  have i4 : (k : Int) ≤ (k : Int) + 1 := by omega
  have e9 : k + 1 - k = 1 := by omega
  have hcp := run_copy_wide (P := Try.prog) W.drew 35 35 3 64 ab (k * 4) 1 1 ⟨ab, 0, none⟩ 0 0 4 [] Try.underlying35 size64 0 (by simp) rfl (by simp) (by simp) (by simp) (by simp)
  simp only [World.setCells] at hcp
  go_region_law (fail)
  all_goals
    have hV : Chg (fun k => k = ab) W W.drew := (Chg.refl _ _).drew
    obtain ⟨HA, RA, bm, I, hdis, hkm⟩ := unhide hall
    have baV : Blk W.drew ab 64 (wcells (G.wire.take k ++ G.wire.drop (k + 1)) ++ sp2) := by rw [← (unhide hspH).1, List.drop_eq_nil_of_le (by have := unhide hNH; omega)]; exact ba.drew
    have bgV := hV.blk HA.blk hgab
    have riV : Row W.drew 3 1 vi G.ids.length (G.ids.map (Value.int .i64)) := HA.ri.of_chg hV (fun b' hb' e => HA.iw b' hb' (by rw [e]; rfl))
    have RV := RA.of_chg hV (fun k' hk' => by subst hk'; exact hdis k' (.inr (.inr rfl)))
    have bmV := hV.blk bm (fun e => (unhide hfr).1 e.symm)
    have cVV := (Quiet.chg (unhide alH) (fun k => k = ab)).trans hV
    generalize W.drew = V2 at hV baV bgV riV RV bmV cVV ⊢
    have v1 : V2.cell? ⟨g, 1, none⟩ = some (.slice (some ⟨ab, 0, none⟩) (k + 1) (k + 1)) := bgV.cell 1
    have fv1 := bgV.frozen 1
    have hgV := bgV.lt
    have i9 : (1 : Int) ≤ (k : Int) + 1 := by omega
    have i6 : (k : Int) ≤ (k : Int) + 1 := by omega
    have i7 : (0 : Int) ≤ (k : Int) := by omega
    have wN : IntKind.i64.wrap ((k : Int) + 1 - 1) = (k : Int) := by rw [IntKind.wrap_i64]; omega
    have hallV := hide (And.intro baV (And.intro bgV (And.intro riV (And.intro RV (And.intro bmV cVV)))))
    clear hcp c1 ba hV baV bgV riV RV bmV cVV HA RA bm I hdis hkm
    go_upto_region 6 with fail
    rename_i hK6
    have hK6H := hide hK6
    clear hK6
    go_region_law (fail)
    all_goals
      obtain ⟨baV, bgV, riV, RV, bmV, cVV⟩ := unhide hallV
      obtain ⟨HA, RA, bm, I, hdis, hkm⟩ := unhide hall
      have hql : (G.wire.eraseIdx k).length = k := by
        have := unhide hNH
        rw [List.length_eraseIdx, if_pos hkl]; omega
      have cS : Chg (fun k => k = g) V2 (V2.setCell ⟨g, 1, none⟩ (.slice (some ⟨ab, 0, none⟩) k (k + 1))).drew := (Chg.setCell (S := fun x' => x' = g) (p := ⟨g, 1, none⟩) (Chg.refl _ V2) (.inl rfl) _).drew
      have H5 : GhR (V2.setCell ⟨g, 1, none⟩ (.slice (some ⟨ab, 0, none⟩) k (k + 1))).drew g vi (.slice (some ⟨ab, 0, none⟩) k (k + 1)) { G with wire := G.wire.eraseIdx k } := by
        refine ⟨(bgV.set 1 _).drew, riV.of_chg cS (fun b' hb' e => HA.gi (by rw [hb', e])), ?_, HA.gi, ?_, ?_⟩
        · show Row _ 64 4 _ (G.wire.eraseIdx k).length (wcells (G.wire.eraseIdx k))
          rw [hql, erase_split]
          refine Row.of_blk (spare := sp2) (cS.blk baV (fun e => hgab e.symm)) ?_ (by omega) hcm ?_
          · rw [← erase_split, wcells_length, hql]
          · rw [(unhide hspH).2]; exact hbl
        · intro e; exact hgab (by simpa [Value.ownBlock] using e.symm)
        · intro b' hb' e
          exact HA.iw b' hb' e
      have R5 := RV.of_chg cS (fun k' hk' => by subst hk'; exact hdis k' (.inl rfl))
      have bm5 := cS.blk bmV (fun e => (unhide hfr).2 e.symm)
      have c5 : Chg (fun k => ownH g vi (.slice (some ⟨ab, 0, none⟩) (k + 1) (k + 1)) k) V (V2.setCell ⟨g, 1, none⟩ (.slice (some ⟨ab, 0, none⟩) k (k + 1))).drew := Chg.trans (cVV.mono (fun k' _ h => .inr (.inr (by rw [h]; rfl)))) (cS.mono (fun k' _ h => .inl h))
      have D := unhide DH
      refine unhide hK6H _ _ ?_
      refine tail15_any _ x a b g B l mode ns ord { G with wire := G.wire.eraseIdx k } vi (.slice (some ⟨ab, 0, none⟩) k (k + 1)) ⟨mk, mi, mh⟩ c ou j R5 I H5 (fun k' h => hdis k' h) bm5 ?_ ?_ D.mo D.md D.nn D.l2 D.jj D.jn D.dd D.kk D.hh D.done D.mach D.f1 D.f2 (unhide hlenH) D.s1 D.s2 D.s3 _ _ _ _ _ _ _ _ _ _ _ _ _ _ _ _ _ _ _ _ _ _ _ _ _ _ _ _ _ _ _ _ _ _ _ _ _ _ _ _ _ _ _ _ _ _ _ _ _ _ _ _ _ _ _ _ _ _ _ _ _ _ _ _ _ _ _ _ _ _ _ _ _ _ _ _ _ _ _ _ _ _ _ _ _ _ _ _ _ _ _ _ _ _ _ _ _ _ _ _ _ _ _ _ _ _ _ _ _ _ _ _ _ _ _ _ _ _ _ _ _ _ Q ?_
      · intro h
        have := unhide hown B h
        omega
      · intro h
        have := unhide hownR B h
        omega
      · intro wx cx Rx Gx
        refine unhide hQH wx (Chg.trans' (c5.mono (fun k' _ h => .inl h)) cx (fun k' _ h => h)) Rx (Gx.mono (fun k' h => ?_))
        rcases h with h | h
        · exact .inl h
        · right
          have := c5.size
          have := unhide hBH
          omega

set_option maxHeartbeats 8000000 in
set_option maxRecDepth 100000 in
theorem cut15_b (V : World) (x a b g l k N cap ab : Nat) (mode : Int) (ns : List N5) (ord : List Int) (G : Gh) (vi : Value) (m : Ms) (c : N5) (ou : Ou) (j : Nat)
    (R : Rep V x a b mode ns ord) (I : Inv mode ns ord) (H : GhR V g vi (.slice (some ⟨ab, 0, none⟩) N cap) G) (hdis : ∀ k, ownH g vi (.slice (some ⟨ab, 0, none⟩) N cap) k → ¬ own x a b k) (hN : G.wire.length = N) (hN17 : N ≤ 17)
    (hkm : G.wire[k]? = some (l, m)) (D : DelIn mode ns G l m c ou j) (hlen : (G.wire.eraseIdx k ++ outsP j ou).length ≤ 2 * ns.length + 1) (hcap : cap ≠ k + 1)
    (u3 u4 u5 u7 u8 u9 u10 u11 u12 u13 u14 u15 u16 u17 u18 u19 u20 u21 u22 u23 u24 u25 u26 u27 u28 u29 u30 u31 u32 u33 u34 u35 u36 u37 u38 u39 u40 u41 u42 u43 u44 u45 u46 u47 u48 u49 u50 u51 u52 u53 u54 u55 u56 u57 u58 u59 u60 u61 u62 u63 u64 u65 u66 u67 u68 u69 u70 u71 u72 u73 u74 u75 u76 u77 u78 u79 u80 u81 u82 u83 u84 u85 u86 u87 u88 u89 u90 u91 u92 u93 u94 u95 u96 u97 u98 u99 u100 u101 u102 u103 u104 u105 u106 u107 u108 u109 u110 u111 u112 u113 u114 u115 u116 u117 u118 u119 u120 u121 u122 u123 u124 u125 : Value) (Q : Ending → World → Prop)
    (hQ : ∀ wx, Chg (fun k => ownH g vi (.slice (some ⟨ab, 0, none⟩) N cap) k ∨ own x a b k) V wx → Rep wx x a b mode (ns.set j c) ord → GhO wx (fun k' => ownH g vi (.slice (some ⟨ab, 0, none⟩) N cap) k' ∨ V.heap.size ≤ k') g (putP { G with wire := G.wire.eraseIdx k, done := G.done + 1 } j ou) → Q (.returned (.tuple #[])) wx) :
    Code.wp Try.prog cut15 (bodyPost Try.prog Try.f15 Q) ⟨(Value.pointer (some ⟨x, 0, none⟩) :: Value.pointer (some ⟨g, 0, none⟩) :: Value.int .i64 (l : Int) :: u3 :: u4 :: u5 :: Value.int .i64 (k : Int) :: u7 :: u8 :: u9 :: u10 :: u11 :: u12 :: u13 :: u14 :: u15 :: u16 :: u17 :: u18 :: u19 :: u20 :: u21 :: u22 :: u23 :: u24 :: u25 :: u26 :: u27 :: u28 :: u29 :: u30 :: u31 :: u32 :: u33 :: u34 :: u35 :: u36 :: u37 :: u38 :: u39 :: u40 :: u41 :: u42 :: u43 :: u44 :: u45 :: u46 :: u47 :: u48 :: u49 :: u50 :: u51 :: u52 :: u53 :: u54 :: u55 :: u56 :: u57 :: u58 :: u59 :: u60 :: u61 :: u62 :: u63 :: u64 :: u65 :: u66 :: u67 :: u68 :: u69 :: u70 :: u71 :: u72 :: u73 :: u74 :: u75 :: u76 :: u77 :: u78 :: u79 :: u80 :: u81 :: u82 :: u83 :: u84 :: u85 :: u86 :: u87 :: u88 :: u89 :: u90 :: u91 :: u92 :: u93 :: u94 :: u95 :: u96 :: u97 :: u98 :: u99 :: u100 :: u101 :: u102 :: u103 :: u104 :: u105 :: u106 :: u107 :: u108 :: u109 :: u110 :: u111 :: u112 :: u113 :: u114 :: u115 :: u116 :: u117 :: u118 :: u119 :: u120 :: u121 :: u122 :: u123 :: u124 :: u125 :: ([] : List Value)).toArray, []⟩ V := by
  conv => arg 2; whnf
  have hkl : k < G.wire.length := (List.getElem?_eq_some_iff.1 hkm).1
  have hrow := H.rw
  rw [hN] at hrow
  obtain ⟨sp, ba, hNc, hcm, hbl⟩ := hrow.some_form
  obtain ⟨w0, w1, w2, w3⟩ := wcell_at ba k l m hkm
  obtain ⟨sp2, hsp2, hsp2b⟩ := wover_drop G.wire k hkl sp
  obtain ⟨mk, mi, mh⟩ := m
  dsimp only at w1 w2 w3
  have w2' : V.cell? ⟨ab, k * 4 + 1 + 1, none⟩ = some (.int .i64 mi) := w2
  have w3' : V.cell? ⟨ab, k * 4 + 1 + 2, none⟩ = some (.int .i64 mh) := w3
  have c1 : V.cell? ⟨g, 1, none⟩ = some (.slice (some ⟨ab, 0, none⟩) N cap) := H.blk.cell 1
  have al : Quiet V (V.alloc (.cells #[.int .i64 mk, .int .i64 mi, .int .i64 mh] 55)) := (Chg.refl _ _).alloc _
  have i1 : (0 : Int) ≤ (k : Int) := by omega
  have i2 : (k : Int) < (N : Int) := by omega
  have i5 : (k : Int) ≤ (N : Int) := by omega
  have hgl := H.blk.lt
  have habl := ba.lt
  have hgab : g ≠ ab := fun e => H.gw (by rw [e]; rfl)
  have hfr : Hid (ab ≠ V.heap.size ∧ g ≠ V.heap.size) := ⟨by omega, by omega⟩
  have bm := Blk.new V 55 [.int .i64 mk, .int .i64 mi, .int .i64 mh]
  have baA := al.blk ba
  have HA := H.of_chg al (fun _ _ f => f)
  have RA := R.quiet al
  have hown : Hid (∀ k, ownH g vi (.slice (some ⟨ab, 0, none⟩) N cap) k → k < V.heap.size) := fun k hk => by
    rcases hk with h | h | h
    · rw [h]; exact H.blk.lt
    · exact H.ri.lt h
    · exact H.rw.lt h
  have hownR : Hid (∀ k, own x a b k → k < V.heap.size) := R.lts
  have hall := hide (And.intro HA (And.intro RA (And.intro bm (And.intro I (And.intro hdis hkm)))))
  have DH := hide D
  have hlenH := hide hlen
  have hQH := hide hQ
  have hspH := hide (And.intro hsp2 hsp2b)
  have hNH := hide hN
  have alH := hide al
  have baAH := hide baA
  have hblH := hide (And.intro hbl (And.intro hNc (And.intro hcm hkl)))
  clear H HA R RA bm I hdis hkm D hlen hQ hsp2 hsp2b al ba baA hbl hrow
  go_upto_region 5 with fail
  obtain ⟨W, hW⟩ : ∃ W, V.alloc (.cells #[.int .i64 mk, .int .i64 mi, .int .i64 mh] 55) = W := ⟨_, rfl⟩
  obtain ⟨B, hB⟩ : ∃ B, V.heap.size = B := ⟨_, rfl⟩
  rw [hW] at hall alH baAH ⊢
  rw [hB] at hall hfr hown hownR ⊢
  have hBH := hide hB
  clear hW w0 w1 w2 w3 w2' w3' c1 hB hgl habl
  have c1 : W.cell? ⟨g, 1, none⟩ = some (.slice (some ⟨ab, 0, none⟩) N cap) := (unhide hall).1.blk.cell 1
  have ba := unhide baAH
  obtain ⟨hbl, hNc, hcm, hkl⟩ := unhide hblH
  have i3 : (k : Int) + 1 ≤ (N : Int) := by omega
  have i4 : (0 : Int) ≤ (k : Int) + 1 := by omega
  have ww1 : IntKind.i64.wrap ((k : Int) + 1) = (k : Int) + 1 := by rw [IntKind.wrap_i64]; omega
  have n1 : ¬ cap = k := by omega
  have hmin : Nat.min (N - (k + 1)) (N - k) = N - (k + 1) := Nat.min_eq_left (by omega)
  have hlen2 : (wcells (G.wire.drop (k + 1))).length = (N - (k + 1)) * 4 := by rw [wcells_length, List.length_drop, unhide hNH]
  have hspare : ∀ j', j' < (wcells (G.wire.drop (k + 1))).length → (W.drew.cell? ⟨ab, k * 4 + j', none⟩).isSome = true := by
    intro j' hj'
    have h1 := ba.drew.cell (k * 4 + j')
    have h2 := wcells_length G.wire
    rw [unhide hNH] at h2
    rw [h1, List.getElem?_eq_getElem (by rw [List.length_append]; omega)]; rfl
  have hcp := run_copy_wide (P := Try.prog) W.drew 35 35 3 64 ab (k * 4) (N - k) (cap - k) ⟨ab, (k + 1) * 4, none⟩ (N - (k + 1)) (cap - (k + 1)) 4 (wcells (G.wire.drop (k + 1))) Try.underlying35 size64 (N - (k + 1)) hmin hlen2
    (wsrc_drop ba.drew (k + 1) hkl) hspare (fun j' _ => ba.drew.frozen _) (wcells_one _)
  clear hmin hlen2 hspare
  go_region_law (fail)
  all_goals
    have hV : Chg (fun k => k = ab) W (W.drew.setCells ab (k * 4) (wcells (List.drop (k + 1) G.wire))) := Chg.setCells (S := fun k => k = ab) (.inl rfl) _ _ (Chg.refl _ _).drew
    obtain ⟨HA, RA, bm, I, hdis, hkm⟩ := unhide hall
    have baV : Blk (W.drew.setCells ab (k * 4) (wcells (List.drop (k + 1) G.wire))) ab 64 (wcells (G.wire.take k ++ G.wire.drop (k + 1)) ++ sp2) := by rw [← (unhide hspH).1]; exact ba.drew.setCells _ _
    have bgV := hV.blk HA.blk hgab
    have riV : Row (W.drew.setCells ab (k * 4) (wcells (List.drop (k + 1) G.wire))) 3 1 vi G.ids.length (G.ids.map (Value.int .i64)) := HA.ri.of_chg hV (fun b' hb' e => HA.iw b' hb' (by rw [e]; rfl))
    have RV := RA.of_chg hV (fun k' hk' => by subst hk'; exact hdis k' (.inr (.inr rfl)))
    have bmV := hV.blk bm (fun e => (unhide hfr).1 e.symm)
    have cVV := (Quiet.chg (unhide alH) (fun k => k = ab)).trans hV
    generalize (W.drew.setCells ab (k * 4) (wcells (List.drop (k + 1) G.wire))) = V2 at hV baV bgV riV RV bmV cVV ⊢
    have v1 : V2.cell? ⟨g, 1, none⟩ = some (.slice (some ⟨ab, 0, none⟩) N cap) := bgV.cell 1
    have fv1 := bgV.frozen 1
    have hgV := bgV.lt
    have i9 : (1 : Int) ≤ (N : Int) := by omega
    have i6 : (N : Int) - 1 ≤ (N : Int) := by omega
    have i7 : (0 : Int) ≤ (N : Int) - 1 := by omega
    have i8 : (N : Int) - 1 ≤ (cap : Int) := by omega
    have wN : IntKind.i64.wrap ((N : Int) - 1) = (N : Int) - 1 := by rw [IntKind.wrap_i64]; omega
    have hallV := hide (And.intro baV (And.intro bgV (And.intro riV (And.intro RV (And.intro bmV cVV)))))
    clear hcp c1 ba hV baV bgV riV RV bmV cVV HA RA bm I hdis hkm
    go_upto_region 6 with fail
    rename_i hK6
    have hK6H := hide hK6
    clear hK6
    go_region_law (fail)
    all_goals
      obtain ⟨baV, bgV, riV, RV, bmV, cVV⟩ := unhide hallV
      obtain ⟨HA, RA, bm, I, hdis, hkm⟩ := unhide hall
      have hql : (G.wire.eraseIdx k).length = N - 1 := by
        have := unhide hNH
        rw [List.length_eraseIdx, if_pos hkl]; omega
      have cS : Chg (fun k => k = g) V2 (V2.setCell ⟨g, 1, none⟩ (.slice (some ⟨ab, 0, none⟩) (N - 1) cap)).drew := (Chg.setCell (S := fun x' => x' = g) (p := ⟨g, 1, none⟩) (Chg.refl _ V2) (.inl rfl) _).drew
      have H5 : GhR (V2.setCell ⟨g, 1, none⟩ (.slice (some ⟨ab, 0, none⟩) (N - 1) cap)).drew g vi (.slice (some ⟨ab, 0, none⟩) (N - 1) cap) { G with wire := G.wire.eraseIdx k } := by
        refine ⟨(bgV.set 1 _).drew, riV.of_chg cS (fun b' hb' e => HA.gi (by rw [hb', e])), ?_, HA.gi, ?_, ?_⟩
        · show Row _ 64 4 _ (G.wire.eraseIdx k).length (wcells (G.wire.eraseIdx k))
          rw [hql, erase_split]
          refine Row.of_blk (spare := sp2) (cS.blk baV (fun e => hgab e.symm)) ?_ (by omega) hcm ?_
          · rw [← erase_split, wcells_length, hql]
          · rw [(unhide hspH).2]; exact hbl
        · intro e; exact hgab (by simpa [Value.ownBlock] using e.symm)
        · intro b' hb' e
          exact HA.iw b' hb' e
      have R5 := RV.of_chg cS (fun k' hk' => by subst hk'; exact hdis k' (.inl rfl))
      have bm5 := cS.blk bmV (fun e => (unhide hfr).2 e.symm)
      have c5 : Chg (fun k => ownH g vi (.slice (some ⟨ab, 0, none⟩) N cap) k) V (V2.setCell ⟨g, 1, none⟩ (.slice (some ⟨ab, 0, none⟩) (N - 1) cap)).drew := Chg.trans (cVV.mono (fun k' _ h => .inr (.inr (by rw [h]; rfl)))) (cS.mono (fun k' _ h => .inl h))
      have D := unhide DH
      refine unhide hK6H _ _ ?_
      refine tail15_any _ x a b g B l mode ns ord { G with wire := G.wire.eraseIdx k } vi (.slice (some ⟨ab, 0, none⟩) (N - 1) cap) ⟨mk, mi, mh⟩ c ou j R5 I H5 (fun k' h => hdis k' h) bm5 ?_ ?_ D.mo D.md D.nn D.l2 D.jj D.jn D.dd D.kk D.hh D.done D.mach D.f1 D.f2 (unhide hlenH) D.s1 D.s2 D.s3 _ _ _ _ _ _ _ _ _ _ _ _ _ _ _ _ _ _ _ _ _ _ _ _ _ _ _ _ _ _ _ _ _ _ _ _ _ _ _ _ _ _ _ _ _ _ _ _ _ _ _ _ _ _ _ _ _ _ _ _ _ _ _ _ _ _ _ _ _ _ _ _ _ _ _ _ _ _ _ _ _ _ _ _ _ _ _ _ _ _ _ _ _ _ _ _ _ _ _ _ _ _ _ _ _ _ _ _ _ _ _ _ _ _ _ _ _ _ _ _ _ _ Q ?_
      · intro h
        have := unhide hown B h
        omega
      · intro h
        have := unhide hownR B h
        omega
      · intro wx cx Rx Gx
        refine unhide hQH wx (Chg.trans' (c5.mono (fun k' _ h => .inl h)) cx (fun k' _ h => h)) Rx (Gx.mono (fun k' h => ?_))
        rcases h with h | h
        · exact .inl h
        · right
          have := c5.size
          have := unhide hBH
          omega
end Go.Proofs.Qxb6500369a
