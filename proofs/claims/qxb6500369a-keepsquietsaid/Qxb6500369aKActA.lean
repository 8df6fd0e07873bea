/-
  369 Keeps: act, whole. (gen9acta.py)
-/
import Derived.Test.Qxb6500369aKActR
namespace Go.Proofs.Qxb6500369a
open Go.RowKit Go.Qx
set_option linter.unusedSimpArgs false
set_option linter.unusedVariables false

/-- What act leaves. -/
def ActPost (W : World) (x a b g : Nat) (G : Gh) (k : Int) (K : Int × List N5) (e : Ending) (w' : World) : Prop :=
  e = .returned (.tuple #[]) ∧ ∃ ord' G' O', KS W w' x a b g K.1 K.2 ord' G' O' ∧ G'.worst = (if k = 3 then false else G.worst)

section
variable {W w : World} {x a b g : Nat} {mode : Int} {ns : List N5} {ord : List Int} {G : Gh} {O : Nat → Prop}

theorem KS.act_post (S : KS W w x a b g mode ns ord G O) {vi vw : Value} (hO : ∀ k, ownH g vi vw k → O k) {k : Int} {K : Int × List N5} {G' : Gh} (L : KI K.1 K.2 G') (hw : G'.worst = (if k = 3 then false else G.worst)) :
    ∀ wx, Chg (fun k => ownH g vi vw k ∨ own x a b k) w wx → LP wx x a b K → GhO wx (fun k => ownH g vi vw k ∨ w.heap.size ≤ k) g G' → ActPost W x a b g G k K (.returned (.tuple #[])) wx := by
  intro wx cx lx gx
  obtain ⟨ord', R, I⟩ := lx
  exact ⟨rfl, ord', G', _, S.next (cx.mono (fun k _ h => by
    rcases h with h | h
    · exact .inl (hO k h)
    · exact .inr h)) R I (gx.mono (fun k h => by
    rcases h with h | h
    · exact .inl (hO k h)
    · exact .inr h)) L, hw⟩

theorem KS.act_bad (S : KS W w x a b g mode ns ord G O) {vi vw : Value} (hO : ∀ k, ownH g vi vw k → O k) {k : Int} (hk : k ≠ 3) :
    ∀ V, GhR V g vi vw G → LP V x a b (mode, ns) → Chg (fun k => k = g ∨ own x a b k) w V → ActPost W x a b g G k (mode, ns) (.returned (.tuple #[])) V := by
  intro V hV lp c
  exact S.act_post hO (k := k) (K := (mode, ns)) (G' := G) S.law (by rw [if_neg hk]) V (c.mono (fun k _ h => by
    rcases h with h | h
    · exact .inl (.inl h)
    · exact .inr h)) lp ⟨vi, vw, hV, fun k h => .inl h⟩

theorem hasId_iff (ns : List N5) (id : Int) : hasId ns id = true ↔ id ∈ ns.map N5.id := by
  unfold hasId
  rw [List.any_eq_true, List.mem_map]
  constructor
  · rintro ⟨c, h1, h2⟩; exact ⟨c, h1, by simpa using h2⟩
  · rintro ⟨c, h1, h2⟩; exact ⟨c, h1, by simpa using h2⟩

theorem getD_ids (ns : List N5) (id : Int) (t : Nat) (ht : t ≤ ns.length) : (ns.map N5.id ++ [id]).getD t 0 = idf (ns ++ [⟨id, 0, 0, 0, 0⟩]) t := by
  unfold idf vf
  rw [List.getD_eq_getElem?_getD, List.getD_eq_getElem?_getD]
  rcases Nat.lt_or_ge t ns.length with h | h
  · rw [List.getElem?_append_left (by simpa using h), List.getElem?_append_left h, List.getElem?_map]
    rw [List.getElem?_eq_getElem h]; rfl
  · have : t = ns.length := by omega
    subst this
    simp

theorem act_any (S : KS W w x a b g mode ns ord G O) (k oa ob oc : Int) (os ot : ByteArray) (hk : k = 1 ∨ k = 2 ∨ k = 3 ∨ k = 4) (ha : In64 oa) :
    Calls Try.prog 14 #[ptr x, ptr g, .agg #[.int .i64 k, .int .i64 oa, .int .i64 ob, .int .i64 oc, .string os, .string ot]] w (ActPost W x a b g G k (nextP mode ns ⟨0, 0, 0⟩ ⟨k, oa, ob, oc, os, ot⟩)) := by
  obtain ⟨vi, vw, H, hO⟩ := S.gh
  have hdis : ∀ k, ownH g vi vw k → ¬ own x a b k := fun k h => S.dis k (hO k h)
  have hol : ∀ k, ownH g vi vw k → k < w.heap.size := fun k hk => by
    rcases hk with h | h | h
    · rw [h]; exact H.blk.lt
    · exact H.ri.lt h
    · exact H.rw.lt h
  have hmo := S.law.mo
  have hn : G.ids.length = ns.length := by rw [S.law.ids]; simp
  have h8 := S.law.n8
  have C := S.law.cnt
  have hbv := bound_val mode ns.length h8
  have p1 := C.p1
  have p2 := C.p2
  have p3 := C.p3
  have pb := C.b
  rcases hk with rfl | rfl | rfl | rfl
  · -- Join
    have hnx : nextP mode ns ⟨0, 0, 0⟩ ⟨1, oa, ob, oc, os, ot⟩ = (mode, joinN mode ns oa) := by simp [nextP]
    have hans : ansP mode ns ⟨0, 0, 0⟩ ⟨1, oa, ob, oc, os, ot⟩ = ⟨joinE mode ns oa, 0, o0, ⟨0, 0, 0, 0, 0⟩, ⟨#[]⟩⟩ := by simp [ansP]
    rw [hnx]
    have bad : ∀ E, joinE mode ns oa = E → E ≠ 0 → (∀ V, GhR V g vi vw G → Calls Try.prog 22 #[ptr g, .agg #[.int .i64 1, .int .i64 oa, .int .i64 ob, .int .i64 oc, .string os, .string ot]] V fun e w' => e = .returned (.int .i64 E) ∧ Quiet V w') →
        Calls Try.prog 14 #[ptr x, ptr g, .agg #[.int .i64 1, .int .i64 oa, .int .i64 ob, .int .i64 oc, .string os, .string ot]] w (ActPost W x a b g G 1 (mode, joinN mode ns oa)) := by
      intro E hE hE0 how
      have hK : joinN mode ns oa = ns := by unfold joinN; rw [hE, if_neg hE0]
      rw [hE] at hans
      rw [hK] at hnx ⊢
      exact act_pre w x a b g mode ns ord vi vw G 1 oa ob oc os ot E 0 o0 ⟨0, 0, 0, 0, 0⟩ ⟨#[]⟩ (mode, ns) S.rep S.inv H hdis ha hans hnx how _ (fun _ V h1 h2 h3 => S.act_bad hO (by decide) V h1 h2 h3) (fun e => absurd e hE0)
    by_cases hm : mode = -1
    · subst hm
      by_cases hf : 8 ≤ ns.length
      · exact bad 2 (by unfold joinE; simp [hf]) (by decide) (fun V hV => owed_full V g vi vw G hV oa ob oc os ot hmo (by omega))
      · by_cases hd : hasId ns oa = true
        · exact bad 3 (by unfold joinE; simp [hf, hd]) (by decide) (fun V hV => owed_dup V g vi vw G hV oa ob oc os ot hmo (by omega) (by rw [S.law.ids]; exact (hasId_iff ns oa).1 hd))
        · have hE : joinE (-1) ns oa = 0 := by unfold joinE; simp [hf, hd]
          rw [hE] at hans
          have hKN : joinN (-1) ns oa = ns ++ [⟨oa, 0, 0, 0, 0⟩] := by unfold joinN; rw [hE, if_pos rfl]
          rw [hKN] at hnx ⊢
          have htl : G.top ≤ G.ids.length := by
            rw [hn]
            rcases Nat.eq_zero_or_pos ns.length with e | e
            · have := S.law.t0 e; omega
            · have := S.law.tp e; omega
          have L := S.law.join oa hE (if (G.ids ++ [oa]).getD G.top 0 < oa then G.ids.length else G.top) (by
            rw [S.law.ids, getD_ids ns oa G.top (by omega)]
            simp)
          refine act_pre w x a b g (-1) ns ord vi vw G 1 oa ob oc os ot 0 0 o0 ⟨0, 0, 0, 0, 0⟩ ⟨#[]⟩ (-1, ns ++ [⟨oa, 0, 0, 0, 0⟩]) S.rep S.inv H hdis ha hans hnx (fun V hV => owed_join V g vi vw G hV oa ob oc os ot hmo (by omega) (by rw [S.law.ids]; exact fun h => hd ((hasId_iff ns oa).2 h))) _ (fun e => absurd rfl e) (fun _ V A B u2 u3 u4 u8 u9 u10 u11 u12 u13 u14 u15 u16 u17 u18 u19 u20 u21 u22 u23 u24 u25 u26 u27 u28 u29 u30 u31 u32 u33 u34 u35 u36 u37 u38 u39 u40 u41 u42 u43 u44 u45 u46 u47 u48 u49 u50 u51 u52 u53 u54 u55 u56 u57 u58 u59 u60 u61 u62 u63 u64 u65 u66 u67 u68 u69 u70 u71 u72 u73 u74 u75 u76 u77 u78 u79 u80 u81 u82 u83 u84 u85 u86 u87 u88 u89 u90 u91 u92 u93 u94 u95 u96 u97 u98 u99 u100 u101 u102 u103 u104 u105 u106 u107 u108 u109 u110 u111 u112 u113 u114 u115 AI => ?_)
          exact tail14_join w V x a b g B A oa ob oc os ot vi vw G (-1, ns ++ [⟨oa, 0, 0, 0, 0⟩]) 0 o0 ⟨0, 0, 0, 0, 0⟩ ⟨#[]⟩ AI hdis hol (by omega) htl _ _ _ _ _ _ _ _ _ _ _ _ _ _ _ _ _ _ _ _ _ _ _ _ _ _ _ _ _ _ _ _ _ _ _ _ _ _ _ _ _ _ _ _ _ _ _ _ _ _ _ _ _ _ _ _ _ _ _ _ _ _ _ _ _ _ _ _ _ _ _ _ _ _ _ _ _ _ _ _ _ _ _ _ _ _ _ _ _ _ _ _ _ _ _ _ _ _ _ _ _ _ _ _ _ _ _ _ _ _ _ _ (S.act_post hO (k := 1) (K := (-1, ns ++ [⟨oa, 0, 0, 0, 0⟩])) L (by rfl))
    · exact bad 1 (by unfold joinE; simp [hm]) (by decide) (fun V hV => owed_state1 V g vi vw G hV oa ob oc os ot (by rw [hmo]; exact hm))
  · -- Start
    have hnx : nextP mode ns ⟨0, 0, 0⟩ ⟨2, oa, ob, oc, os, ot⟩ = ((startP mode oa).2, ns) := by simp [nextP]
    have hans : ansP mode ns ⟨0, 0, 0⟩ ⟨2, oa, ob, oc, os, ot⟩ = ⟨(startP mode oa).1, 0, o0, ⟨0, 0, 0, 0, 0⟩, ⟨#[]⟩⟩ := by simp [ansP]
    rw [hnx]
    have bad : ∀ E, startP mode oa = (E, mode) → E ≠ 0 → (∀ V, GhR V g vi vw G → Calls Try.prog 22 #[ptr g, .agg #[.int .i64 2, .int .i64 oa, .int .i64 ob, .int .i64 oc, .string os, .string ot]] V fun e w' => e = .returned (.int .i64 E) ∧ Quiet V w') →
        Calls Try.prog 14 #[ptr x, ptr g, .agg #[.int .i64 2, .int .i64 oa, .int .i64 ob, .int .i64 oc, .string os, .string ot]] w (ActPost W x a b g G 2 ((startP mode oa).2, ns)) := by
      intro E hE hE0 how
      rw [hE] at hans hnx ⊢
      exact act_pre w x a b g mode ns ord vi vw G 2 oa ob oc os ot E 0 o0 ⟨0, 0, 0, 0, 0⟩ ⟨#[]⟩ (mode, ns) S.rep S.inv H hdis ha hans hnx how _ (fun _ V h1 h2 h3 => S.act_bad hO (by decide) V h1 h2 h3) (fun e => absurd e hE0)
    by_cases hm : mode = -1
    · subst hm
      by_cases h0 : oa = 0 ∨ oa = 1
      · have hE : startP (-1) oa = (0, oa) := by unfold startP; rw [if_neg (by omega), if_neg (by omega)]
        rw [hE] at hans hnx ⊢
        have L := S.law.start oa h0
        refine act_pre w x a b g (-1) ns ord vi vw G 2 oa ob oc os ot 0 0 o0 ⟨0, 0, 0, 0, 0⟩ ⟨#[]⟩ (oa, ns) S.rep S.inv H hdis ha hans hnx (fun V hV => ?_) _ (fun e => absurd rfl e) (fun _ V A B u2 u3 u4 u8 u9 u10 u11 u12 u13 u14 u15 u16 u17 u18 u19 u20 u21 u22 u23 u24 u25 u26 u27 u28 u29 u30 u31 u32 u33 u34 u35 u36 u37 u38 u39 u40 u41 u42 u43 u44 u45 u46 u47 u48 u49 u50 u51 u52 u53 u54 u55 u56 u57 u58 u59 u60 u61 u62 u63 u64 u65 u66 u67 u68 u69 u70 u71 u72 u73 u74 u75 u76 u77 u78 u79 u80 u81 u82 u83 u84 u85 u86 u87 u88 u89 u90 u91 u92 u93 u94 u95 u96 u97 u98 u99 u100 u101 u102 u103 u104 u105 u106 u107 u108 u109 u110 u111 u112 u113 u114 u115 AI => ?_)
        · rcases h0 with h | h
          · exact owed_start0 V g vi vw G hV oa ob oc os ot hmo h
          · exact owed_start1 V g vi vw G hV oa ob oc os ot hmo h
        · exact tail14_start w V x a b g B A oa ob oc os ot vi vw G (oa, ns) 0 o0 ⟨0, 0, 0, 0, 0⟩ ⟨#[]⟩ AI hdis hol _ _ _ _ _ _ _ _ _ _ _ _ _ _ _ _ _ _ _ _ _ _ _ _ _ _ _ _ _ _ _ _ _ _ _ _ _ _ _ _ _ _ _ _ _ _ _ _ _ _ _ _ _ _ _ _ _ _ _ _ _ _ _ _ _ _ _ _ _ _ _ _ _ _ _ _ _ _ _ _ _ _ _ _ _ _ _ _ _ _ _ _ _ _ _ _ _ _ _ _ _ _ _ _ _ _ _ _ _ _ _ _ (S.act_post hO (k := 2) (K := (oa, ns)) L (by rfl))
      · exact bad 4 (by unfold startP; rw [if_neg (by omega), if_pos (by omega)]) (by decide) (fun V hV => owed_mode V g vi vw G hV oa ob oc os ot hmo (by omega) (by omega))
    · exact bad 1 (by unfold startP; rw [if_pos hm]) (by decide) (fun V hV => owed_state2 V g vi vw G hV oa ob oc os ot (by rw [hmo]; exact hm))
  · -- Reset
    have hnx : nextP mode ns ⟨0, 0, 0⟩ ⟨3, oa, ob, oc, os, ot⟩ = (-1, []) := by simp [nextP]
    have hans : ansP mode ns ⟨0, 0, 0⟩ ⟨3, oa, ob, oc, os, ot⟩ = ⟨0, 0, o0, ⟨0, 0, 0, 0, 0⟩, ⟨#[]⟩⟩ := by simp [ansP]
    rw [hnx]
    refine act_pre w x a b g mode ns ord vi vw G 3 oa ob oc os ot 0 0 o0 ⟨0, 0, 0, 0, 0⟩ ⟨#[]⟩ (-1, []) S.rep S.inv H hdis ha hans hnx (fun V hV => owed_reset V g vi vw G hV oa ob oc os ot) _ (fun e => absurd rfl e) (fun _ V A B u2 u3 u4 u8 u9 u10 u11 u12 u13 u14 u15 u16 u17 u18 u19 u20 u21 u22 u23 u24 u25 u26 u27 u28 u29 u30 u31 u32 u33 u34 u35 u36 u37 u38 u39 u40 u41 u42 u43 u44 u45 u46 u47 u48 u49 u50 u51 u52 u53 u54 u55 u56 u57 u58 u59 u60 u61 u62 u63 u64 u65 u66 u67 u68 u69 u70 u71 u72 u73 u74 u75 u76 u77 u78 u79 u80 u81 u82 u83 u84 u85 u86 u87 u88 u89 u90 u91 u92 u93 u94 u95 u96 u97 u98 u99 u100 u101 u102 u103 u104 u105 u106 u107 u108 u109 u110 u111 u112 u113 u114 u115 AI => ?_)
    exact tail14_reset w V x a b g B A oa ob oc os ot vi vw G (-1, []) 0 o0 ⟨0, 0, 0, 0, 0⟩ ⟨#[]⟩ AI hdis hol _ _ _ _ _ _ _ _ _ _ _ _ _ _ _ _ _ _ _ _ _ _ _ _ _ _ _ _ _ _ _ _ _ _ _ _ _ _ _ _ _ _ _ _ _ _ _ _ _ _ _ _ _ _ _ _ _ _ _ _ _ _ _ _ _ _ _ _ _ _ _ _ _ _ _ _ _ _ _ _ _ _ _ _ _ _ _ _ _ _ _ _ _ _ _ _ _ _ _ _ _ _ _ _ _ _ _ _ _ _ _ _ (S.act_post hO (k := 3) (K := (-1, [])) KI.first (by rfl))
  · -- Wake
    have hnx : nextP mode ns ⟨0, 0, 0⟩ ⟨4, oa, ob, oc, os, ot⟩ = (mode, (stepP mode ns oa ob ⟨4, 0, 0⟩).2.2) := by simp [nextP]
    have hans : ansP mode ns ⟨0, 0, 0⟩ ⟨4, oa, ob, oc, os, ot⟩ = ⟨(stepP mode ns oa ob ⟨4, 0, 0⟩).2.1, 0, (stepP mode ns oa ob ⟨4, 0, 0⟩).1, ⟨0, 0, 0, 0, 0⟩, ⟨#[]⟩⟩ := by simp [ansP]
    rw [hnx]
    have bad : ∀ E, stepP mode ns oa ob ⟨4, 0, 0⟩ = (o0, E, ns) → E ≠ 0 → (∀ V, GhR V g vi vw G → Calls Try.prog 22 #[ptr g, .agg #[.int .i64 4, .int .i64 oa, .int .i64 ob, .int .i64 oc, .string os, .string ot]] V fun e w' => e = .returned (.int .i64 E) ∧ Quiet V w') →
        Calls Try.prog 14 #[ptr x, ptr g, .agg #[.int .i64 4, .int .i64 oa, .int .i64 ob, .int .i64 oc, .string os, .string ot]] w (ActPost W x a b g G 4 (mode, (stepP mode ns oa ob ⟨4, 0, 0⟩).2.2)) := by
      intro E hE hE0 how
      rw [hE] at hans hnx ⊢
      exact act_pre w x a b g mode ns ord vi vw G 4 oa ob oc os ot E 0 o0 ⟨0, 0, 0, 0, 0⟩ ⟨#[]⟩ (mode, ns) S.rep S.inv H hdis ha hans hnx how _ (fun _ V h1 h2 h3 => S.act_bad hO (by decide) V h1 h2 h3) (fun e => absurd e hE0)
    by_cases hm : mode = -1
    · exact bad 1 (by unfold stepP; rw [if_pos hm]) (by decide) (fun V hV => owed_state4 V g vi vw G hV oa ob oc os ot (by rw [hmo]; exact hm))
    · by_cases hlo : oa < 0
      · exact bad 5 (by unfold stepP; rw [if_neg hm, if_pos (.inl hlo)]) (by decide) (fun V hV => owed_node_lo V g vi vw G hV oa ob oc os ot (by rw [hmo]; exact hm) hlo)
      · by_cases hhi : (ns.length : Int) ≤ oa
        · exact bad 5 (by unfold stepP; rw [if_neg hm, if_pos (.inr hhi)]) (by decide) (fun V hV => owed_node_hi V g vi vw G hV oa ob oc os ot (by rw [hmo]; exact hm) (by omega) (by omega))
        · by_cases hdl : ob < 0
          · exact bad 6 (by unfold stepP; rw [if_neg hm, if_neg (by omega), if_pos (.inl hdl)]) (by decide) (fun V hV => owed_dir_lo V g vi vw G hV oa ob oc os ot (by rw [hmo]; exact hm) (by omega) (by omega) hdl)
          · by_cases hdh : mode < ob
            · exact bad 6 (by unfold stepP; rw [if_neg hm, if_neg (by omega), if_pos (.inr hdh)]) (by decide) (fun V hV => owed_dir_hi V g vi vw G hV oa ob oc os ot (by rw [hmo]; exact hm) (by omega) (by omega) (by omega) (by rw [hmo]; exact hdh))
            · obtain ⟨j, rfl⟩ : ∃ j : Nat, oa = j := ⟨oa.toNat, by omega⟩
              have hj : j < ns.length := by omega
              have hE : stepP mode ns (j : Int) ob ⟨4, 0, 0⟩ = ((machP mode (vf ns j) ob ⟨4, 0, 0⟩).2, 0, ns.set j (machP mode (vf ns j) ob ⟨4, 0, 0⟩).1) := by
                unfold stepP; rw [if_neg hm, if_neg (by omega), if_neg (by omega)]; rfl
              rw [hE] at hans hnx ⊢
              obtain ⟨hou, L⟩ := S.law.wake hm j hj ob
              obtain ⟨f1, f2⟩ := outs_msf hou
              have hlen := L.cnt.len
              rw [putP_eq, List.length_set] at hlen
              refine act_pre w x a b g mode ns ord vi vw G 4 (j : Int) ob oc os ot 0 0 (machP mode (vf ns j) ob ⟨4, 0, 0⟩).2 ⟨0, 0, 0, 0, 0⟩ ⟨#[]⟩ (mode, ns.set j (machP mode (vf ns j) ob ⟨4, 0, 0⟩).1) S.rep S.inv H hdis ha hans hnx (fun V hV => owed_wake V g vi vw G hV (j : Int) ob oc os ot (by rw [hmo]; exact hm) (by omega) (by omega) (by omega) (by rw [hmo]; omega)) _ (fun e => absurd rfl e) (fun _ V A B u2 u3 u4 u8 u9 u10 u11 u12 u13 u14 u15 u16 u17 u18 u19 u20 u21 u22 u23 u24 u25 u26 u27 u28 u29 u30 u31 u32 u33 u34 u35 u36 u37 u38 u39 u40 u41 u42 u43 u44 u45 u46 u47 u48 u49 u50 u51 u52 u53 u54 u55 u56 u57 u58 u59 u60 u61 u62 u63 u64 u65 u66 u67 u68 u69 u70 u71 u72 u73 u74 u75 u76 u77 u78 u79 u80 u81 u82 u83 u84 u85 u86 u87 u88 u89 u90 u91 u92 u93 u94 u95 u96 u97 u98 u99 u100 u101 u102 u103 u104 u105 u106 u107 u108 u109 u110 u111 u112 u113 u114 u115 AI => ?_)
              exact tail14_wake w V x a b g B A j ob oc os ot vi vw G _ 0 _ ⟨0, 0, 0, 0, 0⟩ ⟨#[]⟩ AI hdis hol (by omega) f1 f2 (by omega) (by rw [hn]; exact hlen) (by omega) (by omega) (by omega) _ _ _ _ _ _ _ _ _ _ _ _ _ _ _ _ _ _ _ _ _ _ _ _ _ _ _ _ _ _ _ _ _ _ _ _ _ _ _ _ _ _ _ _ _ _ _ _ _ _ _ _ _ _ _ _ _ _ _ _ _ _ _ _ _ _ _ _ _ _ _ _ _ _ _ _ _ _ _ _ _ _ _ _ _ _ _ _ _ _ _ _ _ _ _ _ _ _ _ _ _ _ _ _ _ _ _ _ _ _ _ _ (S.act_post hO (k := 4) (K := (mode, ns.set j (machP mode (vf ns j) ob ⟨4, 0, 0⟩).1)) L (by rw [putP_eq]; rfl))
end
end Go.Proofs.Qxb6500369a
