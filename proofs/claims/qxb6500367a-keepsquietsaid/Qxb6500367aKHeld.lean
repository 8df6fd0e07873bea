/-
  367 Keeps: Held. (gen7hpre.py)
-/
import Derived.Test.Qxb6500367aKHeldT
import Derived.Test.Qxb6500367aKOwed
namespace Go.Proofs.Qxb6500367a
open Go.RowKit Go.Qx
set_option linter.unusedSimpArgs false
set_option linter.unusedVariables false

set_option maxHeartbeats 8000000 in
set_option maxRecDepth 100000 in
theorem held_pre (w : World) (g gb cg : Nat) (vX vW : Value) (n : Nat) (h4 : n ≤ 4) (X : List Value) (W : List M4) (G : Nat → Nd) (H : GR w g vX vW (.slice (some ⟨gb, 0, none⟩) n cg) n X W G) (i : Nat) (hi : i < n) (hck : (G i).clock ≤ 1152921504606846976)
    (k b c : Int) (s t : ByteArray) (N Mm : Int) (hk : 1 ≤ k ∧ k ≤ 5) (hO : owedP n i (G i) k b c = 0) (Q : Ending → World → Prop)
    (hgood : ∀ (V : World) (B A M : Nat) (u1 u2 u3 u7 u9 u10 u11 u12 u13 u14 u15 u16 u17 u18 u19 u20 u21 u22 u23 u24 u25 u26 u27 u28 u29 u30 u31 u32 u33 u34 u35 u36 u37 u38 u39 u40 u41 u42 u43 u44 u45 u46 u47 u48 u49 u50 u51 u52 u53 u54 u55 u56 u57 u58 u59 u60 u61 u62 u63 u64 u65 u66 u67 u68 u69 u70 u71 u72 u73 u74 u75 u76 u77 u78 u79 u80 u81 u82 u83 u84 u85 u86 u87 u88 u89 u90 u91 u92 u93 u94 u95 u96 u97 u98 u99 u100 u101 u102 u103 u104 u105 u106 u107 u108 u109 u110 u111 u112 u113 u114 u115 u116 u117 u118 u119 u120 u121 u122 u123 u124 u125 u126 u127 u128 u129 u130 u131 u132 u133 u134 u135 u136 u137 u138 u139 u140 u141 u142 u143 u144 u145 u146 u147 u148 u149 : Value), Quiet w V → w.heap.size ≤ M → HIn V g gb cg vX vW n X W G B A M k i b c s t N Mm (mindC (G i)) → Code.wp Try.prog mid45 (bodyPost Try.prog Try.f45 Q) ⟨(Value.pointer (some ⟨g, 0, none⟩) :: u1 :: u2 :: u3 :: Value.pointer (some ⟨B, 0, none⟩) :: Value.pointer (some ⟨A, 0, none⟩) :: Value.bool false :: u7 :: Value.pointer (some ⟨M, 0, none⟩) :: u9 :: u10 :: u11 :: u12 :: u13 :: u14 :: u15 :: u16 :: u17 :: u18 :: u19 :: u20 :: u21 :: u22 :: u23 :: u24 :: u25 :: u26 :: u27 :: u28 :: u29 :: u30 :: u31 :: u32 :: u33 :: u34 :: u35 :: u36 :: u37 :: u38 :: u39 :: u40 :: u41 :: u42 :: u43 :: u44 :: u45 :: u46 :: u47 :: u48 :: u49 :: u50 :: u51 :: u52 :: u53 :: u54 :: u55 :: u56 :: u57 :: u58 :: u59 :: u60 :: u61 :: u62 :: u63 :: u64 :: u65 :: u66 :: u67 :: u68 :: u69 :: u70 :: u71 :: u72 :: u73 :: u74 :: u75 :: u76 :: u77 :: u78 :: u79 :: u80 :: u81 :: u82 :: u83 :: u84 :: u85 :: u86 :: u87 :: u88 :: u89 :: u90 :: u91 :: u92 :: u93 :: u94 :: u95 :: u96 :: u97 :: u98 :: u99 :: u100 :: u101 :: u102 :: u103 :: u104 :: u105 :: u106 :: u107 :: u108 :: u109 :: u110 :: u111 :: u112 :: u113 :: u114 :: u115 :: u116 :: u117 :: u118 :: u119 :: u120 :: u121 :: u122 :: u123 :: u124 :: u125 :: u126 :: u127 :: u128 :: u129 :: u130 :: u131 :: u132 :: u133 :: u134 :: u135 :: u136 :: u137 :: u138 :: u139 :: u140 :: u141 :: u142 :: u143 :: u144 :: u145 :: u146 :: u147 :: u148 :: u149 :: ([] : List Value)).toArray, []⟩ V) :
    Calls Try.prog 45 #[ptr g, .agg #[.int .i64 k, .int .i64 i, .int .i64 b, .int .i64 c, .string s, .string t], .agg #[.int .i64 0, .int .i64 N, .int .i64 Mm, .string ⟨#[]⟩]] w Q := by
  obtain ⟨V0, hV0⟩ : ∃ V0, ((w.alloc (.cells #[.int .i64 k, .int .i64 i, .int .i64 b, .int .i64 c, .string s, .string t] 44)).alloc (.cells #[.int .i64 0, .int .i64 N, .int .i64 Mm, .string ⟨#[]⟩] 65)) = V0 := ⟨_, rfl⟩
  have q0 : Quiet w V0 := by rw [← hV0]; exact ((Chg.refl _ _).alloc _).alloc _
  have bo : Blk V0 w.heap.size 44 [.int .i64 k, .int .i64 i, .int .i64 b, .int .i64 c, .string s, .string t] := by rw [← hV0]; exact (Blk.new w 44 _).alloc _
  have ba : Blk V0 (w.heap.size + 1) 65 [.int .i64 0, .int .i64 N, .int .i64 Mm, .string ⟨#[]⟩] := by
    have := Blk.new (w.alloc (.cells #[.int .i64 k, .int .i64 i, .int .i64 b, .int .i64 c, .string s, .string t] 44)) 65 [.int .i64 0, .int .i64 N, .int .i64 Mm, .string ⟨#[]⟩]
    rw [World.size_alloc] at this
    rw [← hV0]; exact this
  have hOw := owed_any V0 g vX vW _ n h4 X W G (H.quiet q0) i hi hck k b c s t
  rw [hO] at hOw
  have o0 : V0.cell? ⟨w.heap.size, 0, none⟩ = some (.int .i64 k) := bo.cell 0
  have o1 : V0.cell? ⟨w.heap.size, 1, none⟩ = some (.int .i64 i) := bo.cell 1
  have o2 : V0.cell? ⟨w.heap.size, 2, none⟩ = some (.int .i64 b) := bo.cell 2
  have o3 : V0.cell? ⟨w.heap.size, 3, none⟩ = some (.int .i64 c) := bo.cell 3
  have o4 : V0.cell? ⟨w.heap.size, 4, none⟩ = some (.string s) := bo.cell 4
  have o5 : V0.cell? ⟨w.heap.size, 5, none⟩ = some (.string t) := bo.cell 5
  have k9 : (k == 9) = false := by simp; omega
  have k10 : (k == 10) = false := by simp; omega
  have hall := hide (And.intro q0 (And.intro bo (And.intro ba H)))
  have hOwH := hide hOw
  have hgoodH := hide hgood
  clear q0 bo ba H hOw hgood hk hck
  unfold ptr at hOwH ⊢
  go_enter Try.func45, Try.ntmps45
  go_wp2_with fail
  refine (unhide hOwH).mono ?_
  clear hOwH o0 o1 o2 o3 o4 o5
  rintro e V1 ⟨rfl, q1⟩
  obtain ⟨q0, bo, ba, H0⟩ := unhide hall
  have q01 := Quiet.trans q0 q1
  have hsz := q01.size
  have H := H0.quiet q01
  have bo1 := q1.blk bo
  have ba1 := q1.blk ba
  have hbl := ba1.lt
  obtain ⟨gb', cg', hv, m0, m1, m2, m3⟩ := H.mind hi
  cases hv
  have c2 : V1.cell? ⟨g, 2, none⟩ = some (.slice (some ⟨gb, 0, none⟩) n cg) := H.blk.cell 2
  have hgl := H.blk.lt
  have hgb : gb < V1.heap.size := World.block_lt_of_cell? _ _ m0
  have a0 : V1.cell? ⟨w.heap.size + 1, 0, none⟩ = some (.int .i64 0) := ba1.cell 0
  have o1 : V1.cell? ⟨w.heap.size, 1, none⟩ = some (.int .i64 i) := bo1.cell 1
  have i0 : (0 : Int) ≤ (i : Int) := by omega
  have i1 : (i : Int) < (n : Int) := by omega
  have hfin : Hid (HIn ((V1.alloc (.cells #[.int .i64 (G i).clock, .int .i64 (G i).phase, .int .i64 (G i).mine, .int .i64 (G i).acks] 80)).drew) g gb cg vX vW n X W G w.heap.size (w.heap.size + 1) V1.heap.size k i b c s t N Mm (mindC (G i))) := by
    have q2 : Quiet V1 ((V1.alloc (.cells #[.int .i64 (G i).clock, .int .i64 (G i).phase, .int .i64 (G i).mine, .int .i64 (G i).acks] 80)).drew) := ((Chg.refl _ _).alloc _).drew
    refine ⟨H.quiet q2, q2.blk bo1, q2.blk ba1, (Blk.new V1 80 _).drew, ?_, ?_, ?_, ?_, ?_⟩
    · intro h; have := H0.lts h; omega
    · intro h; have := H0.lts h; omega
    · intro h; have := H0.lts h; omega
    · have := bo1.lt; omega
    · omega
  have hq2 : Hid (Quiet w ((V1.alloc (.cells #[.int .i64 (G i).clock, .int .i64 (G i).phase, .int .i64 (G i).mine, .int .i64 (G i).acks] 80)).drew)) := Quiet.trans q01 (((Chg.refl _ _).alloc _).drew)
  have hszH := hide hsz
  have hwl : w.heap.size < V1.heap.size := bo1.lt
  clear hall q0 bo ba H0 q01 hsz H bo1 ba1 q1 hV0
  obtain ⟨B, hB⟩ : ∃ B, w.heap.size = B := ⟨_, rfl⟩
  rw [hB] at hfin a0 o1 hszH hwl hgoodH hbl ⊢
  clear hB
  go_upto_region 10 with fail
  rename_i KI hKI
  have hKH := hide hKI
  clear hKI
  go_region_law (fail)
  all_goals
    refine unhide hKH _ _ ?_
    exact unhide hgoodH _ B (B + 1) _ _ _ _ _ _ _ _ _ _ _ _ _ _ _ _ _ _ _ _ _ _ _ _ _ _ _ _ _ _ _ _ _ _ _ _ _ _ _ _ _ _ _ _ _ _ _ _ _ _ _ _ _ _ _ _ _ _ _ _ _ _ _ _ _ _ _ _ _ _ _ _ _ _ _ _ _ _ _ _ _ _ _ _ _ _ _ _ _ _ _ _ _ _ _ _ _ _ _ _ _ _ _ _ _ _ _ _ _ _ _ _ _ _ _ _ _ _ _ _ _ _ _ _ _ _ _ _ _ _ _ _ _ _ _ _ _ _ _ _ _ _ _ _ _ _ (unhide hq2) (unhide hszH) (unhide hfin)

set_option maxHeartbeats 8000000 in
set_option maxRecDepth 100000 in
theorem held_show (w : World) (g : Nat) (k i b c : Int) (s t : ByteArray) (hk : k = 9) (R : ByteArray) :
    Calls Try.prog 45 #[ptr g, .agg #[.int .i64 k, .int .i64 i, .int .i64 b, .int .i64 c, .string s, .string t], .agg #[.int .i64 0, .int .i64 0, .int .i64 0, .string R]] w fun e w' => e = .returned (.bool true) ∧ Quiet w w' := by
  have q0 : Quiet w ((w.alloc (.cells #[.int .i64 k, .int .i64 i, .int .i64 b, .int .i64 c, .string s, .string t] 44)).alloc (.cells #[.int .i64 0, .int .i64 0, .int .i64 0, .string R] 65)) := ((Chg.refl _ _).alloc _).alloc _
  subst hk
  unfold ptr
  go_enter Try.func45, Try.ntmps45
  go_wp2
  go_ret
  exact ⟨rfl, q0⟩

set_option maxHeartbeats 8000000 in
set_option maxRecDepth 100000 in
theorem held_check (w : World) (g : Nat) (k i b c : Int) (s t : ByteArray) (hk : k = 10) :
    Calls Try.prog 45 #[ptr g, .agg #[.int .i64 k, .int .i64 i, .int .i64 b, .int .i64 c, .string s, .string t], .agg #[.int .i64 0, .int .i64 1, .int .i64 0, .string ⟨#[]⟩]] w fun e w' => e = .returned (.bool true) ∧ Quiet w w' := by
  have q0 : Quiet w ((w.alloc (.cells #[.int .i64 k, .int .i64 i, .int .i64 b, .int .i64 c, .string s, .string t] 44)).alloc (.cells #[.int .i64 0, .int .i64 1, .int .i64 0, .string ⟨#[]⟩] 65)) := ((Chg.refl _ _).alloc _).alloc _
  subst hk
  unfold ptr
  go_enter Try.func45, Try.ntmps45
  go_wp2
  go_ret
  exact ⟨rfl, q0⟩

set_option maxHeartbeats 8000000 in
set_option maxRecDepth 100000 in
theorem held_err (w : World) (g : Nat) (vX vW vG : Value) (n : Nat) (h4 : n ≤ 4) (X : List Value) (W : List M4) (G : Nat → Nd) (H : GR w g vX vW vG n X W G) (i : Nat) (hi : i < n) (hck : (G i).clock ≤ 1152921504606846976)
    (k b c : Int) (s t : ByteArray) (E : Int) (hk9 : k ≠ 9) (hk10 : k ≠ 10) (hO : owedP n i (G i) k b c = E) (hE : E ≠ 0) :
    Calls Try.prog 45 #[ptr g, .agg #[.int .i64 k, .int .i64 i, .int .i64 b, .int .i64 c, .string s, .string t], .agg #[.int .i64 E, .int .i64 0, .int .i64 0, .string ⟨#[]⟩]] w fun e w' => e = .returned (.bool true) ∧ Quiet w w' := by
  obtain ⟨V0, hV0⟩ : ∃ V0, ((w.alloc (.cells #[.int .i64 k, .int .i64 i, .int .i64 b, .int .i64 c, .string s, .string t] 44)).alloc (.cells #[.int .i64 E, .int .i64 0, .int .i64 0, .string ⟨#[]⟩] 65)) = V0 := ⟨_, rfl⟩
  have q0 : Quiet w V0 := by rw [← hV0]; exact ((Chg.refl _ _).alloc _).alloc _
  have bo : Blk V0 w.heap.size 44 [.int .i64 k, .int .i64 i, .int .i64 b, .int .i64 c, .string s, .string t] := by rw [← hV0]; exact (Blk.new w 44 _).alloc _
  have ba : Blk V0 (w.heap.size + 1) 65 [.int .i64 E, .int .i64 0, .int .i64 0, .string ⟨#[]⟩] := by
    have := Blk.new (w.alloc (.cells #[.int .i64 k, .int .i64 i, .int .i64 b, .int .i64 c, .string s, .string t] 44)) 65 [.int .i64 E, .int .i64 0, .int .i64 0, .string ⟨#[]⟩]
    rw [World.size_alloc] at this
    rw [← hV0]; exact this
  have hOw := owed_any V0 g vX vW _ n h4 X W G (H.quiet q0) i hi hck k b c s t
  rw [hO] at hOw
  have o0 : V0.cell? ⟨w.heap.size, 0, none⟩ = some (.int .i64 k) := bo.cell 0
  have o1 : V0.cell? ⟨w.heap.size, 1, none⟩ = some (.int .i64 i) := bo.cell 1
  have o2 : V0.cell? ⟨w.heap.size, 2, none⟩ = some (.int .i64 b) := bo.cell 2
  have o3 : V0.cell? ⟨w.heap.size, 3, none⟩ = some (.int .i64 c) := bo.cell 3
  have o4 : V0.cell? ⟨w.heap.size, 4, none⟩ = some (.string s) := bo.cell 4
  have o5 : V0.cell? ⟨w.heap.size, 5, none⟩ = some (.string t) := bo.cell 5
  have k9 : (k == 9) = false := by simpa using hk9
  have k10 : (k == 10) = false := by simpa using hk10
  have e0 : (E == 0) = false := by simpa using hE
  have e1 : (E != 0) = true := by rw [bne, e0]; rfl
  have e2 : (E == E) = true := by simp
  have e3 : (E != E) = false := by simp
  have hall := hide (And.intro q0 ba)
  have hOwH := hide hOw
  clear q0 bo ba H hOw hk9 hk10 hck hO hE
  unfold ptr at hOwH ⊢
  go_enter Try.func45, Try.ntmps45
  go_wp2_with fail
  refine (unhide hOwH).mono ?_
  clear hOwH o0 o1 o2 o3 o4 o5
  rintro e V1 ⟨rfl, q1⟩
  obtain ⟨q0, ba⟩ := unhide hall
  have q01 := hide (Quiet.trans q0 q1)
  have ba1 := q1.blk ba
  have a0 : V1.cell? ⟨w.heap.size + 1, 0, none⟩ = some (.int .i64 E) := ba1.cell 0
  have a1 : V1.cell? ⟨w.heap.size + 1, 1, none⟩ = some (.int .i64 0) := ba1.cell 1
  have a2 : V1.cell? ⟨w.heap.size + 1, 2, none⟩ = some (.int .i64 0) := ba1.cell 2
  have a3 : V1.cell? ⟨w.heap.size + 1, 3, none⟩ = some (.string ⟨#[]⟩) := ba1.cell 3
  clear hall q0 ba ba1 q1 hV0
  go_wp2
  go_ret
  exact ⟨rfl, unhide q01⟩

/-- What makes an event one that is taken: the mind behind it. -/
structure TakeOk (n : Nat) (G : Nat → Nd) (i : Nat) (k b c : Int) (s' : Nd) (PH : Int) : Prop where
  ow : owedP n i (G i) k b c = 0
  kd : (k = 1 ∧ (G i).phase = 0 ∧ PH = 1 ∧ s'.clock = (G i).clock + 1 ∧ s'.mine = (G i).clock + 1 ∧ s'.acks = (G i).acks ∧ (n = 1 → s'.phase ≠ 1))
    ∨ (k = 2 ∧ (G i).phase = 2 ∧ PH = 0 ∧ s'.clock = (G i).clock + 1 ∧ s'.mine = 0 ∧ s'.acks = 0)
    ∨ ((1 ≤ c ∧ c ≤ 1152921504606846976) ∧ (0 ≤ (G i).acks ∧ (G i).acks ≤ 4) ∧ PH = (G i).phase ∧ s'.mine = (G i).mine ∧
      ((k = 3 ∧ s'.clock = max (G i).clock c + 1 + 1 ∧ s'.acks = (G i).acks) ∨ (k = 4 ∧ s'.clock = max (G i).clock c + 1 ∧ s'.acks = (G i).acks + 1) ∨ (k = 5 ∧ s'.clock = max (G i).clock c + 1 ∧ s'.acks = (G i).acks)))
  ph : s'.phase = PH ∨ (PH = 1 ∧ s'.phase = 2 ∧ s'.acks = (n : Int) - 1 ∧ firstTo (fun j => (upS G i s' j).mine) n = i ∧ insTo (fun j => (upS G i s' j).phase) n = 1)

theorem held_take (w : World) (g gb cg : Nat) (vX vW : Value) (n : Nat) (h4 : n ≤ 4) (X : List Value) (W : List M4) (G : Nat → Nd) (H : GR w g vX vW (.slice (some ⟨gb, 0, none⟩) n cg) n X W G) (i : Nat) (hi : i < n) (hck : 0 ≤ (G i).clock ∧ (G i).clock ≤ 1152921504606846976)
    (k b c : Int) (s t : ByteArray) (s' : Nd) (PH : Int) (T : TakeOk n G i k b c s' PH) :
    Calls Try.prog 45 #[ptr g, .agg #[.int .i64 k, .int .i64 i, .int .i64 b, .int .i64 c, .string s, .string t], .agg #[.int .i64 0, .int .i64 s'.clock, .int .i64 s'.phase, .string ⟨#[]⟩]] w fun e w' => e = .returned (.bool true) ∧ Chg (fun k => k = gb) w w' ∧ Row w' 80 4 (.slice (some ⟨gb, 0, none⟩) n cg) n (gcells (upS G i s') n) := by
  have fin : ∀ V V2 wx M, Quiet w V → w.heap.size ≤ M → Chg (fun x => x = M) V V2 → Chg (fun k => k = gb) V2 wx → Chg (fun k => k = gb) w wx := fun V V2 wx M q hM c2 c3 =>
    Chg.trans' (Chg.trans' (q.chg _) c2 (fun j hj e => by omega)) c3 (fun j _ e => e)
  have hk : 1 ≤ k ∧ k ≤ 5 := by
    rcases T.kd with h | h | h <;> omega
  refine held_pre w g gb cg vX vW n h4 X W G H i hi hck.2 k b c s t s'.clock s'.phase hk T.ow _ ?_
  intro V B A M v1 v2 v3 v7 v9 v10 v11 v12 v13 v14 v15 v16 v17 v18 v19 v20 v21 v22 v23 v24 v25 v26 v27 v28 v29 v30 v31 v32 v33 v34 v35 v36 v37 v38 v39 v40 v41 v42 v43 v44 v45 v46 v47 v48 v49 v50 v51 v52 v53 v54 v55 v56 v57 v58 v59 v60 v61 v62 v63 v64 v65 v66 v67 v68 v69 v70 v71 v72 v73 v74 v75 v76 v77 v78 v79 v80 v81 v82 v83 v84 v85 v86 v87 v88 v89 v90 v91 v92 v93 v94 v95 v96 v97 v98 v99 v100 v101 v102 v103 v104 v105 v106 v107 v108 v109 v110 v111 v112 v113 v114 v115 v116 v117 v118 v119 v120 v121 v122 v123 v124 v125 v126 v127 v128 v129 v130 v131 v132 v133 v134 v135 v136 v137 v138 v139 v140 v141 v142 v143 v144 v145 v146 v147 v148 v149 q hM Hn
  rcases T.kd with ⟨rfl, hph, hPH, h1, h2, h3, h5⟩ | ⟨rfl, hph, hPH, h1, h2, h3⟩ | ⟨hc, ha, hPH, hm, hh⟩
  · refine mid45_1 V g gb cg vX vW n X W G B A M b c i s t (G i) s' hck h1 h2 h3 Hn v1 v2 v3 v7 v9 v10 v11 v12 v13 v14 v15 v16 v17 v18 v19 v20 v21 v22 v23 v24 v25 v26 v27 v28 v29 v30 v31 v32 v33 v34 v35 v36 v37 v38 v39 v40 v41 v42 v43 v44 v45 v46 v47 v48 v49 v50 v51 v52 v53 v54 v55 v56 v57 v58 v59 v60 v61 v62 v63 v64 v65 v66 v67 v68 v69 v70 v71 v72 v73 v74 v75 v76 v77 v78 v79 v80 v81 v82 v83 v84 v85 v86 v87 v88 v89 v90 v91 v92 v93 v94 v95 v96 v97 v98 v99 v100 v101 v102 v103 v104 v105 v106 v107 v108 v109 v110 v111 v112 v113 v114 v115 v116 v117 v118 v119 v120 v121 v122 v123 v124 v125 v126 v127 v128 v129 v130 v131 v132 v133 v134 v135 v136 v137 v138 v139 v140 v141 v142 v143 v144 v145 v146 v147 v148 v149 _ (hide ?_)
    intro V2 y1 y2 y3 y7 y11 y12 y13 y14 y15 y16 y17 y18 y19 y20 y21 y22 y23 y24 y25 y26 y27 y28 y29 y30 y31 y32 y33 y34 y35 y36 y37 y38 y39 y40 y41 y42 y43 y44 y45 y46 y47 y48 y49 y50 y51 y52 y53 y54 y55 y56 y57 y58 y59 y60 y61 y62 y63 y64 y65 y66 y67 y68 y69 y70 y71 y72 y73 y74 y75 y76 y77 y78 y79 y80 y81 y82 y83 y84 y85 y86 y87 y88 y89 y90 y91 y92 y93 y94 y95 y96 y97 y98 y99 y100 y101 y102 y103 y104 y105 y106 y107 y108 y109 y110 y111 y112 y113 y114 y115 y116 y117 y118 y119 y120 y121 y122 y123 y124 y125 y126 y127 y128 y129 y130 y131 y132 y133 y134 y135 y136 y137 y138 y139 y140 y141 y142 y143 y144 y145 y146 y147 y148 y149 ch2 Hn2
    rcases T.ph with hp | ⟨h1, h2, h3, h5, h6⟩
    · rw [hPH] at hp
      refine tail45_ask V2 g gb cg vX vW n h4 X W G B A M _ b c i hi s t _ s' (G i).phase 1 Hn2 hp (by omega) rfl (by omega) y1 y2 y3 y7 y11 y12 y13 y14 y15 y16 y17 y18 y19 y20 y21 y22 y23 y24 y25 y26 y27 y28 y29 y30 y31 y32 y33 y34 y35 y36 y37 y38 y39 y40 y41 y42 y43 y44 y45 y46 y47 y48 y49 y50 y51 y52 y53 y54 y55 y56 y57 y58 y59 y60 y61 y62 y63 y64 y65 y66 y67 y68 y69 y70 y71 y72 y73 y74 y75 y76 y77 y78 y79 y80 y81 y82 y83 y84 y85 y86 y87 y88 y89 y90 y91 y92 y93 y94 y95 y96 y97 y98 y99 y100 y101 y102 y103 y104 y105 y106 y107 y108 y109 y110 y111 y112 y113 y114 y115 y116 y117 y118 y119 y120 y121 y122 y123 y124 y125 y126 y127 y128 y129 y130 y131 y132 y133 y134 y135 y136 y137 y138 y139 y140 y141 y142 y143 y144 y145 y146 y147 y148 y149 _ ?_
      intro wx ch3 hr
      exact ⟨rfl, fin V V2 wx M q hM ch2 ch3, hr⟩
    · refine tail45_entry V2 g gb cg vX vW n h4 X W G B A M _ b c i hi s t _ s' (G i).phase 1 Hn2 h2 (by omega) rfl h3 h5 h6 y1 y2 y3 y7 y11 y12 y13 y14 y15 y16 y17 y18 y19 y20 y21 y22 y23 y24 y25 y26 y27 y28 y29 y30 y31 y32 y33 y34 y35 y36 y37 y38 y39 y40 y41 y42 y43 y44 y45 y46 y47 y48 y49 y50 y51 y52 y53 y54 y55 y56 y57 y58 y59 y60 y61 y62 y63 y64 y65 y66 y67 y68 y69 y70 y71 y72 y73 y74 y75 y76 y77 y78 y79 y80 y81 y82 y83 y84 y85 y86 y87 y88 y89 y90 y91 y92 y93 y94 y95 y96 y97 y98 y99 y100 y101 y102 y103 y104 y105 y106 y107 y108 y109 y110 y111 y112 y113 y114 y115 y116 y117 y118 y119 y120 y121 y122 y123 y124 y125 y126 y127 y128 y129 y130 y131 y132 y133 y134 y135 y136 y137 y138 y139 y140 y141 y142 y143 y144 y145 y146 y147 y148 y149 _ ?_
      intro wx ch3 hr
      exact ⟨rfl, fin V V2 wx M q hM ch2 ch3, hr⟩
  · refine mid45_2 V g gb cg vX vW n X W G B A M b c i s t (G i) s' hck h1 h2 h3 Hn v1 v2 v3 v7 v9 v10 v11 v12 v13 v14 v15 v16 v17 v18 v19 v20 v21 v22 v23 v24 v25 v26 v27 v28 v29 v30 v31 v32 v33 v34 v35 v36 v37 v38 v39 v40 v41 v42 v43 v44 v45 v46 v47 v48 v49 v50 v51 v52 v53 v54 v55 v56 v57 v58 v59 v60 v61 v62 v63 v64 v65 v66 v67 v68 v69 v70 v71 v72 v73 v74 v75 v76 v77 v78 v79 v80 v81 v82 v83 v84 v85 v86 v87 v88 v89 v90 v91 v92 v93 v94 v95 v96 v97 v98 v99 v100 v101 v102 v103 v104 v105 v106 v107 v108 v109 v110 v111 v112 v113 v114 v115 v116 v117 v118 v119 v120 v121 v122 v123 v124 v125 v126 v127 v128 v129 v130 v131 v132 v133 v134 v135 v136 v137 v138 v139 v140 v141 v142 v143 v144 v145 v146 v147 v148 v149 _ (hide ?_)
    intro V2 y1 y2 y3 y7 y11 y12 y13 y14 y15 y16 y17 y18 y19 y20 y21 y22 y23 y24 y25 y26 y27 y28 y29 y30 y31 y32 y33 y34 y35 y36 y37 y38 y39 y40 y41 y42 y43 y44 y45 y46 y47 y48 y49 y50 y51 y52 y53 y54 y55 y56 y57 y58 y59 y60 y61 y62 y63 y64 y65 y66 y67 y68 y69 y70 y71 y72 y73 y74 y75 y76 y77 y78 y79 y80 y81 y82 y83 y84 y85 y86 y87 y88 y89 y90 y91 y92 y93 y94 y95 y96 y97 y98 y99 y100 y101 y102 y103 y104 y105 y106 y107 y108 y109 y110 y111 y112 y113 y114 y115 y116 y117 y118 y119 y120 y121 y122 y123 y124 y125 y126 y127 y128 y129 y130 y131 y132 y133 y134 y135 y136 y137 y138 y139 y140 y141 y142 y143 y144 y145 y146 y147 y148 y149 ch2 Hn2
    rcases T.ph with hp | ⟨h1, _⟩
    · rw [hPH] at hp
      refine tail45_in2 V2 g gb cg vX vW n h4 X W G B A M _ b c i hi s t _ s' (G i).phase 0 Hn2 hp hph (by omega) y1 y2 y3 y7 y11 y12 y13 y14 y15 y16 y17 y18 y19 y20 y21 y22 y23 y24 y25 y26 y27 y28 y29 y30 y31 y32 y33 y34 y35 y36 y37 y38 y39 y40 y41 y42 y43 y44 y45 y46 y47 y48 y49 y50 y51 y52 y53 y54 y55 y56 y57 y58 y59 y60 y61 y62 y63 y64 y65 y66 y67 y68 y69 y70 y71 y72 y73 y74 y75 y76 y77 y78 y79 y80 y81 y82 y83 y84 y85 y86 y87 y88 y89 y90 y91 y92 y93 y94 y95 y96 y97 y98 y99 y100 y101 y102 y103 y104 y105 y106 y107 y108 y109 y110 y111 y112 y113 y114 y115 y116 y117 y118 y119 y120 y121 y122 y123 y124 y125 y126 y127 y128 y129 y130 y131 y132 y133 y134 y135 y136 y137 y138 y139 y140 y141 y142 y143 y144 y145 y146 y147 y148 y149 _ ?_
      intro wx ch3 hr
      exact ⟨rfl, fin V V2 wx M q hM ch2 ch3, hr⟩
    · omega
  · rcases hh with ⟨rfl, h1, h3⟩ | ⟨rfl, h1, h3⟩ | ⟨rfl, h1, h3⟩
    · refine mid45_3 V g gb cg vX vW n X W G B A M b c i s t (G i) s' hck hc ha h1 hm h3 Hn v1 v2 v3 v7 v9 v10 v11 v12 v13 v14 v15 v16 v17 v18 v19 v20 v21 v22 v23 v24 v25 v26 v27 v28 v29 v30 v31 v32 v33 v34 v35 v36 v37 v38 v39 v40 v41 v42 v43 v44 v45 v46 v47 v48 v49 v50 v51 v52 v53 v54 v55 v56 v57 v58 v59 v60 v61 v62 v63 v64 v65 v66 v67 v68 v69 v70 v71 v72 v73 v74 v75 v76 v77 v78 v79 v80 v81 v82 v83 v84 v85 v86 v87 v88 v89 v90 v91 v92 v93 v94 v95 v96 v97 v98 v99 v100 v101 v102 v103 v104 v105 v106 v107 v108 v109 v110 v111 v112 v113 v114 v115 v116 v117 v118 v119 v120 v121 v122 v123 v124 v125 v126 v127 v128 v129 v130 v131 v132 v133 v134 v135 v136 v137 v138 v139 v140 v141 v142 v143 v144 v145 v146 v147 v148 v149 _ (hide ?_)
      intro V2 y1 y2 y3 y7 y11 y12 y13 y14 y15 y16 y17 y18 y19 y20 y21 y22 y23 y24 y25 y26 y27 y28 y29 y30 y31 y32 y33 y34 y35 y36 y37 y38 y39 y40 y41 y42 y43 y44 y45 y46 y47 y48 y49 y50 y51 y52 y53 y54 y55 y56 y57 y58 y59 y60 y61 y62 y63 y64 y65 y66 y67 y68 y69 y70 y71 y72 y73 y74 y75 y76 y77 y78 y79 y80 y81 y82 y83 y84 y85 y86 y87 y88 y89 y90 y91 y92 y93 y94 y95 y96 y97 y98 y99 y100 y101 y102 y103 y104 y105 y106 y107 y108 y109 y110 y111 y112 y113 y114 y115 y116 y117 y118 y119 y120 y121 y122 y123 y124 y125 y126 y127 y128 y129 y130 y131 y132 y133 y134 y135 y136 y137 y138 y139 y140 y141 y142 y143 y144 y145 y146 y147 y148 y149 ch2 Hn2
      rcases T.ph with hp | ⟨h1, h2, h3, h5, h6⟩
      · rw [hPH] at hp
        by_cases h2 : (G i).phase = 2
        · refine tail45_in2 V2 g gb cg vX vW n h4 X W G B A M _ b c i hi s t _ s' (G i).phase (G i).phase Hn2 (by omega) h2 (by omega) y1 y2 y3 y7 y11 y12 y13 y14 y15 y16 y17 y18 y19 y20 y21 y22 y23 y24 y25 y26 y27 y28 y29 y30 y31 y32 y33 y34 y35 y36 y37 y38 y39 y40 y41 y42 y43 y44 y45 y46 y47 y48 y49 y50 y51 y52 y53 y54 y55 y56 y57 y58 y59 y60 y61 y62 y63 y64 y65 y66 y67 y68 y69 y70 y71 y72 y73 y74 y75 y76 y77 y78 y79 y80 y81 y82 y83 y84 y85 y86 y87 y88 y89 y90 y91 y92 y93 y94 y95 y96 y97 y98 y99 y100 y101 y102 y103 y104 y105 y106 y107 y108 y109 y110 y111 y112 y113 y114 y115 y116 y117 y118 y119 y120 y121 y122 y123 y124 y125 y126 y127 y128 y129 y130 y131 y132 y133 y134 y135 y136 y137 y138 y139 y140 y141 y142 y143 y144 y145 y146 y147 y148 y149 _ ?_
          intro wx ch3 hr
          exact ⟨rfl, fin V V2 wx M q hM ch2 ch3, hr⟩
        · refine tail45_no V2 g gb cg vX vW n h4 X W G B A M _ b c i hi s t _ s' (G i).phase (G i).phase Hn2 (by omega) (by omega) (by omega) y1 y2 y3 y7 y11 y12 y13 y14 y15 y16 y17 y18 y19 y20 y21 y22 y23 y24 y25 y26 y27 y28 y29 y30 y31 y32 y33 y34 y35 y36 y37 y38 y39 y40 y41 y42 y43 y44 y45 y46 y47 y48 y49 y50 y51 y52 y53 y54 y55 y56 y57 y58 y59 y60 y61 y62 y63 y64 y65 y66 y67 y68 y69 y70 y71 y72 y73 y74 y75 y76 y77 y78 y79 y80 y81 y82 y83 y84 y85 y86 y87 y88 y89 y90 y91 y92 y93 y94 y95 y96 y97 y98 y99 y100 y101 y102 y103 y104 y105 y106 y107 y108 y109 y110 y111 y112 y113 y114 y115 y116 y117 y118 y119 y120 y121 y122 y123 y124 y125 y126 y127 y128 y129 y130 y131 y132 y133 y134 y135 y136 y137 y138 y139 y140 y141 y142 y143 y144 y145 y146 y147 y148 y149 _ ?_
          intro wx ch3 hr
          exact ⟨rfl, fin V V2 wx M q hM ch2 ch3, hr⟩
      · refine tail45_entry V2 g gb cg vX vW n h4 X W G B A M _ b c i hi s t _ s' (G i).phase (G i).phase Hn2 h2 (by omega) (by omega) h3 h5 h6 y1 y2 y3 y7 y11 y12 y13 y14 y15 y16 y17 y18 y19 y20 y21 y22 y23 y24 y25 y26 y27 y28 y29 y30 y31 y32 y33 y34 y35 y36 y37 y38 y39 y40 y41 y42 y43 y44 y45 y46 y47 y48 y49 y50 y51 y52 y53 y54 y55 y56 y57 y58 y59 y60 y61 y62 y63 y64 y65 y66 y67 y68 y69 y70 y71 y72 y73 y74 y75 y76 y77 y78 y79 y80 y81 y82 y83 y84 y85 y86 y87 y88 y89 y90 y91 y92 y93 y94 y95 y96 y97 y98 y99 y100 y101 y102 y103 y104 y105 y106 y107 y108 y109 y110 y111 y112 y113 y114 y115 y116 y117 y118 y119 y120 y121 y122 y123 y124 y125 y126 y127 y128 y129 y130 y131 y132 y133 y134 y135 y136 y137 y138 y139 y140 y141 y142 y143 y144 y145 y146 y147 y148 y149 _ ?_
        intro wx ch3 hr
        exact ⟨rfl, fin V V2 wx M q hM ch2 ch3, hr⟩
    · refine mid45_4 V g gb cg vX vW n X W G B A M b c i s t (G i) s' hck hc ha h1 hm h3 Hn v1 v2 v3 v7 v9 v10 v11 v12 v13 v14 v15 v16 v17 v18 v19 v20 v21 v22 v23 v24 v25 v26 v27 v28 v29 v30 v31 v32 v33 v34 v35 v36 v37 v38 v39 v40 v41 v42 v43 v44 v45 v46 v47 v48 v49 v50 v51 v52 v53 v54 v55 v56 v57 v58 v59 v60 v61 v62 v63 v64 v65 v66 v67 v68 v69 v70 v71 v72 v73 v74 v75 v76 v77 v78 v79 v80 v81 v82 v83 v84 v85 v86 v87 v88 v89 v90 v91 v92 v93 v94 v95 v96 v97 v98 v99 v100 v101 v102 v103 v104 v105 v106 v107 v108 v109 v110 v111 v112 v113 v114 v115 v116 v117 v118 v119 v120 v121 v122 v123 v124 v125 v126 v127 v128 v129 v130 v131 v132 v133 v134 v135 v136 v137 v138 v139 v140 v141 v142 v143 v144 v145 v146 v147 v148 v149 _ (hide ?_)
      intro V2 y1 y2 y3 y7 y11 y12 y13 y14 y15 y16 y17 y18 y19 y20 y21 y22 y23 y24 y25 y26 y27 y28 y29 y30 y31 y32 y33 y34 y35 y36 y37 y38 y39 y40 y41 y42 y43 y44 y45 y46 y47 y48 y49 y50 y51 y52 y53 y54 y55 y56 y57 y58 y59 y60 y61 y62 y63 y64 y65 y66 y67 y68 y69 y70 y71 y72 y73 y74 y75 y76 y77 y78 y79 y80 y81 y82 y83 y84 y85 y86 y87 y88 y89 y90 y91 y92 y93 y94 y95 y96 y97 y98 y99 y100 y101 y102 y103 y104 y105 y106 y107 y108 y109 y110 y111 y112 y113 y114 y115 y116 y117 y118 y119 y120 y121 y122 y123 y124 y125 y126 y127 y128 y129 y130 y131 y132 y133 y134 y135 y136 y137 y138 y139 y140 y141 y142 y143 y144 y145 y146 y147 y148 y149 ch2 Hn2
      rcases T.ph with hp | ⟨h1, h2, h3, h5, h6⟩
      · rw [hPH] at hp
        by_cases h2 : (G i).phase = 2
        · refine tail45_in2 V2 g gb cg vX vW n h4 X W G B A M _ b c i hi s t _ s' (G i).phase (G i).phase Hn2 (by omega) h2 (by omega) y1 y2 y3 y7 y11 y12 y13 y14 y15 y16 y17 y18 y19 y20 y21 y22 y23 y24 y25 y26 y27 y28 y29 y30 y31 y32 y33 y34 y35 y36 y37 y38 y39 y40 y41 y42 y43 y44 y45 y46 y47 y48 y49 y50 y51 y52 y53 y54 y55 y56 y57 y58 y59 y60 y61 y62 y63 y64 y65 y66 y67 y68 y69 y70 y71 y72 y73 y74 y75 y76 y77 y78 y79 y80 y81 y82 y83 y84 y85 y86 y87 y88 y89 y90 y91 y92 y93 y94 y95 y96 y97 y98 y99 y100 y101 y102 y103 y104 y105 y106 y107 y108 y109 y110 y111 y112 y113 y114 y115 y116 y117 y118 y119 y120 y121 y122 y123 y124 y125 y126 y127 y128 y129 y130 y131 y132 y133 y134 y135 y136 y137 y138 y139 y140 y141 y142 y143 y144 y145 y146 y147 y148 y149 _ ?_
          intro wx ch3 hr
          exact ⟨rfl, fin V V2 wx M q hM ch2 ch3, hr⟩
        · refine tail45_no V2 g gb cg vX vW n h4 X W G B A M _ b c i hi s t _ s' (G i).phase (G i).phase Hn2 (by omega) (by omega) (by omega) y1 y2 y3 y7 y11 y12 y13 y14 y15 y16 y17 y18 y19 y20 y21 y22 y23 y24 y25 y26 y27 y28 y29 y30 y31 y32 y33 y34 y35 y36 y37 y38 y39 y40 y41 y42 y43 y44 y45 y46 y47 y48 y49 y50 y51 y52 y53 y54 y55 y56 y57 y58 y59 y60 y61 y62 y63 y64 y65 y66 y67 y68 y69 y70 y71 y72 y73 y74 y75 y76 y77 y78 y79 y80 y81 y82 y83 y84 y85 y86 y87 y88 y89 y90 y91 y92 y93 y94 y95 y96 y97 y98 y99 y100 y101 y102 y103 y104 y105 y106 y107 y108 y109 y110 y111 y112 y113 y114 y115 y116 y117 y118 y119 y120 y121 y122 y123 y124 y125 y126 y127 y128 y129 y130 y131 y132 y133 y134 y135 y136 y137 y138 y139 y140 y141 y142 y143 y144 y145 y146 y147 y148 y149 _ ?_
          intro wx ch3 hr
          exact ⟨rfl, fin V V2 wx M q hM ch2 ch3, hr⟩
      · refine tail45_entry V2 g gb cg vX vW n h4 X W G B A M _ b c i hi s t _ s' (G i).phase (G i).phase Hn2 h2 (by omega) (by omega) h3 h5 h6 y1 y2 y3 y7 y11 y12 y13 y14 y15 y16 y17 y18 y19 y20 y21 y22 y23 y24 y25 y26 y27 y28 y29 y30 y31 y32 y33 y34 y35 y36 y37 y38 y39 y40 y41 y42 y43 y44 y45 y46 y47 y48 y49 y50 y51 y52 y53 y54 y55 y56 y57 y58 y59 y60 y61 y62 y63 y64 y65 y66 y67 y68 y69 y70 y71 y72 y73 y74 y75 y76 y77 y78 y79 y80 y81 y82 y83 y84 y85 y86 y87 y88 y89 y90 y91 y92 y93 y94 y95 y96 y97 y98 y99 y100 y101 y102 y103 y104 y105 y106 y107 y108 y109 y110 y111 y112 y113 y114 y115 y116 y117 y118 y119 y120 y121 y122 y123 y124 y125 y126 y127 y128 y129 y130 y131 y132 y133 y134 y135 y136 y137 y138 y139 y140 y141 y142 y143 y144 y145 y146 y147 y148 y149 _ ?_
        intro wx ch3 hr
        exact ⟨rfl, fin V V2 wx M q hM ch2 ch3, hr⟩
    · refine mid45_5 V g gb cg vX vW n X W G B A M b c i s t (G i) s' hck hc ha h1 hm h3 Hn v1 v2 v3 v7 v9 v10 v11 v12 v13 v14 v15 v16 v17 v18 v19 v20 v21 v22 v23 v24 v25 v26 v27 v28 v29 v30 v31 v32 v33 v34 v35 v36 v37 v38 v39 v40 v41 v42 v43 v44 v45 v46 v47 v48 v49 v50 v51 v52 v53 v54 v55 v56 v57 v58 v59 v60 v61 v62 v63 v64 v65 v66 v67 v68 v69 v70 v71 v72 v73 v74 v75 v76 v77 v78 v79 v80 v81 v82 v83 v84 v85 v86 v87 v88 v89 v90 v91 v92 v93 v94 v95 v96 v97 v98 v99 v100 v101 v102 v103 v104 v105 v106 v107 v108 v109 v110 v111 v112 v113 v114 v115 v116 v117 v118 v119 v120 v121 v122 v123 v124 v125 v126 v127 v128 v129 v130 v131 v132 v133 v134 v135 v136 v137 v138 v139 v140 v141 v142 v143 v144 v145 v146 v147 v148 v149 _ (hide ?_)
      intro V2 y1 y2 y3 y7 y11 y12 y13 y14 y15 y16 y17 y18 y19 y20 y21 y22 y23 y24 y25 y26 y27 y28 y29 y30 y31 y32 y33 y34 y35 y36 y37 y38 y39 y40 y41 y42 y43 y44 y45 y46 y47 y48 y49 y50 y51 y52 y53 y54 y55 y56 y57 y58 y59 y60 y61 y62 y63 y64 y65 y66 y67 y68 y69 y70 y71 y72 y73 y74 y75 y76 y77 y78 y79 y80 y81 y82 y83 y84 y85 y86 y87 y88 y89 y90 y91 y92 y93 y94 y95 y96 y97 y98 y99 y100 y101 y102 y103 y104 y105 y106 y107 y108 y109 y110 y111 y112 y113 y114 y115 y116 y117 y118 y119 y120 y121 y122 y123 y124 y125 y126 y127 y128 y129 y130 y131 y132 y133 y134 y135 y136 y137 y138 y139 y140 y141 y142 y143 y144 y145 y146 y147 y148 y149 ch2 Hn2
      rcases T.ph with hp | ⟨h1, h2, h3, h5, h6⟩
      · rw [hPH] at hp
        by_cases h2 : (G i).phase = 2
        · refine tail45_in2 V2 g gb cg vX vW n h4 X W G B A M _ b c i hi s t _ s' (G i).phase (G i).phase Hn2 (by omega) h2 (by omega) y1 y2 y3 y7 y11 y12 y13 y14 y15 y16 y17 y18 y19 y20 y21 y22 y23 y24 y25 y26 y27 y28 y29 y30 y31 y32 y33 y34 y35 y36 y37 y38 y39 y40 y41 y42 y43 y44 y45 y46 y47 y48 y49 y50 y51 y52 y53 y54 y55 y56 y57 y58 y59 y60 y61 y62 y63 y64 y65 y66 y67 y68 y69 y70 y71 y72 y73 y74 y75 y76 y77 y78 y79 y80 y81 y82 y83 y84 y85 y86 y87 y88 y89 y90 y91 y92 y93 y94 y95 y96 y97 y98 y99 y100 y101 y102 y103 y104 y105 y106 y107 y108 y109 y110 y111 y112 y113 y114 y115 y116 y117 y118 y119 y120 y121 y122 y123 y124 y125 y126 y127 y128 y129 y130 y131 y132 y133 y134 y135 y136 y137 y138 y139 y140 y141 y142 y143 y144 y145 y146 y147 y148 y149 _ ?_
          intro wx ch3 hr
          exact ⟨rfl, fin V V2 wx M q hM ch2 ch3, hr⟩
        · refine tail45_no V2 g gb cg vX vW n h4 X W G B A M _ b c i hi s t _ s' (G i).phase (G i).phase Hn2 (by omega) (by omega) (by omega) y1 y2 y3 y7 y11 y12 y13 y14 y15 y16 y17 y18 y19 y20 y21 y22 y23 y24 y25 y26 y27 y28 y29 y30 y31 y32 y33 y34 y35 y36 y37 y38 y39 y40 y41 y42 y43 y44 y45 y46 y47 y48 y49 y50 y51 y52 y53 y54 y55 y56 y57 y58 y59 y60 y61 y62 y63 y64 y65 y66 y67 y68 y69 y70 y71 y72 y73 y74 y75 y76 y77 y78 y79 y80 y81 y82 y83 y84 y85 y86 y87 y88 y89 y90 y91 y92 y93 y94 y95 y96 y97 y98 y99 y100 y101 y102 y103 y104 y105 y106 y107 y108 y109 y110 y111 y112 y113 y114 y115 y116 y117 y118 y119 y120 y121 y122 y123 y124 y125 y126 y127 y128 y129 y130 y131 y132 y133 y134 y135 y136 y137 y138 y139 y140 y141 y142 y143 y144 y145 y146 y147 y148 y149 _ ?_
          intro wx ch3 hr
          exact ⟨rfl, fin V V2 wx M q hM ch2 ch3, hr⟩
      · refine tail45_entry V2 g gb cg vX vW n h4 X W G B A M _ b c i hi s t _ s' (G i).phase (G i).phase Hn2 h2 (by omega) (by omega) h3 h5 h6 y1 y2 y3 y7 y11 y12 y13 y14 y15 y16 y17 y18 y19 y20 y21 y22 y23 y24 y25 y26 y27 y28 y29 y30 y31 y32 y33 y34 y35 y36 y37 y38 y39 y40 y41 y42 y43 y44 y45 y46 y47 y48 y49 y50 y51 y52 y53 y54 y55 y56 y57 y58 y59 y60 y61 y62 y63 y64 y65 y66 y67 y68 y69 y70 y71 y72 y73 y74 y75 y76 y77 y78 y79 y80 y81 y82 y83 y84 y85 y86 y87 y88 y89 y90 y91 y92 y93 y94 y95 y96 y97 y98 y99 y100 y101 y102 y103 y104 y105 y106 y107 y108 y109 y110 y111 y112 y113 y114 y115 y116 y117 y118 y119 y120 y121 y122 y123 y124 y125 y126 y127 y128 y129 y130 y131 y132 y133 y134 y135 y136 y137 y138 y139 y140 y141 y142 y143 y144 y145 y146 y147 y148 y149 _ ?_
        intro wx ch3 hr
        exact ⟨rfl, fin V V2 wx M q hM ch2 ch3, hr⟩
end Go.Proofs.Qxb6500367a
