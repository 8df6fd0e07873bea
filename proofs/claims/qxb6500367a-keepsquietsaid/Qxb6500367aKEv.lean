/-
  367 Keeps: Event. (gen7ev3.py)
-/
import Derived.Test.Qxb6500367aKEvH
namespace Go.Proofs.Qxb6500367a
open Go.RowKit Go.Qx
set_option linter.unusedSimpArgs false
set_option linter.unusedVariables false

theorem upS_self (S : Nat → Nd) (i : Nat) : upS S i (S i) = S := by
  funext j
  by_cases e : j = i
  · subst e; rw [upS_at]
  · rw [upS_ne e]
theorem sendAll_len (n i : Nat) (hi : i < n) (h4 : n ≤ 4) (k c : Int) : (sendAll n i k c).length = n - 1 := by
  unfold sendAll
  rw [List.length_map]
  have : ∀ n, n ≤ 4 → ∀ i, i < n → ((List.range n).filter (fun j => decide (j ≠ i))).length = n - 1 := by decide
  exact this n h4 i hi
theorem LI.mono {n : Nat} {S : Nat → Nd} {W : List M4} {C C' : Int} (L : LI n S W C) (h : C ≤ C') : LI n S W C' := by
  refine { L with ai := { L.ai with loc := fun i hi => { L.ai.loc i hi with c1 := by have := (L.ai.loc i hi).c1; omega }, msg := fun m hm => ?_ } }
  obtain ⟨h1, h2, h3, h4, h5, h6⟩ := L.ai.msg m hm
  exact ⟨h1, h2, h3, h4, by omega, h6⟩
theorem LI.clk {n : Nat} {S : Nat → Nd} {W : List M4} {C : Int} (L : LI n S W C) {i : Nat} (hi : i < n) : 0 ≤ (S i).clock ∧ (S i).clock ≤ C := ⟨(L.ai.loc i hi).c0, (L.ai.loc i hi).c1⟩
theorem LI.inv {n : Nat} {S : Nat → Nd} {W : List M4} {C : Int} (L : LI n S W C) : ∀ j, j < n → Inv (S j) := fun j hj => (L.nd j hj).1
theorem LI.acks {n : Nat} {S : Nat → Nd} {W : List M4} {C : Int} (L : LI n S W C) {i : Nat} (hi : i < n) : 0 ≤ (S i).acks ∧ (S i).acks ≤ 4 := by
  have h := (L.nd i hi).1
  rw [h.cnt]
  unfold cntP
  have := List.countP_le_length (p := fun b => b) (l := (S i).got)
  rw [h.gl] at this
  have := h.n4
  omega

/-- An error of Owed's is Step's: nothing has changed. -/
theorem owed_step {s : Nd} {n i : Nat} (hn : s.n = n) (hid : s.id = i) (hck : s.clock ≤ 1152921504606846976) (k b c : Int) (h : owedP n i s k b c ≠ 0) : stepP s k b c = ((0, 0, owedP n i s k b c), s) := by
  subst hn hid
  unfold stepP
  by_cases h1 : k < 1 ∨ 5 < k
  · have e1 : errP s k b c = 2 := by unfold errP; rw [if_pos h1]
    have e2 : owedP s.n s.id s k b c = 2 := by unfold owedP; rw [if_pos h1]
    rw [e1, e2, if_pos (by omega)]
  by_cases h2 : 3 ≤ k ∧ (b < 0 ∨ (s.n : Int) ≤ b ∨ b = s.id)
  · have e1 : errP s k b c = 3 := by unfold errP; rw [if_neg h1, if_pos h2]
    have e2 : owedP s.n s.id s k b c = 3 := by unfold owedP; rw [if_neg h1, if_pos h2]
    rw [e1, e2, if_pos (by omega)]
  by_cases h3 : 3 ≤ k ∧ (c < 1 ∨ 1152921504606846976 < c)
  · have e1 : errP s k b c = 4 := by unfold errP; rw [if_neg h1, if_neg h2, if_neg (by omega), if_pos h3]
    have e2 : owedP s.n s.id s k b c = 4 := by unfold owedP; rw [if_neg h1, if_neg h2, if_pos h3]
    rw [e1, e2, if_pos (by omega)]
  have e1 : errP s k b c = 0 := by unfold errP; rw [if_neg h1, if_neg h2, if_neg (by omega), if_neg h3]
  rw [e1, if_neg (by omega)]
  unfold owedP at h ⊢
  rw [if_neg h1, if_neg h2, if_neg h3] at h ⊢
  by_cases h4 : k = 1 ∧ s.phase ≠ 0
  · have e2 : evP s k b c = (5, s) := by unfold evP askP; rw [if_pos h4.1, if_neg h4.2]
    rw [e2, if_pos h4, if_pos (by simp)]
  · rw [if_neg h4] at h ⊢
    by_cases h5 : k = 2 ∧ s.phase ≠ 2
    · have e2 : evP s k b c = (5, s) := by unfold evP quitP; rw [if_neg (by omega), if_pos h5.1, if_neg h5.2]
      rw [e2, if_pos h5, if_pos (by simp)]
    · rw [if_neg h5] at h; exact absurd rfl h

set_option maxRecDepth 100000 in
theorem post_o (w : World) (v : Value) (W : List M4) (hw : Row w 82 4 v W.length (mcells W)) (m : Nat) (k a b c : Int) (hk : k = 9 ∨ k = 10) (S T : ByteArray) (cl : Int) :
    Calls Try.prog 32 #[v, .int .i64 m, .agg #[.int .i64 k, .int .i64 a, .int .i64 b, .int .i64 c, .string S, .string T], .int .i64 cl] w fun e w' => ∃ v', e = .returned v' ∧ PW w v w' v' W := by
  have hp1 : Hid (PW w v (w.alloc (.cells #[.int .i64 k, .int .i64 a, .int .i64 b, .int .i64 c, .string S, .string T] 44)) v W) := ⟨hw.quiet ((Chg.refl _ _).alloc _), (Chg.refl _ _).alloc _, fun g h => .inl h⟩
  clear hw
  rcases hk with rfl | rfl
  all_goals
    go_enter Try.func32, Try.ntmps32
    go_wp2
    go_ret
    exact ⟨v, rfl, unhide hp1⟩

/-- What Event answers: true; the state behind it. -/
def evPost (B : Nat) (w : World) (g : Nat) (vX vG : Value) (n : Nat) (P : Nat → Nat × Nat × Nat) (S' : Nat → Nd) (W' : List M4) (e : Ending) (w' : World) : Prop :=
  e = .returned (.bool true) ∧ (∃ vW', KS B w' g vX vW' vG n P S' S' W') ∧ Chg (fun k => B ≤ k) w w'

section
variable {B : Nat} {w : World} {g : Nat} {vX vW vG : Value} {n : Nat} {P : Nat → Nat × Nat × Nat} {S : Nat → Nd} {W : List M4} {C : Int}

/-- A taken event. -/
theorem evn_take (K : KS B w g vX vW vG n P S S W) {i : Nat} (hi : i < n) (hI : ∀ j, j < n → Inv (S j)) (hck : 0 ≤ (S i).clock ∧ (S i).clock ≤ 1152921504606846976) (k b c : Int) (s t : ByteArray) (qu br : Bool) (s' : Nd) (PH : Int)
    (hst : stepP (S i) k b c = ((s'.clock, s'.phase, 0), s')) (T : TakeOk n S i k b c s' PH) {W2 : List M4} {C2 : Int} (L2 : LI n (upS S i s') W2 C2) (hid : (S i).id = i)
    (hlen : W2.length = W.length + (if k = 1 ∨ k = 2 then n - 1 else if k = 3 then 1 else 0))
    (hpost : ∀ V', Row V' 82 4 vW W.length (mcells W) → Calls Try.prog 32 #[vW, .int .i64 n, .agg #[.int .i64 k, .int .i64 i, .int .i64 b, .int .i64 c, .string s, .string t], .int .i64 s'.clock] V' fun e w' => ∃ v', e = .returned v' ∧ PW V' vW w' v' W2) :
    Calls Try.prog 26 #[ptr g, .agg #[.int .i64 k, .int .i64 i, .int .i64 b, .int .i64 c, .string s, .string t], .bool qu, .bool br] w (evPost B w g vX vG n P (upS S i s') W2) := by
  have hk : 1 ≤ k ∧ k ≤ 5 := by
    rcases T.kd with h | h | h <;> omega
  have h4 := L2.n4
  have h1 := L2.n1
  have hans : ansP (S i) ⟨k, i, b, c, s, t⟩ = ⟨0, s'.clock, s'.phase, ⟨#[]⟩⟩ := by
    unfold ansP; simp only; rw [if_neg (by omega), if_neg (by omega), if_neg (by omega), hst]
  have hnx : nextP (S i) ⟨k, i, b, c, s, t⟩ = s' := by
    unfold nextP; simp only; rw [if_neg (by omega), if_neg (by omega), if_neg (by omega), hst]
  have hc2 : s'.clock ≠ (S i).clock := by
    rcases T.kd with h | h | h
    · omega
    · omega
    · rcases h.2.2.2.2 with h | h | h <;> omega
  have hI' := (L2.nd i hi)
  rw [upS_at] at hI'
  have hnew : str (showP s') ≠ str (showP (S i)) := fun e => by
    have e2 : showP s' = showP (S i) := by have := congrArg ByteArray.toList e; rw [str_toList, str_toList] at this; exact this
    have := show_clock (by rw [hI'.2.2, hid]) hI'.1.c0 hck.1 (by have := hI'.1.c1; omega) (by omega) e2
    exact hc2 this
  obtain ⟨gb, cg, hvG, _⟩ := K.gr.mind hi
  subst hvG
  refine ev_pre B w g vX vW _ n h4 P S W K i hi hI k b c s t qu br 0 s'.clock s'.phase ⟨#[]⟩ s' hans hnx ?_ (fun _ => rfl) _ ?_
  · intro V KV
    refine (held_take V g gb cg vX vW n h4 _ W S KV.gr i hi hck k b c s t s' PH T).mono ?_
    rintro e w' ⟨rfl, hc, hr⟩
    have hc' : Chg (fun k => (Value.slice (some ⟨gb, 0, none⟩) n cg).ownBlock = some k) V w' := hc.mono (fun z _ e => by subst e; rfl)
    exact ⟨rfl, KV.minds hc' hr, hc'.mono (fun z _ e => .inr (.inr (.inr e)))⟩
  · intro V Bo A ow rs v1 v3 v4 v6 v7 v13 v14 v15 v16 v17 v18 v19 v20 v21 v22 v23 v24 v25 v26 v27 v28 v29 v30 v31 v32 v33 v34 v35 v36 v37 v38 v39 v40 v41 v42 v43 v44 v45 v46 v47 v48 v49 v50 v51 v52 v53 v54 v55 v56 v57 v58 v59 v60 v61 v62 v63 v64 v65 v66 v67 v68 v69 v70 v71 v72 v73 v74 v75 v76 v77 v78 v79 v80 v81 v82 v83 v84 v85 v86 v87 v88 v89 v90 v91 v92 v93 v94 v95 v96 v97 v98 v99 v100 v101 v102 v103 v104 v105 v106 v107 v108 v109 v110 v111 v112 v113 v114 v115 v116 v117 v118 v119 v120 v121 v122 v123 v124 v125 v126 v127 v128 v129 v130 v131 v132 v133 v134 v135 v136 v137 v138 v139 v140 v141 hs ch EI
    have hp2 : ∀ V', Quiet V V' → Calls Try.prog 32 #[vW, .int .i64 n, .agg #[.int .i64 k, .int .i64 i, .int .i64 b, .int .i64 c, .string s, .string t], .int .i64 s'.clock] V' fun e w' => ∃ v', e = .returned v' ∧ PW V' vW w' v' W2 := fun V' q => hpost V' (EI.ks.gr.rW.quiet q)
    have htail : Hid (∀ (V2 : World) (vW2 : Value) (y1 y3 y4 y6 y7 y13 y14 y15 y16 y17 y18 y19 y20 y21 y22 y23 y24 y25 y26 y27 y28 y29 y30 y31 y32 y33 y34 y35 y36 y37 y38 y39 y40 y41 y42 y43 y44 y45 y46 y47 y48 y49 y50 y51 y52 y53 y54 y55 y56 y57 y58 y59 y60 y61 y62 y63 y64 y65 y66 y67 y68 y69 y70 y71 y72 y73 y74 y75 y76 y77 y78 y79 y80 y81 y82 y83 y84 y85 y86 y87 y88 y89 y90 y91 y92 y93 y94 y95 y96 y97 y98 y99 y100 y101 y102 y103 y104 y105 y106 y107 y108 y109 y110 y111 y112 y113 y114 y115 y116 y117 y118 y119 y120 y121 y122 y123 y124 y125 y126 y127 y128 y129 y130 y131 y132 y133 y134 y135 y136 y137 y138 y139 y140 y141 : Value), Chg (fun k => B ≤ k) V V2 → EvIn B V2 g vX vW2 (.slice (some ⟨gb, 0, none⟩) n cg) n P (upS S i s') (upS S i s') W2 Bo A k i b c s t 0 s'.clock s'.phase ⟨#[]⟩ → Code.wp Try.prog tail26 (bodyPost Try.prog Try.f26 (evPost B w g vX (.slice (some ⟨gb, 0, none⟩) n cg) n P (upS S i s') W2)) ⟨(Value.pointer (some ⟨g, 0, none⟩) :: y1 :: Value.bool qu :: y3 :: y4 :: Value.pointer (some ⟨Bo, 0, none⟩) :: y6 :: y7 :: Value.bool false :: Value.pointer (some ⟨(P i).1, 0, none⟩) :: Value.string ow :: Value.string rs :: Value.pointer (some ⟨A, 0, none⟩) :: y13 :: y14 :: y15 :: y16 :: y17 :: y18 :: y19 :: y20 :: y21 :: y22 :: y23 :: y24 :: y25 :: y26 :: y27 :: y28 :: y29 :: y30 :: y31 :: y32 :: y33 :: y34 :: y35 :: y36 :: y37 :: y38 :: y39 :: y40 :: y41 :: y42 :: y43 :: y44 :: y45 :: y46 :: y47 :: y48 :: y49 :: y50 :: y51 :: y52 :: y53 :: y54 :: y55 :: y56 :: y57 :: y58 :: y59 :: y60 :: y61 :: y62 :: y63 :: y64 :: y65 :: y66 :: y67 :: y68 :: y69 :: y70 :: y71 :: y72 :: y73 :: y74 :: y75 :: y76 :: y77 :: y78 :: y79 :: y80 :: y81 :: y82 :: y83 :: y84 :: y85 :: y86 :: y87 :: y88 :: y89 :: y90 :: y91 :: y92 :: y93 :: y94 :: y95 :: y96 :: y97 :: y98 :: y99 :: y100 :: y101 :: y102 :: y103 :: y104 :: y105 :: y106 :: y107 :: y108 :: y109 :: y110 :: y111 :: y112 :: y113 :: y114 :: y115 :: y116 :: y117 :: y118 :: y119 :: y120 :: y121 :: y122 :: y123 :: y124 :: y125 :: y126 :: y127 :: y128 :: y129 :: y130 :: y131 :: y132 :: y133 :: y134 :: y135 :: y136 :: y137 :: y138 :: y139 :: y140 :: y141 :: ([] : List Value)).toArray, []⟩ V2) := by
      refine hide ?_
      intro V2 vW2 y1 y3 y4 y6 y7 y13 y14 y15 y16 y17 y18 y19 y20 y21 y22 y23 y24 y25 y26 y27 y28 y29 y30 y31 y32 y33 y34 y35 y36 y37 y38 y39 y40 y41 y42 y43 y44 y45 y46 y47 y48 y49 y50 y51 y52 y53 y54 y55 y56 y57 y58 y59 y60 y61 y62 y63 y64 y65 y66 y67 y68 y69 y70 y71 y72 y73 y74 y75 y76 y77 y78 y79 y80 y81 y82 y83 y84 y85 y86 y87 y88 y89 y90 y91 y92 y93 y94 y95 y96 y97 y98 y99 y100 y101 y102 y103 y104 y105 y106 y107 y108 y109 y110 y111 y112 y113 y114 y115 y116 y117 y118 y119 y120 y121 y122 y123 y124 y125 y126 y127 y128 y129 y130 y131 y132 y133 y134 y135 y136 y137 y138 y139 y140 y141 ch2 EI2
      have fin : ∀ wx, Quiet V2 wx → evPost B w g vX (.slice (some ⟨gb, 0, none⟩) n cg) n P (upS S i s') W2 (.returned (.bool true)) wx := fun wx q => ⟨rfl, ⟨vW2, EI2.ks.quiet q⟩, (ch.trans ch2).trans (q.chg _)⟩
      cases qu with
      | true => exact evT_quiet B V2 g vX vW2 _ n h4 P _ W2 Bo A k b c i hi s t _ _ _ _ EI2 L2.inv (L2.ai.len36 h4) (fun j => L2.ai.slack i j) _ rfl ow rs y1 y3 y4 y6 y7 y13 y14 y15 y16 y17 y18 y19 y20 y21 y22 y23 y24 y25 y26 y27 y28 y29 y30 y31 y32 y33 y34 y35 y36 y37 y38 y39 y40 y41 y42 y43 y44 y45 y46 y47 y48 y49 y50 y51 y52 y53 y54 y55 y56 y57 y58 y59 y60 y61 y62 y63 y64 y65 y66 y67 y68 y69 y70 y71 y72 y73 y74 y75 y76 y77 y78 y79 y80 y81 y82 y83 y84 y85 y86 y87 y88 y89 y90 y91 y92 y93 y94 y95 y96 y97 y98 y99 y100 y101 y102 y103 y104 y105 y106 y107 y108 y109 y110 y111 y112 y113 y114 y115 y116 y117 y118 y119 y120 y121 y122 y123 y124 y125 y126 y127 y128 y129 y130 y131 y132 y133 y134 y135 y136 y137 y138 y139 y140 y141 _ fin
      | false =>
        obtain ⟨e1, e2⟩ := hs rfl
        refine evT_take B V2 g vX vW2 _ n h4 P _ W2 Bo A k b c i hi s t _ _ _ _ EI2 L2.inv (L2.ai.len36 h4) (fun j => L2.ai.slack i j) _ rfl ow rs rfl (by omega) (by omega) ?_ ?_ y1 y3 y4 y6 y7 y13 y14 y15 y16 y17 y18 y19 y20 y21 y22 y23 y24 y25 y26 y27 y28 y29 y30 y31 y32 y33 y34 y35 y36 y37 y38 y39 y40 y41 y42 y43 y44 y45 y46 y47 y48 y49 y50 y51 y52 y53 y54 y55 y56 y57 y58 y59 y60 y61 y62 y63 y64 y65 y66 y67 y68 y69 y70 y71 y72 y73 y74 y75 y76 y77 y78 y79 y80 y81 y82 y83 y84 y85 y86 y87 y88 y89 y90 y91 y92 y93 y94 y95 y96 y97 y98 y99 y100 y101 y102 y103 y104 y105 y106 y107 y108 y109 y110 y111 y112 y113 y114 y115 y116 y117 y118 y119 y120 y121 y122 y123 y124 y125 y126 y127 y128 y129 y130 y131 y132 y133 y134 y135 y136 y137 y138 y139 y140 y141 _ fin
        · rw [upS_at, e1]; exact hnew
        · rw [sight_up, e2]
    rcases (by omega : k = 1 ∨ k = 2 ∨ k = 3 ∨ (k ≠ 1 ∧ k ≠ 2 ∧ k ≠ 3)) with hk1 | hk1 | hk1 | ⟨hk1, hk2, hk3⟩
    · exact evM_1 B V g vX vW _ n h1 h4 P _ W Bo A k b c i s t 0 s'.clock s'.phase ⟨#[]⟩ EI hk1 rfl W2 (L2.ai.len36 h4) (by rw [hlen, if_pos (by omega)]) hp2 _ qu ow rs v1 v3 v4 v6 v7 v13 v14 v15 v16 v17 v18 v19 v20 v21 v22 v23 v24 v25 v26 v27 v28 v29 v30 v31 v32 v33 v34 v35 v36 v37 v38 v39 v40 v41 v42 v43 v44 v45 v46 v47 v48 v49 v50 v51 v52 v53 v54 v55 v56 v57 v58 v59 v60 v61 v62 v63 v64 v65 v66 v67 v68 v69 v70 v71 v72 v73 v74 v75 v76 v77 v78 v79 v80 v81 v82 v83 v84 v85 v86 v87 v88 v89 v90 v91 v92 v93 v94 v95 v96 v97 v98 v99 v100 v101 v102 v103 v104 v105 v106 v107 v108 v109 v110 v111 v112 v113 v114 v115 v116 v117 v118 v119 v120 v121 v122 v123 v124 v125 v126 v127 v128 v129 v130 v131 v132 v133 v134 v135 v136 v137 v138 v139 v140 v141 _ htail
    · exact evM_2 B V g vX vW _ n h1 h4 P _ W Bo A k b c i s t 0 s'.clock s'.phase ⟨#[]⟩ EI hk1 rfl W2 (L2.ai.len36 h4) (by rw [hlen, if_pos (by omega)]) hp2 _ qu ow rs v1 v3 v4 v6 v7 v13 v14 v15 v16 v17 v18 v19 v20 v21 v22 v23 v24 v25 v26 v27 v28 v29 v30 v31 v32 v33 v34 v35 v36 v37 v38 v39 v40 v41 v42 v43 v44 v45 v46 v47 v48 v49 v50 v51 v52 v53 v54 v55 v56 v57 v58 v59 v60 v61 v62 v63 v64 v65 v66 v67 v68 v69 v70 v71 v72 v73 v74 v75 v76 v77 v78 v79 v80 v81 v82 v83 v84 v85 v86 v87 v88 v89 v90 v91 v92 v93 v94 v95 v96 v97 v98 v99 v100 v101 v102 v103 v104 v105 v106 v107 v108 v109 v110 v111 v112 v113 v114 v115 v116 v117 v118 v119 v120 v121 v122 v123 v124 v125 v126 v127 v128 v129 v130 v131 v132 v133 v134 v135 v136 v137 v138 v139 v140 v141 _ htail
    · exact evM_3 B V g vX vW _ n h1 h4 P _ W Bo A k b c i s t 0 s'.clock s'.phase ⟨#[]⟩ EI hk1 rfl W2 (L2.ai.len36 h4) (by rw [hlen, if_neg (by omega), if_pos hk1]) hp2 _ qu ow rs v1 v3 v4 v6 v7 v13 v14 v15 v16 v17 v18 v19 v20 v21 v22 v23 v24 v25 v26 v27 v28 v29 v30 v31 v32 v33 v34 v35 v36 v37 v38 v39 v40 v41 v42 v43 v44 v45 v46 v47 v48 v49 v50 v51 v52 v53 v54 v55 v56 v57 v58 v59 v60 v61 v62 v63 v64 v65 v66 v67 v68 v69 v70 v71 v72 v73 v74 v75 v76 v77 v78 v79 v80 v81 v82 v83 v84 v85 v86 v87 v88 v89 v90 v91 v92 v93 v94 v95 v96 v97 v98 v99 v100 v101 v102 v103 v104 v105 v106 v107 v108 v109 v110 v111 v112 v113 v114 v115 v116 v117 v118 v119 v120 v121 v122 v123 v124 v125 v126 v127 v128 v129 v130 v131 v132 v133 v134 v135 v136 v137 v138 v139 v140 v141 _ htail
    · exact evM_o B V g vX vW _ n h1 h4 P _ W Bo A k b c i s t 0 s'.clock s'.phase ⟨#[]⟩ EI hk1 hk2 hk3 rfl W2 (L2.ai.len36 h4) (by rw [hlen, if_neg (by omega), if_neg hk3]) hp2 _ qu ow rs v1 v3 v4 v6 v7 v13 v14 v15 v16 v17 v18 v19 v20 v21 v22 v23 v24 v25 v26 v27 v28 v29 v30 v31 v32 v33 v34 v35 v36 v37 v38 v39 v40 v41 v42 v43 v44 v45 v46 v47 v48 v49 v50 v51 v52 v53 v54 v55 v56 v57 v58 v59 v60 v61 v62 v63 v64 v65 v66 v67 v68 v69 v70 v71 v72 v73 v74 v75 v76 v77 v78 v79 v80 v81 v82 v83 v84 v85 v86 v87 v88 v89 v90 v91 v92 v93 v94 v95 v96 v97 v98 v99 v100 v101 v102 v103 v104 v105 v106 v107 v108 v109 v110 v111 v112 v113 v114 v115 v116 v117 v118 v119 v120 v121 v122 v123 v124 v125 v126 v127 v128 v129 v130 v131 v132 v133 v134 v135 v136 v137 v138 v139 v140 v141 _ htail

/-- An error: nothing changes. -/
theorem evn_err (K : KS B w g vX vW vG n P S S W) (L : LI n S W C) (hC : C ≤ 1152921504606846000) {i : Nat} (hi : i < n) (k b c : Int) (s t : ByteArray) (qu : Bool) (hk : k ≠ 6 ∧ k ≠ 7 ∧ k ≠ 8 ∧ k ≠ 9 ∧ k ≠ 10) (hO : owedP n i (S i) k b c ≠ 0) :
    Calls Try.prog 26 #[ptr g, .agg #[.int .i64 k, .int .i64 i, .int .i64 b, .int .i64 c, .string s, .string t], .bool qu, .bool false] w (evPost B w g vX vG n P S W) := by
  have h4 := L.n4
  have h1 := L.n1
  have hck := L.clk hi
  have hst := owed_step (L.nd i hi).2.1 (L.nd i hi).2.2 (by omega) k b c hO
  obtain ⟨E, hE⟩ : ∃ E, owedP n i (S i) k b c = E := ⟨_, rfl⟩
  rw [hE] at hst hO
  have hans : ansP (S i) ⟨k, i, b, c, s, t⟩ = ⟨E, 0, 0, ⟨#[]⟩⟩ := by
    unfold ansP; simp only; rw [if_neg (by omega), if_neg (by omega), if_neg (by omega), hst]
  have hnx : nextP (S i) ⟨k, i, b, c, s, t⟩ = S i := by
    unfold nextP; simp only; rw [if_neg (by omega), if_neg (by omega), if_neg (by omega), hst]
  refine ev_pre B w g vX vW _ n h4 P S W K i hi L.inv k b c s t qu false E 0 0 ⟨#[]⟩ (S i) hans hnx ?_ (fun e => by cases e) _ ?_
  · intro V KV
    rw [upS_self] at KV ⊢
    refine (held_err V g vX vW vG n h4 _ W S KV.gr i hi (by omega) k b c s t E (by omega) (by omega) hE hO).mono ?_
    rintro e w' ⟨rfl, q⟩
    exact ⟨rfl, KV.quiet q, q.chg _⟩
  · intro V Bo A ow rs v1 v3 v4 v6 v7 v13 v14 v15 v16 v17 v18 v19 v20 v21 v22 v23 v24 v25 v26 v27 v28 v29 v30 v31 v32 v33 v34 v35 v36 v37 v38 v39 v40 v41 v42 v43 v44 v45 v46 v47 v48 v49 v50 v51 v52 v53 v54 v55 v56 v57 v58 v59 v60 v61 v62 v63 v64 v65 v66 v67 v68 v69 v70 v71 v72 v73 v74 v75 v76 v77 v78 v79 v80 v81 v82 v83 v84 v85 v86 v87 v88 v89 v90 v91 v92 v93 v94 v95 v96 v97 v98 v99 v100 v101 v102 v103 v104 v105 v106 v107 v108 v109 v110 v111 v112 v113 v114 v115 v116 v117 v118 v119 v120 v121 v122 v123 v124 v125 v126 v127 v128 v129 v130 v131 v132 v133 v134 v135 v136 v137 v138 v139 v140 v141 hs ch EI
    rw [upS_self] at EI
    refine evM_err B V g vX vW vG n h1 h4 P S W Bo A k b c i s t E 0 0 ⟨#[]⟩ EI hO _ qu ow rs v1 v3 v4 v6 v7 v13 v14 v15 v16 v17 v18 v19 v20 v21 v22 v23 v24 v25 v26 v27 v28 v29 v30 v31 v32 v33 v34 v35 v36 v37 v38 v39 v40 v41 v42 v43 v44 v45 v46 v47 v48 v49 v50 v51 v52 v53 v54 v55 v56 v57 v58 v59 v60 v61 v62 v63 v64 v65 v66 v67 v68 v69 v70 v71 v72 v73 v74 v75 v76 v77 v78 v79 v80 v81 v82 v83 v84 v85 v86 v87 v88 v89 v90 v91 v92 v93 v94 v95 v96 v97 v98 v99 v100 v101 v102 v103 v104 v105 v106 v107 v108 v109 v110 v111 v112 v113 v114 v115 v116 v117 v118 v119 v120 v121 v122 v123 v124 v125 v126 v127 v128 v129 v130 v131 v132 v133 v134 v135 v136 v137 v138 v139 v140 v141 _ (hide ?_)
    intro V2 vW2 y1 y3 y4 y6 y7 y13 y14 y15 y16 y17 y18 y19 y20 y21 y22 y23 y24 y25 y26 y27 y28 y29 y30 y31 y32 y33 y34 y35 y36 y37 y38 y39 y40 y41 y42 y43 y44 y45 y46 y47 y48 y49 y50 y51 y52 y53 y54 y55 y56 y57 y58 y59 y60 y61 y62 y63 y64 y65 y66 y67 y68 y69 y70 y71 y72 y73 y74 y75 y76 y77 y78 y79 y80 y81 y82 y83 y84 y85 y86 y87 y88 y89 y90 y91 y92 y93 y94 y95 y96 y97 y98 y99 y100 y101 y102 y103 y104 y105 y106 y107 y108 y109 y110 y111 y112 y113 y114 y115 y116 y117 y118 y119 y120 y121 y122 y123 y124 y125 y126 y127 y128 y129 y130 y131 y132 y133 y134 y135 y136 y137 y138 y139 y140 y141 ch2 EI2
    have fin : ∀ wx, Quiet V2 wx → evPost B w g vX vG n P S W (.returned (.bool true)) wx := fun wx q => ⟨rfl, ⟨vW2, EI2.ks.quiet q⟩, (ch.trans ch2).trans (q.chg _)⟩
    cases qu with
    | true => exact evT_quiet B V2 g vX vW2 _ n h4 P _ W Bo A k b c i hi s t _ _ _ _ EI2 L.inv (L.ai.len36 h4) (fun j => L.ai.slack i j) _ rfl ow rs y1 y3 y4 y6 y7 y13 y14 y15 y16 y17 y18 y19 y20 y21 y22 y23 y24 y25 y26 y27 y28 y29 y30 y31 y32 y33 y34 y35 y36 y37 y38 y39 y40 y41 y42 y43 y44 y45 y46 y47 y48 y49 y50 y51 y52 y53 y54 y55 y56 y57 y58 y59 y60 y61 y62 y63 y64 y65 y66 y67 y68 y69 y70 y71 y72 y73 y74 y75 y76 y77 y78 y79 y80 y81 y82 y83 y84 y85 y86 y87 y88 y89 y90 y91 y92 y93 y94 y95 y96 y97 y98 y99 y100 y101 y102 y103 y104 y105 y106 y107 y108 y109 y110 y111 y112 y113 y114 y115 y116 y117 y118 y119 y120 y121 y122 y123 y124 y125 y126 y127 y128 y129 y130 y131 y132 y133 y134 y135 y136 y137 y138 y139 y140 y141 _ fin
    | false =>
      obtain ⟨e1, e2⟩ := hs rfl
      exact evT_err B V2 g vX vW2 _ n h4 P _ W Bo A k b c i hi s t _ _ _ _ EI2 L.inv (L.ai.len36 h4) (fun j => L.ai.slack i j) _ rfl ow rs hO (by omega) (by omega) e1.symm e2.symm y1 y3 y4 y6 y7 y13 y14 y15 y16 y17 y18 y19 y20 y21 y22 y23 y24 y25 y26 y27 y28 y29 y30 y31 y32 y33 y34 y35 y36 y37 y38 y39 y40 y41 y42 y43 y44 y45 y46 y47 y48 y49 y50 y51 y52 y53 y54 y55 y56 y57 y58 y59 y60 y61 y62 y63 y64 y65 y66 y67 y68 y69 y70 y71 y72 y73 y74 y75 y76 y77 y78 y79 y80 y81 y82 y83 y84 y85 y86 y87 y88 y89 y90 y91 y92 y93 y94 y95 y96 y97 y98 y99 y100 y101 y102 y103 y104 y105 y106 y107 y108 y109 y110 y111 y112 y113 y114 y115 y116 y117 y118 y119 y120 y121 y122 y123 y124 y125 y126 y127 y128 y129 y130 y131 y132 y133 y134 y135 y136 y137 y138 y139 y140 y141 _ fin

/-- Show. -/
theorem evn_show (K : KS B w g vX vW vG n P S S W) (L : LI n S W C) {i : Nat} (hi : i < n) (b c : Int) (s t : ByteArray) (qu : Bool) :
    Calls Try.prog 26 #[ptr g, .agg #[.int .i64 9, .int .i64 i, .int .i64 b, .int .i64 c, .string s, .string t], .bool qu, .bool false] w (evPost B w g vX vG n P S W) := by
  have h4 := L.n4
  have h1 := L.n1
  have hans : ansP (S i) ⟨9, i, b, c, s, t⟩ = ⟨0, 0, 0, (str (showP (S i)))⟩ := by
    unfold ansP; simp
  have hnx : nextP (S i) ⟨9, i, b, c, s, t⟩ = S i := by
    unfold nextP; simp
  refine ev_pre B w g vX vW _ n h4 P S W K i hi L.inv 9 b c s t qu false 0 0 0 (str (showP (S i))) (S i) hans hnx ?_ (fun e => by cases e) _ ?_
  · intro V KV
    rw [upS_self] at KV ⊢
    refine (held_show V g 9 i b c s t rfl _).mono ?_
    rintro e w' ⟨rfl, q⟩
    exact ⟨rfl, KV.quiet q, q.chg _⟩
  · intro V Bo A ow rs v1 v3 v4 v6 v7 v13 v14 v15 v16 v17 v18 v19 v20 v21 v22 v23 v24 v25 v26 v27 v28 v29 v30 v31 v32 v33 v34 v35 v36 v37 v38 v39 v40 v41 v42 v43 v44 v45 v46 v47 v48 v49 v50 v51 v52 v53 v54 v55 v56 v57 v58 v59 v60 v61 v62 v63 v64 v65 v66 v67 v68 v69 v70 v71 v72 v73 v74 v75 v76 v77 v78 v79 v80 v81 v82 v83 v84 v85 v86 v87 v88 v89 v90 v91 v92 v93 v94 v95 v96 v97 v98 v99 v100 v101 v102 v103 v104 v105 v106 v107 v108 v109 v110 v111 v112 v113 v114 v115 v116 v117 v118 v119 v120 v121 v122 v123 v124 v125 v126 v127 v128 v129 v130 v131 v132 v133 v134 v135 v136 v137 v138 v139 v140 v141 hs ch EI
    rw [upS_self] at EI
    refine evM_o B V g vX vW vG n h1 h4 P S W Bo A 9 b c i s t 0 0 0 (str (showP (S i))) EI (by omega) (by omega) (by omega) rfl W (L.ai.len36 h4) (by omega) (fun V' q => post_o V' vW W (EI.ks.gr.rW.quiet q) n 9 i b c (by omega) s t 0) _ qu ow rs v1 v3 v4 v6 v7 v13 v14 v15 v16 v17 v18 v19 v20 v21 v22 v23 v24 v25 v26 v27 v28 v29 v30 v31 v32 v33 v34 v35 v36 v37 v38 v39 v40 v41 v42 v43 v44 v45 v46 v47 v48 v49 v50 v51 v52 v53 v54 v55 v56 v57 v58 v59 v60 v61 v62 v63 v64 v65 v66 v67 v68 v69 v70 v71 v72 v73 v74 v75 v76 v77 v78 v79 v80 v81 v82 v83 v84 v85 v86 v87 v88 v89 v90 v91 v92 v93 v94 v95 v96 v97 v98 v99 v100 v101 v102 v103 v104 v105 v106 v107 v108 v109 v110 v111 v112 v113 v114 v115 v116 v117 v118 v119 v120 v121 v122 v123 v124 v125 v126 v127 v128 v129 v130 v131 v132 v133 v134 v135 v136 v137 v138 v139 v140 v141 _ (hide ?_)
    intro V2 vW2 y1 y3 y4 y6 y7 y13 y14 y15 y16 y17 y18 y19 y20 y21 y22 y23 y24 y25 y26 y27 y28 y29 y30 y31 y32 y33 y34 y35 y36 y37 y38 y39 y40 y41 y42 y43 y44 y45 y46 y47 y48 y49 y50 y51 y52 y53 y54 y55 y56 y57 y58 y59 y60 y61 y62 y63 y64 y65 y66 y67 y68 y69 y70 y71 y72 y73 y74 y75 y76 y77 y78 y79 y80 y81 y82 y83 y84 y85 y86 y87 y88 y89 y90 y91 y92 y93 y94 y95 y96 y97 y98 y99 y100 y101 y102 y103 y104 y105 y106 y107 y108 y109 y110 y111 y112 y113 y114 y115 y116 y117 y118 y119 y120 y121 y122 y123 y124 y125 y126 y127 y128 y129 y130 y131 y132 y133 y134 y135 y136 y137 y138 y139 y140 y141 ch2 EI2
    have fin : ∀ wx, Quiet V2 wx → evPost B w g vX vG n P S W (.returned (.bool true)) wx := fun wx q => ⟨rfl, ⟨vW2, EI2.ks.quiet q⟩, (ch.trans ch2).trans (q.chg _)⟩
    cases qu with
    | true => exact evT_quiet B V2 g vX vW2 _ n h4 P _ W Bo A 9 b c i hi s t _ _ _ _ EI2 L.inv (L.ai.len36 h4) (fun j => L.ai.slack i j) _ rfl ow rs y1 y3 y4 y6 y7 y13 y14 y15 y16 y17 y18 y19 y20 y21 y22 y23 y24 y25 y26 y27 y28 y29 y30 y31 y32 y33 y34 y35 y36 y37 y38 y39 y40 y41 y42 y43 y44 y45 y46 y47 y48 y49 y50 y51 y52 y53 y54 y55 y56 y57 y58 y59 y60 y61 y62 y63 y64 y65 y66 y67 y68 y69 y70 y71 y72 y73 y74 y75 y76 y77 y78 y79 y80 y81 y82 y83 y84 y85 y86 y87 y88 y89 y90 y91 y92 y93 y94 y95 y96 y97 y98 y99 y100 y101 y102 y103 y104 y105 y106 y107 y108 y109 y110 y111 y112 y113 y114 y115 y116 y117 y118 y119 y120 y121 y122 y123 y124 y125 y126 y127 y128 y129 y130 y131 y132 y133 y134 y135 y136 y137 y138 y139 y140 y141 _ fin
    | false =>
      obtain ⟨e1, e2⟩ := hs rfl
      exact evT_show B V2 g vX vW2 _ n h4 P _ W Bo A 9 b c i hi s t _ _ _ _ EI2 L.inv (L.ai.len36 h4) (fun j => L.ai.slack i j) _ rfl ow rs rfl rfl e1 e1.symm e2.symm y1 y3 y4 y6 y7 y13 y14 y15 y16 y17 y18 y19 y20 y21 y22 y23 y24 y25 y26 y27 y28 y29 y30 y31 y32 y33 y34 y35 y36 y37 y38 y39 y40 y41 y42 y43 y44 y45 y46 y47 y48 y49 y50 y51 y52 y53 y54 y55 y56 y57 y58 y59 y60 y61 y62 y63 y64 y65 y66 y67 y68 y69 y70 y71 y72 y73 y74 y75 y76 y77 y78 y79 y80 y81 y82 y83 y84 y85 y86 y87 y88 y89 y90 y91 y92 y93 y94 y95 y96 y97 y98 y99 y100 y101 y102 y103 y104 y105 y106 y107 y108 y109 y110 y111 y112 y113 y114 y115 y116 y117 y118 y119 y120 y121 y122 y123 y124 y125 y126 y127 y128 y129 y130 y131 y132 y133 y134 y135 y136 y137 y138 y139 y140 y141 _ fin

/-- Check. -/
theorem evn_check (K : KS B w g vX vW vG n P S S W) (L : LI n S W C) {i : Nat} (hi : i < n) (b c : Int) (s t : ByteArray) (qu : Bool) :
    Calls Try.prog 26 #[ptr g, .agg #[.int .i64 10, .int .i64 i, .int .i64 b, .int .i64 c, .string s, .string t], .bool qu, .bool false] w (evPost B w g vX vG n P S W) := by
  have h4 := L.n4
  have h1 := L.n1
  have hans : ansP (S i) ⟨10, i, b, c, s, t⟩ = ⟨0, 1, 0, ⟨#[]⟩⟩ := by
    unfold ansP; simp
  have hnx : nextP (S i) ⟨10, i, b, c, s, t⟩ = S i := by
    unfold nextP; simp
  refine ev_pre B w g vX vW _ n h4 P S W K i hi L.inv 10 b c s t qu false 0 1 0 ⟨#[]⟩ (S i) hans hnx ?_ (fun e => by cases e) _ ?_
  · intro V KV
    rw [upS_self] at KV ⊢
    refine (held_check V g 10 i b c s t rfl).mono ?_
    rintro e w' ⟨rfl, q⟩
    exact ⟨rfl, KV.quiet q, q.chg _⟩
  · intro V Bo A ow rs v1 v3 v4 v6 v7 v13 v14 v15 v16 v17 v18 v19 v20 v21 v22 v23 v24 v25 v26 v27 v28 v29 v30 v31 v32 v33 v34 v35 v36 v37 v38 v39 v40 v41 v42 v43 v44 v45 v46 v47 v48 v49 v50 v51 v52 v53 v54 v55 v56 v57 v58 v59 v60 v61 v62 v63 v64 v65 v66 v67 v68 v69 v70 v71 v72 v73 v74 v75 v76 v77 v78 v79 v80 v81 v82 v83 v84 v85 v86 v87 v88 v89 v90 v91 v92 v93 v94 v95 v96 v97 v98 v99 v100 v101 v102 v103 v104 v105 v106 v107 v108 v109 v110 v111 v112 v113 v114 v115 v116 v117 v118 v119 v120 v121 v122 v123 v124 v125 v126 v127 v128 v129 v130 v131 v132 v133 v134 v135 v136 v137 v138 v139 v140 v141 hs ch EI
    rw [upS_self] at EI
    refine evM_o B V g vX vW vG n h1 h4 P S W Bo A 10 b c i s t 0 1 0 ⟨#[]⟩ EI (by omega) (by omega) (by omega) rfl W (L.ai.len36 h4) (by omega) (fun V' q => post_o V' vW W (EI.ks.gr.rW.quiet q) n 10 i b c (by omega) s t 1) _ qu ow rs v1 v3 v4 v6 v7 v13 v14 v15 v16 v17 v18 v19 v20 v21 v22 v23 v24 v25 v26 v27 v28 v29 v30 v31 v32 v33 v34 v35 v36 v37 v38 v39 v40 v41 v42 v43 v44 v45 v46 v47 v48 v49 v50 v51 v52 v53 v54 v55 v56 v57 v58 v59 v60 v61 v62 v63 v64 v65 v66 v67 v68 v69 v70 v71 v72 v73 v74 v75 v76 v77 v78 v79 v80 v81 v82 v83 v84 v85 v86 v87 v88 v89 v90 v91 v92 v93 v94 v95 v96 v97 v98 v99 v100 v101 v102 v103 v104 v105 v106 v107 v108 v109 v110 v111 v112 v113 v114 v115 v116 v117 v118 v119 v120 v121 v122 v123 v124 v125 v126 v127 v128 v129 v130 v131 v132 v133 v134 v135 v136 v137 v138 v139 v140 v141 _ (hide ?_)
    intro V2 vW2 y1 y3 y4 y6 y7 y13 y14 y15 y16 y17 y18 y19 y20 y21 y22 y23 y24 y25 y26 y27 y28 y29 y30 y31 y32 y33 y34 y35 y36 y37 y38 y39 y40 y41 y42 y43 y44 y45 y46 y47 y48 y49 y50 y51 y52 y53 y54 y55 y56 y57 y58 y59 y60 y61 y62 y63 y64 y65 y66 y67 y68 y69 y70 y71 y72 y73 y74 y75 y76 y77 y78 y79 y80 y81 y82 y83 y84 y85 y86 y87 y88 y89 y90 y91 y92 y93 y94 y95 y96 y97 y98 y99 y100 y101 y102 y103 y104 y105 y106 y107 y108 y109 y110 y111 y112 y113 y114 y115 y116 y117 y118 y119 y120 y121 y122 y123 y124 y125 y126 y127 y128 y129 y130 y131 y132 y133 y134 y135 y136 y137 y138 y139 y140 y141 ch2 EI2
    have fin : ∀ wx, Quiet V2 wx → evPost B w g vX vG n P S W (.returned (.bool true)) wx := fun wx q => ⟨rfl, ⟨vW2, EI2.ks.quiet q⟩, (ch.trans ch2).trans (q.chg _)⟩
    cases qu with
    | true => exact evT_quiet B V2 g vX vW2 _ n h4 P _ W Bo A 10 b c i hi s t _ _ _ _ EI2 L.inv (L.ai.len36 h4) (fun j => L.ai.slack i j) _ rfl ow rs y1 y3 y4 y6 y7 y13 y14 y15 y16 y17 y18 y19 y20 y21 y22 y23 y24 y25 y26 y27 y28 y29 y30 y31 y32 y33 y34 y35 y36 y37 y38 y39 y40 y41 y42 y43 y44 y45 y46 y47 y48 y49 y50 y51 y52 y53 y54 y55 y56 y57 y58 y59 y60 y61 y62 y63 y64 y65 y66 y67 y68 y69 y70 y71 y72 y73 y74 y75 y76 y77 y78 y79 y80 y81 y82 y83 y84 y85 y86 y87 y88 y89 y90 y91 y92 y93 y94 y95 y96 y97 y98 y99 y100 y101 y102 y103 y104 y105 y106 y107 y108 y109 y110 y111 y112 y113 y114 y115 y116 y117 y118 y119 y120 y121 y122 y123 y124 y125 y126 y127 y128 y129 y130 y131 y132 y133 y134 y135 y136 y137 y138 y139 y140 y141 _ fin
    | false =>
      obtain ⟨e1, e2⟩ := hs rfl
      exact evT_check B V2 g vX vW2 _ n h4 P _ W Bo A 10 b c i hi s t _ _ _ _ EI2 L.inv (L.ai.len36 h4) (fun j => L.ai.slack i j) _ rfl ow rs rfl rfl e1.symm e2.symm y1 y3 y4 y6 y7 y13 y14 y15 y16 y17 y18 y19 y20 y21 y22 y23 y24 y25 y26 y27 y28 y29 y30 y31 y32 y33 y34 y35 y36 y37 y38 y39 y40 y41 y42 y43 y44 y45 y46 y47 y48 y49 y50 y51 y52 y53 y54 y55 y56 y57 y58 y59 y60 y61 y62 y63 y64 y65 y66 y67 y68 y69 y70 y71 y72 y73 y74 y75 y76 y77 y78 y79 y80 y81 y82 y83 y84 y85 y86 y87 y88 y89 y90 y91 y92 y93 y94 y95 y96 y97 y98 y99 y100 y101 y102 y103 y104 y105 y106 y107 y108 y109 y110 y111 y112 y113 y114 y115 y116 y117 y118 y119 y120 y121 y122 y123 y124 y125 y126 y127 y128 y129 y130 y131 y132 y133 y134 y135 y136 y137 y138 y139 y140 y141 _ fin
end
end Go.Proofs.Qxb6500367a
