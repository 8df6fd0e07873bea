/-
  367 Keeps: Event's head. (gen7evh.py)
-/
import Derived.Test.Qxb6500367aKEvT
namespace Go.Proofs.Qxb6500367a
open Go.RowKit Go.Qx
set_option linter.unusedSimpArgs false
set_option linter.unusedVariables false

theorem KS.olt {B : Nat} {w : World} {g : Nat} {vX vW vG : Value} {n : Nat} {P : Nat → Nat × Nat × Nat} {G S : Nat → Nd} {W : List M4} (h : KS B w g vX vW vG n P G S W) {k : Nat} (hk : OW g vX vW vG n P k) : k < w.heap.size := by
  rcases hk with hk | ⟨i, hi, hk⟩
  · exact h.gr.lts hk
  · obtain ⟨z1, z2, z3⟩ := (h.rep i hi).lts
    rcases hk with e | e | e <;> omega

set_option maxHeartbeats 8000000 in
set_option maxRecDepth 100000 in
theorem ev_pre (B : Nat) (w : World) (g : Nat) (vX vW vG : Value) (n : Nat) (h4 : n ≤ 4) (P : Nat → Nat × Nat × Nat) (S : Nat → Nd) (W : List M4) (K : KS B w g vX vW vG n P S S W) (i : Nat) (hi : i < n) (hI : ∀ j, j < n → Inv (S j))
    (k b c : Int) (s t : ByteArray) (qu br : Bool) (E N Mm : Int) (R : ByteArray) (s2 : Nd) (hans : ansP (S i) ⟨k, i, b, c, s, t⟩ = ⟨E, N, Mm, R⟩) (hnx : nextP (S i) ⟨k, i, b, c, s, t⟩ = s2)
    (hheld : ∀ V, KS B V g vX vW vG n P S (upS S i s2) W → Calls Try.prog 45 #[ptr g, .agg #[.int .i64 k, .int .i64 i, .int .i64 b, .int .i64 c, .string s, .string t], .agg #[.int .i64 E, .int .i64 N, .int .i64 Mm, .string R]] V fun e w' => e = .returned (.bool true) ∧ KS B w' g vX vW vG n P (upS S i s2) (upS S i s2) W ∧ Chg (fun k => ownR g vX vW vG k) V w')
    (hbr : br = true → E = 0) (Q : Ending → World → Prop)
    (hgood : ∀ (V : World) (Bo A : Nat) (ow rs : ByteArray) (u1 u3 u4 u6 u7 u13 u14 u15 u16 u17 u18 u19 u20 u21 u22 u23 u24 u25 u26 u27 u28 u29 u30 u31 u32 u33 u34 u35 u36 u37 u38 u39 u40 u41 u42 u43 u44 u45 u46 u47 u48 u49 u50 u51 u52 u53 u54 u55 u56 u57 u58 u59 u60 u61 u62 u63 u64 u65 u66 u67 u68 u69 u70 u71 u72 u73 u74 u75 u76 u77 u78 u79 u80 u81 u82 u83 u84 u85 u86 u87 u88 u89 u90 u91 u92 u93 u94 u95 u96 u97 u98 u99 u100 u101 u102 u103 u104 u105 u106 u107 u108 u109 u110 u111 u112 u113 u114 u115 u116 u117 u118 u119 u120 u121 u122 u123 u124 u125 u126 u127 u128 u129 u130 u131 u132 u133 u134 u135 u136 u137 u138 u139 u140 u141 : Value), (qu = false → ow = str (showP (S i)) ∧ rs = str (sightP S i n)) → Chg (fun k => B ≤ k) w V → EvIn B V g vX vW vG n P (upS S i s2) (upS S i s2) W Bo A k i b c s t E N Mm R → Code.wp Try.prog mid26 (bodyPost Try.prog Try.f26 Q) ⟨(Value.pointer (some ⟨g, 0, none⟩) :: u1 :: Value.bool qu :: u3 :: u4 :: Value.pointer (some ⟨Bo, 0, none⟩) :: u6 :: u7 :: Value.bool false :: Value.pointer (some ⟨(P i).1, 0, none⟩) :: Value.string ow :: Value.string rs :: Value.pointer (some ⟨A, 0, none⟩) :: u13 :: u14 :: u15 :: u16 :: u17 :: u18 :: u19 :: u20 :: u21 :: u22 :: u23 :: u24 :: u25 :: u26 :: u27 :: u28 :: u29 :: u30 :: u31 :: u32 :: u33 :: u34 :: u35 :: u36 :: u37 :: u38 :: u39 :: u40 :: u41 :: u42 :: u43 :: u44 :: u45 :: u46 :: u47 :: u48 :: u49 :: u50 :: u51 :: u52 :: u53 :: u54 :: u55 :: u56 :: u57 :: u58 :: u59 :: u60 :: u61 :: u62 :: u63 :: u64 :: u65 :: u66 :: u67 :: u68 :: u69 :: u70 :: u71 :: u72 :: u73 :: u74 :: u75 :: u76 :: u77 :: u78 :: u79 :: u80 :: u81 :: u82 :: u83 :: u84 :: u85 :: u86 :: u87 :: u88 :: u89 :: u90 :: u91 :: u92 :: u93 :: u94 :: u95 :: u96 :: u97 :: u98 :: u99 :: u100 :: u101 :: u102 :: u103 :: u104 :: u105 :: u106 :: u107 :: u108 :: u109 :: u110 :: u111 :: u112 :: u113 :: u114 :: u115 :: u116 :: u117 :: u118 :: u119 :: u120 :: u121 :: u122 :: u123 :: u124 :: u125 :: u126 :: u127 :: u128 :: u129 :: u130 :: u131 :: u132 :: u133 :: u134 :: u135 :: u136 :: u137 :: u138 :: u139 :: u140 :: u141 :: ([] : List Value)).toArray, []⟩ V) :
    Calls Try.prog 26 #[ptr g, .agg #[.int .i64 k, .int .i64 i, .int .i64 b, .int .i64 c, .string s, .string t], .bool qu, .bool br] w Q := by
  obtain ⟨xb, cx, rfl, x0⟩ := K.ptrAt hi
  obtain ⟨V0, hV0⟩ : ∃ V0, w.alloc (.cells #[.int .i64 k, .int .i64 i, .int .i64 b, .int .i64 c, .string s, .string t] 44) = V0 := ⟨_, rfl⟩
  have q0 : Quiet w V0 := by rw [← hV0]; exact (Chg.refl _ _).alloc _
  have bo : Blk V0 w.heap.size 44 [.int .i64 k, .int .i64 i, .int .i64 b, .int .i64 c, .string s, .string t] := by rw [← hV0]; exact Blk.new w 44 _
  have nBo : ¬ OW g (.slice (some ⟨xb, 0, none⟩) n cx) vW vG n P w.heap.size := fun h => by have := K.olt h; omega
  obtain ⟨Bo, hBo⟩ : ∃ Bo, w.heap.size = Bo := ⟨_, rfl⟩
  rw [hBo] at bo nBo
  have K0 := K.quiet q0
  have c0 : V0.cell? ⟨g, 0, none⟩ = some (.slice (some ⟨xb, 0, none⟩) n cx) := K0.gr.blk.cell 0
  have hgl := K0.gr.blk.lt
  have o1 : V0.cell? ⟨Bo, 1, none⟩ = some (.int .i64 i) := bo.cell 1
  have x1 := q0.cell x0
  have hxl : xb < V0.heap.size := World.block_lt_of_cell? _ _ x1
  have i0 : (0 : Int) ≤ (i : Int) := by omega
  have i1 : (i : Int) < (n : Int) := by omega
  have hall := hide (And.intro q0 (And.intro bo (And.intro nBo K0)))
  have hltH : Hid (∀ z, OW g (.slice (some ⟨xb, 0, none⟩) n cx) vW vG n P z → z < w.heap.size) := fun z hz => K.olt hz
  have hIH := hide hI
  have hansH := hide hans
  have hnxH := hide hnx
  have hheldH := hide hheld
  have hgoodH := hide hgood
  have hbrH := hide hbr
  unfold ptr at x1
  clear K K0 q0 bo nBo hI hans hnx hheld hgood hbr x0
  unfold ptr at hheldH ⊢
  go_enter Try.func26, Try.ntmps26
  go_wp2
  clear hV0 hBo
  go_big_quiet (fail)
  obtain ⟨q0, bo, nBo, K0⟩ := unhide hall
  have qd : Quiet V0 (V0.drewN nq) := (Chg.refl _ _).drewN nq
  have bo1 := hide (qd.blk bo)
  have K1 := hide (K0.quiet qd)
  have Q1 := hide (Quiet.trans q0 qd)
  have nBoH := hide nBo
  clear hall q0 bo nBo K0 c0 hgl o1 x1 hxl i0 i1
  generalize V0.drewN nq = V1 at *
  clear qd nq
  cases qu with
  | true =>
    have hsz : Hid (Bo < V1.heap.size) := (unhide bo1).lt
    have bo2 := bo1
    have K2 := K1
    have Q2 := Q1
    clear bo1 K1 Q1
    have hdo := do_any V1 _ _ _ (S i) ((unhide K2).rep i hi) (unhide hIH i hi) ⟨k, i, b, c, s, t⟩
    rw [unhide hansH, unhide hnxH] at hdo
    unfold opv ansv ptr at hdo
    dsimp only at hdo
    have hdoH := hide hdo
    clear hdo
    have o0 : V1.cell? ⟨Bo, 0, none⟩ = some (.int .i64 k) := (unhide bo2).cell 0
    have o1 : V1.cell? ⟨Bo, 1, none⟩ = some (.int .i64 i) := (unhide bo2).cell 1
    have o2 : V1.cell? ⟨Bo, 2, none⟩ = some (.int .i64 b) := (unhide bo2).cell 2
    have o3 : V1.cell? ⟨Bo, 3, none⟩ = some (.int .i64 c) := (unhide bo2).cell 3
    have o4 : V1.cell? ⟨Bo, 4, none⟩ = some (.string s) := (unhide bo2).cell 4
    have o5 : V1.cell? ⟨Bo, 5, none⟩ = some (.string t) := (unhide bo2).cell 5
    go_wp2_with fail
    refine (unhide hdoH).mono ?_
    clear hdoH o0 o1 o2 o3 o4 o5
    rintro e U1 ⟨rfl, ch1, r1⟩
    have KA := (unhide K2).node hi ch1 r1
    have boA := ch1.blk (unhide bo2) (fun h => unhide nBoH (.inr ⟨i, hi, h⟩))
    have chA : Chg (fun k => B ≤ k) w U1 := (Quiet.chg (unhide Q2) _).trans (ch1.mono (fun z _ hz => (unhide K2).ln i hi z hz))
    have al : Quiet U1 (U1.alloc (.cells #[.int .i64 E, .int .i64 N, .int .i64 Mm, .string R] 65)) := (Chg.refl _ _).alloc _
    have KB := KA.quiet al
    have boB := al.blk boA
    have anB := Blk.new U1 65 [.int .i64 E, .int .i64 N, .int .i64 Mm, .string R]
    have chB := chA.trans (al.chg _)
    have hszU := chA.size
    have nA : ¬ OW g (.slice (some ⟨xb, 0, none⟩) n cx) vW vG n P U1.heap.size := fun h => by have := unhide hltH _ h; omega
    have hAl := anB.lt
    have hho := hide (unhide hheldH _ KB)
    have o0 : (U1.alloc (.cells #[.int .i64 E, .int .i64 N, .int .i64 Mm, .string R] 65)).cell? ⟨Bo, 0, none⟩ = some (.int .i64 k) := boB.cell 0
    have o1 : (U1.alloc (.cells #[.int .i64 E, .int .i64 N, .int .i64 Mm, .string R] 65)).cell? ⟨Bo, 1, none⟩ = some (.int .i64 i) := boB.cell 1
    have o2 : (U1.alloc (.cells #[.int .i64 E, .int .i64 N, .int .i64 Mm, .string R] 65)).cell? ⟨Bo, 2, none⟩ = some (.int .i64 b) := boB.cell 2
    have o3 : (U1.alloc (.cells #[.int .i64 E, .int .i64 N, .int .i64 Mm, .string R] 65)).cell? ⟨Bo, 3, none⟩ = some (.int .i64 c) := boB.cell 3
    have o4 : (U1.alloc (.cells #[.int .i64 E, .int .i64 N, .int .i64 Mm, .string R] 65)).cell? ⟨Bo, 4, none⟩ = some (.string s) := boB.cell 4
    have o5 : (U1.alloc (.cells #[.int .i64 E, .int .i64 N, .int .i64 Mm, .string R] 65)).cell? ⟨Bo, 5, none⟩ = some (.string t) := boB.cell 5
    have hall2 := hide (And.intro boB (And.intro anB (And.intro chB nA)))
    clear KA boA chA al KB boB anB chB r1 ch1 hheldH K2 bo2 Q2 nA
    obtain ⟨A, hA⟩ : ∃ A, U1.heap.size = A := ⟨_, rfl⟩
    rw [hA] at hall2 hAl
    go_wp2_with fail
    refine (unhide hho).mono ?_
    clear hho o0 o1 o2 o3 o4 o5
    rintro e U2 ⟨rfl, KC, chC⟩
    obtain ⟨boB, anB, chB, nA⟩ := unhide hall2
    have boC := chC.blk boB (fun h => unhide nBoH (.inl h))
    have anC := chC.blk anB (fun h => nA (.inl h))
    have EI : EvIn B U2 g (.slice (some ⟨xb, 0, none⟩) n cx) vW vG n P (upS S i s2) (upS S i s2) W Bo A k i b c s t E N Mm R := ⟨KC, boC, anC, unhide nBoH, nA⟩
    have chD := chB.trans (chC.mono (fun z _ hz => KC.lo z hz))
    have a0 : U2.cell? ⟨A, 0, none⟩ = some (.int .i64 E) := anC.cell 0
    have EIH := hide EI
    have chDH := hide chD
    clear boB anB chB nA boC anC EI chD KC chC hall2 hA hszU hAl
    go_upto_region 9 with fail
    rename_i hK KI hKI
    have hKH := hide hK
    clear hK
    cases br with
    | true =>
      have hE0 := unhide hbrH rfl
      have e1 : (E == 0) = true := by simpa using hE0
      have e2 : (E != 0) = false := by rw [bne, e1]; rfl
      clear hE0
      go_wp2_with fail
      refine unhide hKH _ _ ?_
      exact unhide hgoodH _ Bo A _ _ _ _ _ _ _ _ _ _ _ _ _ _ _ _ _ _ _ _ _ _ _ _ _ _ _ _ _ _ _ _ _ _ _ _ _ _ _ _ _ _ _ _ _ _ _ _ _ _ _ _ _ _ _ _ _ _ _ _ _ _ _ _ _ _ _ _ _ _ _ _ _ _ _ _ _ _ _ _ _ _ _ _ _ _ _ _ _ _ _ _ _ _ _ _ _ _ _ _ _ _ _ _ _ _ _ _ _ _ _ _ _ _ _ _ _ _ _ _ _ _ _ _ _ _ _ _ _ _ _ _ _ _ _ _ (fun e => by cases e) (unhide chDH) (unhide EIH)
    | false =>
      go_wp2_with fail
      refine unhide hKH _ _ ?_
      exact unhide hgoodH _ Bo A _ _ _ _ _ _ _ _ _ _ _ _ _ _ _ _ _ _ _ _ _ _ _ _ _ _ _ _ _ _ _ _ _ _ _ _ _ _ _ _ _ _ _ _ _ _ _ _ _ _ _ _ _ _ _ _ _ _ _ _ _ _ _ _ _ _ _ _ _ _ _ _ _ _ _ _ _ _ _ _ _ _ _ _ _ _ _ _ _ _ _ _ _ _ _ _ _ _ _ _ _ _ _ _ _ _ _ _ _ _ _ _ _ _ _ _ _ _ _ _ _ _ _ _ _ _ _ _ _ _ _ _ _ _ _ _ (fun e => by cases e) (unhide chDH) (unhide EIH)
  | false =>
    have o1 : V1.cell? ⟨Bo, 1, none⟩ = some (.int .i64 i) := (unhide bo1).cell 1
    have hsh := hide (show_any V1 _ _ _ _ ((unhide K1).rep i hi) (unhide hIH i hi).shows)
    unfold ptr at hsh
    go_wp2_with fail
    refine (unhide hsh).mono ?_
    clear hsh o1
    rintro e V2 ⟨rfl, q2⟩
    have K3 := hide ((unhide K1).quiet q2)
    have bo3 := hide (q2.blk (unhide bo1))
    have Q3 := hide (Quiet.trans (unhide Q1) q2)
    clear q2 bo1 K1 Q1
    have o1 : V2.cell? ⟨Bo, 1, none⟩ = some (.int .i64 i) := (unhide bo3).cell 1
    have hsi := hide (sight_any B V2 g _ vW vG n P S S W (unhide K3) h4 (fun j hj => (unhide hIH j hj).shows) i)
    unfold ptr at hsi
    go_wp2_with fail
    refine (unhide hsi).mono ?_
    clear hsi o1
    rintro e V3 ⟨rfl, q3⟩
    have K2 := hide ((unhide K3).quiet q3)
    have bo2 := hide (q3.blk (unhide bo3))
    have Q2 := hide (Quiet.trans (unhide Q3) q3)
    clear q3 bo3 K3 Q3
    generalize hLL : str (showP (S i)) = ow at *
    generalize hRR : str (sightP S i n) = rs at *
    have hLH := hide hLL
    have hRH := hide hRR
    clear hLL hRR
    have hdo := do_any V3 _ _ _ (S i) ((unhide K2).rep i hi) (unhide hIH i hi) ⟨k, i, b, c, s, t⟩
    rw [unhide hansH, unhide hnxH] at hdo
    unfold opv ansv ptr at hdo
    dsimp only at hdo
    have hdoH := hide hdo
    clear hdo
    have o0 : V3.cell? ⟨Bo, 0, none⟩ = some (.int .i64 k) := (unhide bo2).cell 0
    have o1 : V3.cell? ⟨Bo, 1, none⟩ = some (.int .i64 i) := (unhide bo2).cell 1
    have o2 : V3.cell? ⟨Bo, 2, none⟩ = some (.int .i64 b) := (unhide bo2).cell 2
    have o3 : V3.cell? ⟨Bo, 3, none⟩ = some (.int .i64 c) := (unhide bo2).cell 3
    have o4 : V3.cell? ⟨Bo, 4, none⟩ = some (.string s) := (unhide bo2).cell 4
    have o5 : V3.cell? ⟨Bo, 5, none⟩ = some (.string t) := (unhide bo2).cell 5
    go_wp2_with fail
    refine (unhide hdoH).mono ?_
    clear hdoH o0 o1 o2 o3 o4 o5
    rintro e U1 ⟨rfl, ch1, r1⟩
    have KA := (unhide K2).node hi ch1 r1
    have boA := ch1.blk (unhide bo2) (fun h => unhide nBoH (.inr ⟨i, hi, h⟩))
    have chA : Chg (fun k => B ≤ k) w U1 := (Quiet.chg (unhide Q2) _).trans (ch1.mono (fun z _ hz => (unhide K2).ln i hi z hz))
    have al : Quiet U1 (U1.alloc (.cells #[.int .i64 E, .int .i64 N, .int .i64 Mm, .string R] 65)) := (Chg.refl _ _).alloc _
    have KB := KA.quiet al
    have boB := al.blk boA
    have anB := Blk.new U1 65 [.int .i64 E, .int .i64 N, .int .i64 Mm, .string R]
    have chB := chA.trans (al.chg _)
    have hszU := chA.size
    have nA : ¬ OW g (.slice (some ⟨xb, 0, none⟩) n cx) vW vG n P U1.heap.size := fun h => by have := unhide hltH _ h; omega
    have hAl := anB.lt
    have hho := hide (unhide hheldH _ KB)
    have o0 : (U1.alloc (.cells #[.int .i64 E, .int .i64 N, .int .i64 Mm, .string R] 65)).cell? ⟨Bo, 0, none⟩ = some (.int .i64 k) := boB.cell 0
    have o1 : (U1.alloc (.cells #[.int .i64 E, .int .i64 N, .int .i64 Mm, .string R] 65)).cell? ⟨Bo, 1, none⟩ = some (.int .i64 i) := boB.cell 1
    have o2 : (U1.alloc (.cells #[.int .i64 E, .int .i64 N, .int .i64 Mm, .string R] 65)).cell? ⟨Bo, 2, none⟩ = some (.int .i64 b) := boB.cell 2
    have o3 : (U1.alloc (.cells #[.int .i64 E, .int .i64 N, .int .i64 Mm, .string R] 65)).cell? ⟨Bo, 3, none⟩ = some (.int .i64 c) := boB.cell 3
    have o4 : (U1.alloc (.cells #[.int .i64 E, .int .i64 N, .int .i64 Mm, .string R] 65)).cell? ⟨Bo, 4, none⟩ = some (.string s) := boB.cell 4
    have o5 : (U1.alloc (.cells #[.int .i64 E, .int .i64 N, .int .i64 Mm, .string R] 65)).cell? ⟨Bo, 5, none⟩ = some (.string t) := boB.cell 5
    have hall2 := hide (And.intro boB (And.intro anB (And.intro chB nA)))
    clear KA boA chA al KB boB anB chB r1 ch1 hheldH K2 bo2 Q2 nA
    obtain ⟨A, hA⟩ : ∃ A, U1.heap.size = A := ⟨_, rfl⟩
    rw [hA] at hall2 hAl
    go_wp2_with fail
    refine (unhide hho).mono ?_
    clear hho o0 o1 o2 o3 o4 o5
    rintro e U2 ⟨rfl, KC, chC⟩
    obtain ⟨boB, anB, chB, nA⟩ := unhide hall2
    have boC := chC.blk boB (fun h => unhide nBoH (.inl h))
    have anC := chC.blk anB (fun h => nA (.inl h))
    have EI : EvIn B U2 g (.slice (some ⟨xb, 0, none⟩) n cx) vW vG n P (upS S i s2) (upS S i s2) W Bo A k i b c s t E N Mm R := ⟨KC, boC, anC, unhide nBoH, nA⟩
    have chD := chB.trans (chC.mono (fun z _ hz => KC.lo z hz))
    have a0 : U2.cell? ⟨A, 0, none⟩ = some (.int .i64 E) := anC.cell 0
    have EIH := hide EI
    have chDH := hide chD
    clear boB anB chB nA boC anC EI chD KC chC hall2 hA hszU hAl
    go_upto_region 9 with fail
    rename_i hK KI hKI
    have hKH := hide hK
    clear hK
    cases br with
    | true =>
      have hE0 := unhide hbrH rfl
      have e1 : (E == 0) = true := by simpa using hE0
      have e2 : (E != 0) = false := by rw [bne, e1]; rfl
      clear hE0
      go_wp2_with fail
      refine unhide hKH _ _ ?_
      exact unhide hgoodH _ Bo A _ _ _ _ _ _ _ _ _ _ _ _ _ _ _ _ _ _ _ _ _ _ _ _ _ _ _ _ _ _ _ _ _ _ _ _ _ _ _ _ _ _ _ _ _ _ _ _ _ _ _ _ _ _ _ _ _ _ _ _ _ _ _ _ _ _ _ _ _ _ _ _ _ _ _ _ _ _ _ _ _ _ _ _ _ _ _ _ _ _ _ _ _ _ _ _ _ _ _ _ _ _ _ _ _ _ _ _ _ _ _ _ _ _ _ _ _ _ _ _ _ _ _ _ _ _ _ _ _ _ _ _ _ _ _ _ (fun _ => ⟨by first | rfl | exact (unhide hLH).symm, by first | rfl | exact (unhide hRH).symm⟩) (unhide chDH) (unhide EIH)
    | false =>
      go_wp2_with fail
      refine unhide hKH _ _ ?_
      exact unhide hgoodH _ Bo A _ _ _ _ _ _ _ _ _ _ _ _ _ _ _ _ _ _ _ _ _ _ _ _ _ _ _ _ _ _ _ _ _ _ _ _ _ _ _ _ _ _ _ _ _ _ _ _ _ _ _ _ _ _ _ _ _ _ _ _ _ _ _ _ _ _ _ _ _ _ _ _ _ _ _ _ _ _ _ _ _ _ _ _ _ _ _ _ _ _ _ _ _ _ _ _ _ _ _ _ _ _ _ _ _ _ _ _ _ _ _ _ _ _ _ _ _ _ _ _ _ _ _ _ _ _ _ _ _ _ _ _ _ _ _ _ (fun _ => ⟨by first | rfl | exact (unhide hLH).symm, by first | rfl | exact (unhide hRH).symm⟩) (unhide chDH) (unhide EIH)
end Go.Proofs.Qxb6500367a
