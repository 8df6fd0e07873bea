/-
  367 Keeps: keep, Keeps, KeepsQuiet. (gen7keep.py)
-/
import Derived.Test.Qxb6500367aKKeepT
import Derived.Test.Qxb6500367aRefine
import Derived.Test.Qxb6500367aFacts
namespace Go.Proofs.Qxb6500367a
open Go.RowKit Go.Qx
set_option linter.unusedSimpArgs false
set_option linter.unusedVariables false

section
variable {B B' : Nat} {w w' : World} {g : Nat} {vX vW vG : Value} {n : Nat} {P : Nat → Nat × Nat × Nat} {G S : Nat → Nd} {W : List M4} {C : Int}
theorem KS.low (h : KS B' w g vX vW vG n P G S W) (hb : B ≤ B') : KS B w g vX vW vG n P G S W :=
  { h with lo := fun k hk => Nat.le_trans hb (h.lo k hk), ln := fun i hi k hk => Nat.le_trans hb (h.ln i hi k hk) }
theorem KS.of_chg {T : Nat → Prop} (h : KS B w g vX vW vG n P G S W) (c : Chg T w w') (hT : ∀ k, T k → ¬ OW g vX vW vG n P k) : KS B w' g vX vW vG n P G S W :=
  { h with gr := h.gr.of_chg c (fun k hk ht => hT k ht (.inl hk)), rep := fun i hi => (h.rep i hi).of_chg c (fun k ht hk => hT k ht (.inr ⟨i, hi, hk⟩)) }
theorem KX.start {w1 w2 : World} {g n : Nat} {vX vG : Value} {P : Nat → Nat × Nat × Nat} (h1 : 1 ≤ n) (h4 : n ≤ 4) (hC : 0 ≤ C) (hb : B ≤ w1.heap.size) (K : KS w1.heap.size w2 g vX (.slice none 0 0) vG n P (fun i => newP n i) (fun i => newP n i) []) : KX B w2 g n (fun i => newP n i) [] C :=
  ⟨vX, _, vG, P, K.low hb, LI.new n h1 h4 C hC⟩
end

/-- keep's state between two steps. -/
def KR (w wr : World) (j : Nat) (u : Value) : Prop := ∃ g n, u = .pointer (some ⟨g, 0, none⟩) ∧ KO w.heap.size w wr g n (150 * (j : Int))
theorem KR.of {w wr : World} {j g n : Nat} {C : Int} (h : KO w.heap.size w wr g n C) (hC : C ≤ 150 * ((j : Nat) : Int)) : KR w wr j (.pointer (some ⟨g, 0, none⟩)) := by
  obtain ⟨⟨S', W', h1⟩, h2⟩ := h
  exact ⟨g, n, rfl, ⟨S', W', h1.mono hC⟩, h2⟩

set_option maxHeartbeats 8000000 in
set_option maxRecDepth 100000 in
theorem keep_any (w : World) (sa : Option Addr) (len cap : Nat) (ops : List Opr) (qu : Bool) (ho : IsOps w sa len cap ops) :
    Calls Try.prog 17 #[.slice sa len cap, .bool qu] w fun e w' => e = .returned (.int .i64 (-1)) ∧ Below w.heap.size w w' := by
  have hlen := ho.small
  have hf := hide (facts_any w)
  go_enter Try.func17, Try.ntmps17
  go_wp2_with fail
  refine (unhide hf).mono ?_
  clear hf
  rintro e w1 ⟨rfl, q1⟩
  have hs := hide (start_any w1 4 (by omega) (by omega) qu)
  have hs1 := q1.size
  have Q1 := hide q1
  clear q1
  go_wp2_with fail
  refine (unhide hs).mono ?_
  clear hs
  rintro e w2 ⟨g0, vX, vG, P, rfl, q2, K2⟩
  have hst : Hid (KR w w2 0 (.pointer (some ⟨g0, 0, none⟩))) := by
    refine KR.of (C := 0) (n := 4) ⟨⟨_, _, KX.start (by omega) (by omega) (by omega) hs1 K2⟩, ?_⟩ (by omega)
    exact ((unhide Q1).chg _).trans (q2.chg _)
  clear Q1 q2 K2 hs1
  unfold ptr
  go_wp2
  go_loopw [5, 6] (fun u i wr => ∃ j : Nat, j ≤ len ∧ i = .int .i64 j ∧ KR w wr j u) (fun _ i _ => len - (intOf i).toNat)
  case atStart => exact ⟨0, Nat.zero_le _, rfl, unhide hst⟩
  case round =>
    clear hst
    obtain ⟨j, hj, rfl, g, n, rfl, ⟨S, W, hkx⟩, hch⟩ := hrel
    have hbel : Below w.heap.size w wr := hch.below _ (Nat.le_refl _) (fun _ h => h)
    have hbelH := hide hbel
    clear hbel
    have hchH := hide hch
    clear hch
    by_cases hlt : j < len
    · by_cases hmax : (j : Int) < 4398046511104
      · have hjo : j < ops.length := by rw [ho.count]; exact hlt
        obtain ⟨sb, so, rfl, hsb, k0, k1, k2, k3, k4, k5⟩ := ho.cells j hjo
        generalize ops[j] = o at *
        obtain ⟨ok, oa, ob, oc, os, ot⟩ := o
        simp only at k0 k1 k2 k3 k4 k5
        have i1 : (0 : Int) ≤ (j : Int) := by omega
        have i2 : (j : Int) < (len : Int) := by omega
        have g1 : decide (j < len) = true := by simpa using hlt
        have hbl := unhide hbelH
        rw [← hbl.cell (p := ⟨sb, so + j * 6, none⟩) hsb] at k0
        rw [← hbl.cell (p := ⟨sb, so + j * 6 + 1, none⟩) hsb] at k1
        rw [← hbl.cell (p := ⟨sb, so + j * 6 + 2, none⟩) hsb] at k2
        rw [← hbl.cell (p := ⟨sb, so + j * 6 + 3, none⟩) hsb] at k3
        rw [← hbl.cell (p := ⟨sb, so + j * 6 + 4, none⟩) hsb] at k4
        rw [← hbl.cell (p := ⟨sb, so + j * 6 + 5, none⟩) hsb] at k5
        clear hbl
        have jH := hide (And.intro hlt hmax)
        clear hj hjo
        have al : Quiet wr (wr.alloc (.cells #[.int .i64 ok, .int .i64 oa, .int .i64 ob, .int .i64 oc, .string os, .string ot] 44)) := (Chg.refl _ _).alloc _
        have hk2 := hide (hkx.quiet al)
        have hch2 := hide ((unhide hchH).trans (al.chg _))
        have hbo := Blk.new wr 44 [.int .i64 ok, .int .i64 oa, .int .i64 ob, .int .i64 oc, .string os, .string ot]
        have hwg : Hid (∀ g', g' < wr.heap.size → g' ≠ wr.heap.size) := fun g' h => by omega
        have hnB : Hid (∀ vX vW vG P, KS w.heap.size wr g vX vW vG n P S S W → ¬ OW g vX vW vG n P wr.heap.size) := fun vX vW vG P K h => by have := K.olt h; omega
        obtain ⟨Bo, hBo⟩ : ∃ Bo, wr.heap.size = Bo := ⟨_, rfl⟩
        rw [hBo] at hbo hnB hwg
        have hn1 : Hid (1 ≤ n ∧ n ≤ 4) := by
          obtain ⟨_, _, _, _, _, L⟩ := hkx
          exact ⟨L.n1, L.n4⟩
        have hbo2 := hide hbo
        have o0 : (wr.alloc (.cells #[.int .i64 ok, .int .i64 oa, .int .i64 ob, .int .i64 oc, .string os, .string ot] 44)).cell? ⟨Bo, 0, none⟩ = some (.int .i64 ok) := hbo.cell 0
        have o1 : (wr.alloc (.cells #[.int .i64 ok, .int .i64 oa, .int .i64 ob, .int .i64 oc, .string os, .string ot] 44)).cell? ⟨Bo, 1, none⟩ = some (.int .i64 oa) := hbo.cell 1
        have o2 : (wr.alloc (.cells #[.int .i64 ok, .int .i64 oa, .int .i64 ob, .int .i64 oc, .string os, .string ot] 44)).cell? ⟨Bo, 2, none⟩ = some (.int .i64 ob) := hbo.cell 2
        have o3 : (wr.alloc (.cells #[.int .i64 ok, .int .i64 oa, .int .i64 ob, .int .i64 oc, .string os, .string ot] 44)).cell? ⟨Bo, 3, none⟩ = some (.int .i64 oc) := hbo.cell 3
        have o4 : (wr.alloc (.cells #[.int .i64 ok, .int .i64 oa, .int .i64 ob, .int .i64 oc, .string os, .string ot] 44)).cell? ⟨Bo, 4, none⟩ = some (.string os) := hbo.cell 4
        have o5 : (wr.alloc (.cells #[.int .i64 ok, .int .i64 oa, .int .i64 ob, .int .i64 oc, .string os, .string ot] 44)).cell? ⟨Bo, 5, none⟩ = some (.string ot) := hbo.cell 5
        have wj : IntKind.i64.wrap ((j : Int) + 1) = (j : Int) + 1 := by have := unhide jH; rw [IntKind.wrap_i64]; omega
        have hkxH := hide hkx
        have hBB : Hid (w.heap.size ≤ Bo) := by show _ ≤ _; rw [← hBo]; exact (unhide hchH).size
        clear hkx al hbo hchH
        have hCb : Hid (150 * (j : Int) + 144 ≤ 1152921504606846000) := by show _ ≤ _; omega
        by_cases h7 : ok = 7
        · subst h7
          have hcs : oa < 1 ∨ (1 ≤ oa ∧ 4 < oa) ∨ (1 ≤ oa ∧ oa ≤ 4 ∧ ob < 0) ∨ (1 ≤ oa ∧ oa ≤ 4 ∧ 0 ≤ ob ∧ oa ≤ ob) ∨ (1 ≤ oa ∧ oa ≤ 4 ∧ 0 ≤ ob ∧ ob < oa) := by omega
          rcases hcs with z1 | ⟨z1, z2⟩ | ⟨z1, z2, z3⟩ | ⟨z1, z2, z3, z4⟩ | ⟨z1, z2, z3, z4⟩
          · have hz : refuses oa ob := by unfold refuses; omega
            have d1 : decide (oa < 1) = true := by simpa using z1
            have hnw := hide (new_bad (wr.alloc (.cells #[.int .i64 7, .int .i64 oa, .int .i64 ob, .int .i64 oc, .string os, .string ot] 44)) oa ob hz)
            clear hz
            go_wp2_with fail
            refine (unhide hnw).mono ?_
            clear hnw
            rintro e w3 ⟨rfl, q3⟩
            have KRH : Hid (KR w w3 (j + 1) (.pointer (some ⟨g, 0, none⟩))) := KR.of (n := n) ⟨⟨S, W, (unhide hk2).quiet q3⟩, (unhide hch2).trans (q3.chg _)⟩ (by push_cast; omega)
            have bo3 := q3.blk (unhide hbo2)
            have p1 : w3.cell? ⟨Bo, 1, none⟩ = some (.int .i64 oa) := bo3.cell 1
            have p2 : w3.cell? ⟨Bo, 2, none⟩ = some (.int .i64 ob) := bo3.cell 2
            clear q3 hk2 hch2 bo3
            clear o0 o1 o2 o3 o4 o5 k0 k1 k2 k3 k4 k5
            go_wp2
            go_roundw
            case rel => exact ⟨j + 1, (unhide jH).1, by go_num, unhide KRH⟩
            case measure =>
              obtain ⟨h1, h2⟩ := unhide jH
              simp [intOf]; omega
          · have hz : refuses oa ob := by unfold refuses; omega
            have d1 : decide (oa < 1) = false := by simp; omega
            have d2 : decide (4 < oa) = true := by simpa using z2
            have hnw := hide (new_bad (wr.alloc (.cells #[.int .i64 7, .int .i64 oa, .int .i64 ob, .int .i64 oc, .string os, .string ot] 44)) oa ob hz)
            clear hz
            go_wp2_with fail
            refine (unhide hnw).mono ?_
            clear hnw
            rintro e w3 ⟨rfl, q3⟩
            have KRH : Hid (KR w w3 (j + 1) (.pointer (some ⟨g, 0, none⟩))) := KR.of (n := n) ⟨⟨S, W, (unhide hk2).quiet q3⟩, (unhide hch2).trans (q3.chg _)⟩ (by push_cast; omega)
            have bo3 := q3.blk (unhide hbo2)
            have p1 : w3.cell? ⟨Bo, 1, none⟩ = some (.int .i64 oa) := bo3.cell 1
            have p2 : w3.cell? ⟨Bo, 2, none⟩ = some (.int .i64 ob) := bo3.cell 2
            clear q3 hk2 hch2 bo3
            clear o0 o1 o2 o3 o4 o5 k0 k1 k2 k3 k4 k5
            go_wp2
            go_roundw
            case rel => exact ⟨j + 1, (unhide jH).1, by go_num, unhide KRH⟩
            case measure =>
              obtain ⟨h1, h2⟩ := unhide jH
              simp [intOf]; omega
          · have hz : refuses oa ob := by unfold refuses; omega
            have d1 : decide (oa < 1) = false := by simp; omega
            have d2 : decide (4 < oa) = false := by simp; omega
            have d3 : decide (ob < 0) = true := by simpa using z3
            have hnw := hide (new_bad (wr.alloc (.cells #[.int .i64 7, .int .i64 oa, .int .i64 ob, .int .i64 oc, .string os, .string ot] 44)) oa ob hz)
            clear hz
            go_wp2_with fail
            refine (unhide hnw).mono ?_
            clear hnw
            rintro e w3 ⟨rfl, q3⟩
            have KRH : Hid (KR w w3 (j + 1) (.pointer (some ⟨g, 0, none⟩))) := KR.of (n := n) ⟨⟨S, W, (unhide hk2).quiet q3⟩, (unhide hch2).trans (q3.chg _)⟩ (by push_cast; omega)
            have bo3 := q3.blk (unhide hbo2)
            have p1 : w3.cell? ⟨Bo, 1, none⟩ = some (.int .i64 oa) := bo3.cell 1
            have p2 : w3.cell? ⟨Bo, 2, none⟩ = some (.int .i64 ob) := bo3.cell 2
            clear q3 hk2 hch2 bo3
            clear o0 o1 o2 o3 o4 o5 k0 k1 k2 k3 k4 k5
            go_wp2
            go_roundw
            case rel => exact ⟨j + 1, (unhide jH).1, by go_num, unhide KRH⟩
            case measure =>
              obtain ⟨h1, h2⟩ := unhide jH
              simp [intOf]; omega
          · have hz : refuses oa ob := by unfold refuses; omega
            have d1 : decide (oa < 1) = false := by simp; omega
            have d2 : decide (4 < oa) = false := by simp; omega
            have d3 : decide (ob < 0) = false := by simp; omega
            have d4 : decide (oa ≤ ob) = true := by simpa using z4
            have hnw := hide (new_bad (wr.alloc (.cells #[.int .i64 7, .int .i64 oa, .int .i64 ob, .int .i64 oc, .string os, .string ot] 44)) oa ob hz)
            clear hz
            go_wp2_with fail
            refine (unhide hnw).mono ?_
            clear hnw
            rintro e w3 ⟨rfl, q3⟩
            have KRH : Hid (KR w w3 (j + 1) (.pointer (some ⟨g, 0, none⟩))) := KR.of (n := n) ⟨⟨S, W, (unhide hk2).quiet q3⟩, (unhide hch2).trans (q3.chg _)⟩ (by push_cast; omega)
            have bo3 := q3.blk (unhide hbo2)
            have p1 : w3.cell? ⟨Bo, 1, none⟩ = some (.int .i64 oa) := bo3.cell 1
            have p2 : w3.cell? ⟨Bo, 2, none⟩ = some (.int .i64 ob) := bo3.cell 2
            clear q3 hk2 hch2 bo3
            clear o0 o1 o2 o3 o4 o5 k0 k1 k2 k3 k4 k5
            go_wp2
            go_roundw
            case rel => exact ⟨j + 1, (unhide jH).1, by go_num, unhide KRH⟩
            case measure =>
              obtain ⟨h1, h2⟩ := unhide jH
              simp [intOf]; omega
          · have d1 : decide (oa < 1) = false := by simp; omega
            have d2 : decide (4 < oa) = false := by simp; omega
            have d3 : decide (ob < 0) = false := by simp; omega
            have d4 : decide (oa ≤ ob) = false := by simp; omega
            obtain ⟨na, hna⟩ : ∃ na : Nat, (na : Int) = oa := ⟨oa.toNat, by omega⟩
            obtain ⟨nb, hnb⟩ : ∃ nb : Nat, (nb : Int) = ob := ⟨ob.toNat, by omega⟩
            have hz1 : 1 ≤ na := by omega
            have hz2 : na ≤ 4 := by omega
            have hz3 : nb < na := by omega
            have hnw0 := new_ok (wr.alloc (.cells #[.int .i64 7, .int .i64 oa, .int .i64 ob, .int .i64 oc, .string os, .string ot] 44)) na nb hz1 hz2 hz3
            rw [hna, hnb] at hnw0
            have hnw := hide hnw0
            have hnaH := hide hna
            have hzH := hide (And.intro hz1 hz2)
            clear hnw0 hna hnb hz1 hz2 hz3
            unfold ptr at hnw
            clear z1 z2 z3 z4
            go_wp2_with fail
            refine (unhide hnw).mono ?_
            clear hnw
            rintro e w3 ⟨x, a, b, rfl, q3, _, _⟩
            have bo3 := q3.blk (unhide hbo2)
            have p1 : w3.cell? ⟨Bo, 1, none⟩ = some (.int .i64 oa) := bo3.cell 1
            have p2 : w3.cell? ⟨Bo, 2, none⟩ = some (.int .i64 ob) := bo3.cell 2
            have hch3 := hide ((unhide hch2).trans (q3.chg (fun k => w.heap.size ≤ k)))
            have hst30 := start_any w3 na (unhide hzH).1 (unhide hzH).2 qu
            rw [unhide hnaH] at hst30
            have hst3 := hide hst30
            clear hst30
            clear q3 hk2 hch2 bo3
            clear o0 o1 o2 o3 o4 o5 k0 k1 k2 k3 k4 k5
            go_wp2_with fail
            refine (unhide hst3).mono ?_
            clear hst3
            rintro e w4 ⟨g4, vX4, vG4, P4, rfl, q4, K4⟩
            have KRH : Hid (KR w w4 (j + 1) (.pointer (some ⟨g4, 0, none⟩))) := by
              refine KR.of (C := 0) (n := na) ⟨⟨_, _, KX.start (unhide hzH).1 (unhide hzH).2 (by omega) (unhide hch3).size K4⟩, ?_⟩ (by push_cast; omega)
              exact (unhide hch3).trans (q4.chg _)
            clear q4 K4 hch3 p1 p2
            unfold ptr
            go_wp2
            go_roundw
            case rel => exact ⟨j + 1, (unhide jH).1, by go_num, unhide KRH⟩
            case measure =>
              obtain ⟨h1, h2⟩ := unhide jH
              simp [intOf]; omega
        by_cases h8 : ok = 8
        · subst h8
          have hset := hide (settle_any w.heap.size _ g n S W _ (unhide hk2) (unhide hCb) qu)
          unfold ptr at hset
          go_wp2_with fail
          refine (unhide hset).mono ?_
          clear hset
          rintro e w3 ⟨rfl, hk3, ch3⟩
          have KRH : Hid (KR w w3 (j + 1) (.pointer (some ⟨g, 0, none⟩))) := KR.of (n := n) ⟨hk3, (unhide hch2).trans ch3⟩ (by push_cast; omega)
          clear hk3 ch3 hk2 hch2
          clear o0 o1 o2 o3 o4 o5 k0 k1 k2 k3 k4 k5
          go_wp2
          go_roundw
          case rel => exact ⟨j + 1, (unhide jH).1, by go_num, unhide KRH⟩
          case measure =>
            obtain ⟨h1, h2⟩ := unhide jH
            simp [intOf]; omega
        by_cases h6 : ok = 6
        · subst h6
          obtain ⟨vX, vW, vG, P, K, L⟩ := unhide hkxH
          have nBH := hide (unhide hnB _ _ _ _ K)
          have h36 := L.ai.len36 L.n4
          obtain ⟨ax, cx, rfl⟩ := K.gr.rX.shape
          obtain ⟨aw, cw, rfl⟩ := K.gr.rW.shape
          have al : Quiet wr (wr.alloc (.cells #[.int .i64 6, .int .i64 oa, .int .i64 ob, .int .i64 oc, .string os, .string ot] 44)) := (Chg.refl _ _).alloc _
          have K0 := hide (K.quiet al)
          have c1 : (wr.alloc (.cells #[.int .i64 6, .int .i64 oa, .int .i64 ob, .int .i64 oc, .string os, .string ot] 44)).cell? ⟨g, 1, none⟩ = some (.slice aw W.length cw) := (unhide K0).gr.blk.cell 1
          have hgl := (unhide K0).gr.blk.lt
          have LH := hide L
          clear K L al hk2
          generalize hWL : W.length = WL at *
          have hWLH := hide hWL
          clear hWL
          go_upto_region 26 with fail
          rename_i hK KI hKI
          have hKH := hide hK
          clear hK
          go_wp2
          refine wp_region_noPanic ?_
          try simp only [List.append_eq, List.cons_append, List.nil_append]
          refine wp_region_mixz [(0, false), (1, true), (2, true), (3, true), (4, true), (5, true), (6, true), (7, true), (8, true)] [(9, false), (10, false), (11, true), (12, true), (13, false), (14, false), (15, false), (16, false)] (by kernel_rfl) (by kernel_rfl) (fun _ _ _ _ _ h => h) ?_
          simp only [pickM, List.getElem?_cons_zero, List.getElem?_cons_succ]
          repeat (first | (refine wpMix_read rfl (fun K hK => ?_)) | (refine wpMix_pure rfl (fun K hK => ?_))
                  go_big_quiet_op
                  refine hK _ ?_
                  clear hK K)
          refine wpMix_nil ?_
          intro _ hw'
          obtain ⟨nq, hw''⟩ := hw'
          subst hw''
          have qd : Quiet (wr.alloc (.cells #[.int .i64 6, .int .i64 oa, .int .i64 ob, .int .i64 oc, .string os, .string ot] 44)) ((wr.alloc (.cells #[.int .i64 6, .int .i64 oa, .int .i64 ob, .int .i64 oc, .string os, .string ot] 44)).drewN nq) := (Chg.refl _ _).drewN nq
          have K1 := hide ((unhide K0).quiet qd)
          have bo1 := hide (qd.blk (unhide hbo2))
          have hch1 := hide ((unhide hch2).trans (qd.chg _))
          clear o0 o1 o2 o3 o4 o5 k0 k1 k2 k3 k4 k5 c1 hgl K0 hbo2 hch2 qd
          generalize (wr.alloc (.cells #[.int .i64 6, .int .i64 oa, .int .i64 ob, .int .i64 oc, .string os, .string ot] 44)).drewN nq = V1 at *
          have htk := takeK_any V1 (.slice aw WL cw) W (unhide K1).gr.rW (by rw [unhide hWLH]; exact h36) oa ob
          have htkH := hide htk
          clear htk
          refine wpTail_go (by simp only [List.getElem?_toArray, List.getElem?_cons_succ, List.getElem?_cons_zero]; rfl) rfl (fun K hK => ?_)
          go_simp
          go_at_call 24
          refine (unhide htkH).mono ?_
          clear htkH
          rintro e V2 (⟨L1, m, L2, v', hW, rfl, rfl, hold, rfl, hr, hc, ho2⟩ | ⟨hno, v', rfl, hr, hc, ho2⟩)
          · obtain ⟨av, cv, rfl⟩ := hr.shape
            unfold opv
            have hmm := (unhide LH).ai.msg m (by rw [hW]; simp)
            obtain ⟨m1, m2, m3, m4, m5, m6⟩ := hmm
            have LK : Hid (LI n S (L1 ++ m :: L2) (150 * (j : Int))) := by have := unhide LH; rw [hW] at this; exact this
            have hold2 : Hid (∀ x, x ∈ L1 → ¬ (x.f = m.f ∧ x.t = m.t)) := fun x hx hh => hold x hx ⟨by rw [hh.1], by rw [hh.2]⟩
            have ho := ho2
            generalize hLn : (L1 ++ L2).length = L' at *
            have hLnH := hide hLn
            clear hLn hold hW LH
            have bg := hc.blk (unhide K1).gr.blk (unhide K1).gr.gw
            have d1 : V2.cell? ⟨g, 1, none⟩ = some (.slice aw WL cw) := bg.cell 1
            have fd1 := bg.frozen 1
            have hgl2 := bg.lt
            have bo2 := hc.blk (unhide bo1) (fun e => unhide nBH (.inl (.inr (.inr (.inl e)))))
            have r0 : V2.cell? ⟨Bo, 0, none⟩ = some (.int .i64 6) := bo2.cell 0
            have r1 : V2.cell? ⟨Bo, 1, none⟩ = some (.int .i64 (m.f : Int)) := bo2.cell 1
            have r2 : V2.cell? ⟨Bo, 2, none⟩ = some (.int .i64 (m.t : Int)) := bo2.cell 2
            have r3 : V2.cell? ⟨Bo, 3, none⟩ = some (.int .i64 oc) := bo2.cell 3
            have r4 : V2.cell? ⟨Bo, 4, none⟩ = some (.string os) := bo2.cell 4
            have r5 : V2.cell? ⟨Bo, 5, none⟩ = some (.string ot) := bo2.cell 5
            have q0 := bo2.frozen 0
            have q1 := bo2.frozen 1
            have q2 := bo2.frozen 2
            have q3 := bo2.frozen 3
            have q4 := bo2.frozen 4
            have q5 := bo2.frozen 5
            have hne : Bo ≠ g := fun e => unhide nBH (.inl (.inl e))
            have hne' : g ≠ Bo := Ne.symm hne
            have hKw := (unhide K1).wire (w' := V2) (u := (.slice av L' cv)) (W' := L1 ++ L2) (by rw [unhide hLnH]; exact hr) hc (fun b hb => .inl (by rw [← ho2]; exact hb))
            have nB4 : ¬ OW g (.slice ax n cx) (.slice av L' cv) vG n P Bo := by
              rintro ((e | e | e | e) | e)
              · exact unhide nBH (.inl (.inl e))
              · exact unhide nBH (.inl (.inr (.inl e)))
              · rw [ho2] at e; exact unhide nBH (.inl (.inr (.inr (.inl e))))
              · exact unhide nBH (.inl (.inr (.inr (.inr e))))
              · exact unhide nBH (.inr e)
            have cB : Chg (fun x => x = Bo) (V2.setCell ⟨g, 1, none⟩ (.slice av L' cv)) (((((((V2.setCell ⟨g, 1, none⟩ (.slice av L' cv)).setCell ⟨Bo, 0, none⟩ (.int .i64 m.k)).setCell ⟨Bo, 1, none⟩ (.int .i64 (m.t : Int))).setCell ⟨Bo, 2, none⟩ (.int .i64 (m.f : Int))).setCell ⟨Bo, 3, none⟩ (.int .i64 m.c)).setCell ⟨Bo, 4, none⟩ (.string ⟨#[]⟩)).setCell ⟨Bo, 5, none⟩ (.string ⟨#[]⟩)) :=
              Chg.setCell (p := ⟨Bo, 5, none⟩) (Chg.setCell (p := ⟨Bo, 4, none⟩) (Chg.setCell (p := ⟨Bo, 3, none⟩) (Chg.setCell (p := ⟨Bo, 2, none⟩) (Chg.setCell (p := ⟨Bo, 1, none⟩) (Chg.setCell (S := fun x => x = Bo) (p := ⟨Bo, 0, none⟩) (Chg.refl _ _) (.inl rfl) _) (.inl rfl) _) (.inl rfl) _) (.inl rfl) _) (.inl rfl) _) (.inl rfl) _
            have K4 := hide (hKw.of_chg cB (fun k e => by rw [e]; exact nB4))
            have op4 : Hid (Blk (((((((V2.setCell ⟨g, 1, none⟩ (.slice av L' cv)).setCell ⟨Bo, 0, none⟩ (.int .i64 m.k)).setCell ⟨Bo, 1, none⟩ (.int .i64 (m.t : Int))).setCell ⟨Bo, 2, none⟩ (.int .i64 (m.f : Int))).setCell ⟨Bo, 3, none⟩ (.int .i64 m.c)).setCell ⟨Bo, 4, none⟩ (.string ⟨#[]⟩)).setCell ⟨Bo, 5, none⟩ (.string ⟨#[]⟩)) Bo 44 [.int .i64 m.k, .int .i64 (m.t : Int), .int .i64 (m.f : Int), .int .i64 m.c, .string ⟨#[]⟩, .string ⟨#[]⟩]) := ((((((bo2.set_other (a := ⟨g, 1, none⟩) hne _).set 0 _).set 1 _).set 2 _).set 3 _).set 4 _).set 5 _
            have ch4 : Hid (Chg (fun k => w.heap.size ≤ k) w (((((((V2.setCell ⟨g, 1, none⟩ (.slice av L' cv)).setCell ⟨Bo, 0, none⟩ (.int .i64 m.k)).setCell ⟨Bo, 1, none⟩ (.int .i64 (m.t : Int))).setCell ⟨Bo, 2, none⟩ (.int .i64 (m.f : Int))).setCell ⟨Bo, 3, none⟩ (.int .i64 m.c)).setCell ⟨Bo, 4, none⟩ (.string ⟨#[]⟩)).setCell ⟨Bo, 5, none⟩ (.string ⟨#[]⟩))) := by
              have e1 := (unhide hch1).trans (hc.mono (fun z _ hz => (unhide K1).lo z (.inr (.inr (.inl hz)))))
              have e2 := Chg.setCell (p := ⟨g, 1, none⟩) e1 (.inl ((unhide K1).lo g (.inl rfl))) (.slice av L' cv)
              exact e2.trans (cB.mono (fun z _ e => by rw [e]; exact unhide hBB))
            clear bg bo2 hKw nB4 cB hr hc ho K1 bo1 hch1
            refine hK _ _ ?_
            clear hK K
            refine wpTail_go (by simp only [List.getElem?_toArray, List.getElem?_cons_succ, List.getElem?_cons_zero]; rfl) rfl (fun K hK => ?_)
            go_simp
            refine hK _ _ ?_
            clear hK K
            refine wpTail_pure (by simp only [List.getElem?_toArray, List.getElem?_cons_succ, List.getElem?_cons_zero]; rfl) rfl (fun K hK => ?_)
            go_big_quiet_op
            refine hK _ ?_
            clear hK K
            refine wpTail_pure (by simp only [List.getElem?_toArray, List.getElem?_cons_succ, List.getElem?_cons_zero]; rfl) rfl (fun K hK => ?_)
            go_big_quiet_op
            refine hK _ ?_
            clear hK K
            refine wpTail_go (by simp only [List.getElem?_toArray, List.getElem?_cons_succ, List.getElem?_cons_zero]; rfl) rfl (fun K hK => ?_)
            go_simp
            refine hK _ _ ?_
            clear hK K
            refine wpTail_go (by simp only [List.getElem?_toArray, List.getElem?_cons_succ, List.getElem?_cons_zero]; rfl) rfl (fun K hK => ?_)
            go_simp
            refine hK _ _ ?_
            clear hK K
            refine wpTail_go (by simp only [List.getElem?_toArray, List.getElem?_cons_succ, List.getElem?_cons_zero]; rfl) rfl (fun K hK => ?_)
            go_simp
            refine hK _ _ ?_
            clear hK K
            refine wpTail_go (by simp only [List.getElem?_toArray, List.getElem?_cons_succ, List.getElem?_cons_zero]; rfl) rfl (fun K hK => ?_)
            go_simp
            refine hK _ _ ?_
            clear hK K
            refine wpTail_nil ?_
            refine NoPanic.normal ?_
            clear d1 fd1 hgl2 r0 r1 r2 r3 r4 r5 q0 q1 q2 q3 q4 q5
            generalize ((((((V2.setCell ⟨g, 1, none⟩ (.slice av L' cv)).setCell ⟨Bo, 0, none⟩ (.int .i64 m.k)).setCell ⟨Bo, 1, none⟩ (.int .i64 (m.t : Int))).setCell ⟨Bo, 2, none⟩ (.int .i64 (m.f : Int))).setCell ⟨Bo, 3, none⟩ (.int .i64 m.c)).setCell ⟨Bo, 4, none⟩ (.string ⟨#[]⟩)).setCell ⟨Bo, 5, none⟩ (.string ⟨#[]⟩) = Z at *
            have c0 : Z.cell? ⟨g, 0, none⟩ = some (.slice ax n cx) := (unhide K4).gr.blk.cell 0
            have hgl4 := (unhide K4).gr.blk.lt
            have hc0H := hide (And.intro c0 hgl4)
            clear c0 hgl4
            refine unhide hKH _ _ ?_
            refine tk_ev w.heap.size Z g n (150 * (j : Int) + 2) Bo _ _ _ _ _ _ (unhide op4) _ _ (unhide hc0H).1 (unhide hc0H).2 _ _ _ _ (by omega) (by omega) (by omega) (by first | rfl | trivial) (fun V' q => ⟨_, evk_del ((unhide K4).quiet q) (unhide LK) (by have := unhide hCb; omega) (unhide hold2) ⟨#[]⟩ ⟨#[]⟩ qu⟩) _ _ _ _ _ _ _ _ _ _ _ _ _ _ _ _ _ _ _ _ _ _ _ _ _ _ _ _ _ _ _ _ _ _ _ _ _ _ _ _ _ _ _ _ _ _ _ _ _ _ _ _ _ _ _ _ _ _ _ _ _ _ _ _ _ _ _ _ _ _ _ _ _ _ _ _ _ _ _ _ _ _ _ _ _ _ _ _ _ _ _ _ _ _ _ _ _ _ _ _ _ _ _ _ _ _ _ _ _ _ _ _ _ _ _ _ _ _ _ _ _ _ _ _ _ _ _ _ _ _ _ _ _ _ _ _ _ _ _ _ _ _ _ _ _ _ ?_
            refine hide ?_
            intro y13 y120 y121 y122 y123 y124 y125 y126 y127 y128 y129 y130 y131 y132 y133 y134 y135 y136 y137 y138 y139 y140 y141 y142 y143 y144 y145 y146 y147 y148 y149 y150 e wx he hko
            have KRH : Hid (KR w wx (j + 1) (.pointer (some ⟨g, 0, none⟩))) := by
              obtain ⟨h1, h2⟩ := hko
              exact KR.of (n := n) ⟨h1, (unhide ch4).trans h2⟩ (by push_cast; omega)
            clear hko
            rcases he with rfl | rfl
            · go_wp2
              go_roundw
              case rel => exact ⟨j + 1, (unhide jH).1, by go_num, unhide KRH⟩
              case measure =>
                obtain ⟨h1, h2⟩ := unhide jH
                simp [intOf]; omega
            · go_wp2
              go_roundw
              case rel => exact ⟨j + 1, (unhide jH).1, by go_num, unhide KRH⟩
              case measure =>
                obtain ⟨h1, h2⟩ := unhide jH
                simp [intOf]; omega
          · obtain ⟨av, cv, rfl⟩ := hr.shape
            unfold opv
            have ho := ho2
            rw [unhide hWLH] at hr ho2 ho ⊢
            have bg := hc.blk (unhide K1).gr.blk (unhide K1).gr.gw
            have d1 : V2.cell? ⟨g, 1, none⟩ = some (.slice aw WL cw) := bg.cell 1
            have fd1 := bg.frozen 1
            have hgl2 := bg.lt
            have bo2 := hc.blk (unhide bo1) (fun e => unhide nBH (.inl (.inr (.inr (.inl e)))))
            have r0 : V2.cell? ⟨Bo, 0, none⟩ = some (.int .i64 6) := bo2.cell 0
            have r1 : V2.cell? ⟨Bo, 1, none⟩ = some (.int .i64 oa) := bo2.cell 1
            have r2 : V2.cell? ⟨Bo, 2, none⟩ = some (.int .i64 ob) := bo2.cell 2
            have r3 : V2.cell? ⟨Bo, 3, none⟩ = some (.int .i64 oc) := bo2.cell 3
            have r4 : V2.cell? ⟨Bo, 4, none⟩ = some (.string os) := bo2.cell 4
            have r5 : V2.cell? ⟨Bo, 5, none⟩ = some (.string ot) := bo2.cell 5
            have q0 := bo2.frozen 0
            have q1 := bo2.frozen 1
            have q2 := bo2.frozen 2
            have q3 := bo2.frozen 3
            have q4 := bo2.frozen 4
            have q5 := bo2.frozen 5
            have hne : Bo ≠ g := fun e => unhide nBH (.inl (.inl e))
            have hne' : g ≠ Bo := Ne.symm hne
            have hKw := (unhide K1).wire (w' := V2) (u := (.slice av WL cv)) (W' := W) (by rw [unhide hWLH]; exact hr) hc (fun b hb => .inl (by rw [← ho2]; exact hb))
            have nB4 : ¬ OW g (.slice ax n cx) (.slice av WL cv) vG n P Bo := by
              rintro ((e | e | e | e) | e)
              · exact unhide nBH (.inl (.inl e))
              · exact unhide nBH (.inl (.inr (.inl e)))
              · rw [ho2] at e; exact unhide nBH (.inl (.inr (.inr (.inl e))))
              · exact unhide nBH (.inl (.inr (.inr (.inr e))))
              · exact unhide nBH (.inr e)
            have cB : Chg (fun x => x = Bo) (V2.setCell ⟨g, 1, none⟩ (.slice av WL cv)) (((((((V2.setCell ⟨g, 1, none⟩ (.slice av WL cv)).setCell ⟨Bo, 0, none⟩ (.int .i64 6)).setCell ⟨Bo, 1, none⟩ (.int .i64 0)).setCell ⟨Bo, 2, none⟩ (.int .i64 0)).setCell ⟨Bo, 3, none⟩ (.int .i64 0)).setCell ⟨Bo, 4, none⟩ (.string ⟨#[]⟩)).setCell ⟨Bo, 5, none⟩ (.string ⟨#[]⟩)) :=
              Chg.setCell (p := ⟨Bo, 5, none⟩) (Chg.setCell (p := ⟨Bo, 4, none⟩) (Chg.setCell (p := ⟨Bo, 3, none⟩) (Chg.setCell (p := ⟨Bo, 2, none⟩) (Chg.setCell (p := ⟨Bo, 1, none⟩) (Chg.setCell (S := fun x => x = Bo) (p := ⟨Bo, 0, none⟩) (Chg.refl _ _) (.inl rfl) _) (.inl rfl) _) (.inl rfl) _) (.inl rfl) _) (.inl rfl) _) (.inl rfl) _
            have K4 := hide (hKw.of_chg cB (fun k e => by rw [e]; exact nB4))
            have op4 : Hid (Blk (((((((V2.setCell ⟨g, 1, none⟩ (.slice av WL cv)).setCell ⟨Bo, 0, none⟩ (.int .i64 6)).setCell ⟨Bo, 1, none⟩ (.int .i64 0)).setCell ⟨Bo, 2, none⟩ (.int .i64 0)).setCell ⟨Bo, 3, none⟩ (.int .i64 0)).setCell ⟨Bo, 4, none⟩ (.string ⟨#[]⟩)).setCell ⟨Bo, 5, none⟩ (.string ⟨#[]⟩)) Bo 44 [.int .i64 6, .int .i64 0, .int .i64 0, .int .i64 0, .string ⟨#[]⟩, .string ⟨#[]⟩]) := ((((((bo2.set_other (a := ⟨g, 1, none⟩) hne _).set 0 _).set 1 _).set 2 _).set 3 _).set 4 _).set 5 _
            have ch4 : Hid (Chg (fun k => w.heap.size ≤ k) w (((((((V2.setCell ⟨g, 1, none⟩ (.slice av WL cv)).setCell ⟨Bo, 0, none⟩ (.int .i64 6)).setCell ⟨Bo, 1, none⟩ (.int .i64 0)).setCell ⟨Bo, 2, none⟩ (.int .i64 0)).setCell ⟨Bo, 3, none⟩ (.int .i64 0)).setCell ⟨Bo, 4, none⟩ (.string ⟨#[]⟩)).setCell ⟨Bo, 5, none⟩ (.string ⟨#[]⟩))) := by
              have e1 := (unhide hch1).trans (hc.mono (fun z _ hz => (unhide K1).lo z (.inr (.inr (.inl hz)))))
              have e2 := Chg.setCell (p := ⟨g, 1, none⟩) e1 (.inl ((unhide K1).lo g (.inl rfl))) (.slice av WL cv)
              exact e2.trans (cB.mono (fun z _ e => by rw [e]; exact unhide hBB))
            clear bg bo2 hKw nB4 cB hr hc ho K1 bo1 hch1
            refine hK _ _ ?_
            clear hK K
            refine wpTail_go (by simp only [List.getElem?_toArray, List.getElem?_cons_succ, List.getElem?_cons_zero]; rfl) rfl (fun K hK => ?_)
            go_simp
            refine hK _ _ ?_
            clear hK K
            refine wpTail_pure (by simp only [List.getElem?_toArray, List.getElem?_cons_succ, List.getElem?_cons_zero]; rfl) rfl (fun K hK => ?_)
            go_big_quiet_op
            refine hK _ ?_
            clear hK K
            refine wpTail_pure (by simp only [List.getElem?_toArray, List.getElem?_cons_succ, List.getElem?_cons_zero]; rfl) rfl (fun K hK => ?_)
            go_big_quiet_op
            refine hK _ ?_
            clear hK K
            refine wpTail_go (by simp only [List.getElem?_toArray, List.getElem?_cons_succ, List.getElem?_cons_zero]; rfl) rfl (fun K hK => ?_)
            go_simp
            refine hK _ _ ?_
            clear hK K
            refine wpTail_go (by simp only [List.getElem?_toArray, List.getElem?_cons_succ, List.getElem?_cons_zero]; rfl) rfl (fun K hK => ?_)
            go_simp
            refine hK _ _ ?_
            clear hK K
            refine wpTail_go (by simp only [List.getElem?_toArray, List.getElem?_cons_succ, List.getElem?_cons_zero]; rfl) rfl (fun K hK => ?_)
            go_simp
            refine hK _ _ ?_
            clear hK K
            refine wpTail_go (by simp only [List.getElem?_toArray, List.getElem?_cons_succ, List.getElem?_cons_zero]; rfl) rfl (fun K hK => ?_)
            go_simp
            refine hK _ _ ?_
            clear hK K
            refine wpTail_nil ?_
            refine NoPanic.normal ?_
            clear d1 fd1 hgl2 r0 r1 r2 r3 r4 r5 q0 q1 q2 q3 q4 q5
            generalize ((((((V2.setCell ⟨g, 1, none⟩ (.slice av WL cv)).setCell ⟨Bo, 0, none⟩ (.int .i64 6)).setCell ⟨Bo, 1, none⟩ (.int .i64 0)).setCell ⟨Bo, 2, none⟩ (.int .i64 0)).setCell ⟨Bo, 3, none⟩ (.int .i64 0)).setCell ⟨Bo, 4, none⟩ (.string ⟨#[]⟩)).setCell ⟨Bo, 5, none⟩ (.string ⟨#[]⟩) = Z at *
            have c0 : Z.cell? ⟨g, 0, none⟩ = some (.slice ax n cx) := (unhide K4).gr.blk.cell 0
            have hgl4 := (unhide K4).gr.blk.lt
            have hc0H := hide (And.intro c0 hgl4)
            clear c0 hgl4
            refine unhide hKH _ _ ?_
            refine tk_six w.heap.size Z g n (150 * (j : Int) + 2) Bo _ _ _ _ _ _ (unhide op4) _ _ (unhide hc0H).1 (unhide hc0H).2 _ _ _ _ rfl ⟨⟨S, W, ⟨_, _, _, _, unhide K4, (unhide LH).mono (by omega)⟩⟩, Chg.refl _ _⟩ _ _ _ _ _ _ _ _ _ _ _ _ _ _ _ _ _ _ _ _ _ _ _ _ _ _ _ _ _ _ _ _ _ _ _ _ _ _ _ _ _ _ _ _ _ _ _ _ _ _ _ _ _ _ _ _ _ _ _ _ _ _ _ _ _ _ _ _ _ _ _ _ _ _ _ _ _ _ _ _ _ _ _ _ _ _ _ _ _ _ _ _ _ _ _ _ _ _ _ _ _ _ _ _ _ _ _ _ _ _ _ _ _ _ _ _ _ _ _ _ _ _ _ _ _ _ _ _ _ _ _ _ _ _ _ _ _ _ _ _ _ _ _ _ _ _ ?_
            refine hide ?_
            intro y13 y120 y121 y122 y123 y124 y125 y126 y127 y128 y129 y130 y131 y132 y133 y134 y135 y136 y137 y138 y139 y140 y141 y142 y143 y144 y145 y146 y147 y148 y149 y150 e wx he hko
            have KRH : Hid (KR w wx (j + 1) (.pointer (some ⟨g, 0, none⟩))) := by
              obtain ⟨h1, h2⟩ := hko
              exact KR.of (n := n) ⟨h1, (unhide ch4).trans h2⟩ (by push_cast; omega)
            clear hko
            rcases he with rfl | rfl
            · go_wp2
              go_roundw
              case rel => exact ⟨j + 1, (unhide jH).1, by go_num, unhide KRH⟩
              case measure =>
                obtain ⟨h1, h2⟩ := unhide jH
                simp [intOf]; omega
            · go_wp2
              go_roundw
              case rel => exact ⟨j + 1, (unhide jH).1, by go_num, unhide KRH⟩
              case measure =>
                obtain ⟨h1, h2⟩ := unhide jH
                simp [intOf]; omega
        · have hoth : Hid True := trivial
          obtain ⟨vX, vW, vG, P, K, L⟩ := unhide hk2
          obtain ⟨ax, cx, rfl⟩ := K.gr.rX.shape
          have c0 : (wr.alloc (.cells #[.int .i64 ok, .int .i64 oa, .int .i64 ob, .int .i64 oc, .string os, .string ot] 44)).cell? ⟨g, 0, none⟩ = some (.slice ax n cx) := K.gr.blk.cell 0
          have hgl := K.gr.blk.lt
          have hc0H := hide (And.intro c0 hgl)
          have hckL : Hid (∀ i, i < n → (S i).clock ≤ 1152921504606846976) := fun i hi => by have := (L.clk hi).2; have := unhide hCb; omega
          have hgrH := hide K.gr
          clear K L c0 hgl
          have e7 : (ok == 7) = false := by simpa using h7
          have e8 : (ok == 8) = false := by simpa using h8
          have e6 : (ok == 6) = false := by simpa using h6
          have hko0 : Hid (KO w.heap.size (wr.alloc (.cells #[.int .i64 ok, .int .i64 oa, .int .i64 ob, .int .i64 oc, .string os, .string ot] 44)) (wr.alloc (.cells #[.int .i64 ok, .int .i64 oa, .int .i64 ob, .int .i64 oc, .string os, .string ot] 44)) g n (150 * (j : Int) + 2)) := ⟨⟨S, W, (unhide hk2).mono (by omega)⟩, Chg.refl _ _⟩
          rcases (by omega : (3 ≤ ok ∧ ok ≤ 5) ∨ ok < 3 ∨ (3 ≤ ok ∧ 5 < ok)) with hfr | hfr | hfr
          · have f1 : decide (3 ≤ ok) = true := by simpa using hfr.1
            have f2 : decide (ok ≤ 5) = true := by simpa using hfr.2
            have h6' := hide h6
            clear h6 h7 h8
            have hfrH := hide hfr
            clear hfr
            go_upto_region 26 with fail
            rename_i hK KI hKI
            have hKH := hide hK
            clear hK
            go_wp2_with fail
            refine unhide hKH _ _ ?_
            clear o0 o1 o2 o3 o4 o5 k0 k1 k2 k3 k4 k5
            rcases (by omega : oa < 0 ∨ (0 ≤ oa ∧ (n : Int) ≤ oa) ∨ (0 ≤ oa ∧ oa < (n : Int))) with ha | ⟨ha, hb⟩ | ⟨ha, hb⟩
            · refine tk_neg w.heap.size _ g n (150 * (j : Int) + 2) Bo _ _ _ _ _ _ (unhide hbo2) _ _ (unhide hc0H).1 (unhide hc0H).2 _ _ _ _ (unhide h6') ha (unhide hko0) _ _ _ _ _ _ _ _ _ _ _ _ _ _ _ _ _ _ _ _ _ _ _ _ _ _ _ _ _ _ _ _ _ _ _ _ _ _ _ _ _ _ _ _ _ _ _ _ _ _ _ _ _ _ _ _ _ _ _ _ _ _ _ _ _ _ _ _ _ _ _ _ _ _ _ _ _ _ _ _ _ _ _ _ _ _ _ _ _ _ _ _ _ _ _ _ _ _ _ _ _ _ _ _ _ _ _ _ _ _ _ _ _ _ _ _ _ _ _ _ _ _ _ _ _ _ _ _ _ _ _ _ _ _ _ _ _ _ _ _ _ _ _ _ _ _ ?_
              refine hide ?_
              intro y13 y120 y121 y122 y123 y124 y125 y126 y127 y128 y129 y130 y131 y132 y133 y134 y135 y136 y137 y138 y139 y140 y141 y142 y143 y144 y145 y146 y147 y148 y149 y150 e wx he hko
              have KRH : Hid (KR w wx (j + 1) (.pointer (some ⟨g, 0, none⟩))) := by
                obtain ⟨h1, h2⟩ := hko
                exact KR.of (n := n) ⟨h1, (unhide hch2).trans h2⟩ (by push_cast; omega)
              clear hko
              rcases he with rfl | rfl
              · go_wp2
                go_roundw
                case rel => exact ⟨j + 1, (unhide jH).1, by go_num, unhide KRH⟩
                case measure =>
                  obtain ⟨h1, h2⟩ := unhide jH
                  simp [intOf]; omega
              · go_wp2
                go_roundw
                case rel => exact ⟨j + 1, (unhide jH).1, by go_num, unhide KRH⟩
                case measure =>
                  obtain ⟨h1, h2⟩ := unhide jH
                  simp [intOf]; omega
            · refine tk_big w.heap.size _ g n (150 * (j : Int) + 2) Bo _ _ _ _ _ _ (unhide hbo2) _ _ (unhide hc0H).1 (unhide hc0H).2 _ _ _ _ (unhide h6') ha hb (unhide hko0) _ _ _ _ _ _ _ _ _ _ _ _ _ _ _ _ _ _ _ _ _ _ _ _ _ _ _ _ _ _ _ _ _ _ _ _ _ _ _ _ _ _ _ _ _ _ _ _ _ _ _ _ _ _ _ _ _ _ _ _ _ _ _ _ _ _ _ _ _ _ _ _ _ _ _ _ _ _ _ _ _ _ _ _ _ _ _ _ _ _ _ _ _ _ _ _ _ _ _ _ _ _ _ _ _ _ _ _ _ _ _ _ _ _ _ _ _ _ _ _ _ _ _ _ _ _ _ _ _ _ _ _ _ _ _ _ _ _ _ _ _ _ _ _ _ _ ?_
              refine hide ?_
              intro y13 y120 y121 y122 y123 y124 y125 y126 y127 y128 y129 y130 y131 y132 y133 y134 y135 y136 y137 y138 y139 y140 y141 y142 y143 y144 y145 y146 y147 y148 y149 y150 e wx he hko
              have KRH : Hid (KR w wx (j + 1) (.pointer (some ⟨g, 0, none⟩))) := by
                obtain ⟨h1, h2⟩ := hko
                exact KR.of (n := n) ⟨h1, (unhide hch2).trans h2⟩ (by push_cast; omega)
              clear hko
              rcases he with rfl | rfl
              · go_wp2
                go_roundw
                case rel => exact ⟨j + 1, (unhide jH).1, by go_num, unhide KRH⟩
                case measure =>
                  obtain ⟨h1, h2⟩ := unhide jH
                  simp [intOf]; omega
              · go_wp2
                go_roundw
                case rel => exact ⟨j + 1, (unhide jH).1, by go_num, unhide KRH⟩
                case measure =>
                  obtain ⟨h1, h2⟩ := unhide jH
                  simp [intOf]; omega
            · obtain ⟨i, rfl⟩ : ∃ i : Nat, oa = i := ⟨oa.toNat, by omega⟩
              have hi : i < n := by omega
              have how : ∀ V', Quiet (wr.alloc (.cells #[.int .i64 ok, .int .i64 i, .int .i64 ob, .int .i64 oc, .string os, .string ot] 44)) V' → Calls Try.prog 25 #[ptr g, .agg #[.int .i64 ok, .int .i64 i, .int .i64 ob, .int .i64 oc, .string os, .string ot]] V' fun e w' => e = .returned (.int .i64 (owedP n i (S i) ok ob oc)) ∧ Quiet V' w' := fun V' q => owed_any V' g _ vW vG n (unhide hn1).2 _ W S ((unhide hgrH).quiet q) i hi (unhide hckL i hi) ok ob oc os ot
              by_cases hO : owedP n i (S i) ok ob oc = 0
              · refine tk_fit w.heap.size _ g n (150 * (j : Int) + 2) Bo _ _ _ _ _ _ (unhide hbo2) _ _ (unhide hc0H).1 (unhide hc0H).2 _ _ _ _ (unhide h6') ha hb rfl _ hO how (unhide hko0) _ _ _ _ _ _ _ _ _ _ _ _ _ _ _ _ _ _ _ _ _ _ _ _ _ _ _ _ _ _ _ _ _ _ _ _ _ _ _ _ _ _ _ _ _ _ _ _ _ _ _ _ _ _ _ _ _ _ _ _ _ _ _ _ _ _ _ _ _ _ _ _ _ _ _ _ _ _ _ _ _ _ _ _ _ _ _ _ _ _ _ _ _ _ _ _ _ _ _ _ _ _ _ _ _ _ _ _ _ _ _ _ _ _ _ _ _ _ _ _ _ _ _ _ _ _ _ _ _ _ _ _ _ _ _ _ _ _ _ _ _ _ _ _ _ _ ?_
                refine hide ?_
                intro y13 y120 y121 y122 y123 y124 y125 y126 y127 y128 y129 y130 y131 y132 y133 y134 y135 y136 y137 y138 y139 y140 y141 y142 y143 y144 y145 y146 y147 y148 y149 y150 e wx he hko
                have KRH : Hid (KR w wx (j + 1) (.pointer (some ⟨g, 0, none⟩))) := by
                  obtain ⟨h1, h2⟩ := hko
                  exact KR.of (n := n) ⟨h1, (unhide hch2).trans h2⟩ (by push_cast; omega)
                clear hko
                rcases he with rfl | rfl
                · go_wp2
                  go_roundw
                  case rel => exact ⟨j + 1, (unhide jH).1, by go_num, unhide KRH⟩
                  case measure =>
                    obtain ⟨h1, h2⟩ := unhide jH
                    simp [intOf]; omega
                · go_wp2
                  go_roundw
                  case rel => exact ⟨j + 1, (unhide jH).1, by go_num, unhide KRH⟩
                  case measure =>
                    obtain ⟨h1, h2⟩ := unhide jH
                    simp [intOf]; omega
              · refine tk_owed w.heap.size _ g n (150 * (j : Int) + 2) Bo _ _ _ _ _ _ (unhide hbo2) _ _ (unhide hc0H).1 (unhide hc0H).2 _ _ _ _ (unhide h6') ha hb rfl _ hO how (fun V' q => ⟨72, evk_any ((unhide hk2).quiet q) (by have := unhide hCb; omega) hi ok ob oc os ot qu (by have := unhide hfrH; omega) (fun _ _ => hO)⟩) _ _ _ _ _ _ _ _ _ _ _ _ _ _ _ _ _ _ _ _ _ _ _ _ _ _ _ _ _ _ _ _ _ _ _ _ _ _ _ _ _ _ _ _ _ _ _ _ _ _ _ _ _ _ _ _ _ _ _ _ _ _ _ _ _ _ _ _ _ _ _ _ _ _ _ _ _ _ _ _ _ _ _ _ _ _ _ _ _ _ _ _ _ _ _ _ _ _ _ _ _ _ _ _ _ _ _ _ _ _ _ _ _ _ _ _ _ _ _ _ _ _ _ _ _ _ _ _ _ _ _ _ _ _ _ _ _ _ _ _ _ _ _ _ _ _ ?_
                refine hide ?_
                intro y13 y120 y121 y122 y123 y124 y125 y126 y127 y128 y129 y130 y131 y132 y133 y134 y135 y136 y137 y138 y139 y140 y141 y142 y143 y144 y145 y146 y147 y148 y149 y150 e wx he hko
                have KRH : Hid (KR w wx (j + 1) (.pointer (some ⟨g, 0, none⟩))) := by
                  obtain ⟨h1, h2⟩ := hko
                  exact KR.of (n := n) ⟨h1, (unhide hch2).trans h2⟩ (by push_cast; omega)
                clear hko
                rcases he with rfl | rfl
                · go_wp2
                  go_roundw
                  case rel => exact ⟨j + 1, (unhide jH).1, by go_num, unhide KRH⟩
                  case measure =>
                    obtain ⟨h1, h2⟩ := unhide jH
                    simp [intOf]; omega
                · go_wp2
                  go_roundw
                  case rel => exact ⟨j + 1, (unhide jH).1, by go_num, unhide KRH⟩
                  case measure =>
                    obtain ⟨h1, h2⟩ := unhide jH
                    simp [intOf]; omega
          · have f1 : decide (3 ≤ ok) = false := by simp; omega
            have hall := hide (And.intro h6 (And.intro h7 (And.intro h8 hfr)))
            clear h6 h7 h8 hfr
            go_upto_region 26 with fail
            rename_i hK KI hKI
            have hKH := hide hK
            clear hK
            go_wp2_with fail
            refine unhide hKH _ _ ?_
            clear o0 o1 o2 o3 o4 o5 k0 k1 k2 k3 k4 k5
            rcases (by omega : oa < 0 ∨ (0 ≤ oa ∧ (n : Int) ≤ oa) ∨ (0 ≤ oa ∧ oa < (n : Int))) with ha | ⟨ha, hb⟩ | ⟨ha, hb⟩
            · refine tk_neg w.heap.size _ g n (150 * (j : Int) + 2) Bo _ _ _ _ _ _ (unhide hbo2) _ _ (unhide hc0H).1 (unhide hc0H).2 _ _ _ _ (unhide hall).1 ha (unhide hko0) _ _ _ _ _ _ _ _ _ _ _ _ _ _ _ _ _ _ _ _ _ _ _ _ _ _ _ _ _ _ _ _ _ _ _ _ _ _ _ _ _ _ _ _ _ _ _ _ _ _ _ _ _ _ _ _ _ _ _ _ _ _ _ _ _ _ _ _ _ _ _ _ _ _ _ _ _ _ _ _ _ _ _ _ _ _ _ _ _ _ _ _ _ _ _ _ _ _ _ _ _ _ _ _ _ _ _ _ _ _ _ _ _ _ _ _ _ _ _ _ _ _ _ _ _ _ _ _ _ _ _ _ _ _ _ _ _ _ _ _ _ _ _ _ _ _ ?_
              refine hide ?_
              intro y13 y120 y121 y122 y123 y124 y125 y126 y127 y128 y129 y130 y131 y132 y133 y134 y135 y136 y137 y138 y139 y140 y141 y142 y143 y144 y145 y146 y147 y148 y149 y150 e wx he hko
              have KRH : Hid (KR w wx (j + 1) (.pointer (some ⟨g, 0, none⟩))) := by
                obtain ⟨h1, h2⟩ := hko
                exact KR.of (n := n) ⟨h1, (unhide hch2).trans h2⟩ (by push_cast; omega)
              clear hko
              rcases he with rfl | rfl
              · go_wp2
                go_roundw
                case rel => exact ⟨j + 1, (unhide jH).1, by go_num, unhide KRH⟩
                case measure =>
                  obtain ⟨h1, h2⟩ := unhide jH
                  simp [intOf]; omega
              · go_wp2
                go_roundw
                case rel => exact ⟨j + 1, (unhide jH).1, by go_num, unhide KRH⟩
                case measure =>
                  obtain ⟨h1, h2⟩ := unhide jH
                  simp [intOf]; omega
            · refine tk_big w.heap.size _ g n (150 * (j : Int) + 2) Bo _ _ _ _ _ _ (unhide hbo2) _ _ (unhide hc0H).1 (unhide hc0H).2 _ _ _ _ (unhide hall).1 ha hb (unhide hko0) _ _ _ _ _ _ _ _ _ _ _ _ _ _ _ _ _ _ _ _ _ _ _ _ _ _ _ _ _ _ _ _ _ _ _ _ _ _ _ _ _ _ _ _ _ _ _ _ _ _ _ _ _ _ _ _ _ _ _ _ _ _ _ _ _ _ _ _ _ _ _ _ _ _ _ _ _ _ _ _ _ _ _ _ _ _ _ _ _ _ _ _ _ _ _ _ _ _ _ _ _ _ _ _ _ _ _ _ _ _ _ _ _ _ _ _ _ _ _ _ _ _ _ _ _ _ _ _ _ _ _ _ _ _ _ _ _ _ _ _ _ _ _ _ _ _ ?_
              refine hide ?_
              intro y13 y120 y121 y122 y123 y124 y125 y126 y127 y128 y129 y130 y131 y132 y133 y134 y135 y136 y137 y138 y139 y140 y141 y142 y143 y144 y145 y146 y147 y148 y149 y150 e wx he hko
              have KRH : Hid (KR w wx (j + 1) (.pointer (some ⟨g, 0, none⟩))) := by
                obtain ⟨h1, h2⟩ := hko
                exact KR.of (n := n) ⟨h1, (unhide hch2).trans h2⟩ (by push_cast; omega)
              clear hko
              rcases he with rfl | rfl
              · go_wp2
                go_roundw
                case rel => exact ⟨j + 1, (unhide jH).1, by go_num, unhide KRH⟩
                case measure =>
                  obtain ⟨h1, h2⟩ := unhide jH
                  simp [intOf]; omega
              · go_wp2
                go_roundw
                case rel => exact ⟨j + 1, (unhide jH).1, by go_num, unhide KRH⟩
                case measure =>
                  obtain ⟨h1, h2⟩ := unhide jH
                  simp [intOf]; omega
            · obtain ⟨i, rfl⟩ : ∃ i : Nat, oa = i := ⟨oa.toNat, by omega⟩
              refine tk_ev w.heap.size _ g n (150 * (j : Int) + 2) Bo _ _ _ _ _ _ (unhide hbo2) _ _ (unhide hc0H).1 (unhide hc0H).2 _ _ _ _ (unhide hall).1 ha hb rfl (fun V' q => ⟨72, evk_any ((unhide hk2).quiet q) (by have := unhide hCb; omega) (by omega) ok ob oc os ot qu (by have := unhide hall; omega) (fun h h5 => by have := unhide hall; omega)⟩) _ _ _ _ _ _ _ _ _ _ _ _ _ _ _ _ _ _ _ _ _ _ _ _ _ _ _ _ _ _ _ _ _ _ _ _ _ _ _ _ _ _ _ _ _ _ _ _ _ _ _ _ _ _ _ _ _ _ _ _ _ _ _ _ _ _ _ _ _ _ _ _ _ _ _ _ _ _ _ _ _ _ _ _ _ _ _ _ _ _ _ _ _ _ _ _ _ _ _ _ _ _ _ _ _ _ _ _ _ _ _ _ _ _ _ _ _ _ _ _ _ _ _ _ _ _ _ _ _ _ _ _ _ _ _ _ _ _ _ _ _ _ _ _ _ _ ?_
              refine hide ?_
              intro y13 y120 y121 y122 y123 y124 y125 y126 y127 y128 y129 y130 y131 y132 y133 y134 y135 y136 y137 y138 y139 y140 y141 y142 y143 y144 y145 y146 y147 y148 y149 y150 e wx he hko
              have KRH : Hid (KR w wx (j + 1) (.pointer (some ⟨g, 0, none⟩))) := by
                obtain ⟨h1, h2⟩ := hko
                exact KR.of (n := n) ⟨h1, (unhide hch2).trans h2⟩ (by push_cast; omega)
              clear hko
              rcases he with rfl | rfl
              · go_wp2
                go_roundw
                case rel => exact ⟨j + 1, (unhide jH).1, by go_num, unhide KRH⟩
                case measure =>
                  obtain ⟨h1, h2⟩ := unhide jH
                  simp [intOf]; omega
              · go_wp2
                go_roundw
                case rel => exact ⟨j + 1, (unhide jH).1, by go_num, unhide KRH⟩
                case measure =>
                  obtain ⟨h1, h2⟩ := unhide jH
                  simp [intOf]; omega
          · have f1 : decide (3 ≤ ok) = true := by simpa using hfr.1
            have f2 : decide (ok ≤ 5) = false := by simp; omega
            have hall := hide (And.intro h6 (And.intro h7 (And.intro h8 hfr)))
            clear h6 h7 h8 hfr
            go_upto_region 26 with fail
            rename_i hK KI hKI
            have hKH := hide hK
            clear hK
            go_wp2_with fail
            refine unhide hKH _ _ ?_
            clear o0 o1 o2 o3 o4 o5 k0 k1 k2 k3 k4 k5
            rcases (by omega : oa < 0 ∨ (0 ≤ oa ∧ (n : Int) ≤ oa) ∨ (0 ≤ oa ∧ oa < (n : Int))) with ha | ⟨ha, hb⟩ | ⟨ha, hb⟩
            · refine tk_neg w.heap.size _ g n (150 * (j : Int) + 2) Bo _ _ _ _ _ _ (unhide hbo2) _ _ (unhide hc0H).1 (unhide hc0H).2 _ _ _ _ (unhide hall).1 ha (unhide hko0) _ _ _ _ _ _ _ _ _ _ _ _ _ _ _ _ _ _ _ _ _ _ _ _ _ _ _ _ _ _ _ _ _ _ _ _ _ _ _ _ _ _ _ _ _ _ _ _ _ _ _ _ _ _ _ _ _ _ _ _ _ _ _ _ _ _ _ _ _ _ _ _ _ _ _ _ _ _ _ _ _ _ _ _ _ _ _ _ _ _ _ _ _ _ _ _ _ _ _ _ _ _ _ _ _ _ _ _ _ _ _ _ _ _ _ _ _ _ _ _ _ _ _ _ _ _ _ _ _ _ _ _ _ _ _ _ _ _ _ _ _ _ _ _ _ _ ?_
              refine hide ?_
              intro y13 y120 y121 y122 y123 y124 y125 y126 y127 y128 y129 y130 y131 y132 y133 y134 y135 y136 y137 y138 y139 y140 y141 y142 y143 y144 y145 y146 y147 y148 y149 y150 e wx he hko
              have KRH : Hid (KR w wx (j + 1) (.pointer (some ⟨g, 0, none⟩))) := by
                obtain ⟨h1, h2⟩ := hko
                exact KR.of (n := n) ⟨h1, (unhide hch2).trans h2⟩ (by push_cast; omega)
              clear hko
              rcases he with rfl | rfl
              · go_wp2
                go_roundw
                case rel => exact ⟨j + 1, (unhide jH).1, by go_num, unhide KRH⟩
                case measure =>
                  obtain ⟨h1, h2⟩ := unhide jH
                  simp [intOf]; omega
              · go_wp2
                go_roundw
                case rel => exact ⟨j + 1, (unhide jH).1, by go_num, unhide KRH⟩
                case measure =>
                  obtain ⟨h1, h2⟩ := unhide jH
                  simp [intOf]; omega
            · refine tk_big w.heap.size _ g n (150 * (j : Int) + 2) Bo _ _ _ _ _ _ (unhide hbo2) _ _ (unhide hc0H).1 (unhide hc0H).2 _ _ _ _ (unhide hall).1 ha hb (unhide hko0) _ _ _ _ _ _ _ _ _ _ _ _ _ _ _ _ _ _ _ _ _ _ _ _ _ _ _ _ _ _ _ _ _ _ _ _ _ _ _ _ _ _ _ _ _ _ _ _ _ _ _ _ _ _ _ _ _ _ _ _ _ _ _ _ _ _ _ _ _ _ _ _ _ _ _ _ _ _ _ _ _ _ _ _ _ _ _ _ _ _ _ _ _ _ _ _ _ _ _ _ _ _ _ _ _ _ _ _ _ _ _ _ _ _ _ _ _ _ _ _ _ _ _ _ _ _ _ _ _ _ _ _ _ _ _ _ _ _ _ _ _ _ _ _ _ _ ?_
              refine hide ?_
              intro y13 y120 y121 y122 y123 y124 y125 y126 y127 y128 y129 y130 y131 y132 y133 y134 y135 y136 y137 y138 y139 y140 y141 y142 y143 y144 y145 y146 y147 y148 y149 y150 e wx he hko
              have KRH : Hid (KR w wx (j + 1) (.pointer (some ⟨g, 0, none⟩))) := by
                obtain ⟨h1, h2⟩ := hko
                exact KR.of (n := n) ⟨h1, (unhide hch2).trans h2⟩ (by push_cast; omega)
              clear hko
              rcases he with rfl | rfl
              · go_wp2
                go_roundw
                case rel => exact ⟨j + 1, (unhide jH).1, by go_num, unhide KRH⟩
                case measure =>
                  obtain ⟨h1, h2⟩ := unhide jH
                  simp [intOf]; omega
              · go_wp2
                go_roundw
                case rel => exact ⟨j + 1, (unhide jH).1, by go_num, unhide KRH⟩
                case measure =>
                  obtain ⟨h1, h2⟩ := unhide jH
                  simp [intOf]; omega
            · obtain ⟨i, rfl⟩ : ∃ i : Nat, oa = i := ⟨oa.toNat, by omega⟩
              refine tk_ev w.heap.size _ g n (150 * (j : Int) + 2) Bo _ _ _ _ _ _ (unhide hbo2) _ _ (unhide hc0H).1 (unhide hc0H).2 _ _ _ _ (unhide hall).1 ha hb rfl (fun V' q => ⟨72, evk_any ((unhide hk2).quiet q) (by have := unhide hCb; omega) (by omega) ok ob oc os ot qu (by have := unhide hall; omega) (fun h h5 => by have := unhide hall; omega)⟩) _ _ _ _ _ _ _ _ _ _ _ _ _ _ _ _ _ _ _ _ _ _ _ _ _ _ _ _ _ _ _ _ _ _ _ _ _ _ _ _ _ _ _ _ _ _ _ _ _ _ _ _ _ _ _ _ _ _ _ _ _ _ _ _ _ _ _ _ _ _ _ _ _ _ _ _ _ _ _ _ _ _ _ _ _ _ _ _ _ _ _ _ _ _ _ _ _ _ _ _ _ _ _ _ _ _ _ _ _ _ _ _ _ _ _ _ _ _ _ _ _ _ _ _ _ _ _ _ _ _ _ _ _ _ _ _ _ _ _ _ _ _ _ _ _ _ ?_
              refine hide ?_
              intro y13 y120 y121 y122 y123 y124 y125 y126 y127 y128 y129 y130 y131 y132 y133 y134 y135 y136 y137 y138 y139 y140 y141 y142 y143 y144 y145 y146 y147 y148 y149 y150 e wx he hko
              have KRH : Hid (KR w wx (j + 1) (.pointer (some ⟨g, 0, none⟩))) := by
                obtain ⟨h1, h2⟩ := hko
                exact KR.of (n := n) ⟨h1, (unhide hch2).trans h2⟩ (by push_cast; omega)
              clear hko
              rcases he with rfl | rfl
              · go_wp2
                go_roundw
                case rel => exact ⟨j + 1, (unhide jH).1, by go_num, unhide KRH⟩
                case measure =>
                  obtain ⟨h1, h2⟩ := unhide jH
                  simp [intOf]; omega
              · go_wp2
                go_roundw
                case rel => exact ⟨j + 1, (unhide jH).1, by go_num, unhide KRH⟩
                case measure =>
                  obtain ⟨h1, h2⟩ := unhide jH
                  simp [intOf]; omega
      · have g1 : decide (j < len) = true := by simpa using hlt
        have g2 : ¬ (j : Int) < 4398046511104 := hmax
        have g3 : ¬ (len : Int) < 4398046511104 := by omega
        clear hkx hmax
        go_wp2
        go_ret
        exact ⟨rfl, unhide hbelH⟩
    · have g1 : decide (j < len) = false := by simpa using hlt
      have g2 : ¬ (j : Int) < (len : Int) := by omega
      clear hkx
      by_cases g3 : (len : Int) < 4398046511104
      · go_wp2
        go_ret
        exact ⟨rfl, unhide hbelH⟩
      · go_wp2
        go_ret
        exact ⟨rfl, unhide hbelH⟩

theorem keepsUpTo_any (w : World) (a : Option Addr) (len cap : Nat) (ops : List Opr) (ho : IsOps w a len cap ops) :
    Calls Try.prog 10 #[.slice a len cap] w fun e w' => e = .returned (.int .i64 (-1)) ∧ Below w.heap.size w w' := by
  go_enter Try.func10, Try.ntmps10
  go_wp2_with fail
  refine (keep_any w a len cap ops false ho).mono ?_
  rintro e w1 ⟨rfl, bel⟩
  go_wp2
  go_ret
  exact ⟨rfl, bel⟩
theorem keepsQuietUpTo_any (w : World) (a : Option Addr) (len cap : Nat) (ops : List Opr) (ho : IsOps w a len cap ops) :
    Calls Try.prog 11 #[.slice a len cap] w fun e w' => e = .returned (.int .i64 (-1)) ∧ Below w.heap.size w w' := by
  go_enter Try.func11, Try.ntmps11
  go_wp2_with fail
  refine (keep_any w a len cap ops true ho).mono ?_
  rintro e w1 ⟨rfl, bel⟩
  go_wp2
  go_ret
  exact ⟨rfl, bel⟩
theorem keeps_any (w : World) (a : Option Addr) (len cap : Nat) (ops : List Opr) (ho : IsOps w a len cap ops) :
    Calls Try.prog 3 #[.slice a len cap] w fun e w' => e = .returned (.bool true) ∧ Below w.heap.size w w' := by
  go_enter Try.func3, Try.ntmps3
  go_wp2_with fail
  refine (keepsUpTo_any w a len cap ops ho).mono ?_
  rintro e w1 ⟨rfl, bel⟩
  go_wp2
  go_ret
  exact ⟨rfl, bel⟩
theorem keepsQuiet_any (w : World) (a : Option Addr) (len cap : Nat) (ops : List Opr) (ho : IsOps w a len cap ops) :
    Calls Try.prog 4 #[.slice a len cap] w fun e w' => e = .returned (.bool true) ∧ Below w.heap.size w w' := by
  go_enter Try.func4, Try.ntmps4
  go_wp2_with fail
  refine (keepsQuietUpTo_any w a len cap ops ho).mono ?_
  rintro e w1 ⟨rfl, bel⟩
  go_wp2
  go_ret
  exact ⟨rfl, bel⟩
end Go.Proofs.Qxb6500367a
