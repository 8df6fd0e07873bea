/-
  KEEPS: school. (gen8kschool.py)
-/
import Derived.Test.Qxb6500368aKSum
namespace Go.Proofs.Qxb6500368a
open Go.RowKit Go.Qx
set_option linter.unusedVariables false
set_option linter.unusedSimpArgs false

set_option maxRecDepth 100000 in
set_option maxHeartbeats 4000000 in
theorem school_zero (w : World) (f g : Nat → Int) (la lb : Nat) (ha : la ≤ 16) (hb : lb ≤ 16) (hf : InP la f) (hgI : InP lb g) (hz : la = 0 ∨ lb = 0) :
    Calls Try.prog 27 #[.string (str (packL f la)), .string (str (packL g lb))] w fun e w' => e = .returned (.string (str [])) ∧ Quiet w w' := by
  have hq := hide (quadsP_any w f la ha hf)
  have hg := hide (fun W => quadsP_any W g lb hb hgI)
  rw [show str ([] : List UInt8) = ⟨#[]⟩ from rfl]
  by_cases hza : la = 0
  · clear ha hf hz
    generalize hsf : str (packL f la) = SF at *
    generalize hsg : str (packL g lb) = SG at *
    clear hsf hsg
    subst hza
    clear hb hgI
    go_enter Try.func27, Try.ntmps27
    go_wp2_with fail
    refine (unhide hq).mono ?_
    clear hq
    rintro e w1 ⟨p, rfl, q1, hp, BX⟩
    have hq2 := hide (unhide hg w1)
    have q1H := hide q1
    clear q1 hp BX hg
    go_wp2_with fail
    refine (unhide hq2).mono ?_
    clear hq2
    rintro e w2 ⟨r, rfl, q2, hr, BY⟩
    have q2H : Hid (Quiet w w2) := (unhide q1H).trans q2
    clear q2 hr BY q1H
    go_wp2
    go_ret
    exact ⟨rfl, unhide q2H⟩
  · have hzb : lb = 0 := by omega
    have z1 : ¬ (la : Int) = 0 := by omega
    have z1b : ((la : Int) == 0) = false := by simpa using z1
    clear hz hza hb hgI ha hf
    generalize hsf : str (packL f la) = SF at *
    generalize hsg : str (packL g lb) = SG at *
    clear hsf hsg
    subst hzb
    go_enter Try.func27, Try.ntmps27
    go_wp2_with fail
    refine (unhide hq).mono ?_
    clear hq
    rintro e w1 ⟨p, rfl, q1, hp, BX⟩
    have hq2 := hide (unhide hg w1)
    have q1H := hide q1
    clear q1 hp BX hg
    go_wp2_with fail
    refine (unhide hq2).mono ?_
    clear hq2
    rintro e w2 ⟨r, rfl, q2, hr, BY⟩
    have q2H : Hid (Quiet w w2) := (unhide q1H).trans q2
    clear q2 hr BY q1H
    go_wp2
    go_ret
    exact ⟨rfl, unhide q2H⟩

set_option maxRecDepth 100000 in
set_option maxHeartbeats 4000000 in
theorem school_any (w : World) (f g : Nat → Int) (la lb L : Nat) (ha : la ≤ 16) (hb : lb ≤ 16) (hf : InP la f) (hgI : InP lb g) (hz : ¬ (la = 0 ∨ lb = 0)) (hL : la + lb = L + 1) (hL16 : L ≤ 16) :
    Calls Try.prog 27 #[.string (str (packL f la)), .string (str (packL g lb))] w fun e w' => e = .returned (.string (str (packL (yAll lb f g la) L))) ∧ Quiet w w' := by
  have hq := hide (quadsP_any w f la ha hf)
  have hg := hide (fun W => quadsP_any W g lb hb hgI)
  have z1 : ¬ (la : Int) = 0 := by omega
  have z2 : ¬ (lb : Int) = 0 := by omega
  have z1b : ((la : Int) == 0) = false := by simpa using z1
  have z2b : ((lb : Int) == 0) = false := by simpa using z2
  have eL : (la : Int) + (lb : Int) - 1 = (L : Int) := by omega
  have ws : wrap64 ((la : Int) + (lb : Int)) = (la : Int) + (lb : Int) := wrap_small (la + lb) (by omega)
  have wL : wrap64 (L : Int) = (L : Int) := wrap_small L (by omega)
  have hmk : ∀ W : World, (Instr.makeSlice 58 (.int .i64 L) (.int .i64 L)).run Try.prog W = .ok (.slice (some ⟨W.heap.size, 0, none⟩) L L) (W.alloc (.cells (ints .i64 (fun _ => 0) L).toArray 3)) := fun W => make58k W L hL16
  generalize hF : (ints .i64 (fun _ => 0) L).toArray = F at hmk
  have hFH := hide hF
  clear hF
  have hfacts := hide (⟨ha, hb, hL, hL16⟩ : la ≤ 16 ∧ lb ≤ 16 ∧ la + lb = L + 1 ∧ L ≤ 16)
  have hfH := hide hf
  have hgH := hide hgI
  clear ha hb hL hL16 hz hf hgI
  generalize str (packL f la) = SF at *
  generalize str (packL g lb) = SG at *
  go_enter Try.func27, Try.ntmps27
  go_wp2_with fail
  refine (unhide hq).mono ?_
  clear hq
  rintro e w1 ⟨p, rfl, q1, hp, BX⟩
  have hq2 := hide (unhide hg w1)
  have q1H := hide q1
  have BXH := hide BX
  clear q1 hp BX hg
  go_wp2_with fail
  refine (unhide hq2).mono ?_
  clear hq2
  rintro e w2 ⟨r, rfl, q2, hr, BY⟩
  have q2H : Hid (Quiet w w2) := (unhide q1H).trans q2
  have BX2 := hide (q2.blk (unhide BXH))
  have BYH := hide BY
  clear q2 hr BY q1H BXH
  have B0 : Hid (Blk (w2.alloc (.cells F 3)) w2.heap.size 3 (ints .i64 (fun _ => 0) L)) := by
    rw [← unhide hFH]; exact Blk.new w2 3 _
  have Q0 : Hid (Quiet w (w2.alloc (.cells F 3))) := (unhide q2H).trans ((Chg.refl _ _).alloc _)
  have X0 : Hid (Blk (w2.alloc (.cells F 3)) p 3 (ints .i64 f la)) := (unhide BX2).alloc _
  have Y0 : Hid (Blk (w2.alloc (.cells F 3)) r 3 (ints .i64 g lb)) := (unhide BYH).alloc _
  have hpl : Hid (p < w2.heap.size ∧ r < w2.heap.size ∧ w.heap.size ≤ w2.heap.size) := ⟨(unhide BX2).lt, (unhide BYH).lt, (unhide q2H).size⟩
  go_wp2
  clear hmk hFH q2H BX2 BYH z1 z2 z1b z2b eL ws wL
  generalize w2.alloc (.cells F 3) = W3 at *
  generalize w2.heap.size = Y at *
  go_loopw [10] (fun z wr => ∃ i : Nat, i ≤ la ∧ z = .int .i64 i ∧ Quiet w wr ∧ Blk wr p 3 (ints .i64 f la) ∧ Blk wr r 3 (ints .i64 g lb) ∧ Blk wr Y 3 (ints .i64 (yAll lb f g i) L)) (fun z _ => la + 1 - (intOf z).toNat)
  case atStart => exact ⟨0, by omega, rfl, unhide Q0, unhide X0, unhide Y0, unhide B0⟩
  case round =>
    clear B0 Q0 X0 Y0
    obtain ⟨i, hi, rfl, q, BX, BY, BG⟩ := hrel
    by_cases hlt : i < la
    · have g1 : (i : Int) < (la : Int) := by omega
      have i0 : (0 : Int) ≤ (i : Int) := by omega
      have lt5 : i + 1 < 1073741824 := by have := (unhide hfacts).1; omega
      have wi : wrap64 ((i : Int) + 1) = (i : Int) + 1 := wrap_small (i + 1) lt5
      have hltH := hide hlt
      have allH := hide (⟨q, BX, BY, BG⟩ : _ ∧ _ ∧ _ ∧ _)
      clear q BX BY BG hlt hi lt5
      go_wp2
      go_loopw [11] (fun z wr => ∃ j : Nat, j ≤ lb ∧ z = .int .i64 j ∧ Quiet w wr ∧ Blk wr p 3 (ints .i64 f la) ∧ Blk wr r 3 (ints .i64 g lb) ∧ Blk wr Y 3 (ints .i64 (yRow f g i (yAll lb f g i) j) L)) (fun z _ => lb + 1 - (intOf z).toNat)
      case atStart => exact ⟨0, by omega, rfl, (unhide allH).1, (unhide allH).2.1, (unhide allH).2.2.1, (unhide allH).2.2.2⟩
      case round =>
        clear allH
        obtain ⟨j, hj, rfl, q, BX, BY, BG⟩ := hrel
        by_cases hlt : j < lb
        · have g2 : (j : Int) < (lb : Int) := by omega
          have j0 : (0 : Int) ≤ (j : Int) := by omega
          obtain ⟨x1, x2, x3, x4⟩ := unhide hfacts
          have hia := unhide hltH
          have lt3 : i + j < L := by omega
          have lt4 : i + j < 1073741824 := by omega
          have lt5 : j + 1 < 1073741824 := by omega
          have ek : (i : Int) + (j : Int) = ((i + j : Nat) : Int) := by omega
          have k1 : ((i + j : Nat) : Int) < (L : Int) := by omega
          have k0 : (0 : Int) ≤ ((i + j : Nat) : Int) := by omega
          have kw : wrap64 ((i + j : Nat) : Int) = ((i + j : Nat) : Int) := wrap_small _ lt4
          have kw2 : IntKind.i64.wrap ((i + j : Nat) : Int) = ((i + j : Nat) : Int) := i64_wrap kw
          have wi2 : wrap64 ((j : Int) + 1) = (j : Int) + 1 := wrap_small (j + 1) lt5
          have cA := BX.cell i
          rw [ints_get _ _ _ _ hia] at cA
          have cB := BY.cell j
          rw [ints_get _ _ _ _ hlt] at cB
          have hcA := unhide hfH i hia
          have hcB := unhide hgH j hlt
          have hy := yRow_in f g i _ (yAll_in lb f g i) j (i + j)
          have cY := BG.cell (i + j)
          rw [ints_get _ _ _ _ lt3] at cY
          have fY := BG.frozen (i + j)
          have BN : Hid (∀ nq, Blk ((wr.drewN nq).setCell ⟨Y, i + j, none⟩ (.int .i64 ((yRow f g i (yAll lb f g i) j (i + j) + f i * g j) % pP))) Y 3 (ints .i64 (yRow f g i (yAll lb f g i) (j + 1)) L)) := fun nq => by
            have h1 := (BG.drewN nq).set (i + j) (.int .i64 ((yRow f g i (yAll lb f g i) j (i + j) + f i * g j) % pP))
            rw [ints_set _ _ _ _ _ lt3] at h1
            exact h1
          have XN : Hid (∀ nq v, Blk ((wr.drewN nq).setCell ⟨Y, i + j, none⟩ v) p 3 (ints .i64 f la)) := fun nq v => (BX.drewN nq).set_other (a := ⟨Y, i + j, none⟩) (Nat.ne_of_lt (unhide hpl).1) v
          have YN : Hid (∀ nq v, Blk ((wr.drewN nq).setCell ⟨Y, i + j, none⟩ v) r 3 (ints .i64 g lb)) := fun nq v => (BY.drewN nq).set_other (a := ⟨Y, i + j, none⟩) (Nat.ne_of_lt (unhide hpl).2.1) v
          have QN : Hid (∀ nq v, Quiet w ((wr.drewN nq).setCell ⟨Y, i + j, none⟩ v)) := fun nq v => Chg.setCell (q.drewN nq) (p := ⟨Y, i + j, none⟩) (.inr (unhide hpl).2.2) v
          obtain ⟨n3, n30⟩ := mul_wrap hcA hcB
          obtain ⟨n4, n5⟩ := mac_wrap hy hcA hcB
          have n3' := i64_wrap n3
          have n4' := i64_wrap n4
          have hjH := hide hlt
          clear q BX BY BG hlt hj hcA hcB hy n30 x1 x2 x3 x4 hia lt3 lt4 lt5
          generalize yRow f g i (yAll lb f g i) j (i + j) = y0 at *
          generalize f i = f0 at *
          generalize g j = g0 at *
          generalize i + j = ij at *
          go_wp2
          refine wp_region_noPanic ?_
          try simp only [List.append_eq, List.cons_append, List.nil_append]
          refine wp_region_mix [(0, true), (1, true), (2, true), (3, true), (4, true), (5, true), (6, true), (7, true), (8, true), (9, true), (10, true), (11, true), (12, true), (13, true), (14, true), (15, true), (16, true), (17, true), (18, true), (19, true), (20, true), (21, true)] [22] (by kernel_rfl) (by kernel_rfl) (fun _ _ _ _ _ h => h) ?_
          simp only [pickM, pickO, List.getElem?_cons_zero, List.getElem?_cons_succ]
          repeat (first | (refine wpMix_read rfl (fun K hK => ?_)) | (refine wpMix_pure rfl (fun K hK => ?_))
                  go_big_quiet_op
                  first | (refine hK _ ?_; clear hK K))
          refine wpMix_nil ?_
          intro _ hw'
          obtain ⟨nq, hw''⟩ := hw'
          subst hw''
          clear cA cB n3 n4 n5 n3' n4'
          go_wp2
          refine NoPanic.normal ?_
          go_wp2
          go_roundw
          case rel => exact ⟨j + 1, unhide hjH, by simp; try exact wi2, unhide QN _ _, unhide XN _ _, unhide YN _ _, unhide BN _⟩
          case measure =>
            have h := unhide hjH
            clear kw kw2 ek k1 k0
            first
              | exact meas_plain h
              | exact meas_next h wi2
        · have g2 : ¬ (j : Int) < (lb : Int) := by omega
          have hjE : Hid (j = lb) := by show _ = _; omega
          have allH := hide (⟨q, BX, BY, BG⟩ : _ ∧ _ ∧ _ ∧ _)
          clear q BX BY BG hlt hj
          go_wp2
          go_roundw
          case rel => exact ⟨i + 1, unhide hltH, by simp; try exact wi, (unhide allH).1, (unhide allH).2.1, (unhide allH).2.2.1, by have h := (unhide allH).2.2.2; rw [unhide hjE] at h; exact h⟩
          case measure =>
            have h := unhide hltH
            first
              | exact meas_plain h
              | exact meas_next h wi
    · have g1 : ¬ (i : Int) < (la : Int) := by omega
      have hiE : i = la := by omega
      rw [hiE] at BG
      have hpk := hide (pack_any wr Y 0 L L (yAll lb f g la) (fun u hu => by rw [Nat.zero_add, BG.cell u, ints_get _ _ _ _ hu]) (unhide hfacts).2.2.2 (fun u _ => yAll_in lb f g la u))
      have qH := hide q
      clear hlt hi q BG BX BY hiE
      go_wp2_with fail
      refine (unhide hpk).mono ?_
      clear hpk
      rintro e w9 ⟨rfl, q9⟩
      have q9H : Hid (Quiet w w9) := (unhide qH).trans q9
      clear q9 qH
      go_wp2
      go_ret
      exact ⟨rfl, unhide q9H⟩
end Go.Proofs.Qxb6500368a
