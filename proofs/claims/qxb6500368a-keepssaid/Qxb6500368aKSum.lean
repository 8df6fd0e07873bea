/-
  KEEPS: sum, school. (gen8ksum.py)
-/
import Derived.Test.Qxb6500368aKPack
import Derived.Test.Qxb6500368aMConv
namespace Go.Proofs.Qxb6500368a
open Go.RowKit Go.Qx
set_option linter.unusedVariables false
set_option linter.unusedSimpArgs false

/-- Quads of a packed register. -/
theorem quadsP_any (w : World) (y : Nat → Int) (l : Nat) (hl : l ≤ 16) (hy : ∀ i, i < l → 0 ≤ y i ∧ y i < pP) :
    Calls Try.prog 28 #[.string (str (packL y l))] w fun e w' => ∃ p, e = .returned (.tuple #[.slice (some ⟨p, 0, none⟩) l l, .int .i64 0]) ∧ Quiet w w' ∧ w.heap.size ≤ p ∧ Blk w' p 3 (ints .i64 y l) := by
  obtain ⟨h0, hs⟩ := packQ y l hl hy
  refine (quadsM_any w (str (packL y l))).mono ?_
  rintro e w' ⟨V, rfl, q, hV⟩
  obtain ⟨p, rfl, hp, B, _⟩ := hV h0
  rw [hs, show 4 * l / 4 = l by omega] at *
  refine ⟨p, by rw [h0], q, hp, ?_⟩
  rw [ints_congr .i64 (g := cutQ (str (packL y l)) l) (fun i hi => ?_)]
  · exact B
  · unfold cutQ; rw [if_pos hi, quad_pack y l i hi (hy i hi)]

def sumG (k l : Nat) (x : Nat → Int) (j : Nat) : Int := sumM (powT (wOf k false) j) x l
theorem sumG_net {k : Nat} (hk : k ≤ 4) (x : Nat → Int) (hx : InP (2 ^ k) x) (j : Nat) (hj : j < 2 ^ k) : sumG k (2 ^ k) x j = netP k false x j := by
  rw [net_dft hk false x hx j hj]
  unfold dftP sumG scOf
  simp only [Bool.false_eq_true, if_false, Int.mul_one]
  rw [Int.emod_eq_of_lt (sumM_in _ _ _).1 (sumM_in _ _ _).2]

def rowF (G : Nat → Int) (j : Nat) (z : Int) : Nat → Int := updF (cutT G j) j z
theorem rowF_zero (G : Nat → Int) (j : Nat) : rowF G j 0 = cutT G j := by
  funext p
  unfold rowF updF cutT
  by_cases h : p = j
  · subst h; simp
  · rw [if_neg h]
theorem rowF_at (G : Nat → Int) (j : Nat) (z : Int) : rowF G j z j = z := by simp [rowF, updF]
theorem rowF_set (G : Nat → Int) (j : Nat) (z y : Int) : updF (rowF G j z) j y = rowF G j y := by
  funext p
  unfold rowF updF
  by_cases h : p = j
  · rw [if_pos h, if_pos h]
  · rw [if_neg h, if_neg h, if_neg h]
theorem rowF_last (G : Nat → Int) (j : Nat) : rowF G j (G j) = cutT G (j + 1) := cutT_next G j

set_option maxRecDepth 100000 in
set_option maxHeartbeats 4000000 in
theorem sum_any (w : World) (x : Nat → Int) (k : Nat) (hk : k ≤ 4) (hx : InP (2 ^ k) x) :
    Calls Try.prog 26 #[.string (str (packL x (2 ^ k)))] w fun e w' => e = .returned (.string (str (packL (netP k false x) (2 ^ k)))) ∧ Quiet w w' := by
  have hl := pow_16 k hk
  have hq := hide (quadsP_any w x (2 ^ k) hl hx)
  have hpk : Hid (packL (sumG k (2 ^ k) x) (2 ^ k) = packL (netP k false x) (2 ^ k)) := packL_congr (fun j hj => sumG_net hk x hx j hj)
  rw [← unhide hpk]
  have hGin : Hid (∀ j, 0 ≤ sumG k (2 ^ k) x j ∧ sumG k (2 ^ k) x j < pP) := fun j => sumM_in _ _ _
  have hGd : Hid (∀ j, sumG k (2 ^ k) x j = sumM (powT (wOf k false) j) x (2 ^ k)) := fun j => rfl
  obtain ⟨p1, _, _⟩ := pow_w k hk
  have hWin := hide (wOf_in k hk false)
  have h0 : 0 < 2 ^ k := Nat.pow_pos (by decide)
  have hq30 : 998244352 / 2 ^ k < 1073741824 := by have := Nat.div_le_self 998244352 (2 ^ k); omega
  have wq : wrap64 ((998244352 / 2 ^ k : Nat) : Int) = ((998244352 / 2 ^ k : Nat) : Int) := wrap_small _ hq30
  have hpow := hide (fun W => pow_any W 3 (998244352 / 2 ^ k) (by decide) hq30)
  rw [p1] at hpow
  have t1 : (998244352 : Int).tdiv ((2 ^ k : Nat) : Int) = ((998244352 / 2 ^ k : Nat) : Int) := by rw [Int.tdiv_eq_ediv_of_nonneg (by decide)]; rfl
  have nz : ¬ ((2 ^ k : Nat) : Int) = 0 := by omega
  have nzb : (((2 ^ k : Nat) : Int) == 0) = false := by simpa using nz
  have hmk : ∀ W : World, (Instr.makeSlice 58 (.int .i64 ((2 ^ k : Nat) : Int)) (.int .i64 ((2 ^ k : Nat) : Int))).run Try.prog W = .ok (.slice (some ⟨W.heap.size, 0, none⟩) (2 ^ k) (2 ^ k)) (W.alloc (.cells (ints .i64 (fun _ => 0) (2 ^ k)).toArray 3)) := fun W => make58k W (2 ^ k) hl
  have hxH : Hid (∀ i, i < 2 ^ k → 0 ≤ x i ∧ x i < pP) := hx
  have hlH := hide hl
  clear p1 hx hk hq30 hl h0 hpk
  generalize str (packL x (2 ^ k)) = SX at *
  generalize sumG k (2 ^ k) x = G at *
  generalize wOf k false = WW at *
  generalize 998244352 / 2 ^ k = Q at *
  generalize 2 ^ k = l at *
  generalize hF : (ints .i64 (fun _ => 0) l).toArray = F at hmk
  have hFH := hide hF
  clear hF
  go_enter Try.func26, Try.ntmps26
  go_wp2_with fail
  refine (unhide hq).mono ?_
  clear hq
  rintro e w1 ⟨p, rfl, q1, hp, BX⟩
  have q1H := hide q1
  have BXH := hide BX
  clear q1 hp BX
  go_wp2_with fail
  refine (unhide hpow w1).mono ?_
  clear hpow
  rintro e w2 ⟨rfl, hw2⟩
  subst hw2
  have B0 : Hid (Blk (w2.alloc (.cells F 3)) w2.heap.size 3 (ints .i64 (cutT G 0) l)) := by
    rw [ints_congr .i64 (g := fun _ => 0) (fun i _ => by simp [cutT])]
    rw [← unhide hFH]; exact Blk.new w2 3 _
  have Q0 : Hid (Quiet w (w2.alloc (.cells F 3))) := (unhide q1H).trans ((Chg.refl _ _).alloc _)
  have X0 : Hid (Blk (w2.alloc (.cells F 3)) p 3 (ints .i64 x l)) := (unhide BXH).alloc _
  have hpl : Hid (p < w2.heap.size) := (unhide BXH).lt
  have hsz : Hid (w.heap.size ≤ w2.heap.size) := (unhide q1H).size
  go_wp2
  clear hmk hFH q1H BXH nz nzb t1 wq
  generalize w2.alloc (.cells F 3) = W3 at *
  generalize w2.heap.size = Y at *
  go_loopw [7, 8] (fun wj z wr => ∃ j : Nat, j ≤ l ∧ z = .int .i64 j ∧ wj = .int .i64 (powT WW j) ∧ Quiet w wr ∧ Blk wr p 3 (ints .i64 x l) ∧ Blk wr Y 3 (ints .i64 (cutT G j) l)) (fun _ z _ => l + 1 - (intOf z).toNat)
  case atStart => exact ⟨0, by omega, rfl, rfl, unhide Q0, unhide X0, unhide B0⟩
  case round =>
    clear B0 Q0 X0
    obtain ⟨j, hj, rfl, rfl, q, BX, BG⟩ := hrel
    by_cases hlt : j < l
    · have g1 : (j : Int) < (l : Int) := by omega
      have j0 : (0 : Int) ≤ (j : Int) := by omega
      have hwj := powT_in WW j
      obtain ⟨m1, m2⟩ := mul_wrap hwj (unhide hWin)
      have hwn : Hid (powT WW j * WW % pP = powT WW (j + 1)) := rfl
      have hGj : Hid (sumM (powT WW j) x l = G j) := (unhide hGd j).symm
      generalize hwjE : powT WW j = wj at *
      have m1H := hide m1
      have m2H := hide m2
      have hwjH := hide hwj
      have hltH := hide hlt
      have lt5 : j + 1 < 1073741824 := by have := unhide hlH; omega
      have wi : wrap64 ((j : Int) + 1) = (j : Int) + 1 := wrap_small (j + 1) lt5
      have qH := hide q
      have BXH := hide BX
      have BGH : Hid (Blk wr Y 3 (ints .i64 (rowF G j 0) l)) := by rw [rowF_zero]; exact BG
      clear m1 m2 hwj hlt hj q BG BX hwjE lt5
      go_wp2
      go_loopw [9, 10] (fun t z wr => ∃ i : Nat, i ≤ l ∧ z = .int .i64 i ∧ t = .int .i64 (powT wj i) ∧ Quiet w wr ∧ Blk wr p 3 (ints .i64 x l) ∧ Blk wr Y 3 (ints .i64 (rowF G j (sumM wj x i)) l)) (fun _ z _ => l + 1 - (intOf z).toNat)
      case atStart => exact ⟨0, by omega, rfl, rfl, unhide qH, unhide BXH, unhide BGH⟩
      case round =>
        clear qH BXH BGH
        obtain ⟨i, hi, rfl, rfl, q, BX, BG⟩ := hrel
        by_cases hlt : i < l
        · have g2 : (i : Int) < (l : Int) := by omega
          have i0 : (0 : Int) ≤ (i : Int) := by omega
          have lt5 : i + 1 < 1073741824 := by have := unhide hlH; omega
          have wi2 : wrap64 ((i : Int) + 1) = (i : Int) + 1 := wrap_small (i + 1) lt5
          have cx := BX.cell i
          rw [ints_get _ _ _ _ hlt] at cx
          have cy := BG.cell j
          rw [ints_get _ _ _ _ (unhide hltH), rowF_at] at cy
          have fy := BG.frozen j
          have hs := sumM_in wj x i
          have ht := powT_in wj i
          have hci := unhide hxH i hlt
          have BN : Hid (∀ nq, Blk ((wr.drewN nq).setCell ⟨Y, j, none⟩ (.int .i64 ((sumM wj x i + x i * powT wj i) % pP))) Y 3 (ints .i64 (rowF G j (sumM wj x (i + 1))) l)) := fun nq => by
            have h1 := (BG.drewN nq).set j (.int .i64 ((sumM wj x i + x i * powT wj i) % pP))
            rw [ints_set _ _ _ _ _ (unhide hltH), rowF_set] at h1
            exact h1
          have XN : Hid (∀ nq v, Blk ((wr.drewN nq).setCell ⟨Y, j, none⟩ v) p 3 (ints .i64 x l)) := fun nq v => (BX.drewN nq).set_other (a := ⟨Y, j, none⟩) (by show p ≠ Y; have := unhide hpl; omega) v
          have QN : Hid (∀ nq v, Quiet w ((wr.drewN nq).setCell ⟨Y, j, none⟩ v)) := fun nq v => Chg.setCell (q.drewN nq) (p := ⟨Y, j, none⟩) (.inr (unhide hsz)) v
          obtain ⟨n1, n2⟩ := mul_wrap ht (unhide hwjH)
          obtain ⟨n3, n30⟩ := mul_wrap hci ht
          obtain ⟨n4, n5⟩ := mac_wrap hs hci ht
          have n3' := i64_wrap n3
          have n4' := i64_wrap n4
          have htn : Hid (powT wj i * wj % pP = powT wj (i + 1)) := rfl
          have hiH := hide hlt
          have n1H := hide n1
          have n2H := hide n2
          clear n30 hs ht hci hlt hi BX BG q lt5 n1 n2
          generalize sumM wj x i = s at *
          generalize powT wj i = t at *
          generalize x i = ci at *
          go_wp2
          refine wp_region_noPanic ?_
          try simp only [List.append_eq, List.cons_append, List.nil_append]
          refine wp_region_mix [(0, true), (1, true), (2, true), (3, true), (4, true), (5, true), (6, true), (7, true), (8, true), (9, true), (10, true), (11, true), (12, true), (13, true), (14, true)] [15] (by kernel_rfl) (by kernel_rfl) (fun _ _ _ _ _ h => h) ?_
          simp only [pickM, pickO, List.getElem?_cons_zero, List.getElem?_cons_succ]
          repeat (first | (refine wpMix_read rfl (fun K hK => ?_)) | (refine wpMix_pure rfl (fun K hK => ?_))
                  go_big_quiet_op
                  first | (refine hK _ ?_; clear hK K))
          refine wpMix_nil ?_
          intro _ hw'
          obtain ⟨nq, hw''⟩ := hw'
          subst hw''
          clear cx n3 n4 n5 n3' n4'
          have n1 := unhide n1H
          have n2 := unhide n2H
          go_wp2
          refine NoPanic.normal ?_
          go_wp2
          go_roundw
          case rel => exact ⟨i + 1, unhide hiH, by simp; try exact wi2, by rw [unhide htn], unhide QN _ _, unhide XN _ _, unhide BN _⟩
          case measure =>
            have h := unhide hiH
            first
              | exact meas_plain h
              | exact meas_next h wi2
        · have g2 : ¬ (i : Int) < (l : Int) := by omega
          obtain rfl : i = l := by omega
          have m1 := unhide m1H
          have m2 := unhide m2H
          have qH := hide q
          have BXH := hide BX
          have BGH : Hid (Blk wr Y 3 (ints .i64 (cutT G (j + 1)) i)) := by rw [← rowF_last, ← unhide hGj]; exact BG
          clear hlt hi q BX BG
          go_wp2
          go_roundw
          case rel => exact ⟨j + 1, unhide hltH, by simp; try exact wi, by rw [unhide hwn], unhide qH, unhide BXH, unhide BGH⟩
          case measure =>
            have h := unhide hltH
            first
              | exact meas_plain h
              | exact meas_next h wi
    · have g1 : ¬ (j : Int) < (l : Int) := by omega
      obtain rfl : j = l := by omega
      have hpk := hide (pack_any wr Y 0 j j G (fun i hi => by rw [Nat.zero_add, BG.cell i, ints_get _ _ _ _ hi, cutT_at G hi]) (unhide hlH) (fun i _ => unhide hGin i))
      have qH := hide q
      clear hlt hj q BG BX
      go_wp2_with fail
      refine (unhide hpk).mono ?_
      clear hpk
      rintro e w9 ⟨rfl, q9⟩
      have q9H : Hid (Quiet w w9) := (unhide qH).trans q9
      clear q9 qH
      go_wp2
      go_ret
      exact ⟨rfl, unhide q9H⟩
end Go.Proofs.Qxb6500368a
