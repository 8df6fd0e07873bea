/-
  THE MODEL'S BENCH: Convolve. (gen8mconv.py)
-/
import Derived.Test.Qxb6500368aMTurn
namespace Go.Proofs.Qxb6500368a
open Go.RowKit Go.Qx
set_option linter.unusedVariables false
set_option linter.unusedSimpArgs false

theorem yAll_in (lg : Nat) (f g : Nat → Int) (lf u : Nat) : 0 ≤ yAll lg f g lf u ∧ yAll lg f g lf u < pP := by
  rw [yAll_eq]; exact emod_in _
theorem yRow_in (f g : Nat → Int) (i : Nat) (y : Nat → Int) (hy : ∀ u, 0 ≤ y u ∧ y u < pP) : ∀ j u, 0 ≤ yRow f g i y j u ∧ yRow f g i y j u < pP
  | 0, u => hy u
  | j + 1, u => by
    unfold yRow updF
    split
    · exact emod_in _
    · exact yRow_in f g i y hy j u

theorem padF_lo (c : Nat → Int) (n : Nat → Nat) (r i : Nat) (h : i < n r) : padF c n r i = c (16 * r + i) := by
  unfold padF win
  rw [if_pos (by omega), Nat.sub_zero]
theorem padF_hi (c : Nat → Int) (n : Nat → Nat) (r i : Nat) (h : n r ≤ i) : padF c n r i = 0 := by
  unfold padF win
  rw [if_neg (by omega)]

theorem conv_law {c : Nat → Int} {n : Nat → Nat} {wk : Nat} (I : Inv c n wk) (ka kb L K : Nat) (ha : ka < 3) (hb : kb < 3) (hK : K ≤ 4) (hL : L = n ka + n kb - 1) (hz : ¬ (n ka = 0 ∨ n kb = 0)) (hfit : L ≤ 2 ^ K) (p : Nat) (hp : p < L) :
    yAll (n kb) (fun i => c (16 * ka + i)) (fun i => c (16 * kb + i)) (n ka) p = prodP K (padF c n ka) (padF c n kb) p := by
  rw [yAll_eq, prod_school hK (lf := n ka) (lg := n kb) (by omega) (by omega) (padF_in I ka ha _) (padF_in I kb hb _) (fun i h _ => padF_hi c n ka i h) (fun i h _ => padF_hi c n kb i h) (by omega)]
  unfold schoolP
  congr 1
  refine sm_congr fun s hs => sm_congr fun t ht => ?_
  rw [padF_lo c n ka s hs, padF_lo c n kb t ht]

theorem spent_eq (K : Nat) (hK : K ≤ 4) : wrap64 ((wrap64 (wrap64 (wrap64 (3 * (K : Int)) + 4) * 2 ^ min K 64)).tdiv 2) = ((3 * (K * (2 ^ K / 2)) + 2 * 2 ^ K : Nat) : Int) := by
  rcases (by omega : K = 0 ∨ K = 1 ∨ K = 2 ∨ K = 3 ∨ K = 4) with rfl | rfl | rfl | rfl | rfl <;> simp [wrap64]

theorem meas_plain {k i : Nat} (h : i < k) : k + 1 - ((i : Int) + 1).toNat < k + 1 - (i : Int).toNat := by omega

theorem i64_wrap {a : Int} (h : wrap64 a = a) : IntKind.i64.wrap a = a := by
  rw [IntKind.wrap_i64]; unfold wrap64 at h; omega

set_option maxRecDepth 100000 in
set_option maxHeartbeats 4000000 in
theorem mconv_any (w : World) (m a b : Nat) (c : Nat → Int) (n : Nat → Nat) (wk : Nat) (R : RepM w m a b c n wk) (I : Inv c n wk) (d ra rb : Int) :
    Calls Try.prog 46 #[ptr m, .int .i64 d, .int .i64 ra, .int .i64 rb] w (repPostM w m a b (convE n d ra rb) (convC c n d ra rb) (convN n d ra rb) (convW n wk d ra rb)) := by
  have hc := regs_any w d ra rb
  have RH := hide R
  have IH := hide I
  cases hr : regsB d ra rb with
  | false =>
    have e0 : convK n d ra rb = 0 := by simp [convK, hr]
    have e1 : Hid (convE n d ra rb = 4) := by show _ = _; simp [convE, hr]
    have e2 : Hid (convC c n d ra rb = c) := by show _ = _; simp [convC, e0]
    have e3 : Hid (convN n d ra rb = n) := by show _ = _; simp [convN, e0]
    have e4 : Hid (convW n wk d ra rb = wk) := by show _ = _; simp [convW, e0]
    rw [show (regP d && regP ra && regP rb) = false from hr] at hc
    rw [unhide e1, unhide e2, unhide e3, unhide e4]
    clear e0 e1 e2 e3 e4 hr I R
    unfold ptr repPostM
    go_enter Try.func46, Try.ntmps46
    go_wp2_with fail
    refine hc.mono ?_
    rintro e w' ⟨rfl, hw'⟩
    subst hw'
    go_wp2
    go_ret
    exact ⟨rfl, Chg.refl _ _, unhide RH⟩
  | true =>
    rw [show (regP d && regP ra && regP rb) = true from hr] at hc
    obtain ⟨kd, hd, rfl⟩ : ∃ k : Nat, k < 3 ∧ d = k := by
      unfold regsB regP at hr; simp at hr; exact ⟨d.toNat, by omega, by omega⟩
    obtain ⟨ka, ha, rfl⟩ : ∃ k : Nat, k < 3 ∧ ra = k := by
      unfold regsB regP at hr; simp at hr; exact ⟨ra.toNat, by omega, by omega⟩
    obtain ⟨kb, hb, rfl⟩ : ∃ k : Nat, k < 3 ∧ rb = k := by
      unfold regsB regP at hr; simp at hr; exact ⟨rb.toNat, by omega, by omega⟩
    have hna := I.n ka ha
    have hnb := I.n kb hb
    have hA : Hid (∀ W, RepM W m a b c n wk → Calls Try.prog 54 #[.pointer (some ⟨m, 0, none⟩), .int .i64 ka] W fun e w' => e = .returned (.slice (some ⟨a, 16 * ka, none⟩) (n ka) (48 - 16 * ka)) ∧ Quiet W w') := fun W R => mreg_any W m a b c n wk R ka ha hna
    have hB : Hid (∀ W, RepM W m a b c n wk → Calls Try.prog 54 #[.pointer (some ⟨m, 0, none⟩), .int .i64 kb] W fun e w' => e = .returned (.slice (some ⟨a, 16 * kb, none⟩) (n kb) (48 - 16 * kb)) ∧ Quiet W w') := fun W R => mreg_any W m a b c n wk R kb hb hnb
    have d0 : (0 : Int) ≤ (kd : Int) := by omega
    have d3 : (kd : Int) < 3 := by omega
    have hcH := hide hc
    clear hc
    by_cases hz : n ka = 0 ∨ n kb = 0
    · have hzB : zeroB n ka kb = true := by simpa [zeroB] using hz
      have e0 : convK n kd ka kb = 1 := by simp [convK, hr, hzB]
      have e1 : Hid (convE n kd ka kb = 0) := by show _ = _; simp [convE, hr, hzB]
      have e2 : Hid (convC c n kd ka kb = c) := by show _ = _; simp [convC, e0]
      have e3 : Hid (convN n kd ka kb = updN n kd 0) := by show _ = _; simp [convN, e0]
      have e4 : Hid (convW n wk kd ka kb = 0) := by show _ = _; simp [convW, e0]
      rw [unhide e1, unhide e2, unhide e3, unhide e4]
      have RF : Hid (∀ W, RepM W m a b c n wk → RepM ((W.setCell ⟨b, kd, none⟩ (.int .i64 0)).setCell ⟨m, 2, none⟩ (.int .i64 0)) m a b c (updN n kd 0) 0) := fun W R => (R.setN kd 0 hd).setW 0
      have CF : Hid (∀ W, Quiet w W → Chg (ownM m a b) w ((W.setCell ⟨b, kd, none⟩ (.int .i64 0)).setCell ⟨m, 2, none⟩ (.int .i64 0))) := fun W q =>
        (Chg.setCell (Quiet.chg q _) (p := ⟨b, kd, none⟩) (.inl (.inr (.inr rfl))) _).setCell (p := ⟨m, 2, none⟩) (.inl (.inl rfl)) _
      have cdH := hide (fun W (R : RepM W m a b c n wk) => R.len kd hd)
      clear e0 e1 e2 e3 e4 hr hzB I R
      by_cases hza : n ka = 0
      · rw [hza] at hA
        clear hz hza hna hnb
        generalize n kb = lb at *
        generalize n kd = ld at *
        unfold ptr repPostM
        go_enter Try.func46, Try.ntmps46
        go_wp2_with fail
        refine (unhide hcH).mono ?_
        rintro e w0 ⟨rfl, hw'⟩
        subst hw'
        go_wp2_with fail
        refine (unhide hA _ (unhide RH)).mono ?_
        rintro e w1 ⟨rfl, q1⟩
        have R1 := hide ((unhide RH).quiet q1)
        have q1H := hide q1
        clear q1 hA hcH
        go_wp2_with fail
        refine (unhide hB _ (unhide R1)).mono ?_
        rintro e w2 ⟨rfl, q2⟩
        have R2 := (unhide R1).quiet q2
        have c1 := R2.c1
        have c2 := R2.c2
        have cd := unhide cdH w2 R2
        have f1 := R2.own.frozen 2
        have f2 := R2.lens.frozen kd
        have mb := R2.mb
        have fin1 := hide (unhide RF w2 R2)
        have fin2 := hide (unhide CF w2 ((unhide q1H).trans q2))
        clear q2 R2 hB RF CF R1 q1H cdH
        go_wp2
        go_ret
        exact ⟨rfl, unhide fin2, unhide fin1⟩
      · have hzb : n kb = 0 := by omega
        rw [hzb] at hB
        have z1 : ¬ (n ka : Int) = 0 := by omega
        have z1b : ((n ka : Int) == 0) = false := by simpa using z1
        clear hz hza hzb hna hnb
        generalize n ka = la at *
        generalize n kd = ld at *
        unfold ptr repPostM
        go_enter Try.func46, Try.ntmps46
        go_wp2_with fail
        refine (unhide hcH).mono ?_
        rintro e w0 ⟨rfl, hw'⟩
        subst hw'
        go_wp2_with fail
        refine (unhide hA _ (unhide RH)).mono ?_
        rintro e w1 ⟨rfl, q1⟩
        have R1 := hide ((unhide RH).quiet q1)
        have q1H := hide q1
        clear q1 hA hcH
        go_wp2_with fail
        refine (unhide hB _ (unhide R1)).mono ?_
        rintro e w2 ⟨rfl, q2⟩
        have R2 := (unhide R1).quiet q2
        have c1 := R2.c1
        have c2 := R2.c2
        have cd := unhide cdH w2 R2
        have f1 := R2.own.frozen 2
        have f2 := R2.lens.frozen kd
        have mb := R2.mb
        have fin1 := hide (unhide RF w2 R2)
        have fin2 := hide (unhide CF w2 ((unhide q1H).trans q2))
        clear q2 R2 hB RF CF R1 q1H cdH
        go_wp2
        go_ret
        exact ⟨rfl, unhide fin2, unhide fin1⟩
    · have hzB : zeroB n ka kb = false := by simpa [zeroB] using hz
      have hL : convLen n ka kb = n ka + n kb - 1 := rfl
      have z1 : ¬ (n ka : Int) = 0 := by omega
      have z2 : ¬ (n kb : Int) = 0 := by omega
      have z1b : ((n ka : Int) == 0) = false := by simpa using z1
      have z2b : ((n kb : Int) == 0) = false := by simpa using z2
      have eL : (n ka : Int) + (n kb : Int) - 1 = ((convLen n ka kb : Nat) : Int) := by omega
      by_cases h16 : 16 < convLen n ka kb
      · have e0 : convK n kd ka kb = 0 := by simp [convK, hr, hzB, h16]
        have e1 : Hid (convE n kd ka kb = 2) := by show _ = _; simp [convE, hr, hzB, h16]
        have e2 : Hid (convC c n kd ka kb = c) := by show _ = _; simp [convC, e0]
        have e3 : Hid (convN n kd ka kb = n) := by show _ = _; simp [convN, e0]
        have e4 : Hid (convW n wk kd ka kb = wk) := by show _ = _; simp [convW, e0]
        rw [unhide e1, unhide e2, unhide e3, unhide e4]
        have g1 : (16 : Int) < ((convLen n ka kb : Nat) : Int) := by omega
        generalize convLen n ka kb = L at *
        clear e0 e1 e2 e3 e4 hr hzB I R h16 hz
        generalize n ka = la at *
        generalize n kb = lb at *
        clear hL
        unfold ptr repPostM
        go_enter Try.func46, Try.ntmps46
        go_wp2_with fail
        refine (unhide hcH).mono ?_
        rintro e w0 ⟨rfl, hw'⟩
        subst hw'
        go_wp2_with fail
        refine (unhide hA _ (unhide RH)).mono ?_
        rintro e w1 ⟨rfl, q1⟩
        have R1 := hide ((unhide RH).quiet q1)
        have q1H := hide q1
        clear q1 hA hcH
        go_wp2_with fail
        refine (unhide hB _ (unhide R1)).mono ?_
        rintro e w2 ⟨rfl, q2⟩
        have q2H : Hid (Quiet w0 w2) := (unhide q1H).trans q2
        clear q2 q1H R1 hB
        go_wp2
        go_ret
        exact ⟨rfl, Quiet.chg (unhide q2H) _, (unhide RH).quiet (unhide q2H)⟩
      · have e0 : convK n kd ka kb = 2 := by simp [convK, hr, hzB, h16]
        have e1 : Hid (convE n kd ka kb = 0) := by show _ = _; simp [convE, hr, hzB, h16]
        have e2 : Hid (convC c n kd ka kb = win c (16 * kd) (convLen n ka kb) (prodP (ceilP (convLen n ka kb)) (padF c n ka) (padF c n kb))) := by show _ = _; simp [convC, e0]
        have e3 : Hid (convN n kd ka kb = updN n kd (convLen n ka kb)) := by show _ = _; simp [convN, e0]
        have e4 : Hid (convW n wk kd ka kb = 3 * (ceilP (convLen n ka kb) * (2 ^ ceilP (convLen n ka kb) / 2)) + 2 * 2 ^ ceilP (convLen n ka kb)) := by show _ = _; simp [convW, e0]
        have g1 : ¬ (16 : Int) < ((convLen n ka kb : Nat) : Int) := by omega
        have hclH := hide (fun W => ceilLog_any W (convLen n ka kb) (by omega))
        have hK4 := ceil_le (convLen n ka kb)
        have hfit := ceil_fit (convLen n ka kb) (by omega)
        have hlaw := hide (conv_law I ka kb _ _ ha hb hK4 hL hz hfit)
        have hsp := hide (spent_eq _ hK4)
        rw [unhide e1, unhide e2, unhide e3, unhide e4, ← win_congr c (16 * kd) (convLen n ka kb) (unhide hlaw)]
        generalize convLen n ka kb = L at *
        generalize ceilP L = K at *
        have hfacts := hide (⟨by omega, ha, hb, hd, hna, hnb, by omega, hK4⟩ : L ≤ 16 ∧ ka < 3 ∧ kb < 3 ∧ kd < 3 ∧ n ka ≤ 16 ∧ n kb ≤ 16 ∧ n ka + n kb = L + 1 ∧ K ≤ 4)
        have hmk : ∀ W : World, (Instr.makeSlice 58 (.int .i64 L) (.int .i64 L)).run Try.prog W = .ok (.slice (some ⟨W.heap.size, 0, none⟩) L L) (W.alloc (.cells (ints .i64 (fun _ => 0) L).toArray 3)) := fun W => make58k W L (by omega)
        generalize hF : (ints .i64 (fun _ => 0) L).toArray = F at hmk
        have hFH := hide hF
        clear hF
        clear e0 e1 e2 e3 e4 hr hzB I R hL hlaw h16 hz hK4 hfit ha hb hd hna hnb
        unfold ptr repPostM
        go_enter Try.func46, Try.ntmps46
        go_wp2_with fail
        refine (unhide hcH).mono ?_
        rintro e w0 ⟨rfl, hw'⟩
        subst hw'
        go_wp2_with fail
        refine (unhide hA _ (unhide RH)).mono ?_
        rintro e w1 ⟨rfl, q1⟩
        have R1 := hide ((unhide RH).quiet q1)
        have q1H := hide q1
        clear q1 hA hcH
        go_wp2_with fail
        refine (unhide hB _ (unhide R1)).mono ?_
        rintro e w2 ⟨rfl, q2⟩
        have q2H : Hid (Quiet w0 w2) := (unhide q1H).trans q2
        clear q2 q1H R1 hB
        have B0 : Hid (Blk (w2.alloc (.cells F 3)) w2.heap.size 3 (ints .i64 (fun _ => 0) L)) := by
          rw [← unhide hFH]; exact Blk.new w2 3 _
        have Q0 : Hid (Quiet w0 (w2.alloc (.cells F 3))) := (unhide q2H).trans ((Chg.refl _ _).alloc _)
        have hsz : Hid (w0.heap.size ≤ w2.heap.size) := (unhide q2H).size
        go_wp2
        clear hmk eL g1 z1 z2 z1b z2b
        generalize w2.alloc (.cells F 3) = W3 at *
        clear q2H hFH
        generalize w2.heap.size = Y at *
        go_loopw [13] (fun z wr => ∃ i : Nat, i ≤ n ka ∧ z = .int .i64 i ∧ Quiet w0 wr ∧ Blk wr Y 3 (ints .i64 (yAll (n kb) (fun i => c (16 * ka + i)) (fun i => c (16 * kb + i)) i) L)) (fun z _ => n ka + 1 - (intOf z).toNat)
        case atStart => exact ⟨0, by omega, rfl, unhide Q0, unhide B0⟩
        case round =>
          clear B0 Q0
          obtain ⟨i, hi, rfl, q, B⟩ := hrel
          by_cases hlt : i < n ka
          · have g1 : (i : Int) < (n ka : Int) := by omega
            have i0 : (0 : Int) ≤ (i : Int) := by omega
            have qH := hide q
            have BH := hide B
            have hltH := hide hlt
            have wi : wrap64 ((i : Int) + 1) = (i : Int) + 1 := by have := (unhide hfacts).2.2.2.2.1; unfold wrap64; omega
            clear q B hlt hi
            go_wp2
            go_loopw [14] (fun z wr => ∃ j : Nat, j ≤ n kb ∧ z = .int .i64 j ∧ Quiet w0 wr ∧ Blk wr Y 3 (ints .i64 (yRow (fun i => c (16 * ka + i)) (fun i => c (16 * kb + i)) i (yAll (n kb) (fun i => c (16 * ka + i)) (fun i => c (16 * kb + i)) i) j) L)) (fun z _ => n kb + 1 - (intOf z).toNat)
            case atStart => exact ⟨0, by omega, rfl, unhide qH, unhide BH⟩
            case round =>
              clear qH BH
              obtain ⟨j, hj, rfl, q, B⟩ := hrel
              by_cases hlt : j < n kb
              · have g2 : (j : Int) < (n kb : Int) := by omega
                have j0 : (0 : Int) ≤ (j : Int) := by omega
                have hia := unhide hltH
                obtain ⟨x1, x2, x3, x4, x5, x6, x7, x8⟩ := unhide hfacts
                have lt1 : 16 * ka + i < 48 := by omega
                have lt2 : 16 * kb + j < 48 := by omega
                have lt3 : i + j < L := by omega
                have lt4 : i + j < 1073741824 := by omega
                have lt5 : j + 1 < 1073741824 := by omega
                have ek : (i : Int) + (j : Int) = ((i + j : Nat) : Int) := by omega
                have k1 : ((i + j : Nat) : Int) < (L : Int) := by omega
                have k0 : (0 : Int) ≤ ((i + j : Nat) : Int) := by omega
                have kw : wrap64 ((i + j : Nat) : Int) = ((i + j : Nat) : Int) := wrap_small _ lt4
                have kw2 : IntKind.i64.wrap ((i + j : Nat) : Int) = ((i + j : Nat) : Int) := i64_wrap kw
                have wi2 : wrap64 ((j : Int) + 1) = (j : Int) + 1 := wrap_small (j + 1) lt5
                have Rr := (unhide RH).quiet q
                have cA := Rr.at (16 * ka + i) lt1
                have cB := Rr.at (16 * kb + j) lt2
                have hcA := (unhide IH).c (16 * ka + i) lt1
                have hcB := (unhide IH).c (16 * kb + j) lt2
                have hy := yRow_in (fun i => c (16 * ka + i)) (fun i => c (16 * kb + i)) i _ (yAll_in (n kb) (fun i => c (16 * ka + i)) (fun i => c (16 * kb + i)) i) j (i + j)
                have cY := B.cell (i + j)
                rw [ints_get _ _ _ _ lt3] at cY
                have fY := B.frozen (i + j)
                have hB1 : Hid (∀ nq, Blk ((wr.drewN nq).setCell ⟨Y, i + j, none⟩ (.int .i64 ((yRow (fun i => c (16 * ka + i)) (fun i => c (16 * kb + i)) i (yAll (n kb) (fun i => c (16 * ka + i)) (fun i => c (16 * kb + i)) i) j (i + j) + c (16 * ka + i) * c (16 * kb + j)) % pP))) Y 3 (ints .i64 (yRow (fun i => c (16 * ka + i)) (fun i => c (16 * kb + i)) i (yAll (n kb) (fun i => c (16 * ka + i)) (fun i => c (16 * kb + i)) i) (j + 1)) L)) := fun nq => by
                  have h1 := (B.drewN nq).set (i + j) (.int .i64 ((yRow (fun i => c (16 * ka + i)) (fun i => c (16 * kb + i)) i (yAll (n kb) (fun i => c (16 * ka + i)) (fun i => c (16 * kb + i)) i) j (i + j) + c (16 * ka + i) * c (16 * kb + j)) % pP))
                  rw [ints_set _ _ _ _ _ lt3] at h1
                  exact h1
                obtain ⟨n3, n30⟩ := mul_wrap hcA hcB
                obtain ⟨n4, n5⟩ := mac_wrap hy hcA hcB
                have n3' : IntKind.i64.wrap (c (16 * ka + i) * c (16 * kb + j)) = c (16 * ka + i) * c (16 * kb + j) := i64_wrap n3
                have n4' : IntKind.i64.wrap (yRow (fun i => c (16 * ka + i)) (fun i => c (16 * kb + i)) i (yAll (n kb) (fun i => c (16 * ka + i)) (fun i => c (16 * kb + i)) i) j (i + j) + c (16 * ka + i) * c (16 * kb + j)) = yRow (fun i => c (16 * ka + i)) (fun i => c (16 * kb + i)) i (yAll (n kb) (fun i => c (16 * ka + i)) (fun i => c (16 * kb + i)) i) j (i + j) + c (16 * ka + i) * c (16 * kb + j) := i64_wrap n4
                have hjH := hide hlt
                have qH := hide q
                have hYn : Hid (w0.heap.size ≤ Y) := (unhide hsz)
                clear q B hlt hj Rr hcA hcB hy n30 x1 x2 x3 x4 x5 x6 x7 x8 hia lt1 lt2 lt3 lt4 lt5
                generalize yRow (fun i => c (16 * ka + i)) (fun i => c (16 * kb + i)) i (yAll (n kb) (fun i => c (16 * ka + i)) (fun i => c (16 * kb + i)) i) j (i + j) = y0 at *
                generalize c (16 * ka + i) = f0 at *
                generalize c (16 * kb + j) = g0 at *
                generalize i + j = ij at *
                go_wp2
                refine wp_region_noPanic ?_
                try simp only [List.append_eq, List.cons_append, List.nil_append]
                refine wp_region_mix [(0, true), (1, true), (2, true), (3, true), (4, true), (5, true), (6, true), (7, true), (8, true), (9, true), (10, true), (11, true), (12, true), (13, true), (14, true), (15, true), (16, true), (17, true), (18, true), (19, true), (20, true), (21, true)] [22] (by kernel_rfl) (by kernel_rfl) (fun _ _ _ _ _ h => h) ?_
                simp only [pickM, pickO, List.getElem?_cons_zero, List.getElem?_cons_succ]
                repeat (first | (refine wpMix_read rfl (fun K hK => ?_)) | (refine wpMix_pure rfl (fun K hK => ?_))
                        go_big_quiet_op
                        first | (refine hK _ ?_; clear hK K))
                refine wpMix_nil ?_
                intro _ hw'
                obtain ⟨nq, hw''⟩ := hw'
                subst hw''
                clear cA cB n3 n4 n5 n3' n4'
                go_wp2
                refine NoPanic.normal ?_
                go_wp2
                go_roundw
                case rel => exact ⟨j + 1, unhide hjH, by simp; try exact wi2, (((unhide qH).drewN _).setCell (p := ⟨Y, ij, none⟩) (.inr (unhide hYn)) _), unhide hB1 _⟩
                case measure =>
                  have h := unhide hjH
                  clear kw kw2 ek k1 k0
                  show n kb + 1 - ((j : Int) + 1).toNat < n kb + 1 - (j : Int).toNat
                  exact meas_plain h
              · have g2 : ¬ (j : Int) < (n kb : Int) := by omega
                have hjE : Hid (j = n kb) := by show _ = _; omega
                have qH := hide q
                have BH := hide B
                clear q B hlt hj
                go_wp2
                go_roundw
                case rel => exact ⟨i + 1, unhide hltH, by simp; try exact wi, unhide qH, by have h := unhide BH; rw [unhide hjE] at h; exact h⟩
                case measure =>
                  have h := unhide hltH
                  show n ka + 1 - (intOf (.int .i64 (wrap64 ((i : Int) + 1)))).toNat < n ka + 1 - (intOf (.int .i64 (i : Int))).toNat
                  exact meas_next h wi
          · have g1 : ¬ (i : Int) < (n ka : Int) := by omega
            obtain ⟨x1, x2, x3, x4, x5, x6, x7, x8⟩ := unhide hfacts
            have hiE : i = n ka := by omega
            rw [hiE] at B
            have Rr := (unhide RH).quiet q
            have hcp := copyM0 wr a (16 * kd) (48 - 16 * kd) (48 - 16 * kd) Y L L c _ 48 L (by omega) (by omega) (by omega) Rr.row B
            have R4 := Rr.copy (16 * kd) L (yAll (n kb) (fun i => c (16 * ka + i)) (fun i => c (16 * kb + i)) (n ka)) (by omega)
            have C4 : Hid (Chg (ownM m a b) w0 (wr.setCells a (16 * kd) (ints .i64 (yAll (n kb) (fun i => c (16 * ka + i)) (fun i => c (16 * kb + i)) (n ka)) L))) := Chg.setCells (.inl (.inr (.inl rfl))) _ _ (Quiet.chg q _)
            have c0 := Rr.c0
            have l0 : (0 : Int) ≤ (L : Int) := by omega
            generalize hYY : yAll (n kb) (fun i => c (16 * ka + i)) (fun i => c (16 * kb + i)) (n ka) = YY at *
            have hYH := hide hYY
            clear hYY
            have cn1 := R4.c1
            have cn2 := R4.len kd x4
            have cn3 := R4.c2
            have fx := R4.lens.frozen kd
            have fy := R4.own.frozen 2
            have mb := R4.mb
            have fin : Hid (∀ sp : Nat, Chg (ownM m a b) w0 (((wr.setCells a (16 * kd) (ints .i64 YY L)).setCell ⟨b, kd, none⟩ (.int .i64 (L : Int))).setCell ⟨m, 2, none⟩ (.int .i64 (sp : Int))) ∧ RepM (((wr.setCells a (16 * kd) (ints .i64 YY L)).setCell ⟨b, kd, none⟩ (.int .i64 (L : Int))).setCell ⟨m, 2, none⟩ (.int .i64 (sp : Int))) m a b (win c (16 * kd) L YY) (updN n kd L) sp) := fun sp => ⟨Chg.setCell (Chg.setCell (unhide C4) (p := ⟨b, kd, none⟩) (.inl (.inr (.inr rfl))) _) (p := ⟨m, 2, none⟩) (.inl (.inl rfl)) _, (R4.setN kd L x4).setW sp⟩
            have hkdH := hide x4
            clear x1 x2 x3 x4 x5 x6 x7 x8 hiE B Rr R4 C4 q hlt hi
            generalize wr.setCells a (16 * kd) (ints .i64 YY L) = W5 at *
            generalize n kd = ld at *
            rcases (by have := unhide hkdH; omega : kd = 0 ∨ kd = 1 ∨ kd = 2) with rfl | rfl | rfl
            · clear hkdH
              simp only [Nat.mul_zero, Nat.sub_zero] at hcp
              go_wp2_with fail
              refine (unhide hclH _).mono ?_
              rintro e w6 ⟨rfl, hw6⟩
              subst hw6
              clear hcp c0
              go_wp2
              go_ret
              refine ⟨rfl, ?_⟩
              rw [unhide hsp, unhide hYH]
              exact unhide fin _
            · clear hkdH
              simp only [Nat.reduceMul, Nat.reduceSub] at hcp
              go_wp2_with fail
              refine (unhide hclH _).mono ?_
              rintro e w6 ⟨rfl, hw6⟩
              subst hw6
              clear hcp c0
              go_wp2
              go_ret
              refine ⟨rfl, ?_⟩
              rw [unhide hsp, unhide hYH]
              exact unhide fin _
            · clear hkdH
              simp only [Nat.reduceMul, Nat.reduceSub] at hcp
              go_wp2_with fail
              refine (unhide hclH _).mono ?_
              rintro e w6 ⟨rfl, hw6⟩
              subst hw6
              clear hcp c0
              go_wp2
              go_ret
              refine ⟨rfl, ?_⟩
              rw [unhide hsp, unhide hYH]
              exact unhide fin _
end Go.Proofs.Qxb6500368a
