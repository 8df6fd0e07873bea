/-
  THE MODEL'S BENCH: dft, turn.
-/
import Derived.Test.Qxb6500368aMLoad
import Derived.Test.Qxb6500368aConv
namespace Go.Proofs.Qxb6500368a
open Go.RowKit Go.Qx
set_option linter.unusedVariables false
set_option linter.unusedSimpArgs false

theorem sumM_in (w : Int) (x : Nat → Int) : ∀ i, 0 ≤ sumM w x i ∧ sumM w x i < pP
  | 0 => by show (0 : Int) ≤ 0 ∧ (0 : Int) < pP; decide
  | i + 1 => emod_in _

def dftPost (w : World) (l : Nat) (F : Nat → Int) (e : Ending) (w' : World) : Prop := ∃ p, e = .returned (.slice (some ⟨p, 0, none⟩) l l) ∧ Quiet w w' ∧ w.heap.size ≤ p ∧ Blk w' p 3 (ints .i64 F l)
def dftF (W S : Int) (x : Nat → Int) (l : Nat) (j : Nat) : Int := sumM (powT W j) x l * S % pP

theorem mul_wrap {a b : Int} (ha : 0 ≤ a ∧ a < pP) (hb : 0 ≤ b ∧ b < pP) : wrap64 (a * b) = a * b ∧ (a * b).tmod 998244353 = a * b % pP := by
  have h := mul_lt ha hb
  exact ⟨by unfold wrap64; omega, tmod_p h.1⟩
theorem mac_wrap {s a b : Int} (hs : 0 ≤ s ∧ s < pP) (ha : 0 ≤ a ∧ a < pP) (hb : 0 ≤ b ∧ b < pP) : wrap64 (s + a * b) = s + a * b ∧ (s + a * b).tmod 998244353 = (s + a * b) % pP := by
  have h := mul_lt ha hb
  have h2 := hs.2
  unfold pP at h2
  exact ⟨by unfold wrap64; omega, tmod_p (by omega)⟩

set_option maxRecDepth 100000 in
set_option maxHeartbeats 4000000 in
theorem dft_any (w : World) (a off l cap : Nat) (c : Nat → Int) (D : Nat) (B : Blk w a 3 (ints .i64 c D)) (hl : l ≤ 16) (ho : off + l ≤ D) (hc : ∀ i, i < l → 0 ≤ c (off + i) ∧ c (off + i) < pP) (W S : Int) (hW : 0 ≤ W ∧ W < pP) (hS : 0 ≤ S ∧ S < pP) :
    Calls Try.prog 55 #[.slice (some ⟨a, off, none⟩) l cap, .int .i64 W, .int .i64 S] w (dftPost w l (dftF W S (fun i => c (off + i)) l)) := by
  have hm := make58k
  have hmk : ∀ W : World, (Instr.makeSlice 58 (.int .i64 l) (.int .i64 l)).run Try.prog W = .ok (.slice (some ⟨W.heap.size, 0, none⟩) l l) (W.alloc (.cells (ints .i64 (fun _ => 0) l).toArray 3)) := fun W => hm W l hl
  clear hm
  generalize hF : (ints .i64 (fun _ => 0) l).toArray = F at hmk
  have B0 : Hid (Blk (w.alloc (.cells F 3)) w.heap.size 3 (ints .i64 (fun _ => 0) l)) := by
    rw [← hF]; exact Blk.new w 3 _
  clear hF
  have BH := hide B
  have hlH := hide hl
  have hoH := hide ho
  have hcH := hide hc
  have hWH := hide hW
  have hSH := hide hS
  clear B ho hc hW hS hl
  generalize hG : dftF W S (fun i => c (off + i)) l = G at *
  have hGH := hide hG
  clear hG
  unfold dftPost
  go_enter Try.func55, Try.ntmps55
  go_wp2
  go_loopw [8, 9] (fun wj z wr => ∃ j : Nat, j ≤ l ∧ z = .int .i64 j ∧ wj = .int .i64 (powT W j) ∧ Quiet w wr ∧ Blk wr w.heap.size 3 (ints .i64 (cutT G j) l)) (fun _ z _ => l + 1 - (intOf z).toNat)
  case atStart => exact ⟨0, by omega, rfl, rfl, (Chg.refl _ _).alloc _, by rw [ints_congr .i64 (g := fun _ => 0) (fun i _ => by simp [cutT])]; exact unhide B0⟩
  case round =>
    clear B0 hmk
    obtain ⟨j, hj, rfl, rfl, q, BG⟩ := hrel
    by_cases hlt : j < l
    · have g1 : (j : Int) < (l : Int) := by omega
      have j0 : (0 : Int) ≤ (j : Int) := by omega
      have hwj := powT_in W j
      have hnx := mul_wrap hwj (unhide hWH)
      have hwn : Hid (powT W j * W % pP = powT W (j + 1)) := rfl
      have hGj : Hid (sumM (powT W j) (fun i => c (off + i)) l * S % pP = G j) := by show _ = _; rw [← unhide hGH]; rfl
      obtain ⟨m1, m2⟩ := hnx
      generalize hwjE : powT W j = wj at *
      have wi : wrap64 ((j : Int) + 1) = (j : Int) + 1 := by have := unhide hlH; unfold wrap64; omega
      have m1H := hide m1
      have m2H := hide m2
      have hwjH := hide hwj
      have hltH := hide hlt
      have qH := hide q
      have BGH := hide BG
      have gg := BG.cell j
      rw [ints_get _ _ _ _ hlt] at gg
      have ff := BG.frozen j
      clear m1 m2 hwj hlt hj q BG hwjE
      generalize cutT G j j = old at *
      go_wp2
      go_loopw [10, 11, 12] (fun s t z wr' => ∃ i : Nat, i ≤ l ∧ z = .int .i64 i ∧ t = .int .i64 (powT wj i) ∧ s = .int .i64 (sumM wj (fun i => c (off + i)) i) ∧ wr' = wr) (fun _ _ z _ => l + 1 - (intOf z).toNat)
      case atStart => exact ⟨0, by omega, rfl, rfl, rfl, rfl⟩
      case round =>
        obtain ⟨i, hi, rfl, rfl, rfl, hwr⟩ := hrel
        subst hwr
        by_cases hlt : i < l
        · have g2 : (i : Int) < (l : Int) := by omega
          have i0 : (0 : Int) ≤ (i : Int) := by omega
          have cc := ((unhide qH).blk (unhide BH)).cell (off + i)
          rw [ints_get _ _ _ _ (by have := unhide hoH; omega)] at cc
          have hs := sumM_in wj (fun i => c (off + i)) i
          have ht := powT_in wj i
          have hci := unhide hcH i hlt
          obtain ⟨n1, n2⟩ := mul_wrap ht (unhide hwjH)
          obtain ⟨n3, n30⟩ := mul_wrap hci ht
          obtain ⟨n4, n5⟩ := mac_wrap hs hci ht
          have hsn : Hid ((sumM wj (fun i => c (off + i)) i + c (off + i) * powT wj i) % pP = sumM wj (fun i => c (off + i)) (i + 1)) := rfl
          have htn : Hid (powT wj i * wj % pP = powT wj (i + 1)) := rfl
          have wi2 : wrap64 ((i : Int) + 1) = (i : Int) + 1 := by have := unhide hlH; unfold wrap64; omega
          have hiH := hide hlt
          clear n30 hs ht hci hlt hi
          generalize sumM wj (fun i => c (off + i)) i = s at *
          generalize powT wj i = t at *
          generalize c (off + i) = ci at *
          clear gg ff
          go_wp2
          go_roundw
          case rel => exact ⟨i + 1, unhide hiH, by simp; try exact wi2, by rw [unhide htn], by rw [unhide hsn], by trivial⟩
          case measure =>
            have h := unhide hiH
            show l + 1 - (intOf (.int .i64 (wrap64 ((i : Int) + 1)))).toNat < l + 1 - (intOf (.int .i64 (i : Int))).toNat
            exact meas_next h wi2
        · have g2 : ¬ (i : Int) < (l : Int) := by omega
          obtain rfl : i = l := by omega
          have hs := sumM_in wj (fun i => c (off + i)) i
          obtain ⟨n1, n2⟩ := mul_wrap hs (unhide hSH)
          generalize sumM wj (fun i => c (off + i)) i = s at *
          have m1 := unhide m1H
          have m2 := unhide m2H
          have B5 : Hid (Blk (wr.setCell ⟨w.heap.size, j, none⟩ (.int .i64 (s * S % pP))) w.heap.size 3 (ints .i64 (cutT G (j + 1)) i)) := by
            have h1 := (unhide BGH).set j (.int .i64 (G j))
            rw [ints_set _ _ _ _ _ (unhide hltH), cutT_next] at h1
            rw [unhide hGj]
            exact h1
          clear hs hlt hi
          go_wp2
          go_roundw
          case rel => exact ⟨j + 1, unhide hltH, by simp; try exact wi, by rw [unhide hwn], (unhide qH).setCell (p := ⟨w.heap.size, j, none⟩) (.inr (by simp)) _, unhide B5⟩
          case measure =>
            have h := unhide hltH
            show i + 1 - (intOf (.int .i64 (wrap64 ((j : Int) + 1)))).toNat < i + 1 - (intOf (.int .i64 (j : Int))).toNat
            exact meas_next h wi
    · have g1 : ¬ (j : Int) < (l : Int) := by omega
      obtain rfl : j = l := by omega
      have qH := hide q
      have BGH := hide BG
      clear hlt hj q BG
      go_wp2
      go_ret
      refine ⟨_, rfl, unhide qH, Nat.le_refl _, ?_⟩
      rw [ints_congr .i64 (g := cutT G j) (fun i hi => (cutT_at G hi).symm)]
      exact unhide BGH

theorem copyM0 (W : World) (d o dl dc V sl sc : Nat) (c y : Nat → Int) (D M : Nat) (hk : sl ≤ dl) (ho : o + sl ≤ D) (hM : sl ≤ M) (hv : Blk W d 3 (ints .i64 c D)) (hV : Blk W V 3 (ints .i64 y M)) : (Builtin.copy_ #[58, 58] 3 #[.slice (some ⟨d, o, none⟩) dl dc, .slice (some ⟨V, 0, none⟩) sl sc]).run Try.prog W = .ok (.int .i64 sl) (W.setCells d o (ints .i64 y sl)) := by
  have h := copyM W d o dl dc V 0 sl sc c y D M hk ho (by omega) hv hV
  simp only [Nat.zero_add] at h
  exact h
theorem wrap_small (q : Nat) (h : q < 1073741824) : wrap64 (q : Int) = (q : Int) := by unfold wrap64; omega
theorem pow_w (k : Nat) (hk : k ≤ 4) : sqP 31 1 3 (998244352 / 2 ^ k) = wOf k false ∧ sqP 31 1 (wOf k false) 998244351 = wOf k true ∧ sqP 31 1 ((2 ^ k : Nat) : Int) 998244351 = ninvT k := by
  rcases (by omega : k = 0 ∨ k = 1 ∨ k = 2 ∨ k = 3 ∨ k = 4) with rfl | rfl | rfl | rfl | rfl <;> decide +kernel
theorem wOf_in (k : Nat) (hk : k ≤ 4) (inv : Bool) : 0 ≤ wOf k inv ∧ wOf k inv < pP := by
  rcases (by omega : k = 0 ∨ k = 1 ∨ k = 2 ∨ k = 3 ∨ k = 4) with rfl | rfl | rfl | rfl | rfl <;> cases inv <;> decide +kernel

set_option maxRecDepth 100000 in
set_option maxHeartbeats 4000000 in
theorem mturn_any (w : World) (m a b : Nat) (c : Nat → Int) (n : Nat → Nat) (wk : Nat) (R : RepM w m a b c n wk) (I : Inv c n wk) (r : Int) (inv : Bool) :
    Calls Try.prog 53 #[ptr m, .int .i64 r, .bool inv] w (repPostM w m a b (turnE n r) (turnC c n r inv) n (turnW n wk r inv)) := by
  have hc := reg_any w r
  have RH := hide R
  rcases reg_cases r with ⟨k, rfl, hk, e0⟩ | e0
  · rw [e0] at hc
    have hn := I.n k hk
    have hreg := hide (mreg_any w m a b c n wk R k hk hn)
    have hl := hide (fun W => log2_any W (n k) (by omega))
    have hcH := hide hc
    by_cases hlog : log2P (n k) < 0
    · have e1 : Hid (turnE n k = 2) := by show _ = _; simp [turnE, e0, hlog]
      have e2 : Hid (turnC c n k inv = c) := by show _ = _; simp [turnC, unhide e1]
      have e3 : Hid (turnW n wk k inv = wk) := by show _ = _; simp [turnW, unhide e1]
      rw [unhide e1, unhide e2, unhide e3]
      generalize log2P (n k) = L at *
      generalize n k = l at *
      clear e1 e2 e3 R I e0 hc hn
      unfold ptr repPostM at *
      go_enter Try.func53, Try.ntmps53
      go_wp2_with fail
      refine (unhide hcH).mono ?_
      rintro e w' ⟨rfl, hw'⟩
      subst hw'
      go_wp2_with fail
      refine (unhide hreg).mono ?_
      clear hreg
      rintro e w1 ⟨rfl, q1⟩
      have q1H := hide q1
      clear q1
      go_wp2_with fail
      refine (unhide hl w1).mono ?_
      clear hl
      rintro e w' ⟨rfl, hw'⟩
      subst hw'
      go_wp2
      go_ret
      exact ⟨rfl, Quiet.chg (unhide q1H) _, (unhide RH).quiet (unhide q1H)⟩
    · have hm := log2_ok hlog
      have e1 : Hid (turnE n k = 0) := by show _ = _; simp [turnE, e0, hlog]
      have e2 : Hid (turnC c n k inv = win c (16 * k) (n k) (netP (ceilP (n k)) inv (fun p => c (16 * k + p)))) := by show _ = _; simp [turnC, unhide e1]
      have e3 : Hid (turnW n wk k inv = ceilP (n k) * (n k / 2) + (if inv then n k else 0)) := by show _ = _; simp [turnW, unhide e1]
      rw [unhide e1, unhide e2, unhide e3]
      have hK := ceil_le (n k)
      rw [log2_nonneg hlog] at hl
      have hIc : Hid (∀ i, i < n k → 0 ≤ c (16 * k + i) ∧ c (16 * k + i) < pP) := fun i hi => I.c _ (by omega)
      generalize ceilP (n k) = K at *
      obtain ⟨p1, p2, p3⟩ := pow_w K hK
      have hNet : Hid (∀ j, j < n k → dftF (wOf K inv) (scOf K inv) (fun i => c (16 * k + i)) (n k) j = netP K inv (fun p => c (16 * k + p)) j) := fun j hj => by
        rw [net_dft hK inv _ (by rw [← hm]; exact unhide hIc) j (by rw [← hm]; exact hj)]
        unfold dftF dftP
        rw [← hm]
      rw [← hm] at p1 p3
      have hw1 := wOf_in K hK false
      have hwi := wOf_in K hK inv
      have hw1H := hide hw1
      have hwiH := hide hwi
      have p1H := hide p1
      have p2H := hide p2
      have p3H := hide p3
      have hKH := hide hK
      have hnH := hide hn
      have hkH := hide hk
      have hko : Hid (16 * k + n k ≤ 48) := by show _ ≤ _; omega
      have h0 : 0 < n k := by rw [hm]; exact Nat.pow_pos (by decide)
      have t1 : (998244352 : Int).tdiv (n k : Int) = ((998244352 / n k : Nat) : Int) := by rw [Int.tdiv_eq_ediv_of_nonneg (by decide)]; rfl
      have t2 : (n k : Int).tdiv 2 = ((n k / 2 : Nat) : Int) := by rw [Int.tdiv_eq_ediv_of_nonneg (by omega)]; omega
      have hwl := work_le K (n k) hK hn
      have t3 : ((n k / 2 : Nat) : Int) * (K : Int) = ((K * (n k / 2) : Nat) : Int) := by rw [Nat.mul_comm K]; rfl
      have t4 : wrap64 ((K * (n k / 2) : Nat) : Int) = ((K * (n k / 2) : Nat) : Int) := by unfold wrap64; omega
      have nz : ¬ (n k : Int) = 0 := by omega
      have nzb : ((n k : Int) == 0) = false := by simpa using nz
      have hq : 998244352 / n k < 1073741824 := by have := Nat.div_le_self 998244352 (n k); omega
      have wq : wrap64 ((998244352 / n k : Nat) : Int) = ((998244352 / n k : Nat) : Int) := wrap_small _ hq
      have wh : wrap64 ((n k / 2 : Nat) : Int) = ((n k / 2 : Nat) : Int) := wrap_small _ (by omega)
      have hpow := hide (fun W => pow_any W 3 (998244352 / n k) (by decide) hq)
      rw [p1] at hpow
      have hsc : 0 ≤ scOf K inv ∧ scOf K inv < pP := by
        unfold scOf; split
        · exact powT_in _ _
        · decide
      have hscH := hide hsc
      have kk0 : ¬ (K : Int) < 0 := by omega
      clear e1 e2 e3 hlog hm hK p1 p2 p3 hw1 hwi hn hk hc e0 I R hq hsc
      have hwlH := hide hwl
      generalize n k = l at *
      generalize K * (l / 2) = WK at *
      generalize 998244352 / l = Q at *
      generalize l / 2 = H2 at *
      clear hwl
      unfold ptr repPostM at *
      cases inv with
      | false =>
        go_enter Try.func53, Try.ntmps53
        go_wp2_with fail
        refine (unhide hcH).mono ?_
        rintro e w0 ⟨rfl, hw'⟩
        subst hw'
        go_wp2_with fail
        refine (unhide hreg).mono ?_
        clear hreg hcH
        rintro e w1 ⟨rfl, q1⟩
        have q1H := hide q1
        have R1 := (unhide RH).quiet q1
        have c2 := R1.c2
        have f2 := R1.own.frozen 2
        have R1H := hide R1
        clear q1 R1
        go_wp2_with fail
        refine (unhide hl w1).mono ?_
        clear hl
        rintro e w' ⟨rfl, hw'⟩
        subst hw'
        go_wp2_with fail
        refine (unhide hpow w').mono ?_
        clear hpow
        rintro e w2 ⟨rfl, hw2⟩
        subst hw2
        have R2 : RepM (w2.setCell ⟨m, 2, none⟩ (.int .i64 (WK : Int))) m a b c n WK := (unhide R1H).setW WK
        have C2 : Hid (Chg (ownM m a b) w0 (w2.setCell ⟨m, 2, none⟩ (.int .i64 (WK : Int)))) := Chg.setCell (Quiet.chg (unhide q1H) _) (p := ⟨m, 2, none⟩) (.inl (.inl rfl)) _
        generalize hWt : wOf K false = WT at *
        clear hWt
        have hd := hide (dft_any _ a (16 * k) l (48 - 16 * k) c 48 R2.row (unhide hnH) (unhide hko) (unhide hIc) WT 1 (unhide hwiH) (unhide hscH))
        have R2H := hide R2
        clear R2 R1H
        unfold dftPost at hd
        go_wp2_with fail
        refine (unhide hd).mono ?_
        clear hd
        rintro e w3 ⟨p, rfl, q3, hp, B3⟩
        have R3 := (unhide R2H).quiet q3
        have hcp := copyM0 w3 a (16 * k) l (48 - 16 * k) p l l c _ 48 l (Nat.le_refl _) (unhide hko) (Nat.le_refl _) R3.row B3
        have R4 := R3.copy (16 * k) l (dftF WT 1 (fun i => c (16 * k + i)) l) (unhide hko)
        rw [win_congr c (16 * k) l (y := dftF WT 1 (fun i => c (16 * k + i)) l) (unhide hNet)] at R4
        have R4H := hide R4
        have C4 : Hid (Chg (ownM m a b) w0 (w3.setCells a (16 * k) (ints .i64 (dftF WT 1 (fun i => c (16 * k + i)) l) l))) := Chg.setCells (.inl (.inr (.inl rfl))) _ _ ((unhide C2).trans (Quiet.chg q3 _))
        clear R3 R4 q3 hp B3
        generalize dftF WT 1 (fun i => c (16 * k + i)) l = Y at *
        generalize w3.setCells a (16 * k) (ints .i64 Y l) = W4 at *
        go_wp2
        go_ret
        exact ⟨rfl, unhide C4, unhide R4H⟩
      | true =>
        go_enter Try.func53, Try.ntmps53
        go_wp2_with fail
        refine (unhide hcH).mono ?_
        rintro e w0 ⟨rfl, hw'⟩
        subst hw'
        go_wp2_with fail
        refine (unhide hreg).mono ?_
        clear hreg hcH
        rintro e w1 ⟨rfl, q1⟩
        have q1H := hide q1
        have R1 := (unhide RH).quiet q1
        have c2 := R1.c2
        have f2 := R1.own.frozen 2
        have R1H := hide R1
        clear q1 R1
        go_wp2_with fail
        refine (unhide hl w1).mono ?_
        clear hl
        rintro e w' ⟨rfl, hw'⟩
        subst hw'
        go_wp2_with fail
        refine (unhide hpow w').mono ?_
        clear hpow
        rintro e w2 ⟨rfl, hw2⟩
        subst hw2
        have hp2 := hide (fun W => pow_any W (wOf K false) 998244351 (unhide hw1H) (by decide))
        rw [unhide p2H] at hp2
        have hp3 := hide (fun W => pow_any W (l : Int) 998244351 (by have := unhide hnH; unfold pP; omega) (by decide))
        rw [unhide p3H] at hp3
        generalize wOf K false = W1 at *
        generalize hWt : wOf K true = WT at *
        have hWtH := hide hWt
        generalize hSt : scOf K true = ST at *
        have hSt2 : Hid (ninvT K = ST) := by show _ = _; rw [← hSt]; rfl
        clear hWt hSt
        go_wp2_with fail
        refine (unhide hp2 _).mono ?_
        rintro e w' ⟨rfl, hw'⟩
        subst hw'
        rw [unhide hSt2] at hp3
        go_wp2_with fail
        refine (unhide hp3 _).mono ?_
        rintro e w' ⟨rfl, hw'⟩
        subst hw'
        have R2 : RepM ((w2.setCell ⟨m, 2, none⟩ (.int .i64 (WK : Int))).setCell ⟨m, 2, none⟩ (.int .i64 ((WK + l : Nat) : Int))) m a b c n (WK + l) := ((unhide R1H).setW WK).setW (WK + l)
        have C2 : Hid (Chg (ownM m a b) w0 ((w2.setCell ⟨m, 2, none⟩ (.int .i64 (WK : Int))).setCell ⟨m, 2, none⟩ (.int .i64 ((WK + l : Nat) : Int)))) := Chg.setCell (Chg.setCell (Quiet.chg (unhide q1H) _) (p := ⟨m, 2, none⟩) (.inl (.inl rfl)) _) (p := ⟨m, 2, none⟩) (.inl (.inl rfl)) _
        have hd := hide (dft_any _ a (16 * k) l (48 - 16 * k) c 48 R2.row (unhide hnH) (unhide hko) (unhide hIc) WT ST (unhide hwiH) (unhide hscH))
        have R2H := hide R2
        clear R2 R1H
        have u1 : (WK : Int) + (l : Int) = ((WK + l : Nat) : Int) := by omega
        have u2 : wrap64 ((WK + l : Nat) : Int) = ((WK + l : Nat) : Int) := by have := unhide hwlH; have := unhide hnH; unfold wrap64; omega
        generalize hWL : WK + l = WL at *
        have hWLH := hide hWL
        clear hWL
        unfold dftPost at hd
        go_wp2_with fail
        refine (unhide hd).mono ?_
        clear hd
        rintro e w3 ⟨p, rfl, q3, hp, B3⟩
        have R3 := (unhide R2H).quiet q3
        have hcp := copyM0 w3 a (16 * k) l (48 - 16 * k) p l l c _ 48 l (Nat.le_refl _) (unhide hko) (Nat.le_refl _) R3.row B3
        have R4 := R3.copy (16 * k) l (dftF WT ST (fun i => c (16 * k + i)) l) (unhide hko)
        rw [win_congr c (16 * k) l (y := dftF WT ST (fun i => c (16 * k + i)) l) (unhide hNet)] at R4
        have R4H := hide R4
        have C4 : Hid (Chg (ownM m a b) w0 (w3.setCells a (16 * k) (ints .i64 (dftF WT ST (fun i => c (16 * k + i)) l) l))) := Chg.setCells (.inl (.inr (.inl rfl))) _ _ ((unhide C2).trans (Quiet.chg q3 _))
        clear R3 R4 q3 hp B3
        generalize dftF WT ST (fun i => c (16 * k + i)) l = Y at *
        generalize w3.setCells a (16 * k) (ints .i64 Y l) = W4 at *
        go_wp2
        go_ret
        exact ⟨rfl, unhide C4, by have h := unhide R4H; rw [← unhide hWLH] at h; exact h⟩
  · rw [e0] at hc
    have e1 : Hid (turnE n r = 4) := by show _ = _; simp [turnE, e0]
    have e2 : Hid (turnC c n r inv = c) := by show _ = _; simp [turnC, unhide e1]
    have e3 : Hid (turnW n wk r inv = wk) := by show _ = _; simp [turnW, unhide e1]
    rw [unhide e1, unhide e2, unhide e3]
    clear e1 e2 e3 R I e0
    unfold ptr repPostM
    go_enter Try.func53, Try.ntmps53
    go_wp2_with fail
    refine hc.mono ?_
    rintro e w' ⟨rfl, hw'⟩
    subst hw'
    go_wp2
    go_ret
    exact ⟨rfl, Chg.refl _ _, unhide RH⟩

theorem mforward_any (w : World) (m a b : Nat) (c : Nat → Int) (n : Nat → Nat) (wk : Nat) (R : RepM w m a b c n wk) (I : Inv c n wk) (r : Int) :
    Calls Try.prog 44 #[ptr m, .int .i64 r] w (repPostM w m a b (turnE n r) (turnC c n r false) n (turnW n wk r false)) := by
  have h := mturn_any w m a b c n wk R I r false
  unfold ptr repPostM at *
  go_enter Try.func44, Try.ntmps44
  go_wp2_with fail
  refine h.mono ?_
  rintro e w' ⟨rfl, h1, h2⟩
  go_wp2
  go_ret
  exact ⟨rfl, h1, h2⟩

theorem minverse_any (w : World) (m a b : Nat) (c : Nat → Int) (n : Nat → Nat) (wk : Nat) (R : RepM w m a b c n wk) (I : Inv c n wk) (r : Int) :
    Calls Try.prog 45 #[ptr m, .int .i64 r] w (repPostM w m a b (turnE n r) (turnC c n r true) n (turnW n wk r true)) := by
  have h := mturn_any w m a b c n wk R I r true
  unfold ptr repPostM at *
  go_enter Try.func45, Try.ntmps45
  go_wp2_with fail
  refine h.mono ?_
  rintro e w' ⟨rfl, h1, h2⟩
  go_wp2
  go_ret
  exact ⟨rfl, h1, h2⟩
end Go.Proofs.Qxb6500368a
