/-
  THE REAL BENCH: reverse. (gen8rev.py)
-/
import Derived.Test.Qxb6500368aPow
import Derived.Test.Qxb6500368aQm
namespace Go.Proofs.Qxb6500368a
open Go.RowKit Go.Qx
set_option linter.unusedVariables false
set_option linter.unusedSimpArgs false

theorem bits_xor_i64_nat (a b : Nat) (ha : a < 9223372036854775808) (hb : b < 9223372036854775808) : bits .xor .i64 (a : Int) (b : Int) = ((a ^^^ b : Nat) : Int) := by
  have hx : a ^^^ b < 2 ^ 63 := Nat.xor_lt_two_pow (by omega) (by omega)
  have h1 : (BitVec.ofInt 64 (a : Int)).toNat = a := by
    rw [BitVec.ofInt_natCast, BitVec.toNat_ofNat]; exact Nat.mod_eq_of_lt (by omega)
  have h2 : (BitVec.ofInt 64 (b : Int)).toNat = b := by
    rw [BitVec.ofInt_natCast, BitVec.toNat_ofNat]; exact Nat.mod_eq_of_lt (by omega)
  show IntKind.i64.wrap ((BitVec.ofInt 64 (a : Int) ^^^ BitVec.ofInt 64 (b : Int)).toNat : Int) = _
  rw [BitVec.toNat_xor, h1, h2, IntKind.wrap_i64]
  omega

/-- c with y laid over n cells from off on. -/
def win (c : Nat → Int) (off n : Nat) (y : Nat → Int) : Nat → Int := fun i => if off ≤ i ∧ i < off + n then y (i - off) else c i

theorem win_get (c : Nat → Int) (off n : Nat) (y : Nat → Int) (p : Nat) (hp : p < n) : win c off n y (off + p) = y p := by
  unfold win
  rw [if_pos (by omega)]
  congr 1; omega

theorem win_set (c : Nat → Int) (off n : Nat) (y : Nat → Int) (p : Nat) (hp : p < n) (z : Int) : updF (win c off n y) (off + p) z = win c off n (updF y p z) := by
  funext i
  unfold updF win
  by_cases h : i = off + p
  · subst h
    rw [if_pos rfl, if_pos (by omega)]
    show z = if off + p - off = p then z else y (off + p - off)
    rw [if_pos (by omega)]
  · rw [if_neg h]
    by_cases h2 : off ≤ i ∧ i < off + n
    · rw [if_pos h2, if_pos h2]
      show y (i - off) = if i - off = p then z else y (i - off)
      rw [if_neg (by omega)]
    · rw [if_neg h2, if_neg h2]

theorem win_self (c : Nat → Int) (off n : Nat) : win c off n (fun p => c (off + p)) = c := by
  funext i
  unfold win
  by_cases h : off ≤ i ∧ i < off + n
  · rw [if_pos h]
    show c (off + (i - off)) = c i
    congr 1; omega
  · rw [if_neg h]

theorem win_congr (c : Nat → Int) (off n : Nat) {y z : Nat → Int} (h : ∀ p, p < n → y p = z p) : win c off n y = win c off n z := by
  funext i
  unfold win
  by_cases h2 : off ≤ i ∧ i < off + n
  · rw [if_pos h2, if_pos h2]; exact h _ (by omega)
  · rw [if_neg h2, if_neg h2]

/-- The carried index, one on. -/
def incP : Nat → Nat → Nat → Nat
  | 0, j, b => j ^^^ b
  | f + 1, j, b => if j &&& b = 0 then j ^^^ b else incP f (j ^^^ b) (b / 2)

theorem inc_stop (f j b : Nat) (h : j &&& b = 0) : incP f j b = j ^^^ b := by
  cases f with
  | zero => rfl
  | succ f => show (if j &&& b = 0 then _ else _) = _; rw [if_pos h]
theorem inc_go (f j b : Nat) (h : ¬ j &&& b = 0) : incP (f + 1) j b = incP f (j ^^^ b) (b / 2) := by
  show (if j &&& b = 0 then _ else _) = _
  rw [if_neg h]

/-- Which cell stands where, behind i rounds. -/
def sig (k : Nat) : Nat → Nat → Nat
  | 0 => fun p => p
  | i + 1 => if i + 1 < brev k (i + 1) then updF (updF (sig k i) (i + 1) (sig k i (brev k (i + 1)))) (brev k (i + 1)) (sig k i (i + 1)) else sig k i

def incB (k : Nat) : Bool := allB (2 ^ k - 1) fun i => decide (incP k (brev k i) (2 ^ k / 2) = brev k (i + 1))
def sigB (k : Nat) : Bool := allB (2 ^ k) fun p => decide (sig k (2 ^ k - 1) p = brev k p)
theorem inc_all (k : Nat) (hk : k ≤ 4) : incB k = true := by
  rcases (by omega : k = 0 ∨ k = 1 ∨ k = 2 ∨ k = 3 ∨ k = 4) with rfl | rfl | rfl | rfl | rfl <;> decide +kernel
theorem sig_all (k : Nat) (hk : k ≤ 4) : sigB k = true := by
  rcases (by omega : k = 0 ∨ k = 1 ∨ k = 2 ∨ k = 3 ∨ k = 4) with rfl | rfl | rfl | rfl | rfl <;> decide +kernel

attribute [irreducible] incP sig

theorem pow_cases (k : Nat) (hk : k ≤ 4) : 2 ^ k = 1 ∨ 2 ^ k = 2 ∨ 2 ^ k = 4 ∨ 2 ^ k = 8 ∨ 2 ^ k = 16 := by
  rcases (by omega : k = 0 ∨ k = 1 ∨ k = 2 ∨ k = 3 ∨ k = 4) with rfl | rfl | rfl | rfl | rfl <;> decide

theorem xor_lt16 {a b : Nat} (ha : a < 16) (hb : b < 16) : a ^^^ b < 16 := Nat.xor_lt_two_pow (n := 4) ha hb

theorem half_lt2 {b f : Nat} (hb : b < 2 ^ f) (h0 : b ≠ 0) : ∃ g, f = g + 1 ∧ b / 2 < 2 ^ g := by
  cases f with
  | zero => simp at hb; omega
  | succ g => exact ⟨g, rfl, by rw [Nat.pow_succ] at hb; omega⟩

set_option maxRecDepth 100000 in
set_option maxHeartbeats 4000000 in
theorem reverse_any (w : World) (b off N cap : Nat) (c : Nat → Int) (B : Blk w b 42 (ints .u64 c N)) (k : Nat) (hk : k ≤ 4) (hN : off + 2 ^ k ≤ N) :
    Calls Try.prog 50 #[.slice (some ⟨b, off, none⟩) (2 ^ k) cap] w fun e w' => e = .returned (.tuple #[]) ∧ Chg (fun i => i = b) w w' ∧ Blk w' b 42 (ints .u64 (win c off (2 ^ k) (fun p => c (off + brev k p))) N) := by
  have hn := pow_cases k hk
  have hinc : Hid (∀ i, i + 1 < 2 ^ k → incP k (brev k i) (2 ^ k / 2) = brev k (i + 1)) := fun i hi => of_decide_eq_true (allB_spec (inc_all k hk) i (by omega))
  have hsig : Hid (∀ p, p < 2 ^ k → sig k (2 ^ k - 1) p = brev k p) := fun p hp => of_decide_eq_true (allB_spec (sig_all k hk) p hp)
  have hbl : Hid (∀ i, brev k i < 2 ^ k) := brev_lt k
  have hb0 : Hid (brev k 0 = 0) := by
    show brev k 0 = 0
    rcases (by omega : k = 0 ∨ k = 1 ∨ k = 2 ∨ k = 3 ∨ k = 4) with rfl | rfl | rfl | rfl | rfl <;> decide +kernel
  have hs0 : Hid (∀ p, sig k 0 p = p) := fun p => by unfold sig; rfl
  have hss : Hid (∀ i, sig k (i + 1) = if i + 1 < brev k (i + 1) then updF (updF (sig k i) (i + 1) (sig k i (brev k (i + 1)))) (brev k (i + 1)) (sig k i (i + 1)) else sig k i) := fun i => by conv => lhs; unfold sig
  have hhalf : Hid (2 ^ k / 2 < 2 ^ k) := by show 2 ^ k / 2 < 2 ^ k; omega
  generalize hnk : 2 ^ k = n at *
  have hnkH := hide hnk
  have hn1 : 1 ≤ n ∧ n ≤ 16 := by omega
  have BH := hide B
  clear hnk hn B
  go_enter Try.func50, Try.ntmps50
  go_wp2
  go_loopw [2, 3] (fun x1 x2 wr => ∃ i i1 : Nat, i1 = i + 1 ∧ i1 ≤ n ∧ x1 = .int .i64 i1 ∧ x2 = .int .i64 (brev k i) ∧ Chg (fun q => q = b) w wr ∧ Blk wr b 42 (ints .u64 (win c off n (fun p => c (off + sig k i p))) N)) (fun x1 _ _ => 17 - (intOf x1).toNat)
  case atStart =>
    refine ⟨0, 1, rfl, hn1.1, rfl, by rw [unhide hb0]; rfl, Chg.refl _ _, ?_⟩
    rw [win_congr c off n (z := fun p => c (off + p)) (fun p _ => by rw [unhide hs0]), win_self]
    exact unhide BH
  case round =>
    obtain ⟨i, i1, hi1, hi, rfl, rfl, ch, B⟩ := hrel
    have hi1H := hide hi1
    clear BH
    have chH := hide ch
    have BH := hide B
    clear ch B
    by_cases hlt : i1 < n
    · have l1 : (i1 : Int) < (n : Int) := by omega
      have l2 : decide (i1 < n) = true := by simpa using hlt
      have hT := unhide hinc i (by omega)
      have hJ := unhide hbl (i + 1)
      have hj0 := unhide hbl i
      have hst := unhide hss i
      rw [← hi1] at hT hJ hst
      generalize hTe : brev k i1 = T at *
      generalize brev k i = j at *
      have hd2 : Hid ((n : Int) / 2 = ((n / 2 : Nat) : Int)) := by show (n : Int) / 2 = ((n / 2 : Nat) : Int); omega
      have hh16 : n / 2 < 16 := by omega
      have hhl := unhide hhalf
      have tH := hide (And.intro hT (And.intro hhl hst))
      clear hT hhl hst hi1
      have hTeH := hide hTe
      clear hTe
      go_wp2
      go_loopw [3, 4] (fun y1 y2 w2 => ∃ (f jj bb : Nat), y1 = .int .i64 jj ∧ y2 = .int .i64 bb ∧ incP f jj bb = T ∧ bb < 2 ^ f ∧ jj < 16 ∧ bb < 16 ∧ w2 = wr) (fun _ y2 _ => (intOf y2).toNat)
      case atStart => exact ⟨k, j, n / 2, rfl, by rw [unhide hd2], (unhide tH).1, by rw [unhide hnkH]; exact (unhide tH).2.1, by omega, hh16, rfl⟩
      case round =>
        obtain ⟨f, jj, bb, rfl, rfl, hI, hbf, hj16, hb16, hw2⟩ := hrel
        subst hw2
        have ba := bits_and_i64_nat jj bb (by omega) (by omega)
        have bx := bits_xor_i64_nat jj bb (by omega) (by omega)
        have hIH := hide hI
        clear hI
        by_cases hz : jj &&& bb = 0
        · have hX : T = jj ^^^ bb := by rw [← unhide hIH]; exact inc_stop f jj bb hz
          rw [hz] at ba
          rw [← hX] at bx
          have hXH := hide hX
          clear hX hz
          by_cases hsw : i1 < T
          · have s1 : (i1 : Int) < (T : Int) := by omega
            have s2 : decide (i1 < T) = true := by simpa using hsw
            have B := unhide BH
            have c1 := (B.cell (off + i1)).trans (ints_get .u64 _ N _ (by omega))
            have c2 := (B.cell (off + T)).trans (ints_get .u64 _ N _ (by omega))
            rw [win_get c off n _ i1 hlt] at c1
            rw [win_get c off n _ T hJ] at c2
            have fz := B.frozen
            have p1 : (0 : Int) ≤ (i1 : Int) := by omega
            have p2 : (0 : Int) ≤ (T : Int) := by omega
            have p3 : (T : Int) < (n : Int) := by omega
            generalize hz1 : c (off + sig k i i1) = z1 at *
            generalize hz2 : c (off + sig k i T) = z2 at *
            have hst := (unhide tH).2.2
            rw [if_pos hsw] at hst
            have B3 : Hid (∀ nq, Blk (((wr.drewN nq).setCell ⟨b, off + i1, none⟩ (.int .u64 z2)).setCell ⟨b, off + T, none⟩ (.int .u64 z1)) b 42 (ints .u64 (win c off n (fun p => c (off + sig k i1 p))) N)) := by
              intro nq
              have B2 := ((B.drewN nq).set (off + i1) (.int .u64 z2)).set (off + T) (.int .u64 z1)
              rw [ints_set .u64 _ (off + i1) z2 N (by omega), ints_set .u64 _ (off + T) z1 N (by omega), win_set c off n _ i1 hlt, win_set c off n _ T hJ] at B2
              rw [hst]
              have e : (updF (updF (fun p => c (off + sig k i p)) i1 z2) T z1) = fun p => c (off + updF (updF (sig k i) i1 (sig k i T)) T (sig k i i1) p) := by
                funext p
                unfold updF
                by_cases e1 : p = T
                · simp only [if_pos e1]; exact hz1.symm
                · simp only [if_neg e1]
                  by_cases e2 : p = i1
                  · simp only [if_pos e2]; exact hz2.symm
                  · simp only [if_neg e2]
              rw [← e]; exact B2
            have ch3 : Hid (∀ nq, Chg (fun q => q = b) w (((wr.drewN nq).setCell ⟨b, off + i1, none⟩ (.int .u64 z2)).setCell ⟨b, off + T, none⟩ (.int .u64 z1))) := fun nq => (((unhide chH).drewN nq).setCell (p := ⟨b, off + i1, none⟩) (.inl rfl) _).setCell (p := ⟨b, off + T, none⟩) (.inl rfl) _
            clear B hst hz1 hz2 tH
            go_wp2
            refine wp_region_noPanic ?_
            try simp only [List.append_eq, List.cons_append, List.nil_append]
            refine wp_region_mix [(0, true), (1, true), (2, false), (3, false), (4, true), (5, true), (6, true), (7, true), (8, true), (9, true), (10, true), (11, true), (12, true)] [13, 14, 15] (by kernel_rfl) (by kernel_rfl) (fun _ _ _ _ _ h => h) ?_
            simp only [pickM, pickO, List.getElem?_cons_zero, List.getElem?_cons_succ]
            repeat (first | (refine wpMix_read rfl (fun K hK => ?_)) | (refine wpMix_pure rfl (fun K hK => ?_))
                    go_big_quiet_op
                    first | (refine hK _ ?_; clear hK K))
            refine wpMix_nil ?_
            intro _ hw'
            obtain ⟨nq, hw''⟩ := hw'
            subst hw''
            go_wp2
            refine NoPanic.normal ?_
            go_wp2
            go_roundw
            case rel => exact ⟨i1, i1 + 1, rfl, by omega, by go_num, by rw [unhide hTeH], unhide ch3 _, unhide B3 _⟩
            case measure => simp [intOf]; omega
          · have s1 : ¬ (i1 : Int) < (T : Int) := by omega
            have s2 : decide (i1 < T) = false := by simpa using hsw
            have hst := (unhide tH).2.2
            rw [if_neg hsw] at hst
            have B3 : Hid (Blk wr b 42 (ints .u64 (win c off n (fun p => c (off + sig k i1 p))) N)) := by
              show Blk _ _ _ _
              rw [hst]; exact unhide BH
            clear hst tH
            go_wp2
            go_roundw
            case rel => exact ⟨i1, i1 + 1, rfl, by omega, by go_num, by rw [unhide hTeH], unhide chH, unhide B3⟩
            case measure => simp [intOf]; omega
        · have hb0 : bb ≠ 0 := fun e => hz (by rw [e]; simp)
          obtain ⟨g, rfl, hg⟩ := half_lt2 hbf hb0
          have hI2 := inc_go g jj bb hz
          have hX16 := xor_lt16 hj16 hb16
          have hIH2 := hide (hI2.symm.trans (unhide hIH))
          have hdd : Hid ((bb : Int) / 2 = ((bb / 2 : Nat) : Int)) := by show (bb : Int) / 2 = ((bb / 2 : Nat) : Int); omega
          have hm : Hid (bb / 2 < bb) := by show bb / 2 < bb; omega
          have hgH := hide hg
          have nz : ¬ ((jj &&& bb : Nat) : Int) = 0 := by omega
          generalize jj &&& bb = AN at *
          generalize jj ^^^ bb = XX at *
          clear hI2 hIH hg hz hbf
          go_wp2
          go_roundw
          case rel => exact ⟨g, XX, bb / 2, rfl, by rw [unhide hdd], unhide hIH2, unhide hgH, hX16, by omega, by trivial⟩
          case measure =>
            rw [unhide hdd]
            show ((bb / 2 : Nat) : Int).toNat < ((bb : Nat) : Int).toNat
            rw [Int.toNat_natCast, Int.toNat_natCast]; exact unhide hm
    · have l1 : ¬ (i1 : Int) < (n : Int) := by omega
      have l2 : decide (i1 < n) = false := by simpa using hlt
      have e1 : i = n - 1 := by omega
      subst e1
      have B := unhide BH
      rw [win_congr c off n (z := fun p => c (off + brev k p)) (fun p hp => by rw [unhide hsig p hp])] at B
      have BH2 := hide B
      clear B BH
      go_wp2
      go_end0
      exact ⟨rfl, unhide chH, unhide BH2⟩
end Go.Proofs.Qxb6500368a
