/-
  THE REAL BENCH: transform. (gen8tr.py)
-/
import Derived.Test.Qxb6500368aRev
import Derived.Deep.DeepCutAuto
namespace Go.Proofs.Qxb6500368a
open Go.RowKit Go.Qx
set_option linter.unusedVariables false
set_option linter.unusedSimpArgs false

/-- The bench's own cells with the tables filled. -/
abbrev tabC (v : Nat) (n : Nat → Int) (wk : Int) : List Value := benchC v n rootT irootT ninvT wk

/-- A window and the bench in memory. -/
structure MemT (w wr : World) (x v : Nat) (n : Nat → Int) (b off N len : Nat) (c y : Nat → Int) (wk : Nat) : Prop where
  chg : Chg (fun q => q = b ∨ q = x) w wr
  row : Blk wr b 42 (ints .u64 (win c off len y) N)
  own : Blk wr x 47 (tabC v n wk)
  inp : InP len y

theorem MemT.drew {w wr : World} {x v : Nat} {n : Nat → Int} {b off N len : Nat} {c y : Nat → Int} {wk : Nat} (h : MemT w wr x v n b off N len c y wk) (m : Nat) : MemT w (wr.drewN m) x v n b off N len c y wk :=
  ⟨h.chg.drewN m, h.row.drewN m, h.own.drewN m, h.inp⟩

theorem inp_fly {len : Nat} {y : Nat → Int} (h : InP len y) (p q : Nat) (w : Int) : InP len (fly numA y p q w) := by
  intro i hi
  unfold fly updF
  by_cases h1 : i = q
  · rw [if_pos h1]; exact emod_in _
  · rw [if_neg h1]
    by_cases h2 : i = p
    · rw [if_pos h2]; exact emod_in _
    · rw [if_neg h2]; exact h i hi

/-- One butterfly in memory. -/
theorem MemT.fly {w wr : World} {x v : Nat} {n : Nat → Int} {b off N len : Nat} {c y : Nat → Int} {wk : Nat} (h : MemT w wr x v n b off N len c y wk) (hbx : b ≠ x) (hN : off + len ≤ N) (p q : Nat) (hp : p < len) (hq : q < len) (t : Int) :
    MemT w (((wr.setCell ⟨x, 25, none⟩ (.int .i64 ((wk : Int) + 1))).setCell ⟨b, off + p, none⟩ (.int .u64 ((y p + y q * t % pP) % pP))).setCell ⟨b, off + q, none⟩ (.int .u64 ((y p - y q * t % pP) % pP))) x v n b off N len c (fly numA y p q t) (wk + 1) := by
  refine ⟨((h.chg.setCell (p := ⟨x, 25, none⟩) (.inl (.inr rfl)) _).setCell (p := ⟨b, off + p, none⟩) (.inl (.inl rfl)) _).setCell (p := ⟨b, off + q, none⟩) (.inl (.inl rfl)) _, ?_, ?_, inp_fly h.inp p q t⟩
  · have h1 := ((h.row.set_other (a := ⟨x, 25, none⟩) hbx (.int .i64 ((wk : Int) + 1))).set (off + p) (.int .u64 ((y p + y q * t % pP) % pP))).set (off + q) (.int .u64 ((y p - y q * t % pP) % pP))
    rw [ints_set .u64 _ (off + p) _ N (by omega), ints_set .u64 _ (off + q) _ N (by omega), win_set c off len _ p hp, win_set c off len _ q hq] at h1
    exact h1
  · have h1 := ((h.own.set 25 (.int .i64 ((wk : Int) + 1))).set_other (a := ⟨b, off + p, none⟩) (Ne.symm hbx) (.int .u64 ((y p + y q * t % pP) % pP))).set_other (a := ⟨b, off + q, none⟩) (Ne.symm hbx) (.int .u64 ((y p - y q * t % pP) % pP))
    rw [set_wk] at h1
    exact h1

theorem powT_in (w : Int) : ∀ j, 0 ≤ powT w j ∧ powT w j < pP
  | 0 => by unfold powT pP; omega
  | j + 1 => emod_in _

/-- The numbers of stage s of 2 ^ k cells. -/
theorem stage_nums (k s : Nat) (hk : k ≤ 4) (hs : s < k) : 2 * 2 ^ s * 2 ^ (k - 1 - s) = 2 ^ k ∧ 2 ^ s * 2 ^ (3 - s) = 8 ∧ 1 ≤ 2 ^ s ∧ 2 ^ s ≤ 8 ∧ 2 ^ (k - 1 - s) ≤ 8 ∧ 2 ^ (s + 1) = 2 * 2 ^ s ∧ 2 ^ (3 - s) ≤ 8 ∧ 16 / (2 * 2 ^ s) = 2 ^ (3 - s) ∧ 2 * 2 ^ s ≤ 2 ^ k ∧ 2 ^ k ≤ 16 := by
  rcases (by omega : k = 1 ∨ k = 2 ∨ k = 3 ∨ k = 4) with rfl | rfl | rfl | rfl <;>
    rcases (by omega : s = 0 ∨ s = 1 ∨ s = 2 ∨ s = 3) with rfl | rfl | rfl | rfl <;> first | decide | omega

theorem idx_facts {h t m len bi j : Nat} (h1 : 2 * h * m = len) (h2 : h * t = 8) (hb : bi < m) (hj : j < h) : bi * (2 * h) + 2 * h ≤ len ∧ j * t < 8 := by
  constructor
  · have : (bi + 1) * (2 * h) ≤ m * (2 * h) := Nat.mul_le_mul_right _ hb
    rw [Nat.mul_comm m, h1, Nat.add_mul] at this
    omega
  · have h3 : (j + 1) * t ≤ h * t := Nat.mul_le_mul_right _ hj
    rw [h2, Nat.add_mul] at h3
    have : 0 < t := Nat.pos_of_ne_zero (fun e => by subst e; simp at h2)
    omega

def tabP (inv : Bool) : Nat → Int := if inv then irootT else rootT

set_option maxRecDepth 100000 in
set_option maxHeartbeats 8000000 in
theorem transform_f (w0 w : World) (x v : Nat) (n : Nat → Int) (b off N cap : Nat) (c : Nat → Int) (k : Nat) (hk : k ≤ 4) (hN : off + 2 ^ k ≤ N) (hbx : b ≠ x) (wk : Nat) (hwk : wk ≤ 1000000) (M : MemT w0 w x v n b off N (2 ^ k) c (fun p => c (off + p)) wk) :
    Calls Try.prog 38 #[ptr x, .slice (some ⟨b, off, none⟩) (2 ^ k) cap, .bool false] w fun e w' => e = .returned (.tuple #[]) ∧ MemT w0 w' x v n b off N (2 ^ k) c (netP k false (fun p => c (off + p))) (wk + k * (2 ^ k / 2)) := by
  have hrev := reverse_any w b off N cap _ M.row k hk hN
  rw [win_self] at hrev
  have MH := hide M
  have hnk := pow_cases k hk
  have hdiv : ∀ s, s < k → (2 ^ (k - 1 - s)) * 2 ^ s = 2 ^ k / 2 := fun s hs => by have := (stage_nums k s hk hs).1; rw [Nat.mul_comm (2 ^ (k - 1 - s))]; rw [Nat.mul_assoc] at this; omega
  have hst : Hid (∀ s, s < k → 2 * 2 ^ s * 2 ^ (k - 1 - s) = 2 ^ k ∧ 2 ^ s * 2 ^ (3 - s) = 8 ∧ 1 ≤ 2 ^ s ∧ 2 ^ s ≤ 8 ∧ 2 ^ (k - 1 - s) ≤ 8 ∧ 2 ^ (s + 1) = 2 * 2 ^ s ∧ 2 ^ (3 - s) ≤ 8 ∧ 16 / (2 * 2 ^ s) = 2 ^ (3 - s) ∧ 2 * 2 ^ s ≤ 2 ^ k ∧ 2 ^ k ≤ 16) := fun s hs => stage_nums k s hk hs
  have hdvH := hide hdiv
  have hge : Hid (∀ s, s ≤ k → (2 ^ (s + 1) ≤ 2 ^ k ↔ s < k)) := fun s hs => by
    rcases (by omega : k = 0 ∨ k = 1 ∨ k = 2 ∨ k = 3 ∨ k = 4) with rfl | rfl | rfl | rfl | rfl <;> rcases (by omega : s = 0 ∨ s = 1 ∨ s = 2 ∨ s = 3 ∨ s = 4) with rfl | rfl | rfl | rfl | rfl <;> first | decide | omega
  clear M hdiv
  generalize hlen : 2 ^ k = len at *
  have hlenH := hide hlen
  clear hlen
  unfold ptr
  go_enter Try.func38, Try.ntmps38
  go_wp2_with fail
  refine hrev.mono ?_
  clear hrev
  rintro e w1 ⟨rfl, ch1, B1⟩
  have M1 : Hid (MemT w0 w1 x v n b off N len c (fun p => c (off + brev k p)) wk) := by
    have M := unhide MH
    refine ⟨M.chg.trans (ch1.mono (fun _ _ h => .inl h)), ?_, ch1.blk M.own (fun e => hbx e.symm), fun i hi => M.inp _ (by rw [← unhide hlenH]; exact brev_lt k i)⟩
    have e : (fun p => c (off + brev k p)) = fun p => c (off + brev k p) := rfl
    exact B1
  clear ch1 B1 MH
  have hlen16 : len ≤ 16 ∧ 1 ≤ len := by omega
  go_wp2
  go_loopw [6] (fun z wr => ∃ s sz : Nat, s ≤ k ∧ Hid (sz = 2 ^ (s + 1)) ∧ z = .int .i64 sz ∧ MemT w0 wr x v n b off N len c (sLoop numA (tabP false) k (fun p => c (off + brev k p)) s) (wk + s * (len / 2))) (fun z _ => 33 - (intOf z).toNat)
  case atStart => exact ⟨0, 2, by omega, rfl, rfl, by rw [Nat.zero_mul, Nat.add_zero]; exact unhide M1⟩
  case round =>
    obtain ⟨s, sz, hs, hszH, rfl, M⟩ := hrel
    clear M1
    by_cases hlt : s < k
    · obtain ⟨n1, n2, n3, n4, n5, n6, n7, n8, n9, n10⟩ := unhide hst s hlt
      have hdv := unhide hdvH s hlt
      have hsz : sz = 2 * 2 ^ s := (unhide hszH).trans n6
      have hyS : Hid (sLoop numA (tabP false) k (fun p => c (off + brev k p)) (s + 1) = bLoop numA (tabP false) (2 ^ (3 - s)) (2 ^ s) (sLoop numA (tabP false) k (fun p => c (off + brev k p)) s) (2 ^ (k - 1 - s))) := rfl
      generalize sLoop numA (tabP false) k (fun p => c (off + brev k p)) s = y0 at *
      generalize hhD : 2 ^ s = h at *
      generalize htD : 2 ^ (3 - s) = t at *
      generalize hmD : 2 ^ (k - 1 - s) = m at *
      have dH := hide (And.intro hhD n6)
      clear hhD htD hmD n6 hst hdvH
      have g1 : (sz : Int) ≤ (len : Int) := by omega
      have g2 : decide (sz ≤ len) = true := by simp; omega
      have t1 : (sz : Int).tdiv 2 = (h : Int) := by rw [Int.tdiv_eq_ediv_of_nonneg (by omega)]; omega
      have t2 : (16 : Int).tdiv (sz : Int) = (t : Int) := by
        rw [Int.tdiv_eq_ediv_of_nonneg (by omega)]
        have e8 : 16 / sz = t := by rw [hsz]; exact n8
        have e9 : ((16 / sz : Nat) : Int) = (16 : Int) / (sz : Int) := by simp
        rw [← e9, e8]
      have sz0 : ¬ (sz : Int) = 0 := by omega
      have w1 : IntKind.i64.wrap (h : Int) = h := by rw [IntKind.wrap_i64]; omega
      have w2 : IntKind.i64.wrap (t : Int) = t := by rw [IntKind.wrap_i64]; omega
      have MH := hide M
      have nH := hide (And.intro n1 (And.intro n2 (And.intro n8 hsz)))
      clear M n1 n2 n8 hsz
      go_wp2
      refine wp_region_noPanic ?_
      try simp only [List.append_eq, List.cons_append, List.nil_append]
      refine wp_region_mix [(0, true), (1, true), (2, true), (3, true), (4, true), (5, true)] [] (by kernel_rfl) (by kernel_rfl) (fun _ _ _ _ _ h => h) ?_
      simp only [pickM, pickO, List.getElem?_cons_zero, List.getElem?_cons_succ]
      repeat (first | (refine wpMix_read rfl (fun K hK => ?_)) | (refine wpMix_pure rfl (fun K hK => ?_))
              go_big_quiet_op
              first | (refine hK _ ?_; clear hK K))
      refine wpMix_nil ?_
      intro _ hw'
      obtain ⟨nq, hw''⟩ := hw'
      subst hw''
      go_wp2
      refine NoPanic.normal ?_
      clear t1 t2 w1 w2 sz0 g1 g2
      go_wp2
      go_loopw [9] (fun z w2 => ∃ bi base : Nat, bi ≤ m ∧ Hid (base = bi * (2 * h)) ∧ z = .int .i64 base ∧ MemT w0 w2 x v n b off N len c (bLoop numA (tabP false) t h y0 bi) (wk + s * (len / 2) + bi * h)) (fun z _ => 17 - (intOf z).toNat)
      case atStart => exact ⟨0, 0, by omega, by show 0 = 0 * (2 * h); simp, rfl, by rw [Nat.zero_mul, Nat.add_zero]; exact (unhide MH).drew nq⟩
      case round =>
        obtain ⟨bi, base, hbi, hbaH, rfl, M⟩ := hrel
        clear MH
        obtain ⟨n1, n2, n8, hsz⟩ := unhide nH
        have hszH2 := hide hsz
        clear hsz
        by_cases hblt : bi < m
        · have hix := fun (j : Nat) (hj : j < h) => idx_facts n1 n2 hblt hj
          have hb2 : base + 2 * h ≤ len := by have := (hix 0 (by omega)).1; have := unhide hbaH; omega
          have g1 : (base : Int) < (len : Int) := by omega
          have g2 : decide (base < len) = true := by simp; omega
          have hyB : Hid (bLoop numA (tabP false) t h y0 (bi + 1) = jLoop numA (tabP false) t h base (bLoop numA (tabP false) t h y0 bi) h) := by
            show _ = _
            rw [unhide hbaH]; rfl
          have wkB : wk + s * (len / 2) + bi * h ≤ 2000000 := by
            have h1 : s * (len / 2) ≤ 4 * 8 := Nat.mul_le_mul (by omega) (by omega)
            have h2 : bi * h ≤ 8 * 8 := Nat.mul_le_mul (by omega) (by omega)
            omega
          have wkS : Hid (wk + s * (len / 2) + (bi + 1) * h = wk + s * (len / 2) + bi * h + h) := by show _ = _; rw [Nat.add_mul]; omega
          generalize wk + s * (len / 2) + bi * h = wkb at *
          generalize bLoop numA (tabP false) t h y0 bi = y1 at *
          have hixH : Hid (∀ j : Nat, j < h → j * t < 8) := fun j hj => (hix j hj).2
          have MH := hide M
          clear M hix n1 n2 n8
          go_wp2
          go_loopw [39] (fun z w3 => ∃ j : Nat, j ≤ h ∧ z = .int .i64 j ∧ MemT w0 w3 x v n b off N len c (jLoop numA (tabP false) t h base y1 j) (wkb + j)) (fun z _ => 17 - (intOf z).toNat)
          case atStart => exact ⟨0, by omega, rfl, unhide MH⟩
          case round =>
            obtain ⟨j, hj, rfl, M⟩ := hrel
            clear MH
            by_cases hjlt : j < h
            · have g3 : (j : Int) < (h : Int) := by omega
              have g4 : decide (j < h) = true := by simpa using hjlt
              obtain ⟨p, hp⟩ : ∃ p : Nat, p = base + j := ⟨_, rfl⟩
              obtain ⟨q, hq⟩ : ∃ q : Nat, q = p + h := ⟨_, rfl⟩
              obtain ⟨r, hr⟩ : ∃ r : Nat, r = j * t := ⟨_, rfl⟩
              have hpl : p < len := by omega
              have hql : q < len := by omega
              have hr8 : r < 8 := by rw [hr]; exact unhide hixH j hjlt
              have ep : (base : Int) + (j : Int) = (p : Int) := by omega
              have eq : (p : Int) + (h : Int) = (q : Int) := by omega
              have er : (j : Int) * (t : Int) = (r : Int) := by rw [hr]; simp
              have y2e : Hid (jLoop numA (tabP false) t h base y1 (j + 1) = fly numA (jLoop numA (tabP false) t h base y1 j) p q (tabP false r)) := by
                show _ = _
                rw [hq, hp, hr]; rfl
              generalize jLoop numA (tabP false) t h base y1 j = y2 at *
              have hfl := M.fly hbx hN p q hpl hql (tabP false r)
              have htab : 0 ≤ tabP false r ∧ tabP false r < pP := powT_in _ r
              have cr : wr.cell? ⟨x, 4 + r, none⟩ = some (.int .u64 (tabP false r)) := (M.own.cell (4 + r)).trans (bench_rt v n rootT irootT ninvT _ r hr8)
              have cq := (M.row.cell (off + q)).trans (ints_get .u64 _ N _ (by omega))
              rw [win_get c off len _ q hql] at cq
              have hmul := mul_any wr x v n rootT irootT ninvT ((wkb + j : Nat) : Int) M.own (by omega) (y2 q) (tabP false r) (M.inp q hql) htab
              generalize htr : tabP false r = tr at *
              have vin := emod_in (y2 q * tr)
              have hadd := fun W => add_any W (y2 p) (y2 q * tr % pP) (M.inp p hpl) ⟨vin.1, by omega⟩
              have hsub := fun W => sub_any W (y2 p) (y2 q * tr % pP) (M.inp p hpl) vin
              have cp0 := (M.row.cell (off + p)).trans (ints_get .u64 _ N _ (by omega))
              rw [win_get c off len _ p hpl] at cp0
              have fz := M.row.frozen
              have xb : x ≠ b := Ne.symm hbx
              have hmulH := hide hmul
              have haddH := hide hadd
              have hsubH := hide hsub
              have hflH := hide hfl
              have jH := hide (And.intro hjlt (And.intro hp (And.intro hq hr)))
              have p0 : (0 : Int) ≤ (p : Int) := by omega
              have q0 : (0 : Int) ≤ (q : Int) := by omega
              have pl : (p : Int) < (len : Int) := by omega
              have ql : (q : Int) < (len : Int) := by omega
              have r0 : (0 : Int) ≤ (r : Int) := by omega
              have r8 : (r : Int) < 8 := by omega
              clear hmul hadd hsub hfl M vin htr htab hp hq hr
              generalize y2 q * tr % pP = vv at *
              generalize (y2 p + vv) % pP = ss at *
              generalize (y2 p - vv) % pP = dd at *
              unfold ptr at *
              go_wp2_with fail
              refine (unhide hmulH).mono ?_
              rintro e w4 ⟨rfl, hw4⟩
              subst hw4
              go_wp2_with fail
              refine (unhide haddH _).mono ?_
              rintro e w5 ⟨rfl, hw5⟩
              subst hw5
              go_wp2_with fail
              refine (unhide hsubH _).mono ?_
              rintro e w6 ⟨rfl, hw6⟩
              subst hw6
              go_wp2
              obtain ⟨hjlt, hp, hq, hr⟩ := unhide jH
              go_roundw
              case rel => exact ⟨j + 1, by omega, by go_num, by rw [unhide y2e]; exact unhide hflH⟩
              case measure => simp [intOf]; omega
            · have g3 : ¬ (j : Int) < (h : Int) := by omega
              have g4 : decide (j < h) = false := by simpa using hjlt
              obtain rfl : j = h := by omega
              have MH := hide M
              clear M
              have hb3 : Hid (base + sz = (bi + 1) * (2 * j)) := by
                show _ = _
                have := unhide hbaH
                have := unhide hszH2
                rw [Nat.add_mul]; omega
              have sz16 : sz ≤ 16 := by have := unhide hszH2; omega
              go_wp2
              go_roundw
              case rel => exact ⟨bi + 1, base + sz, by omega, unhide hb3, by go_num, by rw [unhide hyB, unhide wkS]; exact unhide MH⟩
              case measure =>
                have := unhide hszH2
                simp [intOf]; omega
        · obtain rfl : bi = m := by omega
          have hbe : base = len := by have := unhide hbaH; rw [Nat.mul_comm] at this; omega
          have g1 : ¬ (base : Int) < (len : Int) := by omega
          have g2 : decide (base < len) = false := by simp; omega
          have MH := hide M
          have sz16 : sz ≤ 16 := by have := unhide hszH2; omega
          have hn2 : Hid (sz * 2 = 2 ^ (s + 1 + 1)) := by
            show _ = _
            rw [Nat.pow_succ 2 (s + 1), ← unhide hszH]
          have wkE : Hid (wk + (s + 1) * (len / 2) = wk + s * (len / 2) + bi * h) := by show _ = _; rw [hdv, Nat.add_mul]; omega
          clear M hbe
          go_wp2
          go_roundw
          case rel => exact ⟨s + 1, sz * 2, by omega, unhide hn2, by go_num, by rw [unhide hyS, unhide wkE]; exact unhide MH⟩
          case measure =>
            have hs2 := unhide hszH2
            clear n8 n2 n1
            simp [intOf]; omega
    · obtain rfl : s = k := by omega
      have g0 : ¬ 2 ^ (s + 1) ≤ len := fun h => hlt ((unhide hge s (by omega)).1 h)
      rw [← unhide hszH] at g0
      have g1 : ¬ (sz : Int) ≤ (len : Int) := by omega
      have g2 : decide (sz ≤ len) = false := by simp; omega
      have MH := hide M
      clear M
      go_wp2
      go_end0
      exact ⟨rfl, unhide MH⟩

/-- The first i of y, scaled. -/
def scP (y : Nat → Int) (sc : Int) (i : Nat) : Nat → Int := fun p => if p < i then y p * sc % pP else y p
theorem scP_zero (y : Nat → Int) (sc : Int) : scP y sc 0 = y := by funext p; simp [scP]
theorem scP_at (y : Nat → Int) (sc : Int) (i : Nat) : scP y sc i i = y i := by simp [scP]
theorem scP_next (y : Nat → Int) (sc : Int) (i : Nat) : updF (scP y sc i) i (y i * sc % pP) = scP y sc (i + 1) := by
  funext p
  unfold updF scP
  by_cases h : p = i
  · subst h; simp
  · rw [if_neg h]
    by_cases h2 : p < i
    · rw [if_pos h2, if_pos (by omega)]
    · rw [if_neg h2, if_neg (by omega)]

theorem MemT.scale {w wr : World} {x v : Nat} {n : Nat → Int} {b off N len : Nat} {c y : Nat → Int} {sc : Int} {wk i : Nat} (h : MemT w wr x v n b off N len c (scP y sc i) (wk + i)) (hbx : b ≠ x) (hN : off + len ≤ N) (j : Nat) (hj : i < len) :
    MemT w ((wr.setCell ⟨x, 25, none⟩ (.int .i64 (((wk + i : Nat) : Int) + 1))).setCell ⟨b, off + i, none⟩ (.int .u64 (y i * sc % pP))) x v n b off N len c (scP y sc (i + 1)) (wk + (i + 1)) := by
  refine ⟨(h.chg.setCell (p := ⟨x, 25, none⟩) (.inl (.inr rfl)) _).setCell (p := ⟨b, off + i, none⟩) (.inl (.inl rfl)) _, ?_, ?_, ?_⟩
  · have h1 := (h.row.set_other (a := ⟨x, 25, none⟩) hbx (.int .i64 (((wk + i : Nat) : Int) + 1))).set (off + i) (.int .u64 (y i * sc % pP))
    rw [ints_set .u64 _ (off + i) _ N (by omega), win_set c off len _ i hj, scP_next] at h1
    exact h1
  · have h1 := (h.own.set 25 (.int .i64 (((wk + i : Nat) : Int) + 1))).set_other (a := ⟨b, off + i, none⟩) (Ne.symm hbx) (.int .u64 (y i * sc % pP))
    rw [set_wk] at h1
    exact h1
  · intro p hp
    unfold scP
    split
    · exact emod_in _
    · have := h.inp p hp
      unfold scP at this
      split at this
      · exact absurd ‹p < i› (by omega)
      · exact this

set_option maxRecDepth 100000 in
set_option maxHeartbeats 8000000 in
theorem transform_t (w0 w : World) (x v : Nat) (n : Nat → Int) (b off N cap : Nat) (c : Nat → Int) (k : Nat) (hk : k ≤ 4) (hN : off + 2 ^ k ≤ N) (hbx : b ≠ x) (wk : Nat) (hwk : wk ≤ 1000000) (M : MemT w0 w x v n b off N (2 ^ k) c (fun p => c (off + p)) wk) :
    Calls Try.prog 38 #[ptr x, .slice (some ⟨b, off, none⟩) (2 ^ k) cap, .bool true] w fun e w' => e = .returned (.tuple #[]) ∧ MemT w0 w' x v n b off N (2 ^ k) c (netP k true (fun p => c (off + p))) (wk + k * (2 ^ k / 2) + 2 ^ k) := by
  have hrev := reverse_any w b off N cap _ M.row k hk hN
  rw [win_self] at hrev
  have MH := hide M
  have hnk := pow_cases k hk
  have hdiv : ∀ s, s < k → (2 ^ (k - 1 - s)) * 2 ^ s = 2 ^ k / 2 := fun s hs => by have := (stage_nums k s hk hs).1; rw [Nat.mul_comm (2 ^ (k - 1 - s))]; rw [Nat.mul_assoc] at this; omega
  have hst : Hid (∀ s, s < k → 2 * 2 ^ s * 2 ^ (k - 1 - s) = 2 ^ k ∧ 2 ^ s * 2 ^ (3 - s) = 8 ∧ 1 ≤ 2 ^ s ∧ 2 ^ s ≤ 8 ∧ 2 ^ (k - 1 - s) ≤ 8 ∧ 2 ^ (s + 1) = 2 * 2 ^ s ∧ 2 ^ (3 - s) ≤ 8 ∧ 16 / (2 * 2 ^ s) = 2 ^ (3 - s) ∧ 2 * 2 ^ s ≤ 2 ^ k ∧ 2 ^ k ≤ 16) := fun s hs => stage_nums k s hk hs
  have hdvH := hide hdiv
  have hge : Hid (∀ s, s ≤ k → (2 ^ (s + 1) ≤ 2 ^ k ↔ s < k)) := fun s hs => by
    rcases (by omega : k = 0 ∨ k = 1 ∨ k = 2 ∨ k = 3 ∨ k = 4) with rfl | rfl | rfl | rfl | rfl <;> rcases (by omega : s = 0 ∨ s = 1 ∨ s = 2 ∨ s = 3 ∨ s = 4) with rfl | rfl | rfl | rfl | rfl <;> first | decide | omega
  clear M hdiv
  generalize hlen : 2 ^ k = len at *
  have hlenH := hide hlen
  clear hlen
  unfold ptr
  go_enter Try.func38, Try.ntmps38
  go_wp2_with fail
  refine hrev.mono ?_
  clear hrev
  rintro e w1 ⟨rfl, ch1, B1⟩
  have M1 : Hid (MemT w0 w1 x v n b off N len c (fun p => c (off + brev k p)) wk) := by
    have M := unhide MH
    refine ⟨M.chg.trans (ch1.mono (fun _ _ h => .inl h)), ?_, ch1.blk M.own (fun e => hbx e.symm), fun i hi => M.inp _ (by rw [← unhide hlenH]; exact brev_lt k i)⟩
    have e : (fun p => c (off + brev k p)) = fun p => c (off + brev k p) := rfl
    exact B1
  clear ch1 B1 MH
  have hlen16 : len ≤ 16 ∧ 1 ≤ len := by omega
  go_wp2
  go_loopw [6] (fun z wr => ∃ s sz : Nat, s ≤ k ∧ Hid (sz = 2 ^ (s + 1)) ∧ z = .int .i64 sz ∧ MemT w0 wr x v n b off N len c (sLoop numA (tabP true) k (fun p => c (off + brev k p)) s) (wk + s * (len / 2))) (fun z _ => 33 - (intOf z).toNat)
  case atStart => exact ⟨0, 2, by omega, rfl, rfl, by rw [Nat.zero_mul, Nat.add_zero]; exact unhide M1⟩
  case round =>
    obtain ⟨s, sz, hs, hszH, rfl, M⟩ := hrel
    clear M1
    by_cases hlt : s < k
    · obtain ⟨n1, n2, n3, n4, n5, n6, n7, n8, n9, n10⟩ := unhide hst s hlt
      have hdv := unhide hdvH s hlt
      have hsz : sz = 2 * 2 ^ s := (unhide hszH).trans n6
      have hyS : Hid (sLoop numA (tabP true) k (fun p => c (off + brev k p)) (s + 1) = bLoop numA (tabP true) (2 ^ (3 - s)) (2 ^ s) (sLoop numA (tabP true) k (fun p => c (off + brev k p)) s) (2 ^ (k - 1 - s))) := rfl
      generalize sLoop numA (tabP true) k (fun p => c (off + brev k p)) s = y0 at *
      generalize hhD : 2 ^ s = h at *
      generalize htD : 2 ^ (3 - s) = t at *
      generalize hmD : 2 ^ (k - 1 - s) = m at *
      have dH := hide (And.intro hhD n6)
      clear hhD htD hmD n6 hst hdvH
      have g1 : (sz : Int) ≤ (len : Int) := by omega
      have g2 : decide (sz ≤ len) = true := by simp; omega
      have t1 : (sz : Int).tdiv 2 = (h : Int) := by rw [Int.tdiv_eq_ediv_of_nonneg (by omega)]; omega
      have t2 : (16 : Int).tdiv (sz : Int) = (t : Int) := by
        rw [Int.tdiv_eq_ediv_of_nonneg (by omega)]
        have e8 : 16 / sz = t := by rw [hsz]; exact n8
        have e9 : ((16 / sz : Nat) : Int) = (16 : Int) / (sz : Int) := by simp
        rw [← e9, e8]
      have sz0 : ¬ (sz : Int) = 0 := by omega
      have w1 : IntKind.i64.wrap (h : Int) = h := by rw [IntKind.wrap_i64]; omega
      have w2 : IntKind.i64.wrap (t : Int) = t := by rw [IntKind.wrap_i64]; omega
      have MH := hide M
      have nH := hide (And.intro n1 (And.intro n2 (And.intro n8 hsz)))
      clear M n1 n2 n8 hsz
      go_wp2
      refine wp_region_noPanic ?_
      try simp only [List.append_eq, List.cons_append, List.nil_append]
      refine wp_region_mix [(0, true), (1, true), (2, true), (3, true), (4, true), (5, true)] [] (by kernel_rfl) (by kernel_rfl) (fun _ _ _ _ _ h => h) ?_
      simp only [pickM, pickO, List.getElem?_cons_zero, List.getElem?_cons_succ]
      repeat (first | (refine wpMix_read rfl (fun K hK => ?_)) | (refine wpMix_pure rfl (fun K hK => ?_))
              go_big_quiet_op
              first | (refine hK _ ?_; clear hK K))
      refine wpMix_nil ?_
      intro _ hw'
      obtain ⟨nq, hw''⟩ := hw'
      subst hw''
      go_wp2
      refine NoPanic.normal ?_
      clear t1 t2 w1 w2 sz0 g1 g2
      go_wp2
      go_loopw [9] (fun z w2 => ∃ bi base : Nat, bi ≤ m ∧ Hid (base = bi * (2 * h)) ∧ z = .int .i64 base ∧ MemT w0 w2 x v n b off N len c (bLoop numA (tabP true) t h y0 bi) (wk + s * (len / 2) + bi * h)) (fun z _ => 17 - (intOf z).toNat)
      case atStart => exact ⟨0, 0, by omega, by show 0 = 0 * (2 * h); simp, rfl, by rw [Nat.zero_mul, Nat.add_zero]; exact (unhide MH).drew nq⟩
      case round =>
        obtain ⟨bi, base, hbi, hbaH, rfl, M⟩ := hrel
        clear MH
        obtain ⟨n1, n2, n8, hsz⟩ := unhide nH
        have hszH2 := hide hsz
        clear hsz
        by_cases hblt : bi < m
        · have hix := fun (j : Nat) (hj : j < h) => idx_facts n1 n2 hblt hj
          have hb2 : base + 2 * h ≤ len := by have := (hix 0 (by omega)).1; have := unhide hbaH; omega
          have g1 : (base : Int) < (len : Int) := by omega
          have g2 : decide (base < len) = true := by simp; omega
          have hyB : Hid (bLoop numA (tabP true) t h y0 (bi + 1) = jLoop numA (tabP true) t h base (bLoop numA (tabP true) t h y0 bi) h) := by
            show _ = _
            rw [unhide hbaH]; rfl
          have wkB : wk + s * (len / 2) + bi * h ≤ 2000000 := by
            have h1 : s * (len / 2) ≤ 4 * 8 := Nat.mul_le_mul (by omega) (by omega)
            have h2 : bi * h ≤ 8 * 8 := Nat.mul_le_mul (by omega) (by omega)
            omega
          have wkS : Hid (wk + s * (len / 2) + (bi + 1) * h = wk + s * (len / 2) + bi * h + h) := by show _ = _; rw [Nat.add_mul]; omega
          generalize wk + s * (len / 2) + bi * h = wkb at *
          generalize bLoop numA (tabP true) t h y0 bi = y1 at *
          have hixH : Hid (∀ j : Nat, j < h → j * t < 8) := fun j hj => (hix j hj).2
          have MH := hide M
          clear M hix n1 n2 n8
          go_wp2
          go_loopw [39] (fun z w3 => ∃ j : Nat, j ≤ h ∧ z = .int .i64 j ∧ MemT w0 w3 x v n b off N len c (jLoop numA (tabP true) t h base y1 j) (wkb + j)) (fun z _ => 17 - (intOf z).toNat)
          case atStart => exact ⟨0, by omega, rfl, unhide MH⟩
          case round =>
            obtain ⟨j, hj, rfl, M⟩ := hrel
            clear MH
            by_cases hjlt : j < h
            · have g3 : (j : Int) < (h : Int) := by omega
              have g4 : decide (j < h) = true := by simpa using hjlt
              obtain ⟨p, hp⟩ : ∃ p : Nat, p = base + j := ⟨_, rfl⟩
              obtain ⟨q, hq⟩ : ∃ q : Nat, q = p + h := ⟨_, rfl⟩
              obtain ⟨r, hr⟩ : ∃ r : Nat, r = j * t := ⟨_, rfl⟩
              have hpl : p < len := by omega
              have hql : q < len := by omega
              have hr8 : r < 8 := by rw [hr]; exact unhide hixH j hjlt
              have ep : (base : Int) + (j : Int) = (p : Int) := by omega
              have eq : (p : Int) + (h : Int) = (q : Int) := by omega
              have er : (j : Int) * (t : Int) = (r : Int) := by rw [hr]; simp
              have y2e : Hid (jLoop numA (tabP true) t h base y1 (j + 1) = fly numA (jLoop numA (tabP true) t h base y1 j) p q (tabP true r)) := by
                show _ = _
                rw [hq, hp, hr]; rfl
              generalize jLoop numA (tabP true) t h base y1 j = y2 at *
              have hfl := M.fly hbx hN p q hpl hql (tabP true r)
              have htab : 0 ≤ tabP true r ∧ tabP true r < pP := powT_in _ r
              have cr : wr.cell? ⟨x, 12 + r, none⟩ = some (.int .u64 (tabP true r)) := (M.own.cell (12 + r)).trans (bench_it v n rootT irootT ninvT _ r hr8)
              have cr0 : wr.cell? ⟨x, 4 + r, none⟩ = some (.int .u64 (rootT r)) := (M.own.cell (4 + r)).trans (bench_rt v n rootT irootT ninvT _ r hr8)
              have cq := (M.row.cell (off + q)).trans (ints_get .u64 _ N _ (by omega))
              rw [win_get c off len _ q hql] at cq
              have hmul := mul_any wr x v n rootT irootT ninvT ((wkb + j : Nat) : Int) M.own (by omega) (y2 q) (tabP true r) (M.inp q hql) htab
              generalize htr : tabP true r = tr at *
              have vin := emod_in (y2 q * tr)
              have hadd := fun W => add_any W (y2 p) (y2 q * tr % pP) (M.inp p hpl) ⟨vin.1, by omega⟩
              have hsub := fun W => sub_any W (y2 p) (y2 q * tr % pP) (M.inp p hpl) vin
              have cp0 := (M.row.cell (off + p)).trans (ints_get .u64 _ N _ (by omega))
              rw [win_get c off len _ p hpl] at cp0
              have fz := M.row.frozen
              have xb : x ≠ b := Ne.symm hbx
              have hmulH := hide hmul
              have haddH := hide hadd
              have hsubH := hide hsub
              have hflH := hide hfl
              have jH := hide (And.intro hjlt (And.intro hp (And.intro hq hr)))
              have p0 : (0 : Int) ≤ (p : Int) := by omega
              have q0 : (0 : Int) ≤ (q : Int) := by omega
              have pl : (p : Int) < (len : Int) := by omega
              have ql : (q : Int) < (len : Int) := by omega
              have r0 : (0 : Int) ≤ (r : Int) := by omega
              have r8 : (r : Int) < 8 := by omega
              clear hmul hadd hsub hfl M vin htr htab hp hq hr
              generalize y2 q * tr % pP = vv at *
              generalize (y2 p + vv) % pP = ss at *
              generalize (y2 p - vv) % pP = dd at *
              unfold ptr at *
              go_wp2_with fail
              refine (unhide hmulH).mono ?_
              rintro e w4 ⟨rfl, hw4⟩
              subst hw4
              go_wp2_with fail
              refine (unhide haddH _).mono ?_
              rintro e w5 ⟨rfl, hw5⟩
              subst hw5
              go_wp2_with fail
              refine (unhide hsubH _).mono ?_
              rintro e w6 ⟨rfl, hw6⟩
              subst hw6
              go_wp2
              obtain ⟨hjlt, hp, hq, hr⟩ := unhide jH
              go_roundw
              case rel => exact ⟨j + 1, by omega, by go_num, by rw [unhide y2e]; exact unhide hflH⟩
              case measure => simp [intOf]; omega
            · have g3 : ¬ (j : Int) < (h : Int) := by omega
              have g4 : decide (j < h) = false := by simpa using hjlt
              obtain rfl : j = h := by omega
              have MH := hide M
              clear M
              have hb3 : Hid (base + sz = (bi + 1) * (2 * j)) := by
                show _ = _
                have := unhide hbaH
                have := unhide hszH2
                rw [Nat.add_mul]; omega
              have sz16 : sz ≤ 16 := by have := unhide hszH2; omega
              go_wp2
              go_roundw
              case rel => exact ⟨bi + 1, base + sz, by omega, unhide hb3, by go_num, by rw [unhide hyB, unhide wkS]; exact unhide MH⟩
              case measure =>
                have := unhide hszH2
                simp [intOf]; omega
        · obtain rfl : bi = m := by omega
          have hbe : base = len := by have := unhide hbaH; rw [Nat.mul_comm] at this; omega
          have g1 : ¬ (base : Int) < (len : Int) := by omega
          have g2 : decide (base < len) = false := by simp; omega
          have MH := hide M
          have sz16 : sz ≤ 16 := by have := unhide hszH2; omega
          have hn2 : Hid (sz * 2 = 2 ^ (s + 1 + 1)) := by
            show _ = _
            rw [Nat.pow_succ 2 (s + 1), ← unhide hszH]
          have wkE : Hid (wk + (s + 1) * (len / 2) = wk + s * (len / 2) + bi * h) := by show _ = _; rw [hdv, Nat.add_mul]; omega
          clear M hbe
          go_wp2
          go_roundw
          case rel => exact ⟨s + 1, sz * 2, by omega, unhide hn2, by go_num, by rw [unhide hyS, unhide wkE]; exact unhide MH⟩
          case measure =>
            have hs2 := unhide hszH2
            clear n8 n2 n1
            simp [intOf]; omega
    · obtain rfl : s = k := by omega
      have g0 : ¬ 2 ^ (s + 1) ≤ len := fun h => hlt ((unhide hge s (by omega)).1 h)
      rw [← unhide hszH] at g0
      have g1 : ¬ (sz : Int) ≤ (len : Int) := by omega
      have g2 : decide (sz ≤ len) = false := by simp; omega
      have MH := hide M
      clear M
      go_wp2
      have hcl := fun W => ceilLog_any W len (by omega)
      rw [← unhide hlenH, ceil_pow s hk] at hcl
      rw [unhide hlenH] at hcl
      have cn := ((unhide MH).own.cell (20 + s)).trans (bench_nv v n rootT irootT ninvT _ s (by omega))
      have s0 : (0 : Int) ≤ (s : Int) := by omega
      have s5 : (s : Int) < 5 := by omega
      generalize hyy : sLoop numA (tabP true) s (fun p => c (off + brev s p)) s = yy at *
      have hscin : 0 ≤ ninvT s ∧ ninvT s < pP := powT_in _ s
      generalize hsc : ninvT s = sc at *
      have eN : Hid (netP s true (fun p => c (off + p)) = fun p => yy p * sc % pP) := by
        show _ = _
        rw [← hyy, ← hsc]
        rfl
      have wkb : wk + s * (len / 2) ≤ 2000000 := by
        have h1 : s * (len / 2) ≤ 4 * 8 := Nat.mul_le_mul (by omega) (by omega)
        omega
      generalize hwks : wk + s * (len / 2) = wks at *
      have hwksH := hide hwks
      clear hwks hyy hsc hge g0 g1 g2
      refine wp_region_noPanic ?_
      try simp only [List.append_eq, List.cons_append, List.nil_append]
      refine wp_region_mix [(0, true), (1, true), (2, true), (3, true), (4, true), (5, true), (6, true), (7, true), (8, true)] [] (by kernel_rfl) (by kernel_rfl) (fun _ _ _ _ _ h => h) ?_
      simp only [pickM, pickO, List.getElem?_cons_zero, List.getElem?_cons_succ]
      repeat (first | (refine wpMix_read rfl (fun K hK => ?_)) | (refine wpMix_pure rfl (fun K hK => ?_))
              go_big_quiet_op
              first | (refine hK _ ?_; clear hK K) | (apply Exists.intro; refine ⟨fun _ => ?_, ?_⟩; (· (first | (go_at_call 36; exact Calls.quiet_of_same (hcl _)))); refine hK _ ?_; clear hK K))
      refine wpMix_nil ?_
      intro _ hw'
      obtain ⟨nq, hw''⟩ := hw'
      subst hw''
      go_wp2
      refine NoPanic.normal ?_
      have M2 := hide ((unhide MH).drew nq)
      clear MH cn hcl
      go_wp2
      go_loopw [106] (fun z w3 => ∃ i : Nat, i ≤ len ∧ z = .int .i64 i ∧ MemT w0 w3 x v n b off N len c (scP yy sc i) (wks + i)) (fun z _ => 17 - (intOf z).toNat)
      case atStart => exact ⟨0, by omega, rfl, by rw [scP_zero]; exact unhide M2⟩
      case round =>
        obtain ⟨i, hi, rfl, M⟩ := hrel
        clear M2
        by_cases hil : i < len
        · have g1 : (i : Int) < (len : Int) := by omega
          have g2 : decide (i < len) = true := by simpa using hil
          have ci := (M.row.cell (off + i)).trans (ints_get .u64 _ N _ (by omega))
          rw [win_get c off len _ i hil, scP_at] at ci
          have yin := M.inp i hil
          rw [scP_at] at yin
          have hmul := mul_any wr x v n rootT irootT ninvT ((wks + i : Nat) : Int) M.own (by omega) (yy i) sc yin hscin
          have fz := M.row.frozen
          have hnx := hide (M.scale hbx hN i hil)
          have i0 : (0 : Int) ≤ (i : Int) := by omega
          have hmulH := hide hmul
          have xb : x ≠ b := Ne.symm hbx
          clear hmul M yin
          generalize yy i * sc % pP = vv at *
          unfold ptr at *
          go_wp2_with fail
          refine (unhide hmulH).mono ?_
          rintro e w4 ⟨rfl, hw4⟩
          subst hw4
          go_wp2
          go_roundw
          case rel => exact ⟨i + 1, by omega, by go_num, unhide hnx⟩
          case measure => simp [intOf]; omega
        · have g1 : ¬ (i : Int) < (len : Int) := by omega
          have g2 : decide (i < len) = false := by simpa using hil
          obtain rfl : i = len := by omega
          have MH := hide M
          clear M
          go_wp2
          go_end0
          have hM := unhide MH
          refine ⟨rfl, ?_⟩
          rw [unhide eN]
          exact ⟨hM.chg, by rw [win_congr c off i (z := scP yy sc i) (fun p hp => by simp [scP, hp])]; exact hM.row, by rw [unhide hwksH]; exact hM.own, fun p hp => emod_in _⟩
end Go.Proofs.Qxb6500368a
