/-
  THE REAL BENCH: Dft.
-/
import Derived.Test.Qxb6500362aDiv
import Derived.Test.Qxb6500362aOps2
import Derived.Laws.IdiomCopy
namespace Go.Proofs.Qxb6500362a
open Go.RowKit Go.Qx
set_option linter.unusedVariables false
set_option linter.unusedSimpArgs false

def cm (a b : Int × Int) : Int × Int := (a.1 * b.1 - a.2 * b.2, a.1 * b.2 + a.2 * b.1)

/-- s ^ n. -/
def powP (s : Int × Int) : Nat → Int × Int
  | 0 => (1, 0)
  | n + 1 => cm (powP s n) s

def sumP (re im : Nat → Int) (s : Int × Int) : Nat → Int × Int
  | 0 => (0, 0)
  | n + 1 => ((sumP re im s n).1 + (cm (re n, im n) (powP s n)).1, (sumP re im s n).2 + (cm (re n, im n) (powP s n)).2)

def rootP (dir : Int) : Int × Int := (uR (3 - 2 * dir), uI (3 - 2 * dir))

/-- The k-th sum. -/
def bigX (re im : Nat → Int) (dir : Int) (k : Nat) : Int × Int := sumP re im (powP (rootP dir) k) 4

def valX (re im : Nat → Int) (dir : Int) (k : Nat) : Int × Int := if dir = 1 then ((bigX re im dir k).1.tdiv 4, (bigX re im dir k).2.tdiv 4) else bigX re im dir k

def badX (re im : Nat → Int) (dir : Int) (k : Nat) : Int := if dir = 1 ∧ wholeP (bigX re im dir k).1 (bigX re im dir k).2 = false then 4 else if inP (valX re im dir k).1 (valX re im dir k).2 67108864 = false then 2 else 0

def dftTo (re im : Nat → Int) (dir : Int) : Nat → Int
  | 0 => 0
  | k + 1 => if dftTo re im dir k ≠ 0 then dftTo re im dir k else badX re im dir k

def dftE (re im : Nat → Int) (dir : Int) : Int := if dir < 0 ∨ 1 < dir then 5 else dftTo re im dir 4
def dftR (re im : Nat → Int) (dir : Int) : Nat → Int := if dftE re im dir = 0 then fun k => (valX re im dir k).1 else re
def dftI (re im : Nat → Int) (dir : Int) : Nat → Int := if dftE re im dir = 0 then fun k => (valX re im dir k).2 else im

/-- A unit. -/
def IsU (a : Int × Int) : Prop := (a.1 = 0 ∧ (a.2 = 1 ∨ a.2 = -1)) ∨ (a.2 = 0 ∧ (a.1 = 1 ∨ a.1 = -1))

theorem isU_cm {a b : Int × Int} (ha : IsU a) (hb : IsU b) : IsU (cm a b) := by
  obtain ⟨a1, a2⟩ := a
  obtain ⟨b1, b2⟩ := b
  simp only [IsU, cm] at *
  rcases ha with ⟨rfl, rfl | rfl⟩ | ⟨rfl, rfl | rfl⟩ <;> rcases hb with ⟨rfl, rfl | rfl⟩ | ⟨rfl, rfl | rfl⟩ <;> simp

theorem isU_pow {s : Int × Int} (hs : IsU s) : ∀ n, IsU (powP s n)
  | 0 => .inr ⟨rfl, .inl rfl⟩
  | n + 1 => isU_cm (isU_pow hs n) hs

theorem isU_root (dir : Int) : IsU (rootP dir) := by
  unfold rootP
  rcases unit_cases (3 - 2 * dir) with ⟨h1, h2⟩ | ⟨h1, h2⟩ | ⟨h1, h2⟩ | ⟨h1, h2⟩ <;> simp [IsU, h1, h2]

theorem cm_bound {a b : Int} {u : Int × Int} (hu : IsU u) (ha : a.natAbs ≤ 67108864) (hb : b.natAbs ≤ 67108864) : (cm (a, b) u).1.natAbs ≤ 67108864 ∧ (cm (a, b) u).2.natAbs ≤ 67108864 := by
  obtain ⟨u1, u2⟩ := u
  simp only [IsU, cm] at *
  rcases hu with ⟨rfl, rfl | rfl⟩ | ⟨rfl, rfl | rfl⟩ <;> simp <;> omega

theorem sum_bound {re im : Nat → Int} (I : Inv re im) {s : Int × Int} (hs : IsU s) : ∀ n, n ≤ 4 → (sumP re im s n).1.natAbs ≤ n * 67108864 ∧ (sumP re im s n).2.natAbs ≤ n * 67108864
  | 0, _ => by simp [sumP]
  | n + 1, hn => by
    obtain ⟨h1, h2⟩ := sum_bound I hs n (by omega)
    have q1 := I.r n (by omega)
    have q2 := I.m n (by omega)
    obtain ⟨c1, c2⟩ := cm_bound (a := re n) (b := im n) (isU_pow hs n) (by omega) (by omega)
    unfold sumP
    constructor <;> simp only <;> omega

/-- The product with a unit, exactly. -/
theorem cm_whole {a b c d : Nat} {n m : Int} {u : Int × Int} (ha : W64 a n) (hb : W64 b m) (hc : W64 c u.1) (hd : W64 d u.2) (hu : IsU u) (h1 : n.natAbs ≤ 67108864) (h2 : m.natAbs ≤ 67108864) :
    ∃ e f, (∀ W, (binOp .mul 66 (.complex .f64 a b) (.complex .f64 c d)).run Try.prog W = .ok (.complex .f64 e f) W) ∧ W64 e (cm (n, m) u).1 ∧ W64 f (cm (n, m) u).2 := by
  have bnds : (n * u.1).natAbs ≤ 9007199254740992 ∧ (m * u.2).natAbs ≤ 9007199254740992 ∧ (n * u.2).natAbs ≤ 9007199254740992 ∧ (m * u.1).natAbs ≤ 9007199254740992 ∧ (n * u.1 - m * u.2).natAbs ≤ 9007199254740992 ∧ (n * u.2 + m * u.1).natAbs ≤ 9007199254740992 := by
    obtain ⟨u1, u2⟩ := u
    simp only [IsU] at *
    rcases hu with ⟨rfl, rfl | rfl⟩ | ⟨rfl, rfl | rfl⟩ <;> simp <;> omega
  obtain ⟨e, f, g1, g2, g3⟩ := cmul_whole ha hb hc hd bnds.1 bnds.2.1 bnds.2.2.1 bnds.2.2.2.1 bnds.2.2.2.2.1 bnds.2.2.2.2.2
  exact ⟨e, f, g1 Try.prog 66, g2, g3⟩

theorem isU_small {u : Int × Int} (hu : IsU u) : u.1.natAbs ≤ 67108864 ∧ u.2.natAbs ≤ 67108864 := by
  obtain ⟨u1, u2⟩ := u
  simp only [IsU] at *
  rcases hu with ⟨rfl, rfl | rfl⟩ | ⟨rfl, rfl | rfl⟩ <;> simp

theorem dft_stick {re im : Nat → Int} {dir : Int} {k : Nat} {E : Int} (h : dftTo re im dir k = E) (hE : E ≠ 0) : ∀ j, dftTo re im dir (k + j) = E
  | 0 => h
  | j + 1 => by
    have ih := dft_stick h hE j
    rw [← Nat.add_assoc, dftTo, ih, if_pos hE]

theorem dft_fail {re im : Nat → Int} {dir : Int} {k : Nat} {E : Int} (hz : dftTo re im dir k = 0) (hb : badX re im dir k = E) (hE : E ≠ 0) (hk : k < 4) : dftTo re im dir 4 = E := by
  have h1 : dftTo re im dir (k + 1) = E := by rw [dftTo, hz, if_neg (by simp), hb]
  have := dft_stick h1 hE (3 - k)
  rw [show k + 1 + (3 - k) = 4 by omega] at this
  exact this

theorem dft_next {re im : Nat → Int} {dir : Int} {k : Nat} (hz : dftTo re im dir k = 0) (hb : badX re im dir k = 0) : dftTo re im dir (k + 1) = 0 := by
  rw [dftTo, hz, if_neg (by simp), hb]

/-- The copy of four cells. -/
theorem copy4 (W : World) (v O : Nat) (a b a' b' : Nat → Nat) (hv : Blk W v 66 (rowC a b)) (hO : Blk W O 66 (rowC a' b')) : (Builtin.copy_ #[44, 44] 3 #[.slice (some ⟨v, 0, none⟩) 4 4, .slice (some ⟨O, 0, none⟩) 4 4]).run Try.prog W = .ok (.int .i64 4) (W.setCells v 0 (rowC a' b')) := by
  have h := run_copy_cells (P := Try.prog) W 44 44 3 66 v 0 4 4 ⟨O, 0, none⟩ 4 4 (rowC a' b') Try.underlying44 (by kernel_rfl) rfl ?_ ?_ ?_ ?_
  · exact h
  · intro j u hu
    have e : (⟨O, 0, none⟩ : Addr).add j = ⟨O, j, none⟩ := by simp [Addr.add]; exact fun h => h.symm
    rw [e, hO.cell j]; exact hu
  · intro j hj
    have : j < 4 := hj
    rw [Nat.zero_add, hv.cell j, rowC_get a b j this]; rfl
  · intro j hj
    rw [Nat.zero_add]; exact hv.frozen j
  · intro u hu
    simp only [rowC, List.mem_cons, List.mem_nil_iff, or_false] at hu
    rcases hu with rfl | rfl | rfl | rfl <;> rfl

set_option maxRecDepth 100000 in
set_option maxHeartbeats 4000000 in
theorem dft_any (w : World) (x v : Nat) (re im : Nat → Int) (R : Rep w x v re im) (I : Inv re im) (dir : Int) : Calls Try.prog 29 #[ptr x, .int .i64 dir] w (repPost w x v (dftE re im dir) (dftR re im dir) (dftI re im dir)) := by
  have RH := hide R
  by_cases hd : dir < 0 ∨ 1 < dir
  · have e1 : Hid (dftE re im dir = 5) := by show _ = _; simp [dftE, hd]
    have e2 : Hid (dftR re im dir = re) := by show _ = _; simp [dftR, unhide e1]
    have e3 : Hid (dftI re im dir = im) := by show _ = _; simp [dftI, unhide e1]
    rw [unhide e1, unhide e2, unhide e3]
    unfold repPost ptr
    clear e1 e2 e3 R I
    by_cases h0 : dir < 0
    · clear hd
      go_enter Try.func29, Try.ntmps29
      go_wp2
      go_ret
      exact ⟨rfl, Chg.refl _ _, unhide RH⟩
    · have h1 : 1 < dir := by omega
      clear hd
      go_enter Try.func29, Try.ntmps29
      go_wp2
      go_ret
      exact ⟨rfl, Chg.refl _ _, unhide RH⟩
  · have hdir : dir = 0 ∨ dir = 1 := by omega
    have h0 : ¬ dir < 0 := by omega
    have h1 : ¬ 1 < dir := by omega
    have eE : Hid (dftE re im dir = dftTo re im dir 4) := by show _ = _; simp [dftE]; omega
    have hun := unit_any w (3 - 2 * dir)
    obtain ⟨ru, rv⟩ := unit_w (3 - 2 * dir)
    have wm1 : IntKind.i64.wrap (2 * dir) = 2 * dir := by rw [IntKind.wrap_i64]; omega
    have wm2 : IntKind.i64.wrap (3 - 2 * dir) = 3 - 2 * dir := by rw [IntKind.wrap_i64]; omega
    have rA : W64 (uA (3 - 2 * dir)) (rootP dir).1 := ru
    have rB : W64 (uB (3 - 2 * dir)) (rootP dir).2 := rv
    generalize uA (3 - 2 * dir) = ra at *
    generalize uB (3 - 2 * dir) = rb at *
    have hm := make44
    generalize hF : (rowC (fun _ => 0) (fun _ => 0)).toArray = F at hm
    have hFH := hide hF
    have IH := hide I
    have rH := hide (And.intro rA rB)
    have hdirH := hide hdir
    clear hF hd ru rv R I rA rB hdir
    unfold repPost ptr
    go_enter Try.func29, Try.ntmps29
    go_wp2_with fail
    refine hun.mono ?_
    rintro e w' ⟨rfl, rfl⟩
    go_wp2
    have bO : Hid (Blk (w'.alloc (.cells F 66)) w'.heap.size 66 (rowC (fun _ => 0) (fun _ => 0))) := by
      rw [← unhide hFH]; exact Blk.new w' 66 _
    have q0 : Hid (Quiet w' (w'.alloc (.cells F 66))) := (Chg.refl _ _).alloc _
    generalize w'.alloc (.cells F 66) = W0 at *
    generalize hO : w'.heap.size = O at *
    have hOH := hide hO
    clear hO
    go_loopw [7, 8] (fun u i wr => ∃ (k sa sb : Nat) (ao bo : Nat → Nat), k ≤ 4 ∧ i = .int .i64 k ∧ u = .complex .f64 sa sb ∧ W64 sa (powP (rootP dir) k).1 ∧ W64 sb (powP (rootP dir) k).2 ∧ Blk wr O 66 (rowC ao bo) ∧ (∀ j, j < k → W64 (ao j) (valX re im dir j).1 ∧ W64 (bo j) (valX re im dir j).2) ∧ dftTo re im dir k = 0 ∧ Quiet w' wr) (fun _ i _ => 5 - (intOf i).toNat)
    case atStart => exact ⟨0, _, _, _, _, by omega, rfl, rfl, w_1, w_0, unhide bO, fun j hj => by omega, rfl, unhide q0⟩
    case round =>
      obtain ⟨k, sa, sb, ao, bo, hk, rfl, rfl, wsa, wsb, bOk, hdone, hz, q⟩ := hrel
      clear bO q0
      have R2 := (unhide RH).quiet q
      obtain ⟨aa, bb, rowB, hrow⟩ := R2.row
      have c0 := R2.blk.cell 0
      simp at c0
      by_cases hlt : k < 4
      · have k0 : (0 : Int) ≤ (k : Int) := by omega
        have k1 : (k : Int) < 4 := by omega
        have hcells : Hid (∀ n, n < 4 → wr.cell? ⟨v, n, none⟩ = some (.complex .f64 (aa n) (bb n))) := fun n hn => (rowB.cell n).trans (rowC_get aa bb n hn)
        have hrowH := hide hrow
        have wsH := hide (And.intro wsa wsb)
        have bH := hide bOk
        have dH := hide hdone
        have zH := hide hz
        have qH := hide q
        clear rowB hrow R2 wsa wsb bOk hdone hz q
        go_wp2
        go_loopw [9, 10, 11] (fun u t i w2 => ∃ (n pa pb ta tb : Nat), n ≤ 4 ∧ i = .int .i64 n ∧ u = .complex .f64 pa pb ∧ t = .complex .f64 ta tb ∧ W64 pa (sumP re im (powP (rootP dir) k) n).1 ∧ W64 pb (sumP re im (powP (rootP dir) k) n).2 ∧ W64 ta (powP (powP (rootP dir) k) n).1 ∧ W64 tb (powP (powP (rootP dir) k) n).2 ∧ w2 = wr) (fun _ _ i _ => 5 - (intOf i).toNat)
        case atStart => exact ⟨0, _, _, _, _, by omega, rfl, rfl, rfl, w_0, w_0, w_1, w_0, rfl⟩
        case round =>
          obtain ⟨n, pa, pb, ta, tb, hn, rfl, rfl, rfl, wpa, wpb, wta, wtb, hw2⟩ := hrel
          subst hw2
          have hU : IsU (powP (rootP dir) k) := isU_pow (isU_root dir) k
          by_cases hltn : n < 4
          · have n0 : (0 : Int) ≤ (n : Int) := by omega
            have n1 : (n : Int) < 4 := by omega
            have cn := unhide hcells n hltn
            have q1 := (unhide IH).r n hltn
            have q2 := (unhide IH).m n hltn
            have hUn := isU_pow hU n
            obtain ⟨e1, f1, m1, we1, wf1⟩ := cm_whole (unhide hrowH n hltn).1 (unhide hrowH n hltn).2 wta wtb hUn (by omega) (by omega)
            obtain ⟨b1, b2⟩ := sum_bound (unhide IH) hU n (by omega)
            obtain ⟨b3, b4⟩ := cm_bound (a := re n) (b := im n) hUn (by omega) (by omega)
            obtain ⟨e2, f2, m2, we2, wf2⟩ := cadd_whole wpa wpb we1 wf1 (by omega) (by omega)
            have m2' := m2 Try.prog 66
            obtain ⟨s1, s2⟩ := isU_small hUn
            obtain ⟨e3, f3, m3, we3, wf3⟩ := cm_whole wta wtb (unhide wsH).1 (unhide wsH).2 hU s1 s2
            have fin := hide (And.intro (And.intro we2 wf2) (And.intro we3 wf3))
            clear wpa wpb wta wtb we1 wf1 we2 wf2 we3 wf3 m2 b1 b2 b3 b4 q1 q2 hUn s1 s2 hU
            go_wp2
            go_roundw
            case rel =>
              refine ⟨n + 1, e2, f2, e3, f3, by omega, by go_num, rfl, rfl, (unhide fin).1.1, (unhide fin).1.2, (unhide fin).2.1, (unhide fin).2.2, ?_⟩
              first | rfl | trivial
            case measure => simp [intOf]; omega
          · have n1 : ¬ (n : Int) < 4 := by omega
            obtain rfl : n = 4 := by omega
            obtain ⟨b1, b2⟩ := sum_bound (unhide IH) hU 4 (by omega)
            have wX : Hid (W64 pa (bigX re im dir k).1 ∧ W64 pb (bigX re im dir k).2) := ⟨wpa, wpb⟩
            have bX : Hid ((bigX re im dir k).1.natAbs ≤ 268435456 ∧ (bigX re im dir k).2.natAbs ≤ 268435456) := ⟨b1, b2⟩
            have hfail : Hid (∀ E, badX re im dir k = E → E ≠ 0 → dftE re im dir = E ∧ dftR re im dir = re ∧ dftI re im dir = im) := by
              intro E h1 h2
              have h3 : dftE re im dir = E := by rw [unhide eE]; exact dft_fail (unhide zH) h1 h2 hlt
              exact ⟨h3, by simp [dftR, h3, h2], by simp [dftI, h3, h2]⟩
            have bOk := unhide bH
            have cO := (bOk.cell k).trans (rowC_get ao bo k hlt)
            have fO := bOk.frozen k
            -- out[k] := the value; the step goes on
            have hstore : Hid (∀ e f, badX re im dir k = 0 → W64 e (valX re im dir k).1 → W64 f (valX re im dir k).2 → ∃ (sa' sb' : Nat) (ao' bo' : Nat → Nat), (∀ W, (binOp .mul 66 (.complex .f64 sa sb) (.complex .f64 ra rb)).run Try.prog W = .ok (.complex .f64 sa' sb') W) ∧ W64 sa' (powP (rootP dir) (k + 1)).1 ∧ W64 sb' (powP (rootP dir) (k + 1)).2 ∧ Blk (wr.setCell ⟨O, k, none⟩ (.complex .f64 e f)) O 66 (rowC ao' bo') ∧ (∀ j, j < k + 1 → W64 (ao' j) (valX re im dir j).1 ∧ W64 (bo' j) (valX re im dir j).2) ∧ dftTo re im dir (k + 1) = 0 ∧ Quiet w' (wr.setCell ⟨O, k, none⟩ (.complex .f64 e f))) := by
              intro e f hb0 he hf
              obtain ⟨s1, s2⟩ := isU_small hU
              obtain ⟨e3, f3, m3, we3, wf3⟩ := cm_whole (unhide wsH).1 (unhide wsH).2 (unhide rH).1 (unhide rH).2 (isU_root dir) s1 s2
              refine ⟨e3, f3, upd ao k e, upd bo k f, m3, we3, wf3, ?_, ?_, dft_next (unhide zH) hb0, (unhide qH).setCell (p := ⟨O, k, none⟩) (.inr (Nat.le_of_eq (unhide hOH))) _⟩
              · have h3 := (unhide bH).set k (.complex .f64 e f)
                rw [rowC_set ao bo k hlt] at h3
                exact h3
              · intro j hj
                unfold upd
                by_cases ej : j = k
                · subst ej; simp [he, hf]
                · simp only [if_neg ej]
                  exact unhide dH j (by omega)
            have hw := hide (fun (e f : Nat) (n m : Int) (he : W64 e n) (hf : W64 f m) => within_any wr e f _ n m _ he hf w_top)
            clear wpa wpb wta wtb b1 b2 hU bOk
            rcases unhide hdirH with hd0 | hd0
            · -- there
              have cz : (dir == 1) = false := by rw [hd0]; rfl
              have ev : valX re im dir k = bigX re im dir k := by simp [valX, hd0]
              have hwc := unhide hw pa pb _ _ (unhide wX).1 (unhide wX).2
              by_cases hin : inP (bigX re im dir k).1 (bigX re im dir k).2 67108864 = true
              · have hb0 : badX re im dir k = 0 := by unfold badX; rw [if_neg (fun h => by have := h.1; omega), ev, if_neg (by simp [hin])]
                obtain ⟨sa', sb', ao', bo', m3, g1, g2, g3, g4, g5, g6⟩ := unhide hstore pa pb hb0 (by rw [ev]; exact (unhide wX).1) (by rw [ev]; exact (unhide wX).2)
                have fin := hide (And.intro (And.intro g1 g2) (And.intro g3 (And.intro g4 (And.intro g5 g6))))
                rw [hin] at hwc
                clear hd0 g1 g2 g3 g4 g5 g6 hb0 hin ev hstore hfail wX bX hw
                go_wp2_with fail
                refine hwc.mono ?_
                rintro e w5 ⟨rfl, rfl⟩
                go_wp2
                go_roundw
                case rel => exact ⟨k + 1, sa', sb', ao', bo', by omega, by go_num, rfl, (unhide fin).1.1, (unhide fin).1.2, (unhide fin).2.1, (unhide fin).2.2.1, (unhide fin).2.2.2.1, (unhide fin).2.2.2.2⟩
                case measure => simp [intOf]; omega
              · have hin' : inP (bigX re im dir k).1 (bigX re im dir k).2 67108864 = false := by simpa using hin
                obtain ⟨f1, f2, f3⟩ := unhide hfail 2 (by unfold badX; rw [if_neg (fun h => by have := h.1; omega), ev, if_pos hin']) (by decide)
                rw [hin'] at hwc
                have R5 := hide ((unhide RH).quiet (unhide qH))
                have fH := hide (And.intro f1 (And.intro f2 f3))
                clear hd0 hin hin' ev hstore hfail wX bX hw f1 f2 f3
                go_wp2_with fail
                refine hwc.mono ?_
                rintro e w5 ⟨rfl, rfl⟩
                go_wp2
                go_ret
                refine ⟨by rw [(unhide fH).1]; rfl, (unhide qH).chg _, ?_⟩
                rw [(unhide fH).2.1, (unhide fH).2.2]
                exact unhide R5
            · -- back
              have cz : (dir == 1) = true := by rw [hd0]; rfl
              have ev : valX re im dir k = ((bigX re im dir k).1.tdiv 4, (bigX re im dir k).2.tdiv 4) := by simp [valX, hd0]
              obtain ⟨e4, f4, hq4, qe, qf⟩ := cquo_re (t := false) (k := 2) (by decide) (unhide wX).1 (unhide wX).2 (show W64 4616189618054758400 (sg false * 2 ^ 2) from w_4) w_0 (by have := (unhide bX).1; omega) (by have := (unhide bX).2; omega)
              have hq' := hq4 Try.prog 66
              have qe' : Q64 e4 (bigX re im dir k).1 := by simpa [sg] using qe
              have qf' : Q64 f4 (bigX re im dir k).2 := by simpa [sg] using qf
              have bt1 := tdiv4_abs (bigX re im dir k).1
              have bt2 := tdiv4_abs (bigX re im dir k).2
              have hint := integral_any wr e4 f4 _ _ qe' qf' (by have := (unhide bX).1; omega) (by have := (unhide bX).2; omega) (by have := (unhide bX).1; omega) (by have := (unhide bX).2; omega)
              by_cases hwh : wholeP (bigX re im dir k).1 (bigX re im dir k).2 = true
              · obtain ⟨v1, v2⟩ := whole4 _ _ hwh
                have we4 : W64 e4 ((bigX re im dir k).1.tdiv 4) := Q64.whole (v1 ▸ qe')
                have wf4 : W64 f4 ((bigX re im dir k).2.tdiv 4) := Q64.whole (v2 ▸ qf')
                have hwc := unhide hw e4 f4 _ _ we4 wf4
                have hin : inP ((bigX re im dir k).1.tdiv 4) ((bigX re im dir k).2.tdiv 4) 67108864 = true := by
                  have h1 := (unhide bX).1
                  have h2 := (unhide bX).2
                  simp only [inP, decide_eq_true_eq]
                  omega
                have hb0 : badX re im dir k = 0 := by unfold badX; rw [if_neg (fun h => by have := h.2; rw [hwh] at this; cases this), ev, if_neg (by simp [hin])]
                obtain ⟨sa', sb', ao', bo', m3, g1, g2, g3, g4, g5, g6⟩ := unhide hstore e4 f4 hb0 (by rw [ev]; exact we4) (by rw [ev]; exact wf4)
                have fin := hide (And.intro (And.intro g1 g2) (And.intro g3 (And.intro g4 (And.intro g5 g6))))
                rw [hin] at hwc
                rw [hwh] at hint
                clear hd0 g1 g2 g3 g4 g5 g6 hb0 hin ev hstore hfail wX bX hw hwh v1 v2 we4 wf4 qe qf qe' qf' bt1 bt2 hq4
                go_wp2_with fail
                refine hint.mono ?_
                rintro e w5 ⟨rfl, rfl⟩
                go_wp2_with fail
                refine hwc.mono ?_
                rintro e w5 ⟨rfl, rfl⟩
                go_wp2
                go_roundw
                case rel => exact ⟨k + 1, sa', sb', ao', bo', by omega, by go_num, rfl, (unhide fin).1.1, (unhide fin).1.2, (unhide fin).2.1, (unhide fin).2.2.1, (unhide fin).2.2.2.1, (unhide fin).2.2.2.2⟩
                case measure => simp [intOf]; omega
              · have hwf : wholeP (bigX re im dir k).1 (bigX re im dir k).2 = false := by simpa using hwh
                obtain ⟨f1, f2, f3⟩ := unhide hfail 4 (by unfold badX; rw [if_pos ⟨hd0, hwf⟩]) (by decide)
                rw [hwf] at hint
                have R5 := hide ((unhide RH).quiet (unhide qH))
                have fH := hide (And.intro f1 (And.intro f2 f3))
                clear hd0 hwh hwf ev hstore hfail wX bX hw f1 f2 f3 qe qf qe' qf' bt1 bt2 hq4
                go_wp2_with fail
                refine hint.mono ?_
                rintro e w5 ⟨rfl, rfl⟩
                go_wp2
                go_ret
                refine ⟨by rw [(unhide fH).1]; rfl, (unhide qH).chg _, ?_⟩
                rw [(unhide fH).2.1, (unhide fH).2.2]
                exact unhide R5
      · have k1 : ¬ (k : Int) < 4 := by omega
        obtain rfl : k = 4 := by omega
        have hE : dftE re im dir = 0 := by rw [unhide eE]; exact hz
        have hcp := copy4 wr v O aa bb ao bo rowB bOk
        have hOx : O ≠ v := fun e => by have h1 := (unhide RH).lts v (.inr rfl); have h2 := unhide hOH; omega
        have fin : Hid (Chg (own x v) w' (wr.setCells v 0 (rowC ao bo)) ∧ Rep (wr.setCells v 0 (rowC ao bo)) x v (dftR re im dir) (dftI re im dir)) := by
          refine ⟨Chg.setCells (.inl (.inr rfl)) _ _ (q.chg (own x v)), ?_⟩
          rw [show dftR re im dir = fun k => (valX re im dir k).1 by simp [dftR, hE], show dftI re im dir = fun k => (valX re im dir k).2 by simp [dftI, hE]]
          refine ⟨Blk.setCells_other R2.xv _ _ R2.blk, ⟨ao, bo, ?_, hdone⟩, R2.xv⟩
          have h3 := Blk.setCells (rowC ao bo) 0 rowB
          exact h3
        have hEH := hide hE
        clear hE
        generalize wr.setCells v 0 (rowC ao bo) = WC at *
        clear R2 rowB hrow bOk hdone hz q
        go_wp2
        go_ret
        exact ⟨by rw [unhide hEH]; rfl, (unhide fin).1, (unhide fin).2⟩
end Go.Proofs.Qxb6500362a
