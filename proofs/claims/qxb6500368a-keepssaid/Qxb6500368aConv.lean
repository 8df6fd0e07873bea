/-
  THE REAL BENCH: Convolve. (gen8conv.py)
-/
import Derived.Test.Qxb6500368aLoad
import Derived.Deep.DeepCutAuto
namespace Go.Proofs.Qxb6500368a
open Go.RowKit Go.Qx
set_option linter.unusedVariables false
set_option linter.unusedSimpArgs false

theorem copyG (W : World) (d o dl dc V so sl sc : Nat) (c y : Nat → Int) (D M : Nat) (hk : sl ≤ dl) (ho : o + sl ≤ D) (hM : so + sl ≤ M) (hv : Blk W d 42 (ints .u64 c D)) (hV : Blk W V 42 (ints .u64 y M)) : (Builtin.copy_ #[41, 41] 3 #[.slice (some ⟨d, o, none⟩) dl dc, .slice (some ⟨V, so, none⟩) sl sc]).run Try.prog W = .ok (.int .i64 sl) (W.setCells d o (ints .u64 (fun p => y (so + p)) sl)) := by
  have h := run_copy_cells (P := Try.prog) W 41 41 3 42 d o dl dc ⟨V, so, none⟩ sl sc (ints .u64 (fun p => y (so + p)) sl) Try.underlying41 (by kernel_rfl) (by rw [ints_length]; exact (Nat.min_eq_left hk).symm) ?_ ?_ ?_ (ints_oneCell' _ _ _)
  · rw [h, ints_length]
    rfl
  · intro j u hu
    have hj : j < sl := by
      have := (List.getElem?_eq_some_iff.1 hu).1
      rw [ints_length] at this; exact this
    have e : (⟨V, so, none⟩ : Addr).add j = ⟨V, so + j, none⟩ := by simp [Addr.add]
    rw [ints_get .u64 _ sl j hj] at hu
    rw [e, hV.cell (so + j), ints_get .u64 y M (so + j) (by omega)]; exact hu
  · intro j hj
    rw [ints_length] at hj
    rw [hv.cell, ints_get .u64 c D (o + j) (by omega)]; rfl
  · intro j hj
    exact hv.frozen _

/-- The bench beside the two rows that Convolve makes. -/
structure CV (w0 wx : World) (x v a b N : Nat) (c : Nat → Int) (n : Nat → Nat) (wk : Nat) (f g : Nat → Int) : Prop where
  chg : Chg (own x v) w0 wx
  rep : Rep wx x v c n wk
  ra : Blk wx a 42 (ints .u64 f N)
  rb : Blk wx b 42 (ints .u64 g N)
  ab : a ≠ b
  la : w0.heap.size ≤ a
  lb : w0.heap.size ≤ b
  hx : x < w0.heap.size
  hv : v < w0.heap.size

section
variable {w0 wx : World} {x v a b N : Nat} {c : Nat → Int} {n : Nat → Nat} {wk : Nat} {f g : Nat → Int}
theorem CV.symm (h : CV w0 wx x v a b N c n wk f g) : CV w0 wx x v b a N c n wk g f := ⟨h.chg, h.rep, h.rb, h.ra, Ne.symm h.ab, h.lb, h.la, h.hx, h.hv⟩
theorem CV.quiet {wy : World} (h : CV w0 wx x v a b N c n wk f g) (q : Quiet wx wy) : CV w0 wy x v a b N c n wk f g :=
  ⟨h.chg.trans (q.chg _), h.rep.quiet q, q.blk h.ra, q.blk h.rb, h.ab, h.la, h.lb, h.hx, h.hv⟩
theorem CV.nax (h : CV w0 wx x v a b N c n wk f g) : a ≠ x := by have := h.la; have := h.hx; omega
theorem CV.nav (h : CV w0 wx x v a b N c n wk f g) : a ≠ v := by have := h.la; have := h.hv; omega
theorem CV.copyA (h : CV w0 wx x v a b N c n wk f g) (y : Nat → Int) (m : Nat) (hm : m ≤ N) : CV w0 (wx.setCells a 0 (ints .u64 y m)) x v a b N c n wk (win f 0 m y) g :=
  ⟨Chg.setCells (.inr h.la) _ _ h.chg, ⟨h.rep.own.setCells_other (Ne.symm h.nax) _ _, h.rep.row.setCells_other (Ne.symm h.nav) _ _, h.rep.xv⟩,
   by rw [← over_ints _ _ _ _ _ (by omega)]; exact h.ra.setCells _ _, h.rb.setCells_other (Ne.symm h.ab) _ _, h.ab, h.la, h.lb, h.hx, h.hv⟩
theorem CV.mulset (h : CV w0 wx x v a b N c n wk f g) (q i : Nat) (hi : i < N) (z : Int) : CV w0 (((wx.drewN q).setCell ⟨x, 25, none⟩ (.int .i64 ((wk : Int) + 1))).setCell ⟨a, i, none⟩ (.int .u64 z)) x v a b N c n (wk + 1) (updF f i z) g := by
  refine ⟨((h.chg.drewN q).setCell (p := ⟨x, 25, none⟩) (.inl (.inl rfl)) _).setCell (p := ⟨a, i, none⟩) (.inr h.la) _, ⟨?_, ?_, h.rep.xv⟩, ?_, ?_, h.ab, h.la, h.lb, h.hx, h.hv⟩
  · have h1 := ((h.rep.own.drewN q).set 25 (.int .i64 ((wk : Int) + 1))).set_other (a := ⟨a, i, none⟩) (Ne.symm h.nax) (.int .u64 z)
    rw [tabC, set_wk] at h1
    exact h1
  · exact ((h.rep.row.drewN q).set_other (a := ⟨x, 25, none⟩) (Ne.symm h.rep.xv) _).set_other (a := ⟨a, i, none⟩) (Ne.symm h.nav) _
  · have h1 := ((h.ra.drewN q).set_other (a := ⟨x, 25, none⟩) h.nax (.int .i64 ((wk : Int) + 1))).set i (.int .u64 z)
    rw [ints_set _ _ _ _ _ hi] at h1
    exact h1
  · exact ((h.rb.drewN q).set_other (a := ⟨x, 25, none⟩) h.symm.nax _).set_other (a := ⟨a, i, none⟩) (Ne.symm h.ab) _
theorem CV.congr {f' : Nat → Int} (h : CV w0 wx x v a b N c n wk f g) (e : ∀ p, p < N → f p = f' p) : CV w0 wx x v a b N c n wk f' g :=
  ⟨h.chg, h.rep, by rw [← ints_congr .u64 e]; exact h.ra, h.rb, h.ab, h.la, h.lb, h.hx, h.hv⟩
end

theorem CV.tr {w0 wx : World} {x v a b : Nat} {c : Nat → Int} {n : Nat → Nat} {wk k : Nat} {f g : Nat → Int} (h : CV w0 wx x v a b (2 ^ k) c n wk f g) (hk : k ≤ 4) (hf : InP (2 ^ k) f) (hwk : wk ≤ 1000000) (inv : Bool) (cap : Nat) :
    Calls Try.prog 38 #[ptr x, .slice (some ⟨a, 0, none⟩) (2 ^ k) cap, .bool inv] wx fun e w' => e = .returned (.tuple #[]) ∧ CV w0 w' x v a b (2 ^ k) c n (wk + k * (2 ^ k / 2) + (if inv then 2 ^ k else 0)) (netP k inv f) g ∧ InP (2 ^ k) (netP k inv f) := by
  have M : MemT wx wx x v (fun r => (n r : Int)) a 0 (2 ^ k) (2 ^ k) f (fun p => f (0 + p)) wk := ⟨Chg.refl _ _, by rw [win_self]; exact h.ra, h.rep.own, fun i hi => by rw [Nat.zero_add]; exact hf i hi⟩
  have hc := transform_any wx wx x v _ a 0 (2 ^ k) cap f k hk (by omega) h.nax wk hwk M inv
  have e0 : (fun p => f (0 + p)) = f := by funext p; rw [Nat.zero_add]
  rw [e0] at hc
  refine hc.mono ?_
  rintro e w' ⟨rfl, M'⟩
  refine ⟨rfl, ⟨h.chg.trans' M'.chg ?_, ⟨M'.own, M'.chg.blk h.rep.row ?_, h.rep.xv⟩, ?_, M'.chg.blk h.rb ?_, h.ab, h.la, h.lb, h.hx, h.hv⟩, M'.inp⟩
  · rintro i hi (rfl | rfl)
    · have := h.la; omega
    · exact .inl rfl
  · rintro (e | e)
    · exact h.nav e.symm
    · exact h.rep.xv e.symm
  · rw [ints_congr .u64 (g := win f 0 (2 ^ k) (netP k inv f)) (fun p hp => ?_)]
    · exact M'.row
    · have := win_get f 0 (2 ^ k) (netP k inv f) p hp
      rw [Nat.zero_add] at this; exact this.symm
  · rintro (e | e)
    · exact h.ab e.symm
    · exact h.symm.nax e

def zeroB (n : Nat → Nat) (a b : Int) : Bool := decide (n a.toNat = 0 ∨ n b.toNat = 0)
def convLen (n : Nat → Nat) (a b : Int) : Nat := n a.toNat + n b.toNat - 1
def regsB (d a b : Int) : Bool := regP d && regP a && regP b
/-- What Convolve does: 0 nothing, 1 an empty register, 2 a product. -/
def convK (n : Nat → Nat) (d a b : Int) : Nat := if regsB d a b = true then (if zeroB n a b = true then 1 else if 16 < convLen n a b then 0 else 2) else 0
def convE (n : Nat → Nat) (d a b : Int) : Int := if regsB d a b = true then (if zeroB n a b = true then 0 else if 16 < convLen n a b then 2 else 0) else 4
/-- A register, padded by zeros. -/
def padF (c : Nat → Int) (n : Nat → Nat) (r : Nat) : Nat → Int := win (fun _ => 0) 0 (n r) (fun p => c (16 * r + p))
def convC (c : Nat → Int) (n : Nat → Nat) (d a b : Int) : Nat → Int := if convK n d a b = 2 then win c (16 * d.toNat) (convLen n a b) (prodP (ceilP (convLen n a b)) (padF c n a.toNat) (padF c n b.toNat)) else c
def convN (n : Nat → Nat) (d a b : Int) : Nat → Nat := if convK n d a b = 1 then updN n d.toNat 0 else if convK n d a b = 2 then updN n d.toNat (convLen n a b) else n
def convW (n : Nat → Nat) (wk : Nat) (d a b : Int) : Nat := if convK n d a b = 1 then 0 else if convK n d a b = 2 then 3 * (ceilP (convLen n a b) * (2 ^ ceilP (convLen n a b) / 2)) + 2 * 2 ^ ceilP (convLen n a b) else wk

theorem padF_in {c : Nat → Int} {n : Nat → Nat} {wk : Nat} (I : Inv c n wk) (r : Nat) (hr : r < 3) (N : Nat) : InP N (padF c n r) := by
  intro i hi
  unfold padF win
  have := I.n r hr
  split
  · exact I.c _ (by omega)
  · show (0 : Int) ≤ 0 ∧ (0 : Int) < pP
    decide

theorem CV.made {w0 W : World} {x v : Nat} {c : Nat → Int} {n : Nat → Nat} {wk : Nat} (R0 : Rep W x v c n wk) (ch : Chg (own x v) w0 W) (hx : x < w0.heap.size) (hv : v < w0.heap.size) (N : Nat) (F : Array Value) (hF : F = (ints .u64 (fun _ => 0) N).toArray) :
    CV w0 ((W.alloc (.cells F 42)).alloc (.cells F 42)) x v W.heap.size (W.heap.size + 1) N c n wk (fun _ => 0) (fun _ => 0) := by
  subst hF
  have q : Quiet W ((W.alloc (.cells (ints .u64 (fun _ => 0) N).toArray 42)).alloc (.cells (ints .u64 (fun _ => 0) N).toArray 42)) := ((Chg.refl _ _).alloc _).alloc _
  exact ⟨ch.trans (q.chg _), R0.quiet q, (Blk.new W 42 _).alloc _, Blk.at_new (by simp), by omega, ch.size, by have := ch.size; omega, hx, hv⟩

theorem shl_pow (K : Nat) (h : K ≤ 4) : wrap64 (2 ^ min K 64) = ((2 ^ K : Nat) : Int) := by
  rcases (by omega : K = 0 ∨ K = 1 ∨ K = 2 ∨ K = 3 ∨ K = 4) with rfl | rfl | rfl | rfl | rfl <;> simp [wrap64]
theorem pow_16 (K : Nat) (h : K ≤ 4) : 2 ^ K ≤ 16 := by
  rcases (by omega : K = 0 ∨ K = 1 ∨ K = 2 ∨ K = 3 ∨ K = 4) with rfl | rfl | rfl | rfl | rfl <;> decide

def Cut11 (w0 : World) (x v N : Nat) (c : Nat → Int) (n : Nat → Nat) (fa fb : Value) (wx : World) : Prop :=
  ∃ a b, fa = .slice (some ⟨a, 0, none⟩) N N ∧ fb = .slice (some ⟨b, 0, none⟩) N N ∧ CV w0 wx x v a b N c n 0 (fun _ => 0) (fun _ => 0)

theorem CV.trN {w0 wx : World} {x v a b : Nat} {c : Nat → Int} {n : Nat → Nat} {wk k N : Nat} {f g : Nat → Int} (hN : 2 ^ k = N) (h : CV w0 wx x v a b N c n wk f g) (hk : k ≤ 4) (hf : InP N f) (hwk : wk ≤ 1000000) (inv : Bool) (cap : Nat) :
    Calls Try.prog 38 #[.pointer (some ⟨x, 0, none⟩), .slice (some ⟨a, 0, none⟩) N cap, .bool inv] wx fun e w' => e = .returned (.tuple #[]) ∧ CV w0 w' x v a b N c n (wk + k * (N / 2) + (if inv then N else 0)) (netP k inv f) g ∧ InP N (netP k inv f) := by
  subst hN; exact h.tr hk hf hwk inv cap

def mulP (f g : Nat → Int) (i : Nat) : Nat → Int := fun p => if p < i then f p * g p % pP else f p
theorem mulP_zero (f g : Nat → Int) : mulP f g 0 = f := by funext p; simp [mulP]
theorem mulP_at (f g : Nat → Int) (i : Nat) : mulP f g i i = f i := by simp [mulP]
theorem mulP_next (f g : Nat → Int) (i : Nat) : updF (mulP f g i) i (f i * g i % pP) = mulP f g (i + 1) := by
  funext p
  unfold updF mulP
  by_cases h : p = i
  · subst h; simp
  · rw [if_neg h]
    by_cases h2 : p < i
    · rw [if_pos h2, if_pos (by omega)]
    · rw [if_neg h2, if_neg (by omega)]

theorem CV.fin {w0 wx : World} {x v a b N : Nat} {c : Nat → Int} {n : Nat → Nat} {wk : Nat} {f g : Nat → Int} (h : CV w0 wx x v a b N c n wk f g) (d L : Nat) (hd : d < 3) (hL : L ≤ 16) :
    Chg (own x v) w0 ((wx.setCells v (16 * d) (ints .u64 f L)).setCell ⟨x, 1 + d, none⟩ (.int .i64 L)) ∧ Rep ((wx.setCells v (16 * d) (ints .u64 f L)).setCell ⟨x, 1 + d, none⟩ (.int .i64 L)) x v (win c (16 * d) L f) (updN n d L) wk := by
  have Rr := h.rep
  constructor
  · exact Chg.setCell (Chg.setCells (.inl (.inr rfl)) _ _ h.chg) (p := ⟨x, 1 + d, none⟩) (.inl (.inl rfl)) _
  · have h1 := (Rr.own.setCells_other Rr.xv (ints .u64 f L) (16 * d)).set (1 + d) (.int .i64 (L : Int))
    rw [tabC, set_n _ _ _ _ _ _ d hd] at h1
    have h2 := (Rr.row.setCells (ints .u64 f L) (16 * d)).set_other (a := ⟨x, 1 + d, none⟩) (Ne.symm Rr.xv) (.int .i64 (L : Int))
    rw [over_ints _ _ _ _ _ (by omega)] at h2
    refine ⟨?_, h2, Rr.xv⟩
    rw [tabC, bench_congr v _ (updF (fun r => (n r : Int)) d L) _ rootT _ irootT _ ninvT _ (fun r _ => ?_) (fun _ _ => rfl) (fun _ _ => rfl) (fun _ _ => rfl)]
    · exact h1
    · unfold updN updF; split <;> rfl

theorem work_le (K N : Nat) (hK : K ≤ 4) (hN : N ≤ 16) : K * (N / 2) ≤ 32 := by
  have h1 : N / 2 ≤ 8 := by omega
  have := Nat.mul_le_mul hK h1
  omega

set_option maxRecDepth 100000 in
set_option maxHeartbeats 4000000 in
theorem conv_any (w : World) (x v : Nat) (c : Nat → Int) (n : Nat → Nat) (wk : Nat) (R : Rep w x v c n wk) (I : Inv c n wk) (d a b : Int) :
    Calls Try.prog 20 #[ptr x, .int .i64 d, .int .i64 a, .int .i64 b] w (repPost w x v (convE n d a b) (convC c n d a b) (convN n d a b) (convW n wk d a b)) := by
  have hc := regs_any w d a b
  have RH := hide R
  have IH := hide I
  cases hr : regsB d a b with
  | false =>
    have e0 : convK n d a b = 0 := by simp [convK, hr]
    have e1 : Hid (convE n d a b = 4) := by show _ = _; simp [convE, hr]
    have e2 : Hid (convC c n d a b = c) := by show _ = _; simp [convC, e0]
    have e3 : Hid (convN n d a b = n) := by show _ = _; simp [convN, e0]
    have e4 : Hid (convW n wk d a b = wk) := by show _ = _; simp [convW, e0]
    rw [show (regP d && regP a && regP b) = false from hr] at hc
    rw [unhide e1, unhide e2, unhide e3, unhide e4]
    clear e0 e1 e2 e3 e4 hr I R
    unfold ptr repPost
    go_enter Try.func20, Try.ntmps20
    go_wp2_with fail
    refine hc.mono ?_
    rintro e w' ⟨rfl, hw'⟩
    subst hw'
    go_wp2
    go_ret
    exact ⟨rfl, Chg.refl _ _, unhide RH⟩
  | true =>
    rw [show (regP d && regP a && regP b) = true from hr] at hc
    obtain ⟨kd, hd, rfl⟩ : ∃ k : Nat, k < 3 ∧ d = k := by
      unfold regsB regP at hr; simp at hr; exact ⟨d.toNat, by omega, by omega⟩
    obtain ⟨ka, ha, rfl⟩ : ∃ k : Nat, k < 3 ∧ a = k := by
      unfold regsB regP at hr; simp at hr; exact ⟨a.toNat, by omega, by omega⟩
    obtain ⟨kb, hb, rfl⟩ : ∃ k : Nat, k < 3 ∧ b = k := by
      unfold regsB regP at hr; simp at hr; exact ⟨b.toNat, by omega, by omega⟩
    have ca := R.len ka ha
    have cb := R.len kb hb
    have cd := R.len kd hd
    have fd := R.own.frozen (1 + kd)
    have c25 := R.work
    have f25 := R.own.frozen 25
    have a0 : (0 : Int) ≤ (ka : Int) := by omega
    have a3 : (ka : Int) < 3 := by omega
    have b0 : (0 : Int) ≤ (kb : Int) := by omega
    have b3 : (kb : Int) < 3 := by omega
    have d0 : (0 : Int) ≤ (kd : Int) := by omega
    have d3 : (kd : Int) < 3 := by omega
    have hna := I.n ka ha
    have hnb := I.n kb hb
    by_cases hz : n ka = 0 ∨ n kb = 0
    · have hzB : zeroB n ka kb = true := by simpa [zeroB] using hz
      have e0 : convK n kd ka kb = 1 := by simp [convK, hr, hzB]
      have e1 : Hid (convE n kd ka kb = 0) := by show _ = _; simp [convE, hr, hzB]
      have e2 : Hid (convC c n kd ka kb = c) := by show _ = _; simp [convC, e0]
      have e3 : Hid (convN n kd ka kb = updN n kd 0) := by show _ = _; simp [convN, e0]
      have e4 : Hid (convW n wk kd ka kb = 0) := by show _ = _; simp [convW, e0]
      rw [unhide e1, unhide e2, unhide e3, unhide e4]
      have RF : Hid (Rep ((w.setCell ⟨x, 1 + kd, none⟩ (.int .i64 0)).setCell ⟨x, 25, none⟩ (.int .i64 0)) x v c (updN n kd 0) 0) := by
        have h1 := (R.own.set (1 + kd) (.int .i64 0)).set 25 (.int .i64 0)
        rw [tabC, set_n _ _ _ _ _ _ kd hd, set_wk] at h1
        refine ⟨?_, (R.row.set_other (a := ⟨x, 1 + kd, none⟩) (Ne.symm R.xv) _).set_other (a := ⟨x, 25, none⟩) (Ne.symm R.xv) _, R.xv⟩
        rw [tabC, bench_congr v _ (updF (fun r => (n r : Int)) kd 0) _ rootT _ irootT _ ninvT _ (fun r _ => ?_) (fun _ _ => rfl) (fun _ _ => rfl) (fun _ _ => rfl)]
        · exact h1
        · unfold updN updF; by_cases h : r = kd
          · rw [if_pos h, if_pos h]; rfl
          · rw [if_neg h, if_neg h]
      have CF : Hid (Chg (own x v) w ((w.setCell ⟨x, 1 + kd, none⟩ (.int .i64 0)).setCell ⟨x, 25, none⟩ (.int .i64 0))) :=
        ((Chg.refl _ w).setCell (p := ⟨x, 1 + kd, none⟩) (.inl (.inl rfl)) _).setCell (p := ⟨x, 25, none⟩) (.inl (.inl rfl)) _
      have n25 : (⟨x, 25, none⟩ : Addr) ≠ ⟨x, 1 + kd, none⟩ := by simp <;> omega
      have c25' := hide c25
      clear e0 e1 e2 e3 e4 hr hzB I R
      by_cases hza : n ka = 0
      · rw [hza] at ca
        generalize n kb = mb at *
        clear hz hza
        unfold ptr repPost
        go_enter Try.func20, Try.ntmps20
        go_wp2_with fail
        refine hc.mono ?_
        rintro e w' ⟨rfl, hw'⟩
        subst hw'
        go_wp2
        go_ret
        exact ⟨rfl, unhide CF, unhide RF⟩
      · have hzb : n kb = 0 := by omega
        rw [hzb] at cb
        generalize n ka = ma at *
        have z1 : ¬ (ma : Int) = 0 := by omega
        clear hz hza hzb
        unfold ptr repPost
        go_enter Try.func20, Try.ntmps20
        go_wp2_with fail
        refine hc.mono ?_
        rintro e w' ⟨rfl, hw'⟩
        subst hw'
        go_wp2
        go_ret
        exact ⟨rfl, unhide CF, unhide RF⟩
    · have hzB : zeroB n ka kb = false := by simpa [zeroB] using hz
      have hL : convLen n ka kb = n ka + n kb - 1 := rfl
      have z1 : ¬ (n ka : Int) = 0 := by omega
      have z2 : ¬ (n kb : Int) = 0 := by omega
      have z1b : ((n ka : Int) == 0) = false := by simpa using z1
      have z2b : ((n kb : Int) == 0) = false := by simpa using z2
      have eL : (n ka : Int) + (n kb : Int) - 1 = ((convLen n ka kb : Nat) : Int) := by omega
      by_cases h16 : 16 < convLen n ka kb
      · have e0 : convK n kd ka kb = 0 := by simp [convK, hr, hzB, h16]
        have e1 : Hid (convE n kd ka kb = 2) := by show _ = _; simp [convE, hr, hzB, h16]
        have e2 : Hid (convC c n kd ka kb = c) := by show _ = _; simp [convC, e0]
        have e3 : Hid (convN n kd ka kb = n) := by show _ = _; simp [convN, e0]
        have e4 : Hid (convW n wk kd ka kb = wk) := by show _ = _; simp [convW, e0]
        rw [unhide e1, unhide e2, unhide e3, unhide e4]
        have g1 : (16 : Int) < ((convLen n ka kb : Nat) : Int) := by omega
        generalize convLen n ka kb = L at *
        clear e0 e1 e2 e3 e4 hr hzB I R h16 hz
        generalize n ka = ma at *
        generalize n kb = mb at *
        clear hL
        unfold ptr repPost
        go_enter Try.func20, Try.ntmps20
        go_wp2_with fail
        refine hc.mono ?_
        rintro e w' ⟨rfl, hw'⟩
        subst hw'
        go_wp2
        go_quiet (fail)
        go_wp2
        go_ret
        exact ⟨rfl, (Chg.refl _ _).drewN _, (unhide RH).quiet ((Chg.refl _ _).drewN _)⟩
      · have e0 : convK n kd ka kb = 2 := by simp [convK, hr, hzB, h16]
        have e1 : Hid (convE n kd ka kb = 0) := by show _ = _; simp [convE, hr, hzB, h16]
        have e2 : Hid (convC c n kd ka kb = win c (16 * kd) (convLen n ka kb) (prodP (ceilP (convLen n ka kb)) (padF c n ka) (padF c n kb))) := by show _ = _; simp [convC, e0]
        have e3 : Hid (convN n kd ka kb = updN n kd (convLen n ka kb)) := by show _ = _; simp [convN, e0]
        have e4 : Hid (convW n wk kd ka kb = 3 * (ceilP (convLen n ka kb) * (2 ^ ceilP (convLen n ka kb) / 2)) + 2 * 2 ^ ceilP (convLen n ka kb)) := by show _ = _; simp [convW, e0]
        have g1 : ¬ (16 : Int) < ((convLen n ka kb : Nat) : Int) := by omega
        have hcl := fun W => ceilLog_any W (convLen n ka kb) (by omega)
        have hK4 := ceil_le (convLen n ka kb)
        have hfit := ceil_fit (convLen n ka kb) (by omega)
        rw [unhide e1, unhide e2, unhide e3, unhide e4]
        have hLH := hide hL
        generalize convLen n ka kb = L at *
        generalize ceilP L = K at *
        clear e0 e1 e2 e3 e4 hr hzB I R hL
        have hclH := hide hcl
        have hkH := hide (⟨h16, hz, hK4, hfit⟩ : _ ∧ _ ∧ _ ∧ _)
        clear hcl h16 hz hK4 hfit
        unfold ptr repPost
        go_enter Try.func20, Try.ntmps20
        go_wp2_with fail
        refine hc.mono ?_
        rintro e w' ⟨rfl, hw'⟩
        subst hw'
        go_wp2
        go_quiet (fail)
        go_wp2_with fail
        refine (unhide hclH _).mono ?_
        rintro e w' ⟨rfl, hw'⟩
        subst hw'
        go_wp2
        have eN := shl_pow K (unhide hkH).2.2.1
        have hN16 := pow_16 K (unhide hkH).2.2.1
        simp only [eN]
        clear eN
        generalize hN : 2 ^ K = N at *
        have hNH := hide hN
        clear hN
        have hmk : ∀ W : World, (Instr.makeSlice 41 (.int .i64 N) (.int .i64 N)).run Try.prog W = .ok (.slice (some ⟨W.heap.size, 0, none⟩) N N) (W.alloc (.cells (ints .u64 (fun _ => 0) N).toArray 42)) := fun W => make41k W N hN16
        generalize hF : (ints .u64 (fun _ => 0) N).toArray = F at hmk
        have hFH := hide hF
        clear hF
        have R1 : Hid (Rep ((w'.drewN nq).setCell ⟨x, 25, none⟩ (.int .i64 0)) x v c n 0) := by
          have B0 := ((unhide RH).own.drewN nq).set 25 (.int .i64 0)
          rw [tabC, set_wk] at B0
          exact ⟨B0, ((unhide RH).row.drewN nq).set_other (a := ⟨x, 25, none⟩) (Ne.symm (unhide RH).xv) _, (unhide RH).xv⟩
        have C1 : Hid (Chg (own x v) w' ((w'.drewN nq).setCell ⟨x, 25, none⟩ (.int .i64 0))) := ((Chg.refl _ w').drewN nq).setCell (p := ⟨x, 25, none⟩) (.inl (.inl rfl)) _
        have CVm := hide (CV.made (unhide R1) (unhide C1) (unhide RH).own.lt (unhide RH).row.lt N F (unhide hFH).symm)
        clear ca cb cd fd c25 f25 z1 z2 z1b z2b eL g1 a0 a3 b0 b3 d0 d3 hna hnb hc
        generalize (w'.drewN nq).setCell ⟨x, 25, none⟩ (.int .i64 0) = W1 at *
        go_cut [11, 12] (fun fa fb wx => Cut11 w' x v N c n fa fb wx)
        case first =>
          go_region_law (fail)
          all_goals
            go_wp2
            go_meet
            case rel => first | exact ⟨_, _, rfl, rfl, (unhide CVm).quiet ((Chg.refl _ _).drew)⟩ | exact ⟨_, _, rfl, rfl, (unhide CVm).symm.quiet ((Chg.refl _ _).drew)⟩
        case rest =>
          clear CVm R1 C1 hFH hmk
          obtain ⟨a, b, rfl, rfl, C⟩ := hcut
          have hfacts := hide (⟨by have := (unhide hkH).1; omega, (unhide hkH).2.2.1, (unhide hkH).2.2.2, by have := unhide hLH; have := (unhide hkH).2.1; have := (unhide hkH).2.2.2; omega, by have := unhide hLH; have := (unhide hkH).2.1; have := (unhide hkH).2.2.2; omega, (unhide IH).n ka ha, (unhide IH).n kb hb, hN16, hd⟩ : L ≤ 16 ∧ K ≤ 4 ∧ L ≤ N ∧ n ka ≤ N ∧ n kb ≤ N ∧ n ka ≤ 16 ∧ n kb ≤ 16 ∧ N ≤ 16 ∧ kd < 3)
          have hpa := hide (padF_in (unhide IH) ka ha N)
          have hpb := hide (padF_in (unhide IH) kb hb N)
          have haH := hide ha
          have hbH := hide hb
          clear hkH hLH hclH hN16 ha hb hd
          have h37 : Hid (∀ W f g, CV w' W x v a b N c n 0 f g → Calls Try.prog 37 #[.pointer (some ⟨x, 0, none⟩), .int .i64 ka] W fun e w' => e = .returned (.slice (some ⟨v, 16 * ka, none⟩) (n ka) (48 - 16 * ka)) ∧ Quiet W w') := fun W f g C => rreg_any W x v c n 0 C.rep ka (unhide haH) (unhide hfacts).2.2.2.2.2.1
          have h37b : Hid (∀ W f g, CV w' W x v a b N c n 0 f g → Calls Try.prog 37 #[.pointer (some ⟨x, 0, none⟩), .int .i64 kb] W fun e w' => e = .returned (.slice (some ⟨v, 16 * kb, none⟩) (n kb) (48 - 16 * kb)) ∧ Quiet W w') := fun W f g C => rreg_any W x v c n 0 C.rep kb (unhide hbH) (unhide hfacts).2.2.2.2.2.2.1
          have CH := hide C
          clear C
          go_wp2_with fail
          refine (unhide h37 _ _ _ (unhide CH)).mono ?_
          rintro e w2 ⟨rfl, q2⟩
          have C2 := (unhide CH).quiet q2
          have hcp := copyG w2 a 0 N N v (16 * ka) (n ka) (48 - 16 * ka) _ c N 48 (unhide hfacts).2.2.2.1 (by have := (unhide hfacts).2.2.2.1; omega) (by have := (unhide hfacts).2.2.2.2.2.1; have := unhide haH; omega) C2.ra C2.rep.row
          have C3 : Hid (CV w' (w2.setCells a 0 (ints .u64 (fun p => c (16 * ka + p)) (n ka))) x v a b N c n 0 (padF c n ka) (fun _ => 0)) := C2.copyA (fun p => c (16 * ka + p)) (n ka) (unhide hfacts).2.2.2.1
          clear C2 CH q2 h37
          generalize w2.setCells a 0 (ints .u64 (fun p => c (16 * ka + p)) (n ka)) = W3 at *
          go_wp2_with fail
          refine (unhide h37b _ _ _ (unhide C3)).mono ?_
          clear hcp
          rintro e w4 ⟨rfl, q4⟩
          have C4 := ((unhide C3).quiet q4).symm
          have hcp := copyG w4 b 0 N N v (16 * kb) (n kb) (48 - 16 * kb) _ c N 48 (unhide hfacts).2.2.2.2.1 (by have := (unhide hfacts).2.2.2.2.1; omega) (by have := (unhide hfacts).2.2.2.2.2.2.1; have := unhide hbH; omega) C4.ra C4.rep.row
          have C5 : Hid (CV w' (w4.setCells b 0 (ints .u64 (fun p => c (16 * kb + p)) (n kb))) x v b a N c n 0 (padF c n kb) (padF c n ka)) := C4.copyA (fun p => c (16 * kb + p)) (n kb) (unhide hfacts).2.2.2.2.1
          clear C4 C3 q4 h37b
          generalize w4.setCells b 0 (ints .u64 (fun p => c (16 * kb + p)) (n kb)) = W5 at *
          generalize hfa : padF c n ka = fa at *
          generalize hfb : padF c n kb = fb at *
          have hfaH := hide hfa
          have hfbH := hide hfb
          clear hfa hfb
          have t1 := hide ((unhide C5).symm.trN (unhide hNH) (unhide hfacts).2.1 (unhide hpa) (by omega) false N)
          clear C5
          go_wp2_with fail
          refine (unhide t1).mono ?_
          clear hcp t1
          rintro e W6 ⟨rfl, C6, hya⟩
          have hyaH := hide hya
          have t1 := hide (C6.symm.trN (unhide hNH) (unhide hfacts).2.1 (unhide hpb) (by have := work_le K N (unhide hfacts).2.1 (unhide hfacts).2.2.2.2.2.2.2.1; simp; omega) false N)
          clear C6 hya
          go_wp2_with fail
          refine (unhide t1).mono ?_
          clear t1
          rintro e W7 ⟨rfl, C7, hyb⟩
          have hybH := hide hyb
          clear hyb
          have C7H : Hid (CV w' W7 x v a b N c n (2 * (K * (N / 2))) (netP K false fa) (netP K false fb)) := by
            have h := C7.symm
            rw [show 0 + K * (N / 2) + (if false = true then N else 0) + K * (N / 2) + (if false = true then N else 0) = 2 * (K * (N / 2)) by simp; omega] at h
            exact h
          clear C7
          have hwkH : Hid (2 * (K * (N / 2)) ≤ 64) := by have := work_le K N (unhide hfacts).2.1 (unhide hfacts).2.2.2.2.2.2.2.1; show _ ≤ _; omega
          generalize hprod : prodP K fa fb = PR at *
          have hprodH : Hid (netP K true (fun j => netP K false fa j * netP K false fb j % pP) = PR) := hprod
          have hprod2 := hide hprod
          clear hprod
          generalize netP K false fa = ya at *
          generalize netP K false fb = yb at *
          have h16H : Hid (N ≤ 16) := (unhide hfacts).2.2.2.2.2.2.2.1
          go_wp2
          go_loopw [86] (fun z wr => ∃ i : Nat, i ≤ N ∧ z = .int .i64 i ∧ CV w' wr x v a b N c n (2 * (K * (N / 2)) + i) (mulP ya yb i) yb) (fun z _ => N + 1 - (intOf z).toNat)
          case atStart => exact ⟨0, by omega, rfl, by rw [mulP_zero]; exact unhide C7H⟩
          case round =>
            clear C7H
            obtain ⟨i, hi, rfl, C⟩ := hrel
            by_cases hlt : i < N
            · have g1 : (i : Int) < (N : Int) := by omega
              have i0 : (0 : Int) ≤ (i : Int) := by omega
              have c1 := C.ra.cell i
              rw [ints_get _ _ _ _ hlt, mulP_at] at c1
              have c2 := C.rb.cell i
              rw [ints_get _ _ _ _ hlt] at c2
              have f1 := C.ra.frozen i
              have nax := C.nax
              have hmul : Hid (∀ nq, Calls Try.prog 15 #[.pointer (some ⟨x, 0, none⟩), .int .u64 (ya i), .int .u64 (yb i)] (wr.drewN nq) fun e w' => e = .returned (.int .u64 (ya i * yb i % pP)) ∧ w' = (wr.drewN nq).setCell ⟨x, 25, none⟩ (.int .i64 (((2 * (K * (N / 2)) + i : Nat) : Int) + 1))) := fun nq =>
                mul_any (wr.drewN nq) x v _ _ _ _ _ (C.rep.own.drewN nq) (by have := unhide hwkH; have := unhide h16H; omega) _ _ (unhide hyaH i hlt) (unhide hybH i hlt)
              have CN : Hid (∀ nq, CV w' (((wr.drewN nq).setCell ⟨x, 25, none⟩ (.int .i64 (((2 * (K * (N / 2)) + i : Nat) : Int) + 1))).setCell ⟨a, i, none⟩ (.int .u64 (ya i * yb i % pP))) x v a b N c n (2 * (K * (N / 2)) + (i + 1)) (mulP ya yb (i + 1)) yb) := fun nq => by
                have h := C.mulset nq i hlt (ya i * yb i % pP)
                rw [mulP_next] at h
                exact h
              have wi : wrap64 ((i : Int) + 1) = (i : Int) + 1 := by have := unhide h16H; unfold wrap64; omega
              have hltH := hide hlt
              clear C hi hlt
              generalize ((2 * (K * (N / 2)) + i : Nat) : Int) = wkk at *
              generalize ya i * yb i % pP = zz at *
              generalize ya i = yai at *
              generalize yb i = ybi at *
              go_wp2
              refine wp_region_noPanic ?_
              try simp only [List.append_eq, List.cons_append, List.nil_append]
              refine wp_region_mix [(0, false), (1, false), (2, true), (3, true), (4, true), (5, true), (6, true), (7, true), (8, true), (9, true), (10, true)] [11, 12, 13] (by kernel_rfl) (by kernel_rfl) (fun _ _ _ _ _ h => h) ?_
              simp only [pickM, pickO, List.getElem?_cons_zero, List.getElem?_cons_succ]
              repeat (first | (refine wpMix_read rfl (fun K hK => ?_)) | (refine wpMix_pure rfl (fun K hK => ?_))
                      go_big_quiet_op
                      first | (refine hK _ ?_; clear hK K))
              refine wpMix_nil ?_
              intro _ hw'
              obtain ⟨nq, hw''⟩ := hw'
              subst hw''
              go_wp2_with fail
              refine (unhide hmul nq).mono ?_
              rintro e w5 ⟨rfl, hw5⟩
              subst hw5
              have CNq := hide (unhide CN nq)
              clear hmul CN
              go_wp2
              refine NoPanic.normal ?_
              generalize ((wr.drewN nq).setCell ⟨x, 25, none⟩ (.int .i64 (wkk + 1))).setCell ⟨a, i, none⟩ (.int .u64 zz) = W9 at *
              go_wp2
              go_roundw
              case rel => exact ⟨i + 1, unhide hltH, by simp; exact wi, unhide CNq⟩
              case measure =>
                have h := unhide hltH
                show N + 1 - (intOf (.int .i64 (wrap64 ((i : Int) + 1)))).toNat < N + 1 - (intOf (.int .i64 (i : Int))).toNat
                exact meas_next h wi
            · have g1 : ¬ (i : Int) < (N : Int) := by omega
              obtain rfl : i = N := by omega
              have C8 := hide (C.congr (f' := fun j => ya j * yb j % pP) (fun p hp => by simp [mulP, hp]))
              clear C hlt hi
              have t1 := hide ((unhide C8).trN (unhide hNH) (unhide hfacts).2.1 (fun p _ => emod_in _) (by have := unhide hwkH; have := unhide h16H; omega) true i)
              clear C8
              rw [unhide hprodH] at t1
              go_wp2_with fail
              refine (unhide t1).mono ?_
              clear t1
              rintro e W8 ⟨rfl, C9, hz9⟩
              clear hz9
              have C9H : CV w' W8 x v a b i c n (3 * (K * (i / 2)) + 2 * i) PR yb := by
                have e : 2 * (K * (i / 2)) + i + K * (i / 2) + i = 3 * (K * (i / 2)) + 2 * i := by omega
                rw [← e]
                simpa using C9
              clear C9
              have hL16 := (unhide hfacts).1
              have hLi := (unhide hfacts).2.2.1
              have hd := (unhide hfacts).2.2.2.2.2.2.2.2
              have hfin : Hid (∀ m, _) := fun m => ((C9H.quiet ((Chg.refl _ _).drewN m)).fin kd L hd hL16)
              have hcpH : Hid (∀ m, (Builtin.copy_ #[41, 41] 3 #[.slice (some ⟨v, 16 * kd, none⟩) (48 - 16 * kd) (48 - 16 * kd), .slice (some ⟨a, 0, none⟩) L i]).run Try.prog (W8.drewN m) = .ok (.int .i64 L) ((W8.drewN m).setCells v (16 * kd) (ints .u64 PR L))) := fun m => by
                have h := copyG (W8.drewN m) v (16 * kd) (48 - 16 * kd) (48 - 16 * kd) a 0 L i c PR 48 i (by omega) (by omega) (by omega) (C9H.rep.row.drewN m) (C9H.ra.drewN m)
                simp only [Nat.zero_add] at h
                exact h
              have c0 := C9H.rep.hd
              have l0 : (0 : Int) ≤ (L : Int) := by omega
              have li : (L : Int) ≤ (i : Int) := by omega
              have cnH : Hid (∀ m, ((W8.drewN m).setCells v (16 * kd) (ints .u64 PR L)).cell? ⟨x, 1 + kd, none⟩ = some (.int .i64 (n kd))) := fun m =>
                (((C9H.rep.own.drewN m).setCells_other C9H.rep.xv (ints .u64 PR L) (16 * kd)).cell (1 + kd)).trans (bench_n _ _ _ _ _ _ kd hd)
              have fxH : Hid (∀ m, _) := fun m => ((C9H.rep.own.drewN m).setCells_other C9H.rep.xv (ints .u64 PR L) (16 * kd)).frozen (1 + kd)
              clear C9H hfacts hwkH h16H hL16 hLi hprodH hpa hpb haH hbH hyaH hybH RH IH
              generalize n kd = mm at *
              rcases (by omega : kd = 0 ∨ kd = 1 ∨ kd = 2) with rfl | rfl | rfl
              · clear hd
                go_wp2
                refine wp_region_noPanic ?_
                try simp only [List.append_eq, List.cons_append, List.nil_append]
                refine wp_region_mix [(0, true), (1, true), (2, true), (3, true), (4, true), (5, true), (6, true), (7, true), (8, true), (9, true)] [10] (by kernel_rfl) (by kernel_rfl) (fun _ _ _ _ _ h => h) ?_
                simp only [pickM, pickO, List.getElem?_cons_zero, List.getElem?_cons_succ]
                repeat (first | (refine wpMix_read rfl (fun K hK => ?_)) | (refine wpMix_pure rfl (fun K hK => ?_))
                        go_big_quiet_op
                        first | (refine hK _ ?_; clear hK K))
                refine wpMix_nil ?_
                intro _ hw'
                obtain ⟨nq, hw''⟩ := hw'
                subst hw''
                have hcp := unhide hcpH nq
                have cn := unhide cnH nq
                have fx := unhide fxH nq
                have fin := hide (unhide hfin nq)
                simp only [Nat.mul_zero, Nat.sub_zero, Nat.add_zero] at hcp cn fx fin
                clear hcpH cnH fxH hfin c0
                generalize (W8.drewN nq).setCells v 0 (ints .u64 PR L) = W9 at *
                go_wp2
                refine NoPanic.normal ?_
                clear hcp
                go_wp2
                go_ret
                exact ⟨rfl, (unhide fin).1, by rw [unhide hNH, unhide hfaH, unhide hfbH, unhide hprod2]; exact (unhide fin).2⟩
              · clear hd
                go_wp2
                refine wp_region_noPanic ?_
                try simp only [List.append_eq, List.cons_append, List.nil_append]
                refine wp_region_mix [(0, true), (1, true), (2, true), (3, true), (4, true), (5, true), (6, true), (7, true), (8, true), (9, true)] [10] (by kernel_rfl) (by kernel_rfl) (fun _ _ _ _ _ h => h) ?_
                simp only [pickM, pickO, List.getElem?_cons_zero, List.getElem?_cons_succ]
                repeat (first | (refine wpMix_read rfl (fun K hK => ?_)) | (refine wpMix_pure rfl (fun K hK => ?_))
                        go_big_quiet_op
                        first | (refine hK _ ?_; clear hK K))
                refine wpMix_nil ?_
                intro _ hw'
                obtain ⟨nq, hw''⟩ := hw'
                subst hw''
                have hcp := unhide hcpH nq
                have cn := unhide cnH nq
                have fx := unhide fxH nq
                have fin := hide (unhide hfin nq)
                simp only [Nat.reduceMul, Nat.reduceSub, Nat.reduceAdd] at hcp cn fx fin
                clear hcpH cnH fxH hfin c0
                generalize (W8.drewN nq).setCells v 16 (ints .u64 PR L) = W9 at *
                go_wp2
                refine NoPanic.normal ?_
                clear hcp
                go_wp2
                go_ret
                exact ⟨rfl, (unhide fin).1, by rw [unhide hNH, unhide hfaH, unhide hfbH, unhide hprod2]; exact (unhide fin).2⟩
              · clear hd
                go_wp2
                refine wp_region_noPanic ?_
                try simp only [List.append_eq, List.cons_append, List.nil_append]
                refine wp_region_mix [(0, true), (1, true), (2, true), (3, true), (4, true), (5, true), (6, true), (7, true), (8, true), (9, true)] [10] (by kernel_rfl) (by kernel_rfl) (fun _ _ _ _ _ h => h) ?_
                simp only [pickM, pickO, List.getElem?_cons_zero, List.getElem?_cons_succ]
                repeat (first | (refine wpMix_read rfl (fun K hK => ?_)) | (refine wpMix_pure rfl (fun K hK => ?_))
                        go_big_quiet_op
                        first | (refine hK _ ?_; clear hK K))
                refine wpMix_nil ?_
                intro _ hw'
                obtain ⟨nq, hw''⟩ := hw'
                subst hw''
                have hcp := unhide hcpH nq
                have cn := unhide cnH nq
                have fx := unhide fxH nq
                have fin := hide (unhide hfin nq)
                simp only [Nat.reduceMul, Nat.reduceSub, Nat.reduceAdd] at hcp cn fx fin
                clear hcpH cnH fxH hfin c0
                generalize (W8.drewN nq).setCells v 32 (ints .u64 PR L) = W9 at *
                go_wp2
                refine NoPanic.normal ?_
                clear hcp
                go_wp2
                go_ret
                exact ⟨rfl, (unhide fin).1, by rw [unhide hNH, unhide hfaH, unhide hfbH, unhide hprod2]; exact (unhide fin).2⟩
end Go.Proofs.Qxb6500368a
