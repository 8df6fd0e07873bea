/-
  THE MODEL: marks. (gen70mm.py)
-/
import Derived.Test.Qxb6500370aMarks
namespace Go.Proofs.Qxb6500370a
open Go.RowKit Go.Qx Go.Qx.Mk
set_option linter.unusedVariables false
set_option linter.unusedSimpArgs false

/-- A model's word: five ints. -/
def ic (s : Nat → Int) : List Value := [.int .i64 (s 0), .int .i64 (s 1), .int .i64 (s 2), .int .i64 (s 3), .int .i64 (s 4)]
theorem ic_get (s : Nat → Int) (i : Nat) (h : i < 5) : (ic s)[i]? = some (.int .i64 (s i)) := by
  rcases (by omega : i = 0 ∨ i = 1 ∨ i = 2 ∨ i = 3 ∨ i = 4) with rfl | rfl | rfl | rfl | rfl <;> rfl
def updF (s : Nat → Int) (p : Nat) (v : Int) : Nat → Int := fun q => if q = p then v else s q
theorem ic_set (s : Nat → Int) (p : Nat) (v : Int) (hp : p < 5) : (ic s).set p (.int .i64 v) = ic (updF s p v) :=
  row5_set (fun q => .int .i64 (s q)) (fun q => .int .i64 (updF s p v q)) p _ hp (by unfold updF; rw [if_pos rfl]) (fun q _ hne => by unfold updF; rw [if_neg hne])
/-- The secret with the matched places struck out. -/
def strk (s t : Nat → Int) (i : Nat) : Nat → Int := fun p => if p < i ∧ t p = s p then -1 else s p

structure N1 (w wr : World) (s t : Nat → Int) (i : Nat) : Prop where
  q : Quiet w wr
  bs : Blk wr w.heap.size 83 (ic (strk s t i))
  bt : Blk wr (w.heap.size + 1) 83 (ic t)
  bm : Blk wr (w.heap.size + 1 + 1) 5 (row5 (oneB s t i))
structure N2 (w wr : World) (s t : Nat → Int) (i : Nat) : Prop where
  q : Quiet w wr
  bs : ∃ σ, Blk wr w.heap.size 83 (ic σ) ∧ ∀ c, 0 ≤ c → occ σ c 5 = lf s t c 5 - min (ng s t c i) (lf s t c 5)
  bm : Blk wr (w.heap.size + 1 + 1) 5 (row5 (twoB s t i))

theorem oneB_next (s t : Nat → Int) (i : Nat) (v : Value) (hi : i < 5) (hv : v = if t i = s i then .int .u8 103 else .int .u8 45) : (row5 (oneB s t i)).set i v = row5 (oneB s t (i + 1)) :=
  row5_set _ (oneB s t (i + 1)) i _ hi (by unfold oneB; rw [if_pos (show i < i + 1 by omega), hv]) (fun q hq hne => by
    unfold oneB
    by_cases e : q < i
    · rw [if_pos e, if_pos (show q < i + 1 by omega)]
    · rw [if_neg e, if_neg (show ¬ q < i + 1 by omega)])
theorem strk_next (s t : Nat → Int) (i : Nat) (h : t i = s i) : updF (strk s t i) i (-1) = strk s t (i + 1) := by
  funext q
  unfold updF strk
  by_cases e : q = i
  · subst e; rw [if_pos rfl, if_pos ⟨by omega, h⟩]
  · rw [if_neg e]
    by_cases h1 : q < i ∧ t q = s q
    · rw [if_pos h1, if_pos ⟨by omega, h1.2⟩]
    · rw [if_neg h1, if_neg (fun x => h1 ⟨by omega, x.2⟩)]
theorem strk_stay (s t : Nat → Int) (i : Nat) (h : ¬ t i = s i) : strk s t i = strk s t (i + 1) := by
  funext q
  unfold strk
  by_cases h1 : q < i ∧ t q = s q
  · rw [if_pos h1, if_pos ⟨by omega, h1.2⟩]
  · rw [if_neg h1, if_neg (fun x => h1 ⟨by
      by_cases e : q = i
      · subst e; exact absurd x.2 h
      · omega, x.2⟩)]
theorem N1.two {w wr : World} {s t : Nat → Int} (h : N1 w wr s t 5) : N2 w wr s t 0 := by
  refine ⟨h.q, ⟨strk s t 5, h.bs, fun c hc => ?_⟩, h.bm⟩
  show occ (strk s t 5) c 5 = lf s t c 5 - min 0 (lf s t c 5)
  rw [Nat.zero_min, Nat.sub_zero]
  unfold occ lf
  refine cnt_congr 5 (fun q hq => ?_)
  unfold strk
  by_cases e : t q = s q
  · rw [if_pos ⟨hq, e⟩, beq_iff_eq.2 e]
    have : ((-1 : Int) == c) = false := beq_eq_false_iff_ne.2 (by omega)
    rw [this]; rfl
  · rw [if_neg (fun x => e x.2), beq_eq_false_iff_ne.2 e]; rfl

theorem two_stay (s t : Nat → Int) (i : Nat) (hv : u8 (markB (Mk.mark 5 s t i)) = if t i = s i then .int .u8 103 else .int .u8 45) : row5 (twoB s t i) = row5 (twoB s t (i + 1)) := by
  have h1 : ∀ q, twoB s t i q = twoB s t (i + 1) q := fun q => by
    unfold twoB
    by_cases e : q < i
    · rw [if_pos e, if_pos (show q < i + 1 by omega)]
    · by_cases e2 : q = i
      · subst e2
        rw [if_neg e, if_pos (show q < q + 1 by omega), hv]
      · rw [if_neg e, if_neg (show ¬ q < i + 1 by omega)]
  unfold row5
  rw [h1, h1, h1, h1, h1]
theorem N2.green {w wr : World} {s t : Nat → Int} {i : Nat} (h : N2 w wr s t i) (he : t i = s i) : N2 w wr s t (i + 1) := by
  obtain ⟨σ, b, hσ⟩ := h.bs
  have hm : Mk.mark 5 s t i = 0 := mark_zero.2 he
  refine ⟨h.q, ⟨σ, b, fun c hc => ?_⟩, ?_⟩
  · rw [hσ c hc, ng_succ, beq_iff_eq.2 he]; simp
  · rw [← two_stay s t i (by rw [hm, if_pos he]; rfl)]; exact h.bm
theorem N2.grey {w wr : World} {s t : Nat → Int} {i : Nat} (h : N2 w wr s t i) (he : ¬ t i = s i) (hl : ¬ ng s t (t i) i < lf s t (t i) 5) : N2 w wr s t (i + 1) := by
  obtain ⟨σ, b, hσ⟩ := h.bs
  have hm : Mk.mark 5 s t i = 2 := by unfold Mk.mark; rw [if_neg he, if_neg hl]
  refine ⟨h.q, ⟨σ, b, fun c hc => ?_⟩, ?_⟩
  · rw [hσ c hc, ng_succ, beq_eq_false_iff_ne.2 he]
    by_cases e : t i = c
    · subst e; simp; omega
    · rw [beq_eq_false_iff_ne.2 e]; simp
  · rw [← two_stay s t i (by rw [hm, if_neg he]; rfl)]; exact h.bm

theorem occM_upd (σ : Nat → Int) (p : Nat) (c : Int) (hc : 0 ≤ c) : ∀ n, p < n → occ (updF σ p (-1)) c n + (if σ p = c then 1 else 0) = occ σ c n
  | 0, h => by omega
  | n + 1, h => by
    have e1 : ∀ f : Nat → Int, occ f c (n + 1) = occ f c n + (if f n == c then 1 else 0) := fun f => rfl
    rw [e1, e1]
    by_cases e : p = n
    · subst e
      have e2 : occ (updF σ p (-1)) c p = occ σ c p := cnt_congr p (fun q hq => by unfold updF; rw [if_neg (by omega)])
      have e3 : updF σ p (-1) p = -1 := by unfold updF; rw [if_pos rfl]
      have e4 : ((-1 : Int) == c) = false := beq_eq_false_iff_ne.2 (by omega)
      rw [e2, e3, e4]
      by_cases e5 : σ p = c
      · rw [if_pos e5, beq_iff_eq.2 e5]; simp
      · rw [if_neg e5, beq_eq_false_iff_ne.2 e5]; simp
    · have ih := occM_upd σ p c hc n (by omega)
      have e3 : updF σ p (-1) n = σ n := by unfold updF; rw [if_neg (fun x => e x.symm)]
      rw [e3]; omega

/-- The place q of the copy bears the letter: it is struck. -/
theorem N2.yellow {w wr w' : World} {s t σ : Nat → Int} {i q : Nat} (h : Quiet w wr) (hb : Blk wr w.heap.size 83 (ic σ)) (hσ : ∀ c, 0 ≤ c → occ σ c 5 = lf s t c 5 - min (ng s t c i) (lf s t c 5)) (hm5 : Blk wr (w.heap.size + 1 + 1) 5 (row5 (twoB s t i))) (hi : i < 5) (hq : q < 5) (he : ¬ t i = s i) (ht : 0 ≤ t i) (hs : σ q = t i)
    (e : w' = (wr.setCell ⟨w.heap.size + 1 + 1, i, none⟩ (.int .u8 121)).setCell ⟨w.heap.size, q, none⟩ (.int .i64 (-1))) : N2 w w' s t (i + 1) := by
  subst e
  have hl : ng s t (t i) i < lf s t (t i) 5 := by
    have h1 : 0 < occ σ (t i) 5 := by
      have := cnt_pos (f := fun x => σ x == t i) hq (by simp [hs])
      unfold occ; omega
    rw [hσ _ ht] at h1; omega
  have hm : Mk.mark 5 s t i = 1 := by unfold Mk.mark; rw [if_neg he, if_pos hl]
  refine ⟨Chg.setCell (Chg.setCell h (p := ⟨w.heap.size + 1 + 1, i, none⟩) (.inr (by show w.heap.size ≤ w.heap.size + 1 + 1; omega)) _) (p := ⟨w.heap.size, q, none⟩) (.inr (Nat.le_refl _)) _, ⟨updF σ q (-1), ?_, fun c hc => ?_⟩, ?_⟩
  · have := (hb.set_other (a := ⟨w.heap.size + 1 + 1, i, none⟩) (by show w.heap.size ≠ w.heap.size + 1 + 1; omega) (.int .u8 121)).set q (.int .i64 (-1))
    rwa [ic_set σ q (-1) hq] at this
  · have h1 := occM_upd σ q c hc 5 hq
    rw [hσ c hc, hs] at h1
    rw [ng_succ, beq_eq_false_iff_ne.2 he]
    by_cases e : t i = c
    · subst e
      rw [if_pos rfl] at h1
      simp; omega
    · rw [if_neg e] at h1
      rw [beq_eq_false_iff_ne.2 e]
      simp; omega
  · have := (hm5.set i (.int .u8 121)).set_other (a := ⟨w.heap.size, q, none⟩) (by show w.heap.size + 1 + 1 ≠ w.heap.size; omega) (.int .i64 (-1))
    rwa [row5_set _ (twoB s t (i + 1)) i _ hi (by unfold twoB; rw [if_pos (show i < i + 1 by omega), hm]; rfl) (fun q hq hne => by
      unfold twoB
      by_cases e : q < i
      · rw [if_pos e, if_pos (show q < i + 1 by omega)]
      · rw [if_neg e, if_neg (show ¬ q < i + 1 by omega)])] at this

theorem N1.next {w wr : World} {s t : Nat → Int} {i : Nat} (h : N1 w wr s t i) (hi : i < 5) : (t i = s i → N1 w (((wr.setCell ⟨w.heap.size + 1 + 1, i, none⟩ (.int .u8 45)).setCell ⟨w.heap.size + 1 + 1, i, none⟩ (.int .u8 103)).setCell ⟨w.heap.size, i, none⟩ (.int .i64 (-1))) s t (i + 1)) ∧ (¬ t i = s i → N1 w (wr.setCell ⟨w.heap.size + 1 + 1, i, none⟩ (.int .u8 45)) s t (i + 1)) := by
  constructor
  · intro he
    refine ⟨Chg.setCell (Chg.setCell (Chg.setCell h.q (p := ⟨w.heap.size + 1 + 1, i, none⟩) (.inr (by show w.heap.size ≤ w.heap.size + 1 + 1; omega)) _) (p := ⟨w.heap.size + 1 + 1, i, none⟩) (.inr (by show w.heap.size ≤ w.heap.size + 1 + 1; omega)) _) (p := ⟨w.heap.size, i, none⟩) (.inr (Nat.le_refl _)) _, ?_, ?_, ?_⟩
    · have := ((h.bs.set_other (a := ⟨w.heap.size + 1 + 1, i, none⟩) (by show w.heap.size ≠ w.heap.size + 1 + 1; omega) (.int .u8 45)).set_other (a := ⟨w.heap.size + 1 + 1, i, none⟩) (by show w.heap.size ≠ w.heap.size + 1 + 1; omega) (.int .u8 103)).set i (.int .i64 (-1))
      rwa [ic_set _ i (-1) hi, strk_next s t i he] at this
    · exact ((h.bt.set_other (a := ⟨w.heap.size + 1 + 1, i, none⟩) (by show w.heap.size + 1 ≠ w.heap.size + 1 + 1; omega) _).set_other (a := ⟨w.heap.size + 1 + 1, i, none⟩) (by show w.heap.size + 1 ≠ w.heap.size + 1 + 1; omega) _).set_other (a := ⟨w.heap.size, i, none⟩) (by show w.heap.size + 1 ≠ w.heap.size; omega) _
    · have := ((h.bm.set i (.int .u8 45)).set i (.int .u8 103)).set_other (a := ⟨w.heap.size, i, none⟩) (by show w.heap.size + 1 + 1 ≠ w.heap.size; omega) (.int .i64 (-1))
      rwa [List.set_set, oneB_next s t i _ hi (by rw [if_pos he])] at this
  · intro he
    refine ⟨Chg.setCell h.q (p := ⟨w.heap.size + 1 + 1, i, none⟩) (.inr (by show w.heap.size ≤ w.heap.size + 1 + 1; omega)) _, ?_, h.bt.set_other (a := ⟨w.heap.size + 1 + 1, i, none⟩) (by show w.heap.size + 1 ≠ w.heap.size + 1 + 1; omega) _, ?_⟩
    · rw [← strk_stay s t i he]
      exact h.bs.set_other (a := ⟨w.heap.size + 1 + 1, i, none⟩) (by show w.heap.size ≠ w.heap.size + 1 + 1; omega) _
    · have := h.bm.set i (.int .u8 45)
      rwa [oneB_next s t i _ hi (by rw [if_neg he])] at this

/-- The search in the inner loop. -/
def Srch (w wv : World) (s t : Nat → Int) (i q : Nat) : Prop :=
  (Quiet w wv ∧ (∃ σ, Blk wv w.heap.size 83 (ic σ) ∧ (∀ c, 0 ≤ c → occ σ c 5 = lf s t c 5 - min (ng s t c i) (lf s t c 5)) ∧ ∀ x, x < q → σ x ≠ t i) ∧ Blk wv (w.heap.size + 1 + 1) 5 (row5 (twoB s t i)) ∧ ¬ t i = s i) ∨
  (N2 w wv s t (i + 1) ∧ wv.cell? ⟨w.heap.size + 1 + 1, i, none⟩ ≠ some (.int .u8 45) ∧ ∃ v : Int, v ≠ 45 ∧ wv.cell? ⟨w.heap.size + 1 + 1, i, none⟩ = some (.int .u8 v))

set_option maxHeartbeats 4000000 in
set_option maxRecDepth 100000 in
theorem marksM_any (w : World) (s t : Nat → Int) (ht : ∀ p, p < 5 → 0 ≤ t p) : Calls Try.prog 54 #[.agg (ic s).toArray, .agg (ic t).toArray] w fun e w' => e = .returned (.string (str (marksL s t))) ∧ Quiet w w' := by
  have hmk := make31
  have S0 : Hid (∀ W, W = (((w.alloc (.cells (ic s).toArray 83)).alloc (.cells (ic t).toArray 83)).alloc (.cells (row5 (fun _ => .int .u8 0)).toArray 5)) → N1 w W s t 0) := by
    rintro W rfl
    have h1 : ∀ (W : World) (o : Obj), (W.alloc o).heap.size = W.heap.size + 1 := fun W o => by simp
    have b2 := Blk.new (w.alloc (.cells (ic s).toArray 83)) 83 (ic t)
    have b3 := Blk.new ((w.alloc (.cells (ic s).toArray 83)).alloc (.cells (ic t).toArray 83)) 5 (row5 (fun _ => .int .u8 0))
    rw [h1] at b2
    rw [h1, h1] at b3
    have e0 : strk s t 0 = s := by funext q; unfold strk; rw [if_neg (fun x => by omega)]
    exact ⟨Chg.alloc (Chg.alloc (Chg.alloc (Chg.refl (fun _ => False) w) _) _) _, by rw [e0]; exact ((Blk.new w 83 (ic s)).alloc _).alloc _, b2.alloc _, b3⟩
  have e1 : (ic s).toArray = #[.int .i64 (s 0), .int .i64 (s 1), .int .i64 (s 2), .int .i64 (s 3), .int .i64 (s 4)] := rfl
  have e2 : (ic t).toArray = #[.int .i64 (t 0), .int .i64 (t 1), .int .i64 (t 2), .int .i64 (t 3), .int .i64 (t 4)] := rfl
  rw [e1, e2] at S0 ⊢
  have hix : Hid (∀ j : Nat, j < 5 → ∀ W, (Instr.index 83 (.agg #[.int .i64 (t 0), .int .i64 (t 1), .int .i64 (t 2), .int .i64 (t 3), .int .i64 (t 4)]) (.int .i64 (j : Int))).run Try.prog W = .ok (.int .i64 (t j)) W) := fun j hj W =>
    run_index_agg (P := Try.prog) W 83 3 5 Try.underlying83 Try.sizeOf3 Try.isAgg3 _ j hj _ (by have := ic_get t j hj; simpa [ic] using this)
  have htH := hide ht
  clear e1 e2 ht
  go_enter Try.func54, Try.ntmps54
  go_wp2
  generalize hW0 : (((w.alloc (.cells #[.int .i64 (s 0), .int .i64 (s 1), .int .i64 (s 2), .int .i64 (s 3), .int .i64 (s 4)] 83)).alloc (.cells #[.int .i64 (t 0), .int .i64 (t 1), .int .i64 (t 2), .int .i64 (t 3), .int .i64 (t 4)] 83)).alloc (.cells (row5 (fun _ => .int .u8 0)).toArray 5)) = W0 at *
  have S1 := hide (unhide S0 W0 rfl)
  clear hW0 S0 hmk
  go_loopw [13] (fun z wr => ∃ i : Nat, i ≤ 5 ∧ z = .int .i64 (i : Int) ∧ N1 w wr s t i) (fun z _ => 6 - (intOf z).toNat)
  case atStart => exact ⟨0, by omega, rfl, unhide S1⟩
  case round =>
    clear S1
    obtain ⟨i, hi, rfl, M⟩ := hrel
    by_cases hlt : i < 5
    · have k1 : (i : Int) < 5 := by omega
      have i0 : (0 : Int) ≤ (i : Int) := by omega
      have wi : wrap64 ((i : Int) + 1) = (i : Int) + 1 := wrap_small (i + 1) (by omega)
      have hxi := unhide hix i hlt
      have cm := (M.bm.cell i).trans (row5_get _ i hlt)
      have fm := M.bm.frozen i
      generalize oneB s t i i = ob at *
      have bs1 := M.bs.set_other (a := ⟨w.heap.size + 1 + 1, i, none⟩) (by show w.heap.size ≠ w.heap.size + 1 + 1; omega) (.int .u8 45)
      have bm1 := M.bm.set i (.int .u8 45)
      have hltH := hide hlt
      have es : strk s t i i = s i := by unfold strk; rw [if_neg (fun x => by omega)]
      have xs := (bs1.cell i).trans (ic_get _ i hlt)
      rw [es] at xs
      have nx := M.next hlt
      by_cases he : t i = s i
      · have MN := hide (nx.1 he)
        have cm1 : (wr.setCell ⟨w.heap.size + 1 + 1, i, none⟩ (.int .u8 45)).cell? ⟨w.heap.size + 1 + 1, i, none⟩ = some (.int .u8 45) := (bm1.cell i).trans (by rw [List.getElem?_set_self (by simp [row5]; omega)])
        have fm1 := bm1.frozen i
        have bs2 := bs1.set_other (a := ⟨w.heap.size + 1 + 1, i, none⟩) (by show w.heap.size ≠ w.heap.size + 1 + 1; omega) (.int .u8 103)
        have xs2 := (bs2.cell i).trans (ic_get _ i hlt)
        have fs2 := bs2.frozen i
        rw [es] at xs2
        rw [he] at hxi
        obtain ⟨W1, hW1⟩ : ∃ W, wr.setCell ⟨w.heap.size + 1 + 1, i, none⟩ (.int .u8 45) = W := ⟨_, rfl⟩
        rw [hW1] at xs cm1 fm1 xs2 fs2 MN
        obtain ⟨W2, hW2⟩ : ∃ W, W1.setCell ⟨w.heap.size + 1 + 1, i, none⟩ (.int .u8 103) = W := ⟨_, rfl⟩
        rw [hW2] at xs2 fs2 MN
        clear M nx bs1 bm1 bs2 es hi hlt he
        generalize s i = a at *
        go_wp2
        go_roundw
        case rel => exact ⟨i + 1, unhide hltH, by simp; try exact wi, unhide MN⟩
        case measure =>
          have h := unhide hltH
          first
            | exact meas5 h
            | (rw [wi]; exact meas5 h)
      · have MN := hide (nx.2 he)
        obtain ⟨W1, hW1⟩ : ∃ W, wr.setCell ⟨w.heap.size + 1 + 1, i, none⟩ (.int .u8 45) = W := ⟨_, rfl⟩
        rw [hW1] at xs MN
        have he2 : ¬ s i = t i := fun x => he x.symm
        clear M nx bs1 bm1 es hi hlt he
        generalize s i = a at *
        generalize t i = c at *
        go_wp2
        go_roundw
        case rel => exact ⟨i + 1, unhide hltH, by simp; try exact wi, unhide MN⟩
        case measure =>
          have h := unhide hltH
          first
            | exact meas5 h
            | (rw [wi]; exact meas5 h)
    · have k1 : ¬ (i : Int) < 5 := by omega
      obtain rfl : i = 5 := by omega
      have M2s := hide M.two
      have t0 := M.bt.cell 0
      have t1 := M.bt.cell 1
      have t2 := M.bt.cell 2
      have t3 := M.bt.cell 3
      have t4 := M.bt.cell 4
      simp [ic] at t0 t1 t2 t3 t4
      clear M hlt hi
      go_wp2
      clear t0 t1 t2 t3 t4
      go_loopw [32] (fun z wv => ∃ i : Nat, i ≤ 5 ∧ z = .int .i64 (i : Int) ∧ N2 w wv s t i) (fun z _ => 6 - (intOf z).toNat)
      case atStart => exact ⟨0, by omega, rfl, unhide M2s⟩
      case round =>
        clear M2s
        obtain ⟨i, hi, rfl, M⟩ := hrel
        by_cases hlt : i < 5
        · have k1 : (i : Int) < 5 := by omega
          have i0 : (0 : Int) ≤ (i : Int) := by omega
          have wi : wrap64 ((i : Int) + 1) = (i : Int) + 1 := wrap_small (i + 1) (by omega)
          have hxi := unhide hix i hlt
          have hltH := hide hlt
          have tp := hide (unhide htH i hlt)
          have start : Hid (Srch w wr s t i 0) := by
            by_cases he : t i = s i
            · refine .inr ⟨M.green he, ?_, 103, by decide, ?_⟩
              · rw [M.bm.cell i, row5_get _ i hlt]
                unfold twoB
                rw [if_neg (show ¬ i < i by omega), if_pos he]
                intro x; cases x
              · rw [M.bm.cell i, row5_get _ i hlt]
                unfold twoB
                rw [if_neg (show ¬ i < i by omega), if_pos he]
            · obtain ⟨σ, b, hσ⟩ := M.bs
              exact .inl ⟨M.q, ⟨σ, b, hσ, fun x hx => by omega⟩, M.bm, he⟩
          clear M hi hlt
          go_wp2
          go_loopw [10] (fun z wv => ∃ q : Nat, q ≤ 5 ∧ z = .int .i64 (q : Int) ∧ Srch w wv s t i q) (fun z _ => 6 - (intOf z).toNat)
          case atStart => exact ⟨0, by omega, rfl, unhide start⟩
          case round =>
            clear start
            obtain ⟨q, hq, rfl, Sr⟩ := hrel
            by_cases hq5 : q < 5
            · have j1 : (q : Int) < 5 := by omega
              have j0 : (0 : Int) ≤ (q : Int) := by omega
              have wj : wrap64 ((q : Int) + 1) = (q : Int) + 1 := wrap_small (q + 1) (by omega)
              have hq5H := hide hq5
              rcases Sr with ⟨Q, ⟨σ, b, hσ, hno⟩, bm, he⟩ | ⟨M, _, v, hv, cm⟩
              · have cm := (bm.cell i).trans (row5_get _ i (unhide hltH))
                have e0 : twoB s t i i = .int .u8 45 := by unfold twoB; rw [if_neg (show ¬ i < i by omega), if_neg he]
                rw [e0] at cm
                have fm := bm.frozen i
                have xq := (b.cell q).trans (ic_get σ q hq5)
                by_cases hs : σ q = t i
                · have b1 := b.set_other (a := ⟨w.heap.size + 1 + 1, i, none⟩) (by show w.heap.size ≠ w.heap.size + 1 + 1; omega) (.int .u8 121)
                  have xq1 := (b1.cell q).trans (ic_get σ q hq5)
                  have fq1 := b1.frozen q
                  have fin : Hid (Srch w ((wr.setCell ⟨w.heap.size + 1 + 1, i, none⟩ (.int .u8 121)).setCell ⟨w.heap.size, q, none⟩ (.int .i64 (-1))) s t i (q + 1)) := by
                    have cmN : ((wr.setCell ⟨w.heap.size + 1 + 1, i, none⟩ (.int .u8 121)).setCell ⟨w.heap.size, q, none⟩ (.int .i64 (-1))).cell? ⟨w.heap.size + 1 + 1, i, none⟩ = some (.int .u8 121) :=
                      (((bm.set i (.int .u8 121)).set_other (a := ⟨w.heap.size, q, none⟩) (by show w.heap.size + 1 + 1 ≠ w.heap.size; omega) (.int .i64 (-1))).cell i).trans (by rw [List.getElem?_set_self (by have := unhide hltH; simp [row5]; omega)])
                    exact .inr ⟨N2.yellow Q b hσ bm (unhide hltH) hq5 he (unhide tp) hs rfl, (by rw [cmN]; intro x; cases x), 121, by decide, cmN⟩
                  rw [hs] at xq xq1
                  obtain ⟨W1, hW1⟩ : ∃ W, wr.setCell ⟨w.heap.size + 1 + 1, i, none⟩ (.int .u8 121) = W := ⟨_, rfl⟩
                  rw [hW1] at xq1 fq1 fin
                  clear Q b hσ hno bm he e0 b1 hq hq5 hs
                  generalize t i = c at *
                  go_wp2
                  go_roundw
                  case rel => exact ⟨q + 1, unhide hq5H, by simp; try exact wj, unhide fin⟩
                  case measure =>
                    have h := unhide hq5H
                    first
                      | exact meas5 h
                      | (rw [wj]; exact meas5 h)
                · have fin : Hid (Srch w wr s t i (q + 1)) := .inl ⟨Q, ⟨σ, b, hσ, fun x hx => by
                    by_cases e : x = q
                    · subst e; exact hs
                    · exact hno x (by omega)⟩, bm, he⟩
                  clear Q b hσ hno bm he e0 hq hq5
                  generalize σ q = a at *
                  generalize t i = c at *
                  go_wp2
                  go_roundw
                  case rel => exact ⟨q + 1, unhide hq5H, by simp; try exact wj, unhide fin⟩
                  case measure =>
                    have h := unhide hq5H
                    first
                      | exact meas5 h
                      | (rw [wj]; exact meas5 h)
              · have MN := hide M
                clear M hq hq5
                go_wp2
                go_roundw
                case rel => exact ⟨i + 1, unhide hltH, by simp; try exact wi, unhide MN⟩
                case measure =>
                  have h := unhide hltH
                  first
                    | exact meas5 h
                    | (rw [wi]; exact meas5 h)
            · have j1 : ¬ (q : Int) < 5 := by omega
              have MN : Hid (N2 w wr s t (i + 1)) := by
                rcases Sr with ⟨Q, ⟨σ, b, hσ, hno⟩, bm, he⟩ | ⟨M, _⟩
                · have hz : occ σ (t i) 5 = 0 := by
                    have : ∀ n, n ≤ 5 → occ σ (t i) n = 0 := fun n => by
                      induction n with
                      | zero => intro _; rfl
                      | succ n ih =>
                        intro hn
                        have e1 : occ σ (t i) (n + 1) = occ σ (t i) n + (if σ n == t i then 1 else 0) := rfl
                        rw [e1, ih (by omega), beq_eq_false_iff_ne.2 (hno n (by omega))]; rfl
                    exact this 5 (Nat.le_refl _)
                  rw [hσ _ (unhide tp)] at hz
                  exact N2.grey ⟨Q, ⟨σ, b, hσ⟩, bm⟩ he (by omega)
                · exact M
              clear Sr hq hq5
              go_wp2
              go_roundw
              case rel => exact ⟨i + 1, unhide hltH, by simp; try exact wi, unhide MN⟩
              case measure =>
                have h := unhide hltH
                first
                  | exact meas5 h
                  | (rw [wi]; exact meas5 h)
        · have k1 : ¬ (i : Int) < 5 := by omega
          obtain rfl : i = 5 := by omega
          have hcv : (convert 31 9 (.slice (some ⟨w.heap.size + 1 + 1, 0, none⟩) 5 5)).run Try.prog wr = .ok (.string (str (marksL s t))) wr :=
            run_str_of_cells (P := Try.prog) wr 31 5 und31 Try.underlying5 (w.heap.size + 1 + 1) 0 5 5 (marksL s t) rfl (fun j hj => by
              rw [Nat.zero_add, M.bm.cell j, row5_get _ j hj]
              unfold twoB
              rw [if_pos hj]
              rcases (by omega : j = 0 ∨ j = 1 ∨ j = 2 ∨ j = 3 ∨ j = 4) with rfl | rfl | rfl | rfl | rfl <;> rfl) 9 Try.underlying9
          have qH := hide M.q
          clear M hlt hi hix
          go_wp2
          go_ret
          exact ⟨rfl, unhide qH⟩
end Go.Proofs.Qxb6500370a
