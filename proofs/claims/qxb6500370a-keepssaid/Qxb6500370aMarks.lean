/-
  THE REAL GAME: marksOf. (gen70marks.py)
-/
import Derived.Test.Qxb6500370aMapI
import Derived.Test.Qxb6500370aMark
import Derived.Test.Qxb6500370aLibB
import Derived.Test.Qxb6500370aQq
import Derived.Test.Qxb6500370aCells
import Derived.Test.Qxb6500370aProg
import Derived.Laws.Cover4
import Derived.Laws.MakeOwn
import Derived.OwnWalk
import Derived.WalkSmall
import Derived.BigQuiet
import Derived.Deep.RegionLaw
namespace Go.Proofs.Qxb6500370a
open Go.RowKit Go.Qx Go.Qx.Mk
set_option linter.unusedVariables false
set_option linter.unusedSimpArgs false

/-- A word's five cells. -/
def wc (s : Nat → Int) : List Value := [rk (s 0), rk (s 1), rk (s 2), rk (s 3), rk (s 4)]
def wordF (s : Nat → Int) : Value := .agg (wc s).toArray
theorem wc_get (s : Nat → Int) (i : Nat) (h : i < 5) : (wc s)[i]? = some (rk (s i)) := by
  rcases (by omega : i = 0 ∨ i = 1 ∨ i = 2 ∨ i = 3 ∨ i = 4) with rfl | rfl | rfl | rfl | rfl <;> rfl

def markB (m : Nat) : UInt8 := if m = 0 then 103 else if m = 1 then 121 else 45
def marksL (s t : Nat → Int) : List UInt8 := [markB (Mk.mark 5 s t 0), markB (Mk.mark 5 s t 1), markB (Mk.mark 5 s t 2), markB (Mk.mark 5 s t 3), markB (Mk.mark 5 s t 4)]

/-- A map that counts. -/
def MapC (w : World) (b : Nat) (n : Int → Int) : Prop := ∃ f, MapI w b f ∧ ∀ c, (f c).getD (.int .i64 0) = .int .i64 (n c)
theorem MapC.of_chg {S : Nat → Prop} {w w' : World} {b : Nat} {n : Int → Int} (h : MapC w b n) (c : Chg S w w') (hS : ¬ S b) : MapC w' b n := by
  obtain ⟨f, h1, h2⟩ := h
  exact ⟨f, h1.of_chg c hS, h2⟩
theorem MapC.quiet {w w' : World} {b : Nat} {n : Int → Int} (h : MapC w b n) (c : Quiet w w') : MapC w' b n := h.of_chg c id
theorem MapC.lt {w : World} {b : Nat} {n : Int → Int} (h : MapC w b n) : b < w.heap.size := by
  obtain ⟨f, h1, h2⟩ := h
  exact h1.lt
theorem und47 : Try.prog.underlying 47 = some (.map 21 3) := by kernel_rfl
theorem und21 : Try.prog.underlying 21 = some (.int .i32) := by kernel_rfl
theorem zero3 (w : World) : (zeroValue 3).run Try.prog w = .ok (.int .i64 0) w := by rfl
theorem MapC.look {w : World} {b : Nat} {n : Int → Int} (h : MapC w b n) (c : Int) : (Instr.lookup 47 (.map (some b)) (rk c) false).run Try.prog w = .ok (.int .i64 (n c)) w := by
  obtain ⟨f, h1, h2⟩ := h
  rw [h1.look und47 und21 (zero3 w) c, h2 c]
def updC (n : Int → Int) (c v : Int) : Int → Int := fun k => if k = c then v else n k
theorem MapC.store {w : World} {b : Nat} {n : Int → Int} (h : MapC w b n) (c v : Int) : ∃ w', (Instr.mapUpdate 47 (.map (some b)) (rk c) (.int .i64 v)).run Try.prog w = .ok () w' ∧ Chg (fun i => i = b) w w' ∧ MapC w' b (updC n c v) := by
  obtain ⟨f, h1, h2⟩ := h
  obtain ⟨w', e1, e2, e3⟩ := h1.store und47 und21 c (.int .i64 v)
  refine ⟨w', e1, e2, setI f c (.int .i64 v), e3, fun k => ?_⟩
  unfold setI updC
  by_cases e : k = c
  · rw [if_pos e, if_pos e]; rfl
  · rw [if_neg e, if_neg e]; exact h2 k
theorem MapC.new (w : World) : MapC (w.alloc (.map #[] 0)) w.heap.size (fun _ => 0) := ⟨_, MapI.new w, fun _ => rfl⟩
theorem MapC.congr {w : World} {b : Nat} {n n' : Int → Int} (h : MapC w b n) (e : ∀ c, n c = n' c) : MapC w b n' := by
  obtain ⟨f, h1, h2⟩ := h
  exact ⟨f, h1, fun c => by rw [h2 c, e c]⟩

def u8 (b : UInt8) : Value := .int .u8 b.toNat
/-- The marks behind i rounds of the first loop; behind i rounds of the second. -/
def oneB (s t : Nat → Int) (i p : Nat) : Value := if p < i then (if t p = s p then .int .u8 103 else .int .u8 45) else .int .u8 0
def twoB (s t : Nat → Int) (i p : Nat) : Value := if p < i then u8 (markB (Mk.mark 5 s t p)) else (if t p = s p then .int .u8 103 else .int .u8 45)
def row5 (f : Nat → Value) : List Value := [f 0, f 1, f 2, f 3, f 4]
theorem row5_get (f : Nat → Value) (i : Nat) (h : i < 5) : (row5 f)[i]? = some (f i) := by
  rcases (by omega : i = 0 ∨ i = 1 ∨ i = 2 ∨ i = 3 ∨ i = 4) with rfl | rfl | rfl | rfl | rfl <;> rfl
theorem row5_set (f g : Nat → Value) (i : Nat) (v : Value) (hi : i < 5) (hv : g i = v) (ho : ∀ q, q < 5 → q ≠ i → g q = f q) : (row5 f).set i v = row5 g := by
  apply List.ext_getElem?
  intro q
  by_cases hq : q < 5
  · by_cases e : q = i
    · subst e
      rw [List.getElem?_set_self (by simp [row5]; omega), row5_get g q hq, hv]
    · rw [List.getElem?_set_ne (fun x => e x.symm), row5_get f q hq, row5_get g q hq, ho q hq e]
  · rw [List.getElem?_eq_none (by simp [row5]; omega), List.getElem?_eq_none (by simp [row5]; omega)]

structure M1 (w wr : World) (s t : Nat → Int) (i : Nat) : Prop where
  q : Quiet w wr
  bs : Blk wr w.heap.size 50 (wc s)
  bt : Blk wr (w.heap.size + 1) 50 (wc t)
  bm : Blk wr (w.heap.size + 1 + 1) 5 (row5 (oneB s t i))
  mp : MapC wr (w.heap.size + 1 + 1 + 1) (fun c => lf s t c i)
structure M2 (w wr : World) (s t : Nat → Int) (i : Nat) : Prop where
  q : Quiet w wr
  bm : Blk wr (w.heap.size + 1 + 1) 5 (row5 (twoB s t i))
  mp : MapC wr (w.heap.size + 1 + 1 + 1) (fun c => (lf s t c 5 : Int) - min (ng s t c i) (lf s t c 5))

theorem made5 : madeCells (Value.int .u8 0).cells (5 * 1) = (row5 (fun _ => .int .u8 0)).toArray := by kernel_rfl
theorem info5 : (Try.prog.info? 5).map (fun i => (i.zero, i.size, i.bytes)) = some (some (.int .u8 0), 1, 1) := by kernel_rfl
theorem und31 : Try.prog.underlying 31 = some (.slice 5) := by kernel_rfl
theorem make31 (W : World) : (Instr.makeSlice 31 (.int .i64 5) (.int .i64 5)).run Try.prog W = .ok (.slice (some ⟨W.heap.size, 0, none⟩) 5 5) (W.alloc (.cells (row5 (fun _ => .int .u8 0)).toArray 5)) := by
  obtain ⟨i, hi, hz0, hz1, hz2⟩ := info_parts info5
  have := run_make (P := Try.prog) W 31 5 i _ und31 hi hz0 .i64 .i64 5 5 (by omega) (by omega) (by rw [hz2]; omega) (by omega)
  rw [hz1, show Int.toNat 5 * 1 = 5 * 1 from rfl, made5] at this
  exact this
theorem wrap_small (q : Nat) (h : q < 1073741824) : wrap64 (q : Int) = (q : Int) := by unfold wrap64; omega
theorem meas5 {i : Nat} (h : i < 5) : 6 - ((i : Int) + 1).toNat < 6 - (i : Int).toNat := by omega
theorem lf_le (s t : Nat → Int) (c : Int) : ∀ n, lf s t c n ≤ n
  | 0 => Nat.le_refl _
  | n + 1 => by
    have := lf_le s t c n
    have e : lf s t c (n + 1) = lf s t c n + (if (!(t n == s n) && s n == c) then 1 else 0) := rfl
    rw [e]; split <;> omega

theorem M1.same {w wr : World} {s t : Nat → Int} {i : Nat} (h : M1 w wr s t i) (hi : i < 5) (he : t i = s i) (k : Nat) : M1 w ((wr.setCell ⟨w.heap.size + 1 + 1, i, none⟩ (.int .u8 103)).drewN k) s t (i + 1) := by
  have cS : Chg (fun x => x = w.heap.size + 1 + 1) wr ((wr.setCell ⟨w.heap.size + 1 + 1, i, none⟩ (.int .u8 103)).drewN k) := ((Chg.refl (fun x => x = w.heap.size + 1 + 1) wr).setCell (p := ⟨w.heap.size + 1 + 1, i, none⟩) (.inl rfl) _).drewN k
  refine ⟨Chg.drewN (Chg.setCell h.q (p := ⟨w.heap.size + 1 + 1, i, none⟩) (.inr (by show w.heap.size ≤ w.heap.size + 1 + 1; omega)) _) k, cS.blk h.bs (by omega), cS.blk h.bt (by omega), ?_, (h.mp.of_chg cS (by omega)).congr (fun c => ?_)⟩
  · have := (h.bm.set i (.int .u8 103)).drewN k
    rwa [row5_set _ (oneB s t (i + 1)) i _ hi (by unfold oneB; rw [if_pos (by omega), if_pos he]) (fun q hq hne => by
      unfold oneB
      by_cases e : q < i
      · rw [if_pos e, if_pos (by omega)]
      · rw [if_neg e, if_neg (by omega)])] at this
  · have e : lf s t c (i + 1) = lf s t c i + (if (!(t i == s i) && s i == c) then 1 else 0) := rfl
    rw [e, beq_iff_eq.2 he]; simp

theorem M1.diff {w wr w' : World} {s t : Nat → Int} {i : Nat} (h : M1 w wr s t i) (hi : i < 5) (he : ¬ t i = s i) (k : Nat) (hc : Chg (fun x => x = w.heap.size + 1 + 1 + 1) (((wr.setCell ⟨w.heap.size + 1 + 1, i, none⟩ (.int .u8 103)).drewN k).setCell ⟨w.heap.size + 1 + 1, i, none⟩ (.int .u8 45)) w')
    (hm : MapC w' (w.heap.size + 1 + 1 + 1) (updC (fun c => lf s t c i) (s i) (lf s t (s i) i + 1))) : M1 w w' s t (i + 1) := by
  have cS : Chg (fun x => x = w.heap.size + 1 + 1 ∨ x = w.heap.size + 1 + 1 + 1) wr w' := Chg.trans' ((((Chg.refl (fun x => x = w.heap.size + 1 + 1 ∨ x = w.heap.size + 1 + 1 + 1) wr).setCell (p := ⟨w.heap.size + 1 + 1, i, none⟩) (.inl (.inl rfl)) (.int .u8 103)).drewN k).setCell (p := ⟨w.heap.size + 1 + 1, i, none⟩) (.inl (.inl rfl)) (.int .u8 45)) hc (fun x _ hx => .inr hx)
  refine ⟨Chg.trans' h.q cS (fun x hx hy => by rcases hy with hy | hy <;> omega), cS.blk h.bs (by omega), cS.blk h.bt (by omega), ?_, hm.congr (fun c => ?_)⟩
  · have := hc.blk (((h.bm.set i (.int .u8 103)).drewN k).set i (.int .u8 45)) (by omega)
    rw [List.set_set] at this
    rwa [row5_set _ (oneB s t (i + 1)) i _ hi (by unfold oneB; rw [if_pos (by omega), if_neg he]) (fun q hq hne => by
      unfold oneB
      by_cases e : q < i
      · rw [if_pos e, if_pos (by omega)]
      · rw [if_neg e, if_neg (by omega)])] at this
  · have e : lf s t c (i + 1) = lf s t c i + (if (!(t i == s i) && s i == c) then 1 else 0) := rfl
    rw [e, beq_eq_false_iff_ne.2 he]
    unfold updC
    by_cases e2 : c = s i
    · subst e2; simp
    · have e3 : (s i == c) = false := beq_eq_false_iff_ne.2 (fun x => e2 x.symm)
      rw [if_neg e2, e3]; simp

theorem ng_succ (s t : Nat → Int) (c : Int) (i : Nat) : ng s t c (i + 1) = ng s t c i + (if (!(t i == s i) && t i == c) then 1 else 0) := rfl
theorem M2.green {w wr : World} {s t : Nat → Int} {i : Nat} (h : M2 w wr s t i) (hi : i < 5) (he : t i = s i) : M2 w wr s t (i + 1) := by
  have hm : Mk.mark 5 s t i = 0 := mark_zero.2 he
  refine ⟨h.q, ?_, h.mp.congr (fun c => ?_)⟩
  · have e : row5 (twoB s t i) = row5 (twoB s t (i + 1)) := by
      have h1 : ∀ q, twoB s t i q = twoB s t (i + 1) q := fun q => by
        unfold twoB
        by_cases e : q < i
        · rw [if_pos e, if_pos (by omega)]
        · by_cases e2 : q = i
          · subst e2
            rw [if_neg e, if_pos he, if_pos (show q < q + 1 by omega), hm]; rfl
          · rw [if_neg e, if_neg (show ¬ q < i + 1 by omega)]
      unfold row5
      rw [h1, h1, h1, h1, h1]
    rw [← e]; exact h.bm
  · rw [ng_succ, beq_iff_eq.2 he]; simp
theorem M2.grey {w wr : World} {s t : Nat → Int} {i : Nat} (h : M2 w wr s t i) (hi : i < 5) (he : ¬ t i = s i) (hl : ¬ ng s t (t i) i < lf s t (t i) 5) : M2 w wr s t (i + 1) := by
  have hm : Mk.mark 5 s t i = 2 := by unfold Mk.mark; rw [if_neg he, if_neg hl]
  refine ⟨h.q, ?_, h.mp.congr (fun c => ?_)⟩
  · have e : row5 (twoB s t i) = row5 (twoB s t (i + 1)) := by
      have h1 : ∀ q, twoB s t i q = twoB s t (i + 1) q := fun q => by
        unfold twoB
        by_cases e : q < i
        · rw [if_pos e, if_pos (by omega)]
        · by_cases e2 : q = i
          · subst e2
            rw [if_neg e, if_neg he, if_pos (show q < q + 1 by omega), hm]; rfl
          · rw [if_neg e, if_neg (show ¬ q < i + 1 by omega)]
      unfold row5
      rw [h1, h1, h1, h1, h1]
    rw [← e]; exact h.bm
  · rw [ng_succ, beq_eq_false_iff_ne.2 he]
    by_cases e : t i = c
    · subst e; simp; omega
    · have e3 : (t i == c) = false := beq_eq_false_iff_ne.2 e
      rw [e3]; simp
theorem M2.yellow {w wr w' : World} {s t : Nat → Int} {i : Nat} (h : M2 w wr s t i) (hi : i < 5) (he : ¬ t i = s i) (hl : ng s t (t i) i < lf s t (t i) 5) (hc : Chg (fun x => x = w.heap.size + 1 + 1 + 1) (wr.setCell ⟨w.heap.size + 1 + 1, i, none⟩ (.int .u8 121)) w')
    (hmp : MapC w' (w.heap.size + 1 + 1 + 1) (updC (fun c => (lf s t c 5 : Int) - min (ng s t c i) (lf s t c 5)) (t i) ((lf s t (t i) 5 : Int) - min (ng s t (t i) i) (lf s t (t i) 5) - 1))) : M2 w w' s t (i + 1) := by
  have hm : Mk.mark 5 s t i = 1 := by unfold Mk.mark; rw [if_neg he, if_pos hl]
  have cS : Chg (fun x => x = w.heap.size + 1 + 1 ∨ x = w.heap.size + 1 + 1 + 1) wr w' := Chg.trans' ((Chg.refl (fun x => x = w.heap.size + 1 + 1 ∨ x = w.heap.size + 1 + 1 + 1) wr).setCell (p := ⟨w.heap.size + 1 + 1, i, none⟩) (.inl (.inl rfl)) (.int .u8 121)) hc (fun x _ hx => .inr hx)
  refine ⟨Chg.trans' h.q cS (fun x hx hy => by rcases hy with hy | hy <;> omega), ?_, hmp.congr (fun c => ?_)⟩
  · have := hc.blk (h.bm.set i (.int .u8 121)) (by omega)
    rwa [row5_set _ (twoB s t (i + 1)) i _ hi (by unfold twoB; rw [if_pos (by omega), hm]; rfl) (fun q hq hne => by
      unfold twoB
      by_cases e : q < i
      · rw [if_pos e, if_pos (show q < i + 1 by omega)]
      · rw [if_neg e, if_neg (show ¬ q < i + 1 by omega)])] at this
  · rw [ng_succ, beq_eq_false_iff_ne.2 he]
    unfold updC
    by_cases e : c = t i
    · subst e; simp; omega
    · have e3 : (t i == c) = false := beq_eq_false_iff_ne.2 (fun x => e x.symm)
      rw [if_neg e, e3]; simp
theorem M1.two {w wr : World} {s t : Nat → Int} (h : M1 w wr s t 5) : M2 w wr s t 0 := by
  refine ⟨h.q, ?_, h.mp.congr (fun c => ?_)⟩
  · have e : row5 (oneB s t 5) = row5 (twoB s t 0) := rfl
    rw [← e]; exact h.bm
  · show (lf s t c 5 : Int) = lf s t c 5 - ((min 0 (lf s t c 5) : Nat) : Int)
    simp

set_option maxHeartbeats 4000000 in
set_option maxRecDepth 100000 in
theorem marks_any (w : World) (s t : Nat → Int) : Calls Try.prog 35 #[wordF s, wordF t] w fun e w' => e = .returned (.string (str (marksL s t))) ∧ Quiet w w' := by
  have hmk := make31
  have hmm := @run_makeMap Try.prog
  have S0 : Hid (∀ W, W = ((((w.alloc (.cells (wc s).toArray 50)).alloc (.cells (wc t).toArray 50)).alloc (.cells (row5 (fun _ => .int .u8 0)).toArray 5)).alloc (.map #[] 0)) → M1 w W s t 0) := by
    rintro W rfl
    have h1 : ∀ (W : World) (o : Obj), (W.alloc o).heap.size = W.heap.size + 1 := fun W o => by simp
    have b2 := Blk.new (w.alloc (.cells (wc s).toArray 50)) 50 (wc t)
    have b3 := Blk.new ((w.alloc (.cells (wc s).toArray 50)).alloc (.cells (wc t).toArray 50)) 5 (row5 (fun _ => .int .u8 0))
    have b4 := MapC.new (((w.alloc (.cells (wc s).toArray 50)).alloc (.cells (wc t).toArray 50)).alloc (.cells (row5 (fun _ => .int .u8 0)).toArray 5))
    rw [h1] at b2
    rw [h1, h1] at b3
    rw [h1, h1, h1] at b4
    exact ⟨Chg.alloc (Chg.alloc (Chg.alloc (Chg.alloc (Chg.refl (fun _ => False) w) _) _) _) _, (((Blk.new w 50 (wc s)).alloc _).alloc _).alloc _, (b2.alloc _).alloc _, b3.alloc _, b4.congr (fun c => rfl)⟩
  unfold wordF
  have e1 : (wc s).toArray = #[rk (s 0), rk (s 1), rk (s 2), rk (s 3), rk (s 4)] := rfl
  have e2 : (wc t).toArray = #[rk (t 0), rk (t 1), rk (t 2), rk (t 3), rk (t 4)] := rfl
  rw [e1, e2] at S0 ⊢
  clear e1 e2
  go_enter Try.func35, Try.ntmps35
  go_wp2
  generalize hW0 : ((((w.alloc (.cells #[rk (s 0), rk (s 1), rk (s 2), rk (s 3), rk (s 4)] 50)).alloc (.cells #[rk (t 0), rk (t 1), rk (t 2), rk (t 3), rk (t 4)] 50)).alloc (.cells (row5 (fun _ => .int .u8 0)).toArray 5)).alloc (.map #[] 0)) = W0 at *
  have S1 := hide (unhide S0 W0 rfl)
  clear hW0 S0 hmk hmm
  go_loopw [12] (fun z wr => ∃ i : Nat, i ≤ 5 ∧ z = .int .i64 (i : Int) ∧ M1 w wr s t i) (fun z _ => 6 - (intOf z).toNat)
  case atStart => exact ⟨0, by omega, rfl, unhide S1⟩
  case round =>
    clear S1
    obtain ⟨i, hi, rfl, M⟩ := hrel
    by_cases hlt : i < 5
    · have k1 : (i : Int) < 5 := by omega
      have i0 : (0 : Int) ≤ (i : Int) := by omega
      have wi : wrap64 ((i : Int) + 1) = (i : Int) + 1 := wrap_small (i + 1) (by omega)
      have cm := (M.bm.cell i).trans (row5_get _ i hlt)
      have fm := M.bm.frozen i
      generalize oneB s t i i = ob at *
      have bs1 := M.bs.set_other (a := ⟨w.heap.size + 1 + 1, i, none⟩) (by show w.heap.size ≠ w.heap.size + 1 + 1; omega) (.int .u8 103)
      have bt1 := M.bt.set_other (a := ⟨w.heap.size + 1 + 1, i, none⟩) (by show w.heap.size + 1 ≠ w.heap.size + 1 + 1; omega) (.int .u8 103)
      have bm1 := M.bm.set i (.int .u8 103)
      have mp1 : MapC (wr.setCell ⟨w.heap.size + 1 + 1, i, none⟩ (.int .u8 103)) (w.heap.size + 1 + 1 + 1) _ := M.mp.of_chg (S := fun x => x = w.heap.size + 1 + 1) ((Chg.refl (fun x => x = w.heap.size + 1 + 1) wr).setCell (p := ⟨w.heap.size + 1 + 1, i, none⟩) (.inl rfl) _) (by omega)
      have MH := hide M
      have hltH := hide hlt
      obtain ⟨W1, hW1⟩ : ∃ W, wr.setCell ⟨w.heap.size + 1 + 1, i, none⟩ (.int .u8 103) = W := ⟨_, rfl⟩
      rw [hW1] at bs1 bt1 bm1 mp1
      have xs := (bs1.cell i).trans (wc_get s i hlt)
      have xt := (bt1.cell i).trans (wc_get t i hlt)
      by_cases he : t i = s i
      · have MN : Hid (∀ k, M1 w (W1.drewN k) s t (i + 1)) := fun k => by rw [← hW1]; exact M.same hlt he k
        rw [he] at xt
        clear M bs1 bt1 bm1 mp1 hi hlt MH he
        generalize s i = a at *
        go_wp2
        go_quiet (fail)
        clear xs xt cm fm
        go_wp2
        go_roundw
        case rel => exact ⟨i + 1, unhide hltH, by simp; try exact wi, unhide MN _⟩
        case measure =>
          have h := unhide hltH
          first
            | exact meas5 h
            | (rw [wi]; exact meas5 h)
      · have cm1 : W1.cell? ⟨w.heap.size + 1 + 1, i, none⟩ = some (.int .u8 103) := (bm1.cell i).trans (by rw [List.getElem?_set_self (by simp [row5]; omega)])
        have fm1 := bm1.frozen i
        have bs1H := hide bs1
        have mp1H := hide mp1
        have heH := hide he
        have lle := lf_le s t (s i) i
        have wl : wrap64 ((lf s t (s i) i : Int) + 1) = (lf s t (s i) i : Int) + 1 := wrap_small (lf s t (s i) i + 1) (by omega)
        have MD : Hid (∀ k w', Chg (fun x => x = w.heap.size + 1 + 1 + 1) ((W1.drewN k).setCell ⟨w.heap.size + 1 + 1, i, none⟩ (.int .u8 45)) w' → MapC w' (w.heap.size + 1 + 1 + 1) (updC (fun c => lf s t c i) (s i) (lf s t (s i) i + 1)) → M1 w w' s t (i + 1)) := fun k w' hc hm => by
          rw [← hW1] at hc
          exact M.diff hlt he k hc hm
        have xsH : Hid ((wc s)[i]? = some (rk (s i))) := wc_get s i hlt
        clear M bs1 bt1 bm1 mp1 hi hlt MH lle
        generalize hl : lf s t (s i) i = L at *
        have hlH := hide hl
        clear hl
        generalize hsi : s i = a at *
        generalize t i = c at *
        go_wp2
        go_quiet (fail)
        have bs2 := ((unhide bs1H).drewN nq).set_other (a := ⟨w.heap.size + 1 + 1, i, none⟩) (by show w.heap.size ≠ w.heap.size + 1 + 1; omega) (.int .u8 45)
        have xs2 := (bs2.cell i).trans (unhide xsH)
        have mp2 : MapC ((W1.drewN nq).setCell ⟨w.heap.size + 1 + 1, i, none⟩ (.int .u8 45)) (w.heap.size + 1 + 1 + 1) (fun c => lf s t c i) := (unhide mp1H).of_chg (S := fun x => x = w.heap.size + 1 + 1) (((Chg.refl (fun x => x = w.heap.size + 1 + 1) W1).drewN nq).setCell (p := ⟨w.heap.size + 1 + 1, i, none⟩) (.inl rfl) _) (by omega)
        have hlk := mp2.look a
        obtain ⟨W3, hup, ch3, mp3⟩ := mp2.store a (L + 1)
        have hLa : (lf s t a i : Int) = L := by rw [← unhide hlH]
        rw [hLa] at hlk
        have fin := hide (unhide MD nq W3 ch3 mp3)
        clear mp2 ch3 mp3 MD bs2 xs xt cm fm mp1H bs1H hLa
        obtain ⟨W2, hW2⟩ : ∃ W, (W1.drewN nq).setCell ⟨w.heap.size + 1 + 1, i, none⟩ (.int .u8 45) = W := ⟨_, rfl⟩
        rw [hW2] at xs2 hlk hup
        clear hsi
        go_wp2
        go_roundw
        case rel => exact ⟨i + 1, unhide hltH, by simp; try exact wi, unhide fin⟩
        case measure =>
          have h := unhide hltH
          first
            | exact meas5 h
            | (rw [wi]; exact meas5 h)
    · have k1 : ¬ (i : Int) < 5 := by omega
      obtain rfl : i = 5 := by omega
      have M2s := hide M.two
      have t0 := M.bt.cell 0
      have t1 := M.bt.cell 1
      have t2 := M.bt.cell 2
      have t3 := M.bt.cell 3
      have t4 := M.bt.cell 4
      simp [wc] at t0 t1 t2 t3 t4
      have hix : Hid (∀ j : Nat, j < 5 → ∀ W, (Instr.index 50 (.agg #[rk (t 0), rk (t 1), rk (t 2), rk (t 3), rk (t 4)]) (.int .i64 (j : Int))).run Try.prog W = .ok (rk (t j)) W) := fun j hj W =>
        run_index_agg (P := Try.prog) W 50 21 5 Try.underlying50 Try.sizeOf21 Try.isAgg21 _ j hj _ (by have := wc_get t j hj; simpa [wc] using this)
      clear M hlt hi
      go_wp2
      clear t0 t1 t2 t3 t4
      go_loopw [36] (fun z wv => ∃ i : Nat, i ≤ 5 ∧ z = .int .i64 (i : Int) ∧ M2 w wv s t i) (fun z _ => 6 - (intOf z).toNat)
      case atStart => exact ⟨0, by omega, rfl, unhide M2s⟩
      case round =>
        clear M2s
        obtain ⟨i, hi, rfl, M⟩ := hrel
        by_cases hlt : i < 5
        · have k1 : (i : Int) < 5 := by omega
          have i0 : (0 : Int) ≤ (i : Int) := by omega
          have wi : wrap64 ((i : Int) + 1) = (i : Int) + 1 := wrap_small (i + 1) (by omega)
          have hxi := unhide hix i hlt
          have cm := (M.bm.cell i).trans (row5_get _ i hlt)
          have fm := M.bm.frozen i
          have e0 : twoB s t i i = (if t i = s i then .int .u8 103 else .int .u8 45) := by unfold twoB; rw [if_neg (by omega)]
          rw [e0] at cm
          have hltH := hide hlt
          by_cases he : t i = s i
          · rw [if_pos he] at cm
            have MN := hide (M.green hlt he)
            clear M e0 hi hlt he
            generalize t i = c at *
            go_wp2
            go_roundw
            case rel => exact ⟨i + 1, unhide hltH, by simp; try exact wi, unhide MN⟩
            case measure =>
              have h := unhide hltH
              first
                | exact meas5 h
                | (rw [wi]; exact meas5 h)
          · rw [if_neg he] at cm
            have hlk := M.mp.look (t i)
            by_cases hl : ng s t (t i) i < lf s t (t i) 5
            · have l5 := lf_le s t (t i) 5
              have mp1 : MapC (wr.setCell ⟨w.heap.size + 1 + 1, i, none⟩ (.int .u8 121)) (w.heap.size + 1 + 1 + 1) _ := M.mp.of_chg (S := fun x => x = w.heap.size + 1 + 1) ((Chg.refl (fun x => x = w.heap.size + 1 + 1) wr).setCell (p := ⟨w.heap.size + 1 + 1, i, none⟩) (.inl rfl) _) (by omega)
              have hlk2 := mp1.look (t i)
              obtain ⟨W3, hup, ch3, mp3⟩ := mp1.store (t i) ((lf s t (t i) 5 : Int) - min (ng s t (t i) i) (lf s t (t i) 5) - 1)
              have fin := hide (M.yellow hlt he hl ch3 mp3)
              obtain ⟨V, hV⟩ : ∃ V, (lf s t (t i) 5 : Int) - min (ng s t (t i) i) (lf s t (t i) 5) = V := ⟨_, rfl⟩
              have vpos : 0 < V := by omega
              have vle : V ≤ 5 := by omega
              rw [hV] at hlk hlk2 hup
              have wv : wrap64 (V - 1) = V - 1 := by unfold wrap64; omega
              obtain ⟨W1, hW1⟩ : ∃ W, wr.setCell ⟨w.heap.size + 1 + 1, i, none⟩ (.int .u8 121) = W := ⟨_, rfl⟩
              rw [hW1] at hlk2 hup
              clear M e0 hi hlt he hl l5 mp1 ch3 mp3 hV vle
              generalize t i = c at *
              go_wp2
              go_roundw
              case rel => exact ⟨i + 1, unhide hltH, by simp; try exact wi, unhide fin⟩
              case measure =>
                have h := unhide hltH
                first
                  | exact meas5 h
                  | (rw [wi]; exact meas5 h)
            · have MN := hide (M.grey hlt he hl)
              obtain ⟨V, hV⟩ : ∃ V, (lf s t (t i) 5 : Int) - min (ng s t (t i) i) (lf s t (t i) 5) = V := ⟨_, rfl⟩
              have v0 : ¬ 0 < V := by omega
              rw [hV] at hlk
              clear M e0 hi hlt he hl hV
              generalize t i = c at *
              go_wp2
              go_roundw
              case rel => exact ⟨i + 1, unhide hltH, by simp; try exact wi, unhide MN⟩
              case measure =>
                have h := unhide hltH
                first
                  | exact meas5 h
                  | (rw [wi]; exact meas5 h)
        · have k1 : ¬ (i : Int) < 5 := by omega
          obtain rfl : i = 5 := by omega
          have hcv : (convert 31 9 (.slice (some ⟨w.heap.size + 1 + 1, 0, none⟩) 5 5)).run Try.prog wr = .ok (.string (str (marksL s t))) wr :=
            run_str_of_cells (P := Try.prog) wr 31 5 und31 Try.underlying5 (w.heap.size + 1 + 1) 0 5 5 (marksL s t) rfl (fun j hj => by
              rw [Nat.zero_add, M.bm.cell j, row5_get _ j hj]
              unfold twoB
              rw [if_pos hj]
              rcases (by omega : j = 0 ∨ j = 1 ∨ j = 2 ∨ j = 3 ∨ j = 4) with rfl | rfl | rfl | rfl | rfl <;> rfl) 9 Try.underlying9
          have qH := hide M.q
          clear M hlt hi hix
          go_wp2
          go_ret
          exact ⟨rfl, unhide qH⟩
end Go.Proofs.Qxb6500370a
