/-
  THE REAL GAME: learn. (gen70learn.py)
-/
import Derived.Test.Qxb6500370aKnow
import Derived.Test.Qxb6500370aPut
namespace Go.Proofs.Qxb6500370a
open Go.RowKit Go.Qx Go.Qx.Mk
set_option linter.unusedVariables false
set_option linter.unusedSimpArgs false

def kTo (s t : Nat → Int) (i : Nat) (c : Int) : Int := (cnt (fun p => t p == c && Mk.mark 5 s t p != 2) i : Nat)
theorem kTo_all (s t : Nat → Int) (c : Int) : kTo s t 5 c = kOf s t c := rfl
theorem kTo_le (s t : Nat → Int) (c : Int) : ∀ i, 0 ≤ kTo s t i c ∧ kTo s t i c ≤ i
  | 0 => by unfold kTo cnt; omega
  | i + 1 => by
    have := kTo_le s t c i
    unfold kTo at *
    rw [cnt]; split <;> omega
theorem kTo_hit (s t : Nat → Int) (i : Nat) (hm : Mk.mark 5 s t i ≠ 2) (c : Int) : kTo s t (i + 1) c = updC (kTo s t i) (t i) (kTo s t i (t i) + 1) c := by
  unfold updC kTo
  rw [cnt]
  by_cases e : c = t i
  · subst e
    simp [hm]
  · have e3 : (t i == c) = false := beq_eq_false_iff_ne.2 (fun x => e x.symm)
    rw [if_neg e, e3]; simp
theorem kTo_miss (s t : Nat → Int) (i : Nat) (hm : Mk.mark 5 s t i = 2) (c : Int) : kTo s t (i + 1) c = kTo s t i c := by
  unfold kTo
  rw [cnt, hm]; simp

theorem idx_marks (s t : Nat → Int) (i : Nat) (hi : i < 5) (W : World) : (Instr.index 9 (.string (str (marksL s t))) (.int .i64 (i : Int))).run Try.prog W = .ok (.int .u8 ((markB (Mk.mark 5 s t i)).toNat : Int)) W := by
  have hsz : (str (marksL s t)).size = 5 := rfl
  rw [run_index_string W 9 (str (marksL s t)) .i64 i Try.underlying9, dif_pos (by omega)]
  congr 2
  rcases (by omega : i = 0 ∨ i = 1 ∨ i = 2 ∨ i = 3 ∨ i = 4) with rfl | rfl | rfl | rfl | rfl <;> rfl

/-- The blocks that learn writes. -/
def lown (G : Nat) (L : Nat → Nat) (x : Nat) : Prop := x = G ∨ ∃ i, i < 7 ∧ x = L i
structure LR (w wr : World) (G : Nat) (L : Nat → Nat) (vb vt vs : Value) (sec : Nat → Int) (bg hd : Bool) (s t : Nat → Int) (C : KC) (i : Nat) : Prop where
  ch : Chg (lown G L) w wr
  b : Blk wr G 52 (gcells vb vt vs sec (learnC t (Mk.mark 5 s t) (kOf s t) C i).green bg hd L)
  kr : KRep wr L (learnC t (Mk.mark 5 s t) (kOf s t) C i)
  km : MapC wr (w.heap.size + 1) (kOf s t)
/-- Behind a round's first half. -/
structure LH (w wr : World) (G : Nat) (L : Nat → Nat) (vb vt vs : Value) (sec : Nat → Int) (bg hd : Bool) (s t : Nat → Int) (C D : KC) : Prop where
  ch : Chg (lown G L) w wr
  b : Blk wr G 52 (gcells vb vt vs sec D.green bg hd L)
  kr : KRep wr L D
  km : MapC wr (w.heap.size + 1) (kOf s t)
theorem LR.half {w wr : World} {G : Nat} {L : Nat → Nat} {vb vt vs : Value} {sec : Nat → Int} {bg hd : Bool} {s t : Nat → Int} {C : KC} {i : Nat} (h : LR w wr G L vb vt vs sec bg hd s t C i) : LH w wr G L vb vt vs sec bg hd s t C (learnC t (Mk.mark 5 s t) (kOf s t) C i) := ⟨h.ch, h.b, h.kr, h.km⟩

theorem gcells_green (vb vt vs : Value) (sec grn : Nat → Int) (bg hd : Bool) (L : Nat → Nat) (i : Nat) (hi : i < 5) (c : Int) : (gcells vb vt vs sec grn bg hd L).set (7 + i) (rk c) = gcells vb vt vs sec (fun q => if q = i then c else grn q) bg hd L := by
  rcases (by omega : i = 0 ∨ i = 1 ∨ i = 2 ∨ i = 3 ∨ i = 4) with rfl | rfl | rfl | rfl | rfl <;> rfl
theorem gcells_grn (vb vt vs : Value) (sec grn : Nat → Int) (bg hd : Bool) (L : Nat → Nat) (i : Nat) (hi : i < 5) : (gcells vb vt vs sec grn bg hd L)[7 + i]? = some (rk (grn i)) := by
  rcases (by omega : i = 0 ∨ i = 1 ∨ i = 2 ∨ i = 3 ∨ i = 4) with rfl | rfl | rfl | rfl | rfl <;> rfl
theorem gcells_ban (vb vt vs : Value) (sec grn : Nat → Int) (bg hd : Bool) (L : Nat → Nat) (i : Nat) (hi : i < 5) : (gcells vb vt vs sec grn bg hd L)[15 + i]? = some (.map (some (L i))) := by
  rcases (by omega : i = 0 ∨ i = 1 ∨ i = 2 ∨ i = 3 ∨ i = 4) with rfl | rfl | rfl | rfl | rfl <;> rfl

theorem LH.green {w wr : World} {G : Nat} {L : Nat → Nat} {vb vt vs : Value} {sec : Nat → Int} {bg hd : Bool} {s t : Nat → Int} {C D : KC} (h : LH w wr G L vb vt vs sec bg hd s t C D) (far : Far G L) (hG : G < w.heap.size) (i : Nat) (hi : i < 5) (hm : Mk.mark 5 s t i = 0) :
    LH w (wr.setCell ⟨G, 7 + i, none⟩ (rk (t i))) G L vb vt vs sec bg hd s t C (stepA t (Mk.mark 5 s t) D i) := by
  have cG : Chg (fun x => x = G) wr (wr.setCell ⟨G, 7 + i, none⟩ (rk (t i))) := (Chg.refl (fun x => x = G) wr).setCell (p := ⟨G, 7 + i, none⟩) (.inl rfl) _
  refine ⟨h.ch.setCell (p := ⟨G, 7 + i, none⟩) (.inl (.inl rfl)) _, ?_, h.kr.green_it far cG t _ i hm, h.km.of_chg cG (by omega)⟩
  have := h.b.set (7 + i) (rk (t i))
  rw [gcells_green _ _ _ _ _ _ _ _ i hi] at this
  have e : (stepA t (Mk.mark 5 s t) D i).green = fun q => if q = i then t i else D.green q := by
    unfold stepA; rw [if_pos hm]
  rw [e]; exact this
theorem LH.ban {w wr : World} {G : Nat} {L : Nat → Nat} {vb vt vs : Value} {sec : Nat → Int} {bg hd : Bool} {s t : Nat → Int} {C D : KC} (h : LH w wr G L vb vt vs sec bg hd s t C D) (far : Far G L) (hL : ∀ i, i < 7 → L i < w.heap.size) (i : Nat) (hi : i < 5) (hm : Mk.mark 5 s t i ≠ 0) :
    ∃ w', (Instr.mapUpdate 45 (.map (some (L i))) (rk (t i)) (.bool true)).run Try.prog wr = .ok () w' ∧ LH w w' G L vb vt vs sec bg hd s t C (stepA t (Mk.mark 5 s t) D i) := by
  obtain ⟨w', h1, h2, h3⟩ := h.kr.ban_it far t (Mk.mark 5 s t) i hi hm
  have hlt := hL i (by omega)
  refine ⟨w', h1, Chg.trans' h.ch h2 (fun x _ hx => .inr ⟨i, by omega, hx⟩), ?_, h3, h.km.of_chg h2 (by omega)⟩
  have := h2.blk h.b (fun e => far.g i (by omega) e.symm)
  have e : (stepA t (Mk.mark 5 s t) D i).green = D.green := by
    unfold stepA; rw [if_neg hm]
  rw [e]; exact this
theorem LH.drew {w wr : World} {G : Nat} {L : Nat → Nat} {vb vt vs : Value} {sec : Nat → Int} {bg hd : Bool} {s t : Nat → Int} {C D : KC} (h : LH w wr G L vb vt vs sec bg hd s t C D) (n : Nat) : LH w (wr.drewN n) G L vb vt vs sec bg hd s t C D :=
  ⟨h.ch.drewN n, h.b.drewN n, h.kr.quiet ((Chg.refl _ _).drewN n), h.km.quiet ((Chg.refl _ _).drewN n)⟩
theorem stepB_green (t : Nat → Int) (m : Nat → Nat) (k : Int → Int) (C : KC) (p : Nat) : (stepB t m k C p).green = C.green := by
  unfold stepB; repeat' split
  all_goals rfl
theorem LH.hi {w wr : World} {G : Nat} {L : Nat → Nat} {vb vt vs : Value} {sec : Nat → Int} {bg hd : Bool} {s t : Nat → Int} {C D : KC} (h : LH w wr G L vb vt vs sec bg hd s t C D) (far : Far G L) (hL : ∀ i, i < 7 → L i < w.heap.size) (i : Nat) (hi : i < 5) (hm : Mk.mark 5 s t i = 2) :
    ∃ w', (Instr.mapUpdate 47 (.map (some (L 6))) (rk (t i)) (.int .i64 (kOf s t (t i)))).run Try.prog wr = .ok () w' ∧ LH w w' G L vb vt vs sec bg hd s t C (stepB t (Mk.mark 5 s t) (kOf s t) D i) := by
  obtain ⟨w', h1, h2, h3⟩ := h.kr.hi_it far t (Mk.mark 5 s t) (kOf s t) i hm
  have hlt := hL 6 (by omega)
  refine ⟨w', h1, Chg.trans' h.ch h2 (fun x _ hx => .inr ⟨6, by omega, hx⟩), ?_, h3, h.km.of_chg h2 (by omega)⟩
  rw [stepB_green]
  exact h2.blk h.b (fun e => far.g 6 (by omega) e.symm)
theorem LH.lo {w wr : World} {G : Nat} {L : Nat → Nat} {vb vt vs : Value} {sec : Nat → Int} {bg hd : Bool} {s t : Nat → Int} {C D : KC} (h : LH w wr G L vb vt vs sec bg hd s t C D) (far : Far G L) (hL : ∀ i, i < 7 → L i < w.heap.size) (i : Nat) (hi : i < 5) (hm : Mk.mark 5 s t i ≠ 2) (hl : (D.lo (t i)).getD 0 < kOf s t (t i)) :
    ∃ w', (Instr.mapUpdate 47 (.map (some (L 5))) (rk (t i)) (.int .i64 (kOf s t (t i)))).run Try.prog wr = .ok () w' ∧ LH w w' G L vb vt vs sec bg hd s t C (stepB t (Mk.mark 5 s t) (kOf s t) D i) := by
  obtain ⟨w', h1, h2, h3⟩ := h.kr.lo_it far t (Mk.mark 5 s t) (kOf s t) i hm hl
  have hlt := hL 5 (by omega)
  refine ⟨w', h1, Chg.trans' h.ch h2 (fun x _ hx => .inr ⟨5, by omega, hx⟩), ?_, h3, h.km.of_chg h2 (by omega)⟩
  rw [stepB_green]
  exact h2.blk h.b (fun e => far.g 5 (by omega) e.symm)
theorem LH.same {w wr : World} {G : Nat} {L : Nat → Nat} {vb vt vs : Value} {sec : Nat → Int} {bg hd : Bool} {s t : Nat → Int} {C D : KC} (h : LH w wr G L vb vt vs sec bg hd s t C D) (i : Nat) (hm : Mk.mark 5 s t i ≠ 2) (hl : ¬ (D.lo (t i)).getD 0 < kOf s t (t i)) : LH w wr G L vb vt vs sec bg hd s t C (stepB t (Mk.mark 5 s t) (kOf s t) D i) := by
  unfold stepB
  rw [if_neg hm, if_neg hl]; exact h
theorem LH.round {w wr : World} {G : Nat} {L : Nat → Nat} {vb vt vs : Value} {sec : Nat → Int} {bg hd : Bool} {s t : Nat → Int} {C : KC} {i : Nat} (h : LH w wr G L vb vt vs sec bg hd s t C (stepB t (Mk.mark 5 s t) (kOf s t) (stepA t (Mk.mark 5 s t) (learnC t (Mk.mark 5 s t) (kOf s t) C i) i) i)) : LR w wr G L vb vt vs sec bg hd s t C (i + 1) := ⟨h.ch, h.b, h.kr, h.km⟩

theorem markB_cases (m : Nat) : (m = 0 ∧ markB m = 103) ∨ (m = 1 ∧ markB m = 121) ∨ (m ≠ 0 ∧ m ≠ 1 ∧ markB m = 45) := by
  unfold markB
  by_cases h : m = 0
  · left; exact ⟨h, by rw [if_pos h]⟩
  · by_cases h1 : m = 1
    · right; left; exact ⟨h1, by rw [if_neg h, if_pos h1]⟩
    · right; right; exact ⟨h, h1, by rw [if_neg h, if_neg h1]⟩
theorem mark_le2 (N : Nat) (s t : Nat → Int) (p : Nat) : Mk.mark N s t p ≤ 2 := by
  unfold Mk.mark; repeat' split
  all_goals omega

set_option maxHeartbeats 4000000 in
set_option maxRecDepth 100000 in
theorem learn_any (w : World) (G : Nat) (L : Nat → Nat) (vb vt vs : Value) (sec : Nat → Int) (bg hd : Bool) (s t : Nat → Int) (C : KC) (hb : Blk w G 52 (gcells vb vt vs sec C.green bg hd L)) (hk : KRep w L C) (far : Far G L) :
    Calls Try.prog 36 #[ptr G, wordF t, .string (str (marksL s t))] w fun e w' => e = .returned (.tuple #[]) ∧ LR w w' G L vb vt vs sec bg hd s t C 5 := by
  have hmm := @run_makeMap Try.prog
  have hG := hb.lt
  have hL := hide (fun i (hi : i < 7) => hk.lt i hi)
  have hixs := hide (idx_marks s t)
  have hix : Hid (∀ j : Nat, j < 5 → ∀ W, (Instr.index 50 (.agg #[rk (t 0), rk (t 1), rk (t 2), rk (t 3), rk (t 4)]) (.int .i64 (j : Int))).run Try.prog W = .ok (rk (t j)) W) := fun j hj W =>
    run_index_agg (P := Try.prog) W 50 21 5 Try.underlying50 Try.sizeOf21 Try.isAgg21 _ j hj _ (by have := wc_get t j hj; simpa [wc] using this)
  have S0 : Hid (∀ W, W = ((w.alloc (.cells (wc t).toArray 50)).alloc (.map #[] 0)) → Quiet w W ∧ Blk W w.heap.size 50 (wc t) ∧ MapC W (w.heap.size + 1) (kTo s t 0)) := by
    rintro W rfl
    have h1 : ∀ (W : World) (o : Obj), (W.alloc o).heap.size = W.heap.size + 1 := fun W o => by simp
    have b4 := MapC.new (w.alloc (.cells (wc t).toArray 50))
    rw [h1] at b4
    exact ⟨Chg.alloc (Chg.alloc (Chg.refl (fun _ => False) w) _) _, (Blk.new w 50 (wc t)).alloc _, b4.congr (fun c => rfl)⟩
  have hbH := hide (⟨hb, hk⟩ : _ ∧ _)
  have hGH := hide hG
  clear hb hk hG
  generalize hM : str (marksL s t) = MS at *
  unfold wordF ptr
  have e2 : (wc t).toArray = #[rk (t 0), rk (t 1), rk (t 2), rk (t 3), rk (t 4)] := rfl
  rw [e2] at S0 ⊢
  clear e2
  go_enter Try.func36, Try.ntmps36
  go_wp2
  generalize hW0 : ((w.alloc (.cells #[rk (t 0), rk (t 1), rk (t 2), rk (t 3), rk (t 4)] 50)).alloc (.map #[] 0)) = W0 at *
  have S1 := hide (unhide S0 W0 rfl)
  clear hW0 S0 hmm
  go_loopw [13] (fun z wr => ∃ i : Nat, i ≤ 5 ∧ z = .int .i64 (i : Int) ∧ Quiet w wr ∧ Blk wr w.heap.size 50 (wc t) ∧ MapC wr (w.heap.size + 1) (kTo s t i)) (fun z _ => 6 - (intOf z).toNat)
  case atStart => exact ⟨0, by omega, rfl, unhide S1⟩
  case round =>
    clear S1
    obtain ⟨i, hi, rfl, hq, hbt, hmp⟩ := hrel
    by_cases hlt : i < 5
    · have k1 : (i : Int) < 5 := by omega
      have wi : wrap64 ((i : Int) + 1) = (i : Int) + 1 := wrap_small (i + 1) (by omega)
      have hxi := unhide hix i hlt
      have hxs := unhide hixs i hlt
      have hltH := hide hlt
      rcases markB_cases (Mk.mark 5 s t i) with ⟨hm, hB⟩ | ⟨hm, hB⟩ | ⟨hm, hm1, hB⟩
      · rw [hB] at hxs
        have MS1 := hmp.look (t i)
        obtain ⟨W3, hup, ch3, mp3⟩ := hmp.store (t i) (kTo s t i (t i) + 1)
        have l5 := kTo_le s t (t i) i
        have wl : wrap64 (kTo s t i (t i) + 1) = kTo s t i (t i) + 1 := by unfold wrap64; omega
        have MN : Hid (Quiet w W3 ∧ Blk W3 w.heap.size 50 (wc t) ∧ MapC W3 (w.heap.size + 1) (kTo s t (i + 1))) := ⟨Chg.trans' hq ch3 (fun x hx hy => by omega), ch3.blk hbt (by omega), mp3.congr (fun c => (kTo_hit s t i (by omega) c).symm)⟩
        clear hq hbt hmp hm hB hi hlt hix hixs l5 mp3 ch3
        generalize kTo s t i (t i) = kk at *
        generalize t i = c at *
        have hxs : ∀ W, (Instr.index 9 (.string MS) (.int .i64 (i : Int))).run Try.prog W = .ok (.int .u8 103) W := hxs
        go_wp2
        go_roundw
        case rel => exact ⟨i + 1, unhide hltH, by simp; try exact wi, unhide MN⟩
        case measure =>
          have h := unhide hltH
          first
            | exact meas5 h
            | (rw [wi]; exact meas5 h)
      · rw [hB] at hxs
        have MS1 := hmp.look (t i)
        obtain ⟨W3, hup, ch3, mp3⟩ := hmp.store (t i) (kTo s t i (t i) + 1)
        have l5 := kTo_le s t (t i) i
        have wl : wrap64 (kTo s t i (t i) + 1) = kTo s t i (t i) + 1 := by unfold wrap64; omega
        have MN : Hid (Quiet w W3 ∧ Blk W3 w.heap.size 50 (wc t) ∧ MapC W3 (w.heap.size + 1) (kTo s t (i + 1))) := ⟨Chg.trans' hq ch3 (fun x hx hy => by omega), ch3.blk hbt (by omega), mp3.congr (fun c => (kTo_hit s t i (by omega) c).symm)⟩
        clear hq hbt hmp hm hB hi hlt hix hixs l5 mp3 ch3
        generalize kTo s t i (t i) = kk at *
        generalize t i = c at *
        have hxs : ∀ W, (Instr.index 9 (.string MS) (.int .i64 (i : Int))).run Try.prog W = .ok (.int .u8 121) W := hxs
        go_wp2
        go_roundw
        case rel => exact ⟨i + 1, unhide hltH, by simp; try exact wi, unhide MN⟩
        case measure =>
          have h := unhide hltH
          first
            | exact meas5 h
            | (rw [wi]; exact meas5 h)
      · rw [hB] at hxs
        have hm2 : Mk.mark 5 s t i = 2 := by have := mark_le2 5 s t i; omega
        have MN : Hid (Quiet w wr ∧ Blk wr w.heap.size 50 (wc t) ∧ MapC wr (w.heap.size + 1) (kTo s t (i + 1))) := ⟨hq, hbt, hmp.congr (fun c => (kTo_miss s t i hm2 c).symm)⟩
        clear hq hbt hmp hm hm1 hm2 hB hi hlt hix hixs
        generalize t i = c at *
        have hxs : ∀ W, (Instr.index 9 (.string MS) (.int .i64 (i : Int))).run Try.prog W = .ok (.int .u8 45) W := hxs
        go_wp2
        go_roundw
        case rel => exact ⟨i + 1, unhide hltH, by simp; try exact wi, unhide MN⟩
        case measure =>
          have h := unhide hltH
          first
            | exact meas5 h
            | (rw [wi]; exact meas5 h)
    · have k1 : ¬ (i : Int) < 5 := by omega
      obtain rfl : i = 5 := by omega
      have t0 := hbt.cell 0
      have t1 := hbt.cell 1
      have t2 := hbt.cell 2
      have t3 := hbt.cell 3
      have t4 := hbt.cell 4
      simp [wc] at t0 t1 t2 t3 t4
      obtain ⟨hb, hk⟩ := unhide hbH
      have S2 : Hid (LR w wr G L vb vt vs sec bg hd s t C 0) := ⟨hq.chg _, hq.blk hb, hk.quiet hq, hmp⟩
      clear hq hbt hmp hlt hi hb hk
      go_wp2
      clear t0 t1 t2 t3 t4 hbH
      go_loopw [27] (fun z wv => ∃ i : Nat, i ≤ 5 ∧ z = .int .i64 (i : Int) ∧ LR w wv G L vb vt vs sec bg hd s t C i) (fun z _ => 6 - (intOf z).toNat)
      case atStart => exact ⟨0, by omega, rfl, unhide S2⟩
      case round =>
        clear S2
        obtain ⟨i, hi, rfl, R⟩ := hrel
        by_cases hlt : i < 5
        · have k1 : (i : Int) < 5 := by omega
          have wi : wrap64 ((i : Int) + 1) = (i : Int) + 1 := wrap_small (i + 1) (by omega)
          have hxi := unhide hix i hlt
          have hxs := unhide hixs i hlt
          have hltH := hide hlt
          have i0 : (0 : Int) ≤ (i : Int) := by omega
          have H := hide R.half
          have RND : Hid (∀ wv, LH w wv G L vb vt vs sec bg hd s t C (stepB t (Mk.mark 5 s t) (kOf s t) (stepA t (Mk.mark 5 s t) (learnC t (Mk.mark 5 s t) (kOf s t) C i) i) i) → LR w wv G L vb vt vs sec bg hd s t C (i + 1)) := fun wv h => h.round
          clear R hi
          generalize learnC t (Mk.mark 5 s t) (kOf s t) C i = D at *
          have farH := hide far
          rcases markB_cases (Mk.mark 5 s t i) with ⟨hm, hB⟩ | ⟨hm, hB⟩ | ⟨hm, hm1, hB⟩
          · rw [hB] at hxs
            have hG := unhide hGH
            have b0 := (unhide H).b
            have cg := (b0.cell (7 + i)).trans (gcells_grn _ _ _ _ _ _ _ _ i hlt)
            have fg := b0.frozen (7 + i)
            have H1 := hide ((unhide H).green far hG i hlt hm)
            have hm2 := hide (show Mk.mark 5 s t i ≠ 2 by omega)
            clear hm hB b0 H hlt
            obtain ⟨W1, hW1⟩ : ∃ W, wr.setCell ⟨G, 7 + i, none⟩ (rk (t i)) = W := ⟨_, rfl⟩
            rw [hW1] at H1
            clear hix hixs far
            have hxs : ∀ W, (Instr.index 9 (.string MS) (.int .i64 (i : Int))).run Try.prog W = .ok (.int .u8 103) W := hxs
            have HL := hide (fun n => ((unhide H1).drew n).kr.least (t i))
            have HK := hide (fun n => ((unhide H1).drew n).km.look (t i))
            have cl : W1.cell? ⟨G, 20, none⟩ = some (.map (some (L 5))) := (unhide H1).b.cell 20
            obtain ⟨E, hE⟩ : ∃ E, stepA t (Mk.mark 5 s t) D i = E := ⟨_, rfl⟩
            rw [hE] at H1 HL RND
            have hGW : G < W1.heap.size := (unhide H1).b.lt
            clear hE
            obtain ⟨c, hc⟩ : ∃ c, t i = c := ⟨_, rfl⟩
            obtain ⟨kk, hkk⟩ : ∃ kk, kOf s t c = kk := ⟨_, rfl⟩
            obtain ⟨v, hv⟩ : ∃ v, (E.lo c).getD 0 = v := ⟨_, rfl⟩
            rw [hc] at HL HK hxi hW1
            rw [hkk] at HK
            rw [hv] at HL
            have EQ : Hid (t i = c ∧ kOf s t c = kk ∧ (E.lo c).getD 0 = v) := ⟨hc, hkk, hv⟩
            clear hc hkk hv
            have hl1 : ∀ n, (Instr.lookup 47 (.map (some (L 5))) (rk c) false).run Try.prog (W1.drewN n) = .ok (.int .i64 v) (W1.drewN n) := unhide HL
            have hl2 : ∀ n, (Instr.lookup 47 (.map (some (w.heap.size + 1))) (rk c) false).run Try.prog (W1.drewN n) = .ok (.int .i64 kk) (W1.drewN n) := unhide HK
            clear HL HK
            have L5e := hide (rfl : L 5 = L 5)
            obtain ⟨L5, hL5⟩ : ∃ x, L 5 = x := ⟨_, rfl⟩
            rw [hL5] at cl hl1
            have hL5H := hide hL5
            clear hL5 L5e
            by_cases hvk : v < kk
            · have hdc : decide (v < kk) = true := decide_eq_true hvk
              have hvH := hide hvk
              clear hvk
              go_wp2
              go_quiet (fail)
              have cl2 : (W1.drewN nq).cell? ⟨G, 20, none⟩ = some (.map (some L5)) := cl
              have hl2' : ∀ n, (Instr.lookup 47 (.map (some (w.heap.size + 1))) (rk c) false).run Try.prog ((W1.drewN nq).drewN n) = .ok (.int .i64 kk) ((W1.drewN nq).drewN n) := fun n => by
                have h := (((unhide H1).drew nq).drew n).km.look c
                rwa [(unhide EQ).2.1] at h
              have H2 := hide ((unhide H1).drew nq)
              clear H1 hl1 hl2 cl
              generalize W1.drewN nq = W2 at *
              clear cg fg hW1
              go_wp2
              refine wp_region_noPanic ?_
              try simp only [List.append_eq, List.cons_append, List.nil_append]
              refine wp_region_mix [(0, true), (1, true), (2, true), (3, true), (4, true), (5, true), (6, true), (7, true)] [8] (by kernel_rfl) (by kernel_rfl) (fun _ _ _ _ _ h => h) ?_
              simp only [pickM, pickO, List.getElem?_cons_zero, List.getElem?_cons_succ]
              repeat (first | (refine wpMix_read rfl (fun K hK => ?_)) | (refine wpMix_pure rfl (fun K hK => ?_))
                      go_big_quiet_op
                      first | (refine hK _ ?_; clear hK K))
              refine wpMix_nil ?_
              intro _ hw'
              obtain ⟨nq, hw''⟩ := hw'
              subst hw''
              have H3 := (unhide H2).drew nq
              obtain ⟨e1, e2, e3⟩ := unhide EQ
              obtain ⟨W3, hup, H4⟩ := H3.lo (unhide farH) (unhide hL) i (unhide hltH) (unhide hm2) (by rw [e1, e2, e3]; exact unhide hvH)
              rw [e1, e2, unhide hL5H] at hup
              have fin := hide (unhide RND _ H4)
              clear H3 H4 e1 e2 e3
              go_wp2
              refine NoPanic.normal ?_
              go_wp2
              go_roundw
              case rel => exact ⟨i + 1, unhide hltH, by simp; try exact wi, unhide fin⟩
              case measure =>
                have h := unhide hltH
                first
                  | exact meas5 h
                  | (rw [wi]; exact meas5 h)
            · have hdc : decide (v < kk) = false := decide_eq_false hvk
              have hvH : Hid (kk ≤ v) := Int.not_lt.1 hvk
              clear hvk
              go_wp2
              go_quiet (fail)
              have fin : Hid (LR w (W1.drewN nq) G L vb vt vs sec bg hd s t C (i + 1)) := unhide RND _ (((unhide H1).drew nq).same i (unhide hm2) (by
                obtain ⟨e1, e2, e3⟩ := unhide EQ
                rw [e1, e2, e3]; exact Int.not_lt.2 (unhide hvH)))
              clear H1 hl1 hl2 cl
              generalize W1.drewN nq = W2 at *
              clear cg fg hW1
              go_wp2
              go_roundw
              case rel => exact ⟨i + 1, unhide hltH, by simp; try exact wi, unhide fin⟩
              case measure =>
                have h := unhide hltH
                first
                  | exact meas5 h
                  | (rw [wi]; exact meas5 h)
          · rw [hB] at hxs
            have hG := unhide hGH
            have b0 := (unhide H).b
            have cb := (b0.cell (15 + i)).trans (gcells_ban _ _ _ _ _ _ _ _ i hlt)
            obtain ⟨W1, hup1, H1⟩ := (unhide H).ban far (unhide hL) i hlt (by omega)
            have H1 := hide H1
            have hm2 := hide (show Mk.mark 5 s t i ≠ 2 by omega)
            clear hm hB b0 H hlt
            clear hix hixs far
            have hxs : ∀ W, (Instr.index 9 (.string MS) (.int .i64 (i : Int))).run Try.prog W = .ok (.int .u8 121) W := hxs
            have HL := hide (fun n => ((unhide H1).drew n).kr.least (t i))
            have HK := hide (fun n => ((unhide H1).drew n).km.look (t i))
            have cl : W1.cell? ⟨G, 20, none⟩ = some (.map (some (L 5))) := (unhide H1).b.cell 20
            obtain ⟨E, hE⟩ : ∃ E, stepA t (Mk.mark 5 s t) D i = E := ⟨_, rfl⟩
            rw [hE] at H1 HL RND
            have hGW : G < W1.heap.size := (unhide H1).b.lt
            clear hE
            obtain ⟨c, hc⟩ : ∃ c, t i = c := ⟨_, rfl⟩
            obtain ⟨kk, hkk⟩ : ∃ kk, kOf s t c = kk := ⟨_, rfl⟩
            obtain ⟨v, hv⟩ : ∃ v, (E.lo c).getD 0 = v := ⟨_, rfl⟩
            rw [hc] at HL HK hxi hup1
            rw [hkk] at HK
            rw [hv] at HL
            have EQ : Hid (t i = c ∧ kOf s t c = kk ∧ (E.lo c).getD 0 = v) := ⟨hc, hkk, hv⟩
            clear hc hkk hv
            have hl1 : ∀ n, (Instr.lookup 47 (.map (some (L 5))) (rk c) false).run Try.prog (W1.drewN n) = .ok (.int .i64 v) (W1.drewN n) := unhide HL
            have hl2 : ∀ n, (Instr.lookup 47 (.map (some (w.heap.size + 1))) (rk c) false).run Try.prog (W1.drewN n) = .ok (.int .i64 kk) (W1.drewN n) := unhide HK
            clear HL HK
            have L5e := hide (rfl : L 5 = L 5)
            obtain ⟨L5, hL5⟩ : ∃ x, L 5 = x := ⟨_, rfl⟩
            rw [hL5] at cl hl1
            have hL5H := hide hL5
            clear hL5 L5e
            by_cases hvk : v < kk
            · have hdc : decide (v < kk) = true := decide_eq_true hvk
              have hvH := hide hvk
              clear hvk
              go_wp2
              go_quiet (fail)
              have cl2 : (W1.drewN nq).cell? ⟨G, 20, none⟩ = some (.map (some L5)) := cl
              have hl2' : ∀ n, (Instr.lookup 47 (.map (some (w.heap.size + 1))) (rk c) false).run Try.prog ((W1.drewN nq).drewN n) = .ok (.int .i64 kk) ((W1.drewN nq).drewN n) := fun n => by
                have h := (((unhide H1).drew nq).drew n).km.look c
                rwa [(unhide EQ).2.1] at h
              have H2 := hide ((unhide H1).drew nq)
              clear H1 hl1 hl2 cl
              generalize W1.drewN nq = W2 at *
              clear cb hup1
              go_wp2
              refine wp_region_noPanic ?_
              try simp only [List.append_eq, List.cons_append, List.nil_append]
              refine wp_region_mix [(0, true), (1, true), (2, true), (3, true), (4, true), (5, true), (6, true), (7, true)] [8] (by kernel_rfl) (by kernel_rfl) (fun _ _ _ _ _ h => h) ?_
              simp only [pickM, pickO, List.getElem?_cons_zero, List.getElem?_cons_succ]
              repeat (first | (refine wpMix_read rfl (fun K hK => ?_)) | (refine wpMix_pure rfl (fun K hK => ?_))
                      go_big_quiet_op
                      first | (refine hK _ ?_; clear hK K))
              refine wpMix_nil ?_
              intro _ hw'
              obtain ⟨nq, hw''⟩ := hw'
              subst hw''
              have H3 := (unhide H2).drew nq
              obtain ⟨e1, e2, e3⟩ := unhide EQ
              obtain ⟨W3, hup, H4⟩ := H3.lo (unhide farH) (unhide hL) i (unhide hltH) (unhide hm2) (by rw [e1, e2, e3]; exact unhide hvH)
              rw [e1, e2, unhide hL5H] at hup
              have fin := hide (unhide RND _ H4)
              clear H3 H4 e1 e2 e3
              go_wp2
              refine NoPanic.normal ?_
              go_wp2
              go_roundw
              case rel => exact ⟨i + 1, unhide hltH, by simp; try exact wi, unhide fin⟩
              case measure =>
                have h := unhide hltH
                first
                  | exact meas5 h
                  | (rw [wi]; exact meas5 h)
            · have hdc : decide (v < kk) = false := decide_eq_false hvk
              have hvH : Hid (kk ≤ v) := Int.not_lt.1 hvk
              clear hvk
              go_wp2
              go_quiet (fail)
              have fin : Hid (LR w (W1.drewN nq) G L vb vt vs sec bg hd s t C (i + 1)) := unhide RND _ (((unhide H1).drew nq).same i (unhide hm2) (by
                obtain ⟨e1, e2, e3⟩ := unhide EQ
                rw [e1, e2, e3]; exact Int.not_lt.2 (unhide hvH)))
              clear H1 hl1 hl2 cl
              generalize W1.drewN nq = W2 at *
              clear cb hup1
              go_wp2
              go_roundw
              case rel => exact ⟨i + 1, unhide hltH, by simp; try exact wi, unhide fin⟩
              case measure =>
                have h := unhide hltH
                first
                  | exact meas5 h
                  | (rw [wi]; exact meas5 h)
          · rw [hB] at hxs
            have hm2 : Mk.mark 5 s t i = 2 := by have := mark_le2 5 s t i; omega
            have b0 := (unhide H).b
            have cb := (b0.cell (15 + i)).trans (gcells_ban _ _ _ _ _ _ _ _ i hlt)
            obtain ⟨W1, hup1, H1⟩ := (unhide H).ban far (unhide hL) i hlt hm
            have b1 := H1.b
            have ch : W1.cell? ⟨G, 21, none⟩ = some (.map (some (L 6))) := b1.cell 21
            have hkl : ∀ n, (Instr.lookup 47 (.map (some (w.heap.size + 1))) (rk (t i)) false).run Try.prog (W1.drewN n) = .ok (.int .i64 (kOf s t (t i))) (W1.drewN n) := fun n => (H1.drew n).km.look (t i)
            have H1 := hide H1
            have hm2 := hide hm2
            have hltH2 := hide hlt
            clear hm hm1 hB b0 b1 H hlt
            clear hix hixs far
            have hxs : ∀ W, (Instr.index 9 (.string MS) (.int .i64 (i : Int))).run Try.prog W = .ok (.int .u8 45) W := hxs
            obtain ⟨c, hc⟩ : ∃ c, t i = c := ⟨_, rfl⟩
            obtain ⟨kk, hkk⟩ : ∃ kk, kOf s t c = kk := ⟨_, rfl⟩
            rw [hc] at hxi hup1 hkl
            rw [hkk] at hkl
            have hcH := hide hc
            have hkH := hide hkk
            clear hc hkk
            obtain ⟨L6, hL6⟩ : ∃ x, L 6 = x := ⟨_, rfl⟩
            rw [hL6] at ch
            have hL6H := hide hL6
            have hGW : G < W1.heap.size := (unhide H1).b.lt
            clear hL6
            go_wp2
            refine wp_region_noPanic ?_
            try simp only [List.append_eq, List.cons_append, List.nil_append]
            refine wp_region_mix [(0, true), (1, true), (2, true), (3, true), (4, true), (5, true), (6, true), (7, true)] [8] (by kernel_rfl) (by kernel_rfl) (fun _ _ _ _ _ h => h) ?_
            simp only [pickM, pickO, List.getElem?_cons_zero, List.getElem?_cons_succ]
            repeat (first | (refine wpMix_read rfl (fun K hK => ?_)) | (refine wpMix_pure rfl (fun K hK => ?_))
                    go_big_quiet_op
                    first | (refine hK _ ?_; clear hK K))
            refine wpMix_nil ?_
            intro _ hw'
            obtain ⟨nq, hw''⟩ := hw'
            subst hw''
            have H3 := (unhide H1).drew nq
            obtain ⟨W3, hup, H4⟩ := H3.hi (unhide farH) (unhide hL) i (unhide hltH) (unhide hm2)
            rw [unhide hcH, unhide hkH, unhide hL6H] at hup
            have fin := hide (unhide RND _ H4)
            clear H3 H4
            go_wp2
            refine NoPanic.normal ?_
            go_wp2
            go_roundw
            case rel => exact ⟨i + 1, unhide hltH, by simp; try exact wi, unhide fin⟩
            case measure =>
              have h := unhide hltH
              first
                | exact meas5 h
                | (rw [wi]; exact meas5 h)
        · have k1 : ¬ (i : Int) < 5 := by omega
          obtain rfl : i = 5 := by omega
          have RH := hide R
          clear R hlt hi hix hixs
          go_wp2
          go_end0
          exact ⟨rfl, unhide RH⟩
end Go.Proofs.Qxb6500370a
