/-
  THE REAL TURTLE: again, New. (gen6again.py)
-/
import Derived.Test.Qxb6500366aPush
namespace Go.Proofs.Qxb6500366a
open Go.RowKit Go.Qx
set_option linter.unusedVariables false
set_option linter.unusedSimpArgs false

def startR (p : Pt) : Run := ⟨[], 0, p, p, (0, 0), (0, 0)⟩
def runTo (pts : List Pt) (i : Nat) : Run := (pts.take i).foldl pushR (startR (pts.headD (0, 0)))
def runOf (pts : List Pt) : Run := pts.foldl pushR (startR (pts.headD (0, 0)))
theorem runTo_zero (pts : List Pt) : runTo pts 0 = startR (pts.headD (0, 0)) := by simp [runTo]
theorem runTo_succ (pts : List Pt) (i : Nat) (h : i < pts.length) : runTo pts (i + 1) = pushR (runTo pts i) pts[i] := by
  unfold runTo
  rw [List.take_succ_eq_append_getElem h, List.foldl_append]; rfl
theorem runTo_all (pts : List Pt) : runTo pts pts.length = runOf pts := by unfold runTo runOf; rw [List.take_length]

theorem placeOf_set_self (q : Pt) (v : Int) : ∀ (l : List (Pt × Int)) (i j : Nat) (n : Int), placeOf q l i = some (j, n) → placeOf q (l.set (j - i) (q, v)) i = some (j, v)
  | [], i, j, n, h => by cases h
  | x :: l, i, j, n, h => by
    unfold placeOf at h
    split at h
    · cases h
      rw [Nat.sub_self, List.set_cons_zero, placeOf, if_pos rfl]
    · rename_i hx
      have hs := placeOf_spec q l (i + 1) j n h
      rw [show j - i = (j - (i + 1)) + 1 by omega, List.set_cons_succ, placeOf, if_neg hx]
      exact placeOf_set_self q v l (i + 1) j n h
theorem placeOf_set_ne (p q : Pt) (hpq : p ≠ q) (v : Int) : ∀ (l : List (Pt × Int)) (i j : Nat) (n : Int), placeOf q l i = some (j, n) → placeOf p (l.set (j - i) (q, v)) i = placeOf p l i
  | [], i, j, n, h => by cases h
  | x :: l, i, j, n, h => by
    unfold placeOf at h
    split at h
    · rename_i hx
      cases h
      rw [Nat.sub_self, List.set_cons_zero, placeOf, placeOf, if_neg hpq, if_neg (by rw [← hx]; exact hpq)]
    · rename_i hx
      have hs := placeOf_spec q l (i + 1) j n h
      rw [show j - i = (j - (i + 1)) + 1 by omega, List.set_cons_succ, placeOf, placeOf, placeOf_set_ne p q hpq v l (i + 1) j n h]
theorem placeOf_app (p q : Pt) (v : Int) : ∀ (l : List (Pt × Int)) (i : Nat), placeOf q l i = none → placeOf p (l ++ [(q, v)]) i = if p = q then some (i + l.length, v) else placeOf p l i
  | [], i, _ => by
    simp only [List.nil_append, placeOf, List.length_nil, Nat.add_zero]
  | x :: l, i, h => by
    unfold placeOf at h
    split at h
    · cases h
    · rename_i hx
      rw [List.cons_append, placeOf, placeOf, placeOf_app p q v l (i + 1) h]
      by_cases hp : p = x.1
      · rw [if_pos hp, if_pos hp, if_neg (fun e => hx (by rw [← e]; exact hp))]
      · rw [if_neg hp, if_neg hp]
        by_cases e : p = q
        · rw [if_pos e, if_pos e]; simp; omega
        · rw [if_neg e, if_neg e]

theorem valAt_put (p q : Pt) (v : Int) (l : List (Pt × Int)) : valAt p (putL q v l) = if p = q then v else valAt p l := by
  unfold valAt putL
  cases h : placeOf q l 0 with
  | none =>
    simp only
    rw [placeOf_app p q v l 0 h]
    by_cases e : p = q
    · rw [if_pos e, if_pos e]; rfl
    · rw [if_neg e, if_neg e]
  | some x =>
    obtain ⟨j, n⟩ := x
    simp only
    by_cases e : p = q
    · subst e
      have := placeOf_set_self p v l 0 j n h
      rw [Nat.sub_zero] at this
      rw [this, if_pos rfl]; rfl
    · have := placeOf_set_ne p q e v l 0 j n h
      rw [Nat.sub_zero] at this
      rw [this, if_neg e]

structure Bd (r : Run) (i : Nat) : Prop where
  pos : Small r.pos
  op : Fit (2199023255552 * i) r.op
  k : 0 ≤ r.k ∧ r.k ≤ 24 * i
  c : ∀ p, 0 ≤ valAt p r.l ∧ valAt p r.l ≤ i

theorem Bd.push {r : Run} {i : Nat} (h : Bd r i) (hi : i ≤ 24) {p : Pt} (hp : Small p) : Bd (pushR r p) (i + 1) := by
  obtain ⟨⟨a1, a2, a3, a4⟩, ⟨o1, o2, o3, o4⟩, ⟨k1, k2⟩, hc⟩ := h
  have hpp := hp
  obtain ⟨b1, b2, b3, b4⟩ := hp
  have m1 := mul_abs (c := 1048576) (d := 1048576) ⟨a1, a2⟩ ⟨b1, b2⟩ (by decide) (by decide)
  have m2 := mul_abs (a := -r.pos.2) (c := 1048576) (d := 1048576) (by omega) ⟨b3, b4⟩ (by decide) (by decide)
  have m3 := mul_abs (c := 1048576) (d := 1048576) ⟨a1, a2⟩ ⟨b3, b4⟩ (by decide) (by decide)
  have m4 := mul_abs (a := -r.pos.2) (c := 1048576) (d := 1048576) (by omega) ⟨b1, b2⟩ (by decide) (by decide)
  have hcp := hc p
  refine ⟨hpp, ?_, ?_, ?_⟩
  · show Fit _ (opP r.op r.pos p)
    unfold opP Fit
    simp only
    push_cast
    refine ⟨by omega, by omega, by omega, by omega⟩
  · show 0 ≤ r.k + valAt p r.l ∧ r.k + valAt p r.l ≤ _
    push_cast
    omega
  · intro q
    show 0 ≤ valAt q (putL p (valAt p r.l + 1) r.l) ∧ valAt q (putL p (valAt p r.l + 1) r.l) ≤ _
    rw [valAt_put]
    have := hc q
    split <;> (push_cast; omega)

theorem bd_start (p : Pt) : Bd (startR p) 0 := by
  refine ⟨by show Small (0, 0); unfold Small; decide, by unfold Fit startR; simp, by unfold startR; simp, fun q => by unfold startR valAt; simp [placeOf]⟩
theorem bd_runTo (pts : List Pt) (hs : ∀ p ∈ pts, Small p) (hl : pts.length ≤ 24) : ∀ i, i ≤ pts.length → Bd (runTo pts i) i
  | 0, _ => by rw [runTo_zero]; exact bd_start _
  | i + 1, h => by
    rw [runTo_succ pts i (by omega)]
    exact (bd_runTo pts hs hl i (by omega)).push (by omega) (hs _ (List.getElem_mem _))

theorem Bd.fits {r : Run} {i : Nat} (h : Bd r i) (hi : i ≤ 24) : Fit 2251799813685248 r.op ∧ (0 ≤ r.k ∧ r.k ≤ 1000000) ∧ ∀ p, 0 ≤ valAt p r.l ∧ valAt p r.l ≤ 1000000 := by
  obtain ⟨q1, q2, q3, q4⟩ := h.op
  have hk := h.k
  refine ⟨⟨by omega, by omega, by omega, by omega⟩, by omega, fun p => by have := h.c p; omega⟩
theorem wrap_small (q : Nat) (h : q < 1073741824) : wrap64 (q : Int) = (q : Int) := by unfold wrap64; omega
theorem meas_plain {k i : Nat} (h : i < k) : k + 1 - ((i : Int) + 1).toNat < k + 1 - (i : Int).toNat := by omega
theorem meas_next {k i : Nat} (h : i < k) (wi : wrap64 ((i : Int) + 1) = (i : Int) + 1) : k + 1 - (intOf (.int .i64 (wrap64 ((i : Int) + 1)))).toNat < k + 1 - (intOf (.int .i64 (i : Int))).toNat := by
  rw [wi]
  show k + 1 - ((i : Int) + 1).toNat < k + 1 - (i : Int).toNat
  omega
theorem info44 : (Try.prog.info? 44).map (fun i => (i.zero, i.size, i.bytes)) = some (some (.complex .f64 0 0), 1, 16) := by kernel_rfl
theorem make45 (W : World) (n : Nat) (hn : n ≤ 24) : ∃ F : Array Value, (∀ n' : Int, n' = n → (Instr.makeSlice 45 (.int .i64 n') (.int .i64 24)).run Try.prog W = .ok (.slice (some ⟨W.heap.size, 0, none⟩) n 24) (W.alloc (.cells F 44))) ∧ F.toList.length = 24 ∧ ∀ i, i < 24 → F.toList[i]? = some (.complex .f64 0 0) := by
  obtain ⟨i, hi, hz0, hz1, hz2⟩ := info_parts info44
  have := run_make (P := Try.prog) W 45 44 i _ und45 hi hz0 .i64 .i64 n 24 (by omega) (by omega) (by rw [hz2]; omega) (by omega)
  rw [hz1] at this
  refine ⟨_, fun n' e => by subst e; exact this, by rw [Array.length_toList, size_madeCells]; rfl, ?_⟩
  intro j hj
  rw [show (Value.complex .f64 0 0).cells = #[Value.complex .f64 0 0] from rfl, toList_madeCells_one]
  rw [List.getElem?_replicate]; simp; omega

def againPost (w : World) (x : Nat) (pts : List Pt) (d : Pt) (e : Ending) (w' : World) : Prop :=
  ∃ tb mb, e = .returned (.pointer (some ⟨x, 0, none⟩)) ∧ Chg (fun k => k = x) w w' ∧ w.heap.size ≤ tb ∧ w.heap.size ≤ mb ∧ RepR w' x tb mb (runOf pts) pts d

set_option maxRecDepth 100000 in
set_option maxHeartbeats 4000000 in
theorem again_any (w : World) (x pb po cap : Nat) (vp vd vt vm : Value) (k : Int) (vl vh vo : Value) (pts : List Pt) (d : Pt) (B : Blk w x 48 (turC vp vd vt vm k vl vh vo)) (hd : CW vd d)
    (hp : ∀ i (h : i < pts.length), ∃ v, w.cell? ⟨pb, po + i, none⟩ = some v ∧ CW v pts[i]) (hpx : pb ≠ x) (h1 : 0 < pts.length) (h24 : pts.length ≤ 24) (hs : ∀ p ∈ pts, Small p) :
    Calls Try.prog 17 #[ptr x, .slice (some ⟨pb, po, none⟩) pts.length cap] w (againPost w x pts d) := by
  obtain ⟨F, hmk, hF, hFz⟩ := make45 w 0 (by omega)
  have hmk0 := hmk 0 rfl
  have hmm := @run_makeMap Try.prog
  obtain ⟨v0, hv0, cv0⟩ := hp 0 h1
  obtain ⟨u0, u1, rfl, U0, U1⟩ := cv0
  have hh0 : pts[0] = pts.headD (0, 0) := by
    cases pts with
    | nil => simp at h1
    | cons a b => rfl
  have hcv0 : CW (.complex .f64 u0 u1) (pts.headD (0, 0)) := by rw [← hh0]; exact ⟨u0, u1, rfl, U0, U1⟩
  rw [Nat.add_zero] at hv0
  have xlt := B.lt
  have plt := World.block_lt_of_cell? _ _ hv0
  have W1e : Hid (∀ W, W = (((w.setCell ⟨x, 2, none⟩ (.slice (some ⟨w.heap.size, 0, none⟩) 0 24)).setCell ⟨x, 3, none⟩ (.map (some (w.heap.size + 1)))).alloc (.cells F 44)).alloc (.map #[] 0) →
      Blk W x 48 (turC vp vd (.slice (some ⟨w.heap.size, 0, none⟩) 0 24) (.map (some (w.heap.size + 1))) k vl vh vo) ∧ Blk W w.heap.size 44 F.toList ∧ MapR W (w.heap.size + 1) [] ∧ Chg (fun k => k = x) w W) := by
    rintro W rfl
    have hne : w.heap.size ≠ x := by omega
    have hne1 : w.heap.size + 1 ≠ x := by omega
    have hz : ((w.setCell ⟨x, 2, none⟩ (.slice (some ⟨w.heap.size, 0, none⟩) 0 24)).setCell ⟨x, 3, none⟩ (.map (some (w.heap.size + 1)))).heap.size = w.heap.size := by simp [World.setCell]
    refine ⟨((((B.set 2 _).set 3 _).alloc _).alloc _), ?_, ?_, ?_⟩
    · have hb := Blk.new ((w.setCell ⟨x, 2, none⟩ (.slice (some ⟨w.heap.size, 0, none⟩) 0 24)).setCell ⟨x, 3, none⟩ (.map (some (w.heap.size + 1)))) 44 F.toList
      rw [Array.toArray_toList, hz] at hb
      exact hb.alloc _
    · have hm := MapR.new (((w.setCell ⟨x, 2, none⟩ (.slice (some ⟨w.heap.size, 0, none⟩) 0 24)).setCell ⟨x, 3, none⟩ (.map (some (w.heap.size + 1)))).alloc (.cells F 44))
      have hz2 : (((w.setCell ⟨x, 2, none⟩ (.slice (some ⟨w.heap.size, 0, none⟩) 0 24)).setCell ⟨x, 3, none⟩ (.map (some (w.heap.size + 1)))).alloc (.cells F 44)).heap.size = w.heap.size + 1 := by
        rw [show ∀ (W : World) (o : Obj), (W.alloc o).heap.size = W.heap.size + 1 from fun W o => by simp, hz]
      rw [hz2] at hm
      exact hm
    · exact ((Chg.setCell (Chg.setCell (Chg.refl (fun k => k = x) w) (p := ⟨x, 2, none⟩) (.inl rfl) _) (p := ⟨x, 3, none⟩) (.inl rfl) _).alloc _).alloc _
  have c2 := B.cell 2
  have c3 := B.cell 3
  have f2 := B.frozen 2
  have f3 := B.frozen 3
  simp [turC] at c2 c3
  have npos : (0 : Int) < (pts.length : Int) := by omega
  have hpH := hide hp
  have facts := hide (⟨hd, hcv0, hpx, h1, h24, hs, xlt, plt, hF⟩ : _ ∧ _ ∧ _ ∧ _ ∧ _ ∧ _ ∧ _ ∧ _ ∧ _)
  clear U0 U1 hh0
  clear B hd hp hcv0 h1 h24 hs hF hFz hmk
  unfold ptr
  go_enter Try.func17, Try.ntmps17
  go_wp2
  generalize hW1 : ((((w.setCell ⟨x, 2, none⟩ (.slice (some ⟨w.heap.size, 0, none⟩) 0 24)).setCell ⟨x, 3, none⟩ (.map (some (w.heap.size + 1)))).alloc (.cells F 44)).alloc (.map #[] 0)) = W1 at *
  obtain ⟨B1, T1, M1, C1⟩ := unhide W1e W1 rfl
  have hv1 := C1.cell hv0 (fun e => (unhide facts).2.2.1 e)
  have B1H := hide B1
  have allH := hide (⟨T1, M1, C1⟩ : _ ∧ _ ∧ _)
  have g0 := B1.cell 0
  have g4 := B1.cell 4
  have g5 := B1.cell 5
  have g6 := B1.cell 6
  have g7 := B1.cell 7
  have gf := B1.frozen
  simp [turC] at g0 g4 g5 g6 g7
  clear T1 M1 C1 B1 hW1 W1e hv0 hmk0 hmm c2 c3 f2 f3
  refine wp_region_noPanic ?_
  try simp only [List.append_eq, List.cons_append, List.nil_append]
  refine wp_region_mix [(0, true), (1, false), (2, false), (3, false), (4, false), (5, true), (6, true), (7, true), (8, true), (9, true), (10, true), (11, true), (12, true)] [13, 14, 15, 16, 17, 18, 19, 20, 21, 22, 23, 24, 25] (by kernel_rfl) (by kernel_rfl) (fun _ _ _ _ _ h => h) ?_
  simp only [pickM, pickO, List.getElem?_cons_zero, List.getElem?_cons_succ]
  repeat (first | (refine wpMix_read rfl (fun K hK => ?_)) | (refine wpMix_pure rfl (fun K hK => ?_))
          go_big_quiet_op
          first | (refine hK _ ?_; clear hK K))
  refine wpMix_nil ?_
  intro _ hw'
  obtain ⟨nq, hw''⟩ := hw'
  subst hw''
  have W2f : Hid (∀ W, W = (((((W1.drewN nq).setCell ⟨x, 4, none⟩ (.int .i64 0)).setCell ⟨x, 7, none⟩ (.complex .f64 0 0)).setCell ⟨x, 0, none⟩ (.complex .f64 0 0)).setCell ⟨x, 5, none⟩ (.complex .f64 u0 u1)).setCell ⟨x, 6, none⟩ (.complex .f64 u0 u1) →
      Chg (fun k => k = x) w W ∧ RepR W x w.heap.size (w.heap.size + 1) (runTo pts 0) (pts.take 0) d) := by
    rintro W rfl
    obtain ⟨hd, hcv0, hpx, h1, h24, hs, xlt, plt, hF⟩ := unhide facts
    obtain ⟨T1, M1, C1⟩ := unhide allH
    have z64 : W64 0 0 := by
      have h := w64_of 0 (by decide)
      have e : FloatKind.f64.nearest 0 = 0 := by decide
      rw [e] at h; exact h
    have cS : Chg (fun k => k = x) W1 ((((((W1.drewN nq).setCell ⟨x, 4, none⟩ (.int .i64 0)).setCell ⟨x, 7, none⟩ (.complex .f64 0 0)).setCell ⟨x, 0, none⟩ (.complex .f64 0 0)).setCell ⟨x, 5, none⟩ (.complex .f64 u0 u1)).setCell ⟨x, 6, none⟩ (.complex .f64 u0 u1)) :=
      (((((((Chg.refl (fun k => k = x) W1).drewN nq).setCell (p := ⟨x, 4, none⟩) (.inl rfl) _).setCell (p := ⟨x, 7, none⟩) (.inl rfl) _).setCell (p := ⟨x, 0, none⟩) (.inl rfl) _).setCell (p := ⟨x, 5, none⟩) (.inl rfl) _).setCell (p := ⟨x, 6, none⟩) (.inl rfl) _)
    refine ⟨C1.trans cS, ?_⟩
    rw [runTo_zero]
    refine ⟨⟨.complex .f64 0 0, vd, .complex .f64 u0 u1, .complex .f64 u0 u1, .complex .f64 0 0, ⟨0, 0, rfl, z64, z64⟩, hd, hcv0, hcv0, ⟨0, 0, rfl, z64, z64⟩, ?_⟩, ⟨F.toList, cS.blk T1 (fun e => by omega), hF, fun i hi => by simp at hi⟩, M1.of_chg cS (fun e => by omega), by simp, by omega, by omega, by omega⟩
    exact ((((((unhide B1H).drewN nq).set 4 _).set 7 _).set 0 _).set 5 _).set 6 _
  clear B1H allH
  go_wp2
  refine NoPanic.normal ?_
  generalize hW2 : (((((W1.drewN nq).setCell ⟨x, 4, none⟩ (.int .i64 0)).setCell ⟨x, 7, none⟩ (.complex .f64 0 0)).setCell ⟨x, 0, none⟩ (.complex .f64 0 0)).setCell ⟨x, 5, none⟩ (.complex .f64 u0 u1)).setCell ⟨x, 6, none⟩ (.complex .f64 u0 u1) = W2 at *
  have st := hide (unhide W2f W2 rfl)
  clear hW2 W2f g0 g4 g5 g6 g7 gf hv1
  go_wp2
  go_loopw [38] (fun z wr => ∃ i : Nat, i ≤ pts.length ∧ z = .int .i64 i ∧ Chg (fun k => k = x) w wr ∧ RepR wr x w.heap.size (w.heap.size + 1) (runTo pts i) (pts.take i) d) (fun z _ => pts.length + 1 - (intOf z).toNat)
  case atStart => exact ⟨0, by omega, rfl, (unhide st).1, (unhide st).2⟩
  case round =>
    clear st
    obtain ⟨i, hi, rfl, C, R⟩ := hrel
    by_cases hlt : i < pts.length
    · have g1 : (i : Int) < (pts.length : Int) := by omega
      have i0 : (0 : Int) ≤ (i : Int) := by omega
      obtain ⟨u, hu, cu⟩ := unhide hpH i hlt
      have hu2 := C.cell hu (fun e => (unhide facts).2.2.1 e)
      have bd := bd_runTo pts (unhide facts).2.2.2.2.2.1 (unhide facts).2.2.2.2.1 i hi
      have h24 := (unhide facts).2.2.2.2.1
      have hi24 : i ≤ 24 := by omega
      have htk : (pts.take i).length < 24 := by rw [List.length_take]; omega
      have hpsh := hide (push_any wr x _ _ _ _ d R u pts[i] cu ((unhide facts).2.2.2.2.2.1 _ (List.getElem_mem hlt)) bd.pos (bd.fits hi24).1 (bd.fits hi24).2.1 ((bd.fits hi24).2.2 _) htk)
      have hst : Hid (pushR (runTo pts i) pts[i] = runTo pts (i + 1) ∧ pts.take i ++ [pts[i]] = pts.take (i + 1)) := ⟨(runTo_succ pts i hlt).symm, (List.take_succ_eq_append_getElem hlt).symm⟩
      have RH := hide R
      have CH := hide C
      have hltH := hide hlt
      have lt5 : wrap64 ((i : Int) + 1) = (i : Int) + 1 := wrap_small (i + 1) (by omega)
      obtain ⟨ua, ub, rfl, cu1, cu2⟩ := cu
      unfold pushPost ptr at hpsh
      clear cu1 cu2
      generalize pts[i] = pi at *
      clear R C bd h24 hlt hi hu hi24 htk
      go_wp2_with fail
      refine (unhide hpsh).mono ?_
      clear hpsh
      rintro e w5 ⟨rfl, ch5, R5⟩
      have fin : Hid (Chg (fun k => k = x) w w5 ∧ RepR w5 x w.heap.size (w.heap.size + 1) (runTo pts (i + 1)) (pts.take (i + 1)) d) := by
        rw [← (unhide hst).1, ← (unhide hst).2]
        refine ⟨Chg.trans' (unhide CH) ch5 ?_, R5⟩
        rintro k hk (e | e | e)
        · exact e
        · omega
        · omega
      clear R5 ch5 RH CH hst hu2
      go_wp2
      go_roundw
      case rel => exact ⟨i + 1, unhide hltH, by simp; try exact lt5, (unhide fin).1, (unhide fin).2⟩
      case measure =>
        have h := unhide hltH
        first
          | exact meas_plain h
          | exact meas_next h lt5
    · have g1 : ¬ (i : Int) < (pts.length : Int) := by omega
      obtain rfl : i = pts.length := by omega
      rw [runTo_all, List.take_length] at R
      have RH := hide R
      have CH := hide C
      clear R C hlt hi
      go_wp2
      go_ret
      exact ⟨_, _, rfl, unhide CH, Nat.le_refl _, by omega, unhide RH⟩
end Go.Proofs.Qxb6500366a
