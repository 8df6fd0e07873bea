/-
  THE REAL TURTLE: Undo. (gen6undo.py)
-/
import Derived.Test.Qxb6500366aUndoL
namespace Go.Proofs.Qxb6500366a
open Go.RowKit Go.Qx
set_option linter.unusedVariables false
set_option linter.unusedSimpArgs false

/-- The sum's last term taken back. -/
theorem back_whole {a b c d o1 o2 : Nat} {q p o : Pt} (ha : W64 a q.1) (hb : W64 b q.2) (hc : W64 c p.1) (hd : W64 d p.2) (h1 : W64 o1 o.1) (h2 : W64 o2 o.2) (hq : Small q) (hp : Small p) (ho : Fit 2251799813685248 o) :
    ∃ e f g h, (∀ (P : Program) (t : TypeId) (W : World), (binOp .mul t (.complex .f64 a (Op.negFloat .f64 b)) (.complex .f64 c d)).run P W = .ok (.complex .f64 e f) W) ∧
      (∀ (P : Program) (t : TypeId) (W : World), (binOp .sub t (.complex .f64 o1 o2) (.complex .f64 e f)).run P W = .ok (.complex .f64 g h) W) ∧ CW (.complex .f64 g h) (opB o q p) := by
  obtain ⟨q1, q2⟩ := q
  obtain ⟨p1, p2⟩ := p
  obtain ⟨x1, x2⟩ := o
  simp only [Small, Fit] at *
  have m1 := mul_abs (c := 1048576) (d := 1048576) ⟨hq.1, hq.2.1⟩ ⟨hp.1, hp.2.1⟩ (by decide) (by decide)
  have m2 := mul_abs (a := -q2) (c := 1048576) (d := 1048576) (by omega) ⟨hp.2.2.1, hp.2.2.2⟩ (by decide) (by decide)
  have m3 := mul_abs (c := 1048576) (d := 1048576) ⟨hq.1, hq.2.1⟩ ⟨hp.2.2.1, hp.2.2.2⟩ (by decide) (by decide)
  have m4 := mul_abs (a := -q2) (c := 1048576) (d := 1048576) (by omega) ⟨hp.1, hp.2.1⟩ (by decide) (by decide)
  obtain ⟨e, f, h3, we, wf⟩ := cmul_whole ha (w64_neg hb) hc hd (by omega) (by omega) (by omega) (by omega) (by omega) (by omega)
  obtain ⟨g, h, h4, wg, wh⟩ := csub_whole h1 h2 we wf (by omega) (by omega)
  exact ⟨e, f, g, h, h3, h4, g, h, rfl, wg, wh⟩

theorem undo_low (w : World) (x tb mb : Nat) (tr : List Pt) (d : Pt) (R : Rep w x tb mb tr d) (h : tr.length < 2) : Calls Try.prog 27 #[ptr x] w (errPost w x tb mb (runOf tr) tr d 3) := by
  have RH := hide R
  obtain ⟨vp, vd, vl, vh, vo, h1, h2, h3, h4, h5, B⟩ := R.own
  have y2 := B.cell 2
  simp [turC] at y2
  have g1 : (tr.length : Int) < 2 := by omega
  clear R B h1 h2 h3 h4 h5 h
  unfold ptr errPost
  go_enter Try.func27, Try.ntmps27
  go_wp2
  go_ret
  exact ⟨rfl, Chg.refl _ _, unhide RH⟩

def loTo (q : Pt) (pts : List Pt) (i : Nat) : Pt := boxLo q (pts.take i)
def hiTo (q : Pt) (pts : List Pt) (i : Nat) : Pt := boxHi q (pts.take i)
theorem loTo_zero (q : Pt) (pts : List Pt) : loTo q pts 0 = q := by simp [loTo, boxLo]
theorem hiTo_zero (q : Pt) (pts : List Pt) : hiTo q pts 0 = q := by simp [hiTo, boxHi]
theorem loTo_succ (q : Pt) (pts : List Pt) (i : Nat) (h : i < pts.length) : loTo q pts (i + 1) = loP (loTo q pts i) pts[i] := by
  unfold loTo boxLo; rw [List.take_succ_eq_append_getElem h, List.foldl_append]; rfl
theorem hiTo_succ (q : Pt) (pts : List Pt) (i : Nat) (h : i < pts.length) : hiTo q pts (i + 1) = hiP (hiTo q pts i) pts[i] := by
  unfold hiTo boxHi; rw [List.take_succ_eq_append_getElem h, List.foldl_append]; rfl
theorem loTo_all (q : Pt) (pts : List Pt) : loTo q pts pts.length = boxLo q pts := by unfold loTo; rw [List.take_length]
theorem hiTo_all (q : Pt) (pts : List Pt) : hiTo q pts pts.length = boxHi q pts := by unfold hiTo; rw [List.take_length]

structure Und (w wr : World) (x tb mb : Nat) (vp vd : Value) (n : Nat) (k : Int) (vo : Value) (cs : List Value) (l : List (Pt × Int)) (lo hi : Pt) : Prop where
  chg : Chg (own x tb mb) w wr
  own : ∃ vl vh, CW vl lo ∧ CW vh hi ∧ Blk wr x 48 (turC vp vd (.slice (some ⟨tb, 0, none⟩) n 24) (.map (some mb)) k vl vh vo)
  row : Blk wr tb 44 cs
  map : MapR wr mb l
def undPost (w : World) (x tb mb : Nat) (vp vd : Value) (n : Nat) (k : Int) (vo : Value) (cs : List Value) (l : List (Pt × Int)) (lo hi : Pt) (e : Ending) (w' : World) : Prop :=
  e = .returned (.int .i64 0) ∧ Und w w' x tb mb vp vd n k vo cs l lo hi

set_option maxRecDepth 100000 in
set_option maxHeartbeats 8000000 in
theorem undo_zero (w : World) (x tb mb N n b : Nat) (c1 c2 q1 q2 o1 o2 me mf mg mh : Nat) (vd vl vh : Value) (kz : Int) (cs : List Value) (l1 : List (Pt × Int)) (p q : Pt) (pts : List Pt)
    (hxt : x ≠ tb) (hxm : x ≠ mb) (htm : tb ≠ mb) (B : Blk w x 48 (turC (.complex .f64 c1 c2) vd (.slice (some ⟨tb, 0, none⟩) N 24) (.map (some mb)) kz vl vh (.complex .f64 o1 o2))) (T : Blk w tb 44 cs) (M : MapR w mb l1) (hp : CW (.complex .f64 c1 c2) p) (hq : CW (.complex .f64 q1 q2) q) (hb : cs[b]? = some (.complex .f64 q1 q2))
    (hN : N = n + 1) (hn : n = b + 1) (h23 : n ≤ 23) (hl : pts.length = n) (hrow : ∀ i (h : i < pts.length), ∃ v, cs[i]? = some v ∧ CW v pts[i])
    (hc : valAt p l1 = 1) (hk : 0 ≤ kz ∧ kz ≤ 1000000)
    (hmul : ∀ t W, (binOp .mul t (.complex .f64 q1 (Op.negFloat .f64 q2)) (.complex .f64 c1 c2)).run Try.prog W = .ok (.complex .f64 me mf) W) (hsub : ∀ t W, (binOp .sub t (.complex .f64 o1 o2) (.complex .f64 me mf)).run Try.prog W = .ok (.complex .f64 mg mh) W) :
    Calls Try.prog 27 #[ptr x] w (undPost w x tb mb (.complex .f64 q1 q2) vd n kz (.complex .f64 mg mh) cs (dropL p (putL p 0 l1)) (boxLo q pts) (boxHi q pts)) := by
  have hpH := hide hp
  have hqH := hide hq
  have hcj := fun W => conj_any W q1 q2
  have c2' := hide (valAt_put p p 0 l1)
  rw [if_pos rfl] at c2'
  have rowH := hide hrow
  have fH := hide (⟨hxt, hxm, htm⟩ : _ ∧ _ ∧ _)
  have BH := hide B
  have TH := hide T
  have MH := hide M
  have lH := hide hl
  have hcH := hide hc
  have hbH := hide hb
  have nH := hide h23
  have wk1 : wrap64 (kz - 0) = kz := by unfold wrap64; omega
  have wk2 : IntKind.i64.wrap (kz - 0) = kz := by rw [IntKind.wrap_i64]; omega
  have wk3 : wrap64 kz = kz := by unfold wrap64; omega
  have wk4 : IntKind.i64.wrap kz = kz := by rw [IntKind.wrap_i64]; omega
  have v1 : wrap64 ((N : Int) - 2) = (b : Int) := by unfold wrap64; omega
  have v2 : IntKind.i64.wrap ((N : Int) - 2) = (b : Int) := by rw [IntKind.wrap_i64]; omega
  have v3 : wrap64 ((N : Int) - 1) = (n : Int) := by unfold wrap64; omega
  have v4 : IntKind.i64.wrap ((N : Int) - 1) = (n : Int) := by rw [IntKind.wrap_i64]; omega
  have v5 : wrap64 ((n : Int) - 1) = (b : Int) := by unfold wrap64; omega
  have v6 : IntKind.i64.wrap ((n : Int) - 1) = (b : Int) := by rw [IntKind.wrap_i64]; omega
  have g1 : ¬ (N : Int) < 2 := by omega
  have g2 : (b : Int) < (N : Int) := by omega
  have g3 : (0 : Int) ≤ (b : Int) := by omega
  have g4 : (b : Int) < (n : Int) := by omega
  have g5 : (n : Int) ≤ 24 := by omega
  have g6 : (0 : Int) ≤ (n : Int) := by omega
  have g7 : n ≤ 24 := by omega
  have g8 : ¬ 24 = n := by omega
  have y0 := B.cell 0
  have y2 := B.cell 2
  have y3 := B.cell 3
  simp [turC] at y0 y2 y3
  have hlk : ∀ m, (Instr.lookup 46 (.map (some mb)) (.complex .f64 c1 c2) false).run Try.prog (w.drewN m) = .ok (.int .i64 1) (w.drewN m) := fun m => by
    have h := MapR.look (M.quiet ((Chg.refl _ _).drewN m)) und46 und44 (zero3 _) hp
    rw [hc] at h; exact h
  clear B T M hp hq hb hN hn h23 hl hrow hc hk hxt hxm htm
  unfold ptr
  go_enter Try.func27, Try.ntmps27
  go_wp2
  refine wp_region_noPanic ?_
  try simp only [List.append_eq, List.cons_append, List.nil_append]
  refine wp_region_mix [(0, true), (1, true), (2, true), (3, true), (4, true), (5, true), (6, true), (7, true), (8, true), (9, true)] [10] (by kernel_rfl) (by kernel_rfl) (fun _ _ _ _ _ h => h) ?_
  simp only [pickM, pickO, List.getElem?_cons_zero, List.getElem?_cons_succ]
  repeat (first | (refine wpMix_read rfl (fun K hK => ?_)) | (refine wpMix_pure rfl (fun K hK => ?_))
          go_big_quiet_op
          first | (refine hK _ ?_; clear hK K))
  refine wpMix_nil ?_
  intro _ hw'
  obtain ⟨nq, hw''⟩ := hw'
  subst hw''
  obtain ⟨W1, hup, ch1, M1⟩ := MapR.store ((unhide MH).quiet ((Chg.refl _ _).drewN nq)) und46 und44 (unhide hpH) (0)
  have B1 : Hid (Blk W1 x 48 (turC (.complex .f64 c1 c2) vd (.slice (some ⟨tb, 0, none⟩) N 24) (.map (some mb)) kz vl vh (.complex .f64 o1 o2))) := ch1.blk ((unhide BH).drewN nq) (unhide fH).2.1
  have T1 : Hid (Blk W1 tb 44 cs) := ch1.blk ((unhide TH).drewN nq) (unhide fH).2.2
  have C1 : Hid (Chg (own x tb mb) w W1) := Chg.trans ((Chg.refl _ _).drewN nq) (ch1.mono (fun k _ hk => .inr (.inr hk)))
  have M1H := hide M1
  clear BH TH MH M1 ch1 hlk
  go_wp2
  refine NoPanic.normal ?_
  clear hup y0 y2 y3
  have hlk : ∀ m, (Instr.lookup 46 (.map (some mb)) (.complex .f64 c1 c2) false).run Try.prog (W1.drewN m) = .ok (.int .i64 0) (W1.drewN m) := fun m => by
    have h := MapR.look ((unhide M1H).quiet ((Chg.refl _ _).drewN m)) und46 und44 (zero3 _) (unhide hpH)
    rw [unhide c2'] at h; exact h
  have y0 := (unhide B1).cell 0
  have y3 := (unhide B1).cell 3
  have y4 := (unhide B1).cell 4
  have f4 := (unhide B1).frozen 4
  simp [turC] at y0 y3 y4
  go_wp2
  refine wp_region_noPanic ?_
  try simp only [List.append_eq, List.cons_append, List.nil_append]
  refine wp_region_mix [(0, true), (1, true), (2, true), (3, true), (4, true), (5, true), (6, true), (7, true), (8, true), (9, true), (10, true), (11, true), (12, true), (13, true), (14, true), (15, true)] [16] (by kernel_rfl) (by kernel_rfl) (fun _ _ _ _ _ h => h) ?_
  simp only [pickM, pickO, List.getElem?_cons_zero, List.getElem?_cons_succ]
  repeat (first | (refine wpMix_read rfl (fun K hK => ?_)) | (refine wpMix_pure rfl (fun K hK => ?_))
          go_big_quiet_op
          first | (refine hK _ ?_; clear hK K))
  refine wpMix_nil ?_
  intro _ hw'
  obtain ⟨nq, hw''⟩ := hw'
  subst hw''
  have B2 : Hid (Blk ((W1.drewN nq).setCell ⟨x, 4, none⟩ (.int .i64 kz)) x 48 (turC (.complex .f64 c1 c2) vd (.slice (some ⟨tb, 0, none⟩) N 24) (.map (some mb)) kz vl vh (.complex .f64 o1 o2))) := ((unhide B1).drewN nq).set 4 _
  have C2 : Hid (Chg (own x tb mb) w ((W1.drewN nq).setCell ⟨x, 4, none⟩ (.int .i64 kz))) := Chg.setCell ((unhide C1).drewN nq) (p := ⟨x, 4, none⟩) (.inl (.inl rfl)) _
  have M2 : Hid (MapR ((W1.drewN nq).setCell ⟨x, 4, none⟩ (.int .i64 kz)) mb (putL p 0 l1)) := (unhide M1H).of_chg (Chg.setCell ((Chg.refl (fun k => k = x) W1).drewN nq) (p := ⟨x, 4, none⟩) (.inl rfl) _) (fun e => (unhide fH).2.1 e.symm)
  have T2 : Hid (Blk ((W1.drewN nq).setCell ⟨x, 4, none⟩ (.int .i64 kz)) tb 44 cs) := ((unhide T1).drewN nq).set_other (a := ⟨x, 4, none⟩) (Ne.symm (unhide fH).1) _
  clear B1 T1 M1H C1 hlk
  go_wp2
  refine NoPanic.normal ?_
  clear y0 y3 y4 f4
  generalize (W1.drewN nq).setCell ⟨x, 4, none⟩ (.int .i64 kz) = W2 at *
  have hlk : ∀ m, (Instr.lookup 46 (.map (some mb)) (.complex .f64 c1 c2) false).run Try.prog (W2.drewN m) = .ok (.int .i64 0) (W2.drewN m) := fun m => by
    have h := MapR.look ((unhide M2).quiet ((Chg.refl _ _).drewN m)) und46 und44 (zero3 _) (unhide hpH)
    rw [unhide c2'] at h; exact h
  have y0 := (unhide B2).cell 0
  have y3 := (unhide B2).cell 3
  simp [turC] at y0 y3
  go_wp2
  refine wp_region_noPanic ?_
  try simp only [List.append_eq, List.cons_append, List.nil_append]
  refine wp_region_mix [(0, true), (1, true), (2, true), (3, true), (4, true), (5, true), (6, true), (7, true), (8, true), (9, true)] [] (by kernel_rfl) (by kernel_rfl) (fun _ _ _ _ _ h => h) ?_
  simp only [pickM, pickO, List.getElem?_cons_zero, List.getElem?_cons_succ]
  repeat (first | (refine wpMix_read rfl (fun K hK => ?_)) | (refine wpMix_pure rfl (fun K hK => ?_))
          go_big_quiet_op
          first | (refine hK _ ?_; clear hK K))
  refine wpMix_nil ?_
  intro _ hw'
  obtain ⟨nq, hw''⟩ := hw'
  subst hw''
  have B3 : Hid (Blk (W2.drewN nq) x 48 (turC (.complex .f64 c1 c2) vd (.slice (some ⟨tb, 0, none⟩) N 24) (.map (some mb)) kz vl vh (.complex .f64 o1 o2))) := (unhide B2).drewN nq
  have C3 : Hid (Chg (own x tb mb) w (W2.drewN nq)) := (unhide C2).drewN nq
  have M3 : Hid (MapR (W2.drewN nq) mb (putL p 0 l1)) := (unhide M2).quiet ((Chg.refl _ _).drewN nq)
  have T3 : Hid (Blk (W2.drewN nq) tb 44 cs) := (unhide T2).drewN nq
  clear B2 T2 M2 C2 hlk
  go_wp2
  refine NoPanic.normal ?_
  clear y0 y3
  generalize W2.drewN nq = W3 at *
  have y0 := (unhide B3).cell 0
  have y3 := (unhide B3).cell 3
  simp [turC] at y0 y3
  go_wp2
  refine wp_region_noPanic ?_
  try simp only [List.append_eq, List.cons_append, List.nil_append]
  refine wp_region_mix [(0, true), (1, true), (2, true), (3, true), (4, true), (5, true), (6, true), (7, true)] [8] (by kernel_rfl) (by kernel_rfl) (fun _ _ _ _ _ h => h) ?_
  simp only [pickM, pickO, List.getElem?_cons_zero, List.getElem?_cons_succ]
  repeat (first | (refine wpMix_read rfl (fun K hK => ?_)) | (refine wpMix_pure rfl (fun K hK => ?_))
          go_big_quiet_op
          first | (refine hK _ ?_; clear hK K))
  refine wpMix_nil ?_
  intro _ hw'
  obtain ⟨nq, hw''⟩ := hw'
  subst hw''
  obtain ⟨W4, hup, ch4, M4⟩ := MapR.drop ((unhide M3).quiet ((Chg.refl _ _).drewN nq)) und46 und44 (unhide hpH) 0
  have hup : ∀ ty, (Builtin.delete_ #[46, 44] ty #[.map (some mb), (.complex .f64 c1 c2)]).run Try.prog (W3.drewN nq) = .ok (.tuple #[]) W4 := fun ty => hup
  have B4 : Hid (Blk W4 x 48 (turC (.complex .f64 c1 c2) vd (.slice (some ⟨tb, 0, none⟩) N 24) (.map (some mb)) kz vl vh (.complex .f64 o1 o2))) := ch4.blk ((unhide B3).drewN nq) (unhide fH).2.1
  have T4 : Hid (Blk W4 tb 44 cs) := ch4.blk ((unhide T3).drewN nq) (unhide fH).2.2
  have C4 : Hid (Chg (own x tb mb) w W4) := Chg.trans ((unhide C3).drewN nq) (ch4.mono (fun k _ hk => .inr (.inr hk)))
  have M4H := hide M4
  clear B3 T3 M3 C3 M4 ch4
  go_wp2
  refine NoPanic.normal ?_
  clear hup y0 y3
  have y0 := (unhide B4).cell 0
  have y2 := (unhide B4).cell 2
  have y7 := (unhide B4).cell 7
  have f7 := (unhide B4).frozen 7
  have yb := ((unhide T4).cell b).trans (unhide hbH)
  simp [turC] at y0 y2 y7
  go_wp2
  refine wp_region_noPanic ?_
  try simp only [List.append_eq, List.cons_append, List.nil_append]
  refine wp_region_mix [(0, true), (1, true), (2, true), (3, true), (4, true), (5, true), (6, true), (7, true), (8, true), (9, true), (10, true), (11, true), (12, true), (13, true), (14, true), (15, true), (16, true), (17, true), (18, true), (19, true), (20, true), (21, true), (22, true), (23, true), (24, true), (25, true)] [26] (by kernel_rfl) (by kernel_rfl) (fun _ _ _ _ _ h => h) ?_
  simp only [pickM, pickO, List.getElem?_cons_zero, List.getElem?_cons_succ]
  repeat (first | (refine wpMix_read rfl (fun K hK => ?_)) | (refine wpMix_pure rfl (fun K hK => ?_))
          go_big_quiet_op
          first | (refine hK _ ?_; clear hK K) | (apply Exists.intro; refine ⟨fun _ => ?_, ?_⟩; (· (first | (go_at_call 44; exact Calls.quiet_of_same (hcj _)))); refine hK _ ?_; clear hK K))
  refine wpMix_nil ?_
  intro _ hw'
  obtain ⟨nq, hw''⟩ := hw'
  subst hw''
  have B5 : Hid (Blk ((W4.drewN nq).setCell ⟨x, 7, none⟩ (.complex .f64 mg mh)) x 48 (turC (.complex .f64 c1 c2) vd (.slice (some ⟨tb, 0, none⟩) N 24) (.map (some mb)) kz vl vh (.complex .f64 mg mh))) := ((unhide B4).drewN nq).set 7 _
  have C5 : Hid (Chg (own x tb mb) w ((W4.drewN nq).setCell ⟨x, 7, none⟩ (.complex .f64 mg mh))) := Chg.setCell ((unhide C4).drewN nq) (p := ⟨x, 7, none⟩) (.inl (.inl rfl)) _
  have M5 : Hid (MapR ((W4.drewN nq).setCell ⟨x, 7, none⟩ (.complex .f64 mg mh)) mb (dropL p (putL p 0 l1))) := (unhide M4H).of_chg (Chg.setCell ((Chg.refl (fun k => k = x) W4).drewN nq) (p := ⟨x, 7, none⟩) (.inl rfl) _) (fun e => (unhide fH).2.1 e.symm)
  have T5 : Hid (Blk ((W4.drewN nq).setCell ⟨x, 7, none⟩ (.complex .f64 mg mh)) tb 44 cs) := ((unhide T4).drewN nq).set_other (a := ⟨x, 7, none⟩) (Ne.symm (unhide fH).1) _
  clear B4 T4 M4H C4 hcj hmul hsub
  go_wp2
  refine NoPanic.normal ?_
  clear y0 y2 y7 f7 yb
  generalize (W4.drewN nq).setCell ⟨x, 7, none⟩ (.complex .f64 mg mh) = W5 at *
  have y2 := (unhide B5).cell 2
  have f2 := (unhide B5).frozen 2
  simp [turC] at y2
  go_wp2
  refine wp_region_noPanic ?_
  try simp only [List.append_eq, List.cons_append, List.nil_append]
  refine wp_region_mix [(0, true), (1, true), (2, true), (3, true), (4, true), (5, true), (6, true), (7, true), (8, true), (9, true), (10, true), (11, true), (12, true), (13, true)] [14] (by kernel_rfl) (by kernel_rfl) (fun _ _ _ _ _ h => h) ?_
  simp only [pickM, pickO, List.getElem?_cons_zero, List.getElem?_cons_succ]
  repeat (first | (refine wpMix_read rfl (fun K hK => ?_)) | (refine wpMix_pure rfl (fun K hK => ?_))
          go_big_quiet_op
          first | (refine hK _ ?_; clear hK K))
  refine wpMix_nil ?_
  intro _ hw'
  obtain ⟨nq, hw''⟩ := hw'
  subst hw''
  have B6 : Hid (Blk ((W5.drewN nq).setCell ⟨x, 2, none⟩ (.slice (some ⟨tb, 0, none⟩) n 24)) x 48 (turC (.complex .f64 c1 c2) vd (.slice (some ⟨tb, 0, none⟩) n 24) (.map (some mb)) kz vl vh (.complex .f64 mg mh))) := ((unhide B5).drewN nq).set 2 _
  have C6 : Hid (Chg (own x tb mb) w ((W5.drewN nq).setCell ⟨x, 2, none⟩ (.slice (some ⟨tb, 0, none⟩) n 24))) := Chg.setCell ((unhide C5).drewN nq) (p := ⟨x, 2, none⟩) (.inl (.inl rfl)) _
  have M6 : Hid (MapR ((W5.drewN nq).setCell ⟨x, 2, none⟩ (.slice (some ⟨tb, 0, none⟩) n 24)) mb (dropL p (putL p 0 l1))) := (unhide M5).of_chg (Chg.setCell ((Chg.refl (fun k => k = x) W5).drewN nq) (p := ⟨x, 2, none⟩) (.inl rfl) _) (fun e => (unhide fH).2.1 e.symm)
  have T6 : Hid (Blk ((W5.drewN nq).setCell ⟨x, 2, none⟩ (.slice (some ⟨tb, 0, none⟩) n 24)) tb 44 cs) := ((unhide T5).drewN nq).set_other (a := ⟨x, 2, none⟩) (Ne.symm (unhide fH).1) _
  clear B5 T5 M5 C5
  go_wp2
  refine NoPanic.normal ?_
  clear y2 f2
  generalize (W5.drewN nq).setCell ⟨x, 2, none⟩ (.slice (some ⟨tb, 0, none⟩) n 24) = W6 at *
  have y0 := (unhide B6).cell 0
  have f0 := (unhide B6).frozen 0
  have y2 := (unhide B6).cell 2
  have yb := ((unhide T6).cell b).trans (unhide hbH)
  simp [turC] at y0 y2
  go_wp2
  refine wp_region_noPanic ?_
  try simp only [List.append_eq, List.cons_append, List.nil_append]
  refine wp_region_mix [(0, true), (1, true), (2, true), (3, true), (4, true), (5, true), (6, true), (7, true), (8, true), (9, true), (10, true), (11, true), (12, true), (13, true), (14, true)] [15] (by kernel_rfl) (by kernel_rfl) (fun _ _ _ _ _ h => h) ?_
  simp only [pickM, pickO, List.getElem?_cons_zero, List.getElem?_cons_succ]
  repeat (first | (refine wpMix_read rfl (fun K hK => ?_)) | (refine wpMix_pure rfl (fun K hK => ?_))
          go_big_quiet_op
          first | (refine hK _ ?_; clear hK K))
  refine wpMix_nil ?_
  intro _ hw'
  obtain ⟨nq, hw''⟩ := hw'
  subst hw''
  have B7 : Hid (Blk ((W6.drewN nq).setCell ⟨x, 0, none⟩ (.complex .f64 q1 q2)) x 48 (turC (.complex .f64 q1 q2) vd (.slice (some ⟨tb, 0, none⟩) n 24) (.map (some mb)) kz vl vh (.complex .f64 mg mh))) := ((unhide B6).drewN nq).set 0 _
  have C7 : Hid (Chg (own x tb mb) w ((W6.drewN nq).setCell ⟨x, 0, none⟩ (.complex .f64 q1 q2))) := Chg.setCell ((unhide C6).drewN nq) (p := ⟨x, 0, none⟩) (.inl (.inl rfl)) _
  have M7 : Hid (MapR ((W6.drewN nq).setCell ⟨x, 0, none⟩ (.complex .f64 q1 q2)) mb (dropL p (putL p 0 l1))) := (unhide M6).of_chg (Chg.setCell ((Chg.refl (fun k => k = x) W6).drewN nq) (p := ⟨x, 0, none⟩) (.inl rfl) _) (fun e => (unhide fH).2.1 e.symm)
  have T7 : Hid (Blk ((W6.drewN nq).setCell ⟨x, 0, none⟩ (.complex .f64 q1 q2)) tb 44 cs) := ((unhide T6).drewN nq).set_other (a := ⟨x, 0, none⟩) (Ne.symm (unhide fH).1) _
  clear B6 T6 M6 C6
  go_wp2
  refine NoPanic.normal ?_
  clear y0 y2 f0 yb
  generalize (W6.drewN nq).setCell ⟨x, 0, none⟩ (.complex .f64 q1 q2) = W7 at *
  have y0 := (unhide B7).cell 0
  have y5 := (unhide B7).cell 5
  have y6 := (unhide B7).cell 6
  have f5 := (unhide B7).frozen 5
  have f6 := (unhide B7).frozen 6
  simp [turC] at y0 y5 y6
  go_wp2
  refine wp_region_noPanic ?_
  try simp only [List.append_eq, List.cons_append, List.nil_append]
  refine wp_region_mix [(0, true), (1, false), (2, true), (3, true), (4, true), (5, true), (6, true), (7, true), (8, true), (9, true), (10, true), (11, true)] [12, 13, 14, 15] (by kernel_rfl) (by kernel_rfl) (fun _ _ _ _ _ h => h) ?_
  simp only [pickM, pickO, List.getElem?_cons_zero, List.getElem?_cons_succ]
  repeat (first | (refine wpMix_read rfl (fun K hK => ?_)) | (refine wpMix_pure rfl (fun K hK => ?_))
          go_big_quiet_op
          first | (refine hK _ ?_; clear hK K))
  refine wpMix_nil ?_
  intro _ hw'
  obtain ⟨nq, hw''⟩ := hw'
  subst hw''
  have U8 : Hid (Und w (((W7.drewN nq).setCell ⟨x, 5, none⟩ (.complex .f64 q1 q2)).setCell ⟨x, 6, none⟩ (.complex .f64 q1 q2)) x tb mb (.complex .f64 q1 q2) vd n kz (.complex .f64 mg mh) cs (dropL p (putL p 0 l1)) (loTo q pts 0) (hiTo q pts 0)) := by
    have cS : Chg (fun k => k = x) W7 (((W7.drewN nq).setCell ⟨x, 5, none⟩ (.complex .f64 q1 q2)).setCell ⟨x, 6, none⟩ (.complex .f64 q1 q2)) := ((((Chg.refl (fun k => k = x) W7).drewN nq).setCell (p := ⟨x, 5, none⟩) (.inl rfl) _).setCell (p := ⟨x, 6, none⟩) (.inl rfl) _)
    refine ⟨Chg.trans (unhide C7) (cS.mono (fun k _ hk => .inl hk)), ⟨(.complex .f64 q1 q2), (.complex .f64 q1 q2), ?_, ?_, (((unhide B7).drewN nq).set 5 _).set 6 _⟩, cS.blk (unhide T7) (fun e => (unhide fH).1 e.symm), (unhide M7).of_chg cS (fun e => (unhide fH).2.1 e.symm)⟩
    · rw [loTo_zero]; exact unhide hqH
    · rw [hiTo_zero]; exact unhide hqH
  clear B7 T7 M7 C7
  go_wp2
  refine NoPanic.normal ?_
  clear y0 y5 y6 f5 f6
  generalize ((W7.drewN nq).setCell ⟨x, 5, none⟩ (.complex .f64 q1 q2)).setCell ⟨x, 6, none⟩ (.complex .f64 q1 q2) = W8 at *
  have y2 : W8.cell? ⟨x, 2, none⟩ = some (.slice (some ⟨tb, 0, none⟩) n 24) := by
    obtain ⟨vl, vh, _, _, B8⟩ := (unhide U8).own
    have y2 := B8.cell 2
    simpa [turC] using y2
  go_wp2
  clear y2 v1 v2 v3 v4 v5 v6 wk1 wk2 g1 g2 g3 g4 g5 g6 g7 g8
  clear wk3 wk4
  go_loopw [129] (fun z wr => ∃ i : Nat, i ≤ n ∧ z = .int .i64 i ∧ Und w wr x tb mb (.complex .f64 q1 q2) vd n kz (.complex .f64 mg mh) cs (dropL p (putL p 0 l1)) (loTo q pts i) (hiTo q pts i)) (fun z _ => n + 1 - (intOf z).toNat)
  case atStart => exact ⟨0, by omega, rfl, unhide U8⟩
  case round =>
    clear U8
    obtain ⟨i, hi, rfl, U⟩ := hrel
    by_cases hlt : i < n
    · have h1 : (i : Int) < (n : Int) := by omega
      have i0 : (0 : Int) ≤ (i : Int) := by omega
      obtain ⟨vl', vh', hlo, hhi, B8⟩ := U.own
      have hlt' : i < pts.length := by rw [unhide lH]; exact hlt
      obtain ⟨u, hu, cu⟩ := unhide rowH i hlt'
      have yi := (U.row.cell i).trans hu
      have hst : Hid (loP (loTo q pts i) pts[i] = loTo q pts (i + 1) ∧ hiP (hiTo q pts i) pts[i] = hiTo q pts (i + 1)) := ⟨(loTo_succ q pts i hlt').symm, (hiTo_succ q pts i hlt').symm⟩
      have hwd := hide (widen_any wr x _ _ _ _ _ vl' vh' _ (loTo q pts i) (hiTo q pts i) pts[i] B8 hlo hhi u cu)
      rw [(unhide hst).1, (unhide hst).2] at hwd
      have n24 := unhide nH
      have lt5 : wrap64 ((i : Int) + 1) = (i : Int) + 1 := wrap_small (i + 1) (by omega)
      obtain ⟨ua, ub, rfl, cu1, cu2⟩ := cu
      unfold widenPost ptr at hwd
      have UH := hide U
      have hltH := hide hlt
      clear hst cu1 cu2 hu hlt' hlt hlo hhi B8 U n24 hi
      go_wp2_with fail
      refine (unhide hwd).mono ?_
      clear hwd yi
      rintro e w5 ⟨rfl, ch5, lo', hi', k1, k2, B5⟩
      have fin : Hid (Und w w5 x tb mb (.complex .f64 q1 q2) vd n kz (.complex .f64 mg mh) cs (dropL p (putL p 0 l1)) (loTo q pts (i + 1)) (hiTo q pts (i + 1))) :=
        ⟨(unhide UH).chg.trans (ch5.mono (fun k _ hk => .inl hk)), ⟨lo', hi', k1, k2, B5⟩, ch5.blk (unhide UH).row (fun e => (unhide fH).1 e.symm), (unhide UH).map.of_chg ch5 (fun e => (unhide fH).2.1 e.symm)⟩
      clear ch5 k1 k2 B5 UH
      go_wp2
      go_roundw
      case rel => exact ⟨i + 1, unhide hltH, by simp; try exact lt5, unhide fin⟩
      case measure =>
        have h := unhide hltH
        first
          | exact meas_plain h
          | exact meas_next h lt5
    · have h1 : ¬ (i : Int) < (n : Int) := by omega
      obtain rfl : i = n := by omega
      have fin : Hid (Und w wr x tb mb (.complex .f64 q1 q2) vd i kz (.complex .f64 mg mh) cs (dropL p (putL p 0 l1)) (boxLo q pts) (boxHi q pts)) := by
        have e1 : loTo q pts i = boxLo q pts := by rw [← unhide lH]; exact loTo_all q pts
        have e2 : hiTo q pts i = boxHi q pts := by rw [← unhide lH]; exact hiTo_all q pts
        rw [← e1, ← e2]; exact U
      clear U hlt hi
      unfold undPost
      go_wp2
      go_ret
      exact ⟨rfl, unhide fin⟩

set_option maxRecDepth 100000 in
set_option maxHeartbeats 8000000 in
theorem undo_more (w : World) (x tb mb N n b : Nat) (c1 c2 q1 q2 o1 o2 me mf mg mh : Nat) (vd vl vh : Value) (kz : Int) (cs : List Value) (l1 : List (Pt × Int)) (p q : Pt) (pts : List Pt) (cnt : Int) (hcb : 0 ≤ cnt ∧ cnt ≤ 1000000) (hz : ¬ cnt = 0)
    (hxt : x ≠ tb) (hxm : x ≠ mb) (htm : tb ≠ mb) (B : Blk w x 48 (turC (.complex .f64 c1 c2) vd (.slice (some ⟨tb, 0, none⟩) N 24) (.map (some mb)) kz vl vh (.complex .f64 o1 o2))) (T : Blk w tb 44 cs) (M : MapR w mb l1) (hp : CW (.complex .f64 c1 c2) p) (hq : CW (.complex .f64 q1 q2) q) (hb : cs[b]? = some (.complex .f64 q1 q2))
    (hN : N = n + 1) (hn : n = b + 1) (h23 : n ≤ 23) (hl : pts.length = n) (hrow : ∀ i (h : i < pts.length), ∃ v, cs[i]? = some v ∧ CW v pts[i])
    (hc : valAt p l1 = (cnt + 1)) (hk : 0 ≤ kz ∧ kz ≤ 1000000)
    (hmul : ∀ t W, (binOp .mul t (.complex .f64 q1 (Op.negFloat .f64 q2)) (.complex .f64 c1 c2)).run Try.prog W = .ok (.complex .f64 me mf) W) (hsub : ∀ t W, (binOp .sub t (.complex .f64 o1 o2) (.complex .f64 me mf)).run Try.prog W = .ok (.complex .f64 mg mh) W) :
    Calls Try.prog 27 #[ptr x] w (undPost w x tb mb (.complex .f64 q1 q2) vd n (kz - cnt) (.complex .f64 mg mh) cs (putL p cnt l1) (boxLo q pts) (boxHi q pts)) := by
  have hpH := hide hp
  have hqH := hide hq
  have hcj := fun W => conj_any W q1 q2
  have c2' := hide (valAt_put p p cnt l1)
  rw [if_pos rfl] at c2'
  have rowH := hide hrow
  have fH := hide (⟨hxt, hxm, htm⟩ : _ ∧ _ ∧ _)
  have BH := hide B
  have TH := hide T
  have MH := hide M
  have lH := hide hl
  have hcH := hide hc
  have hbH := hide hb
  have nH := hide h23
  obtain ⟨kc, hkc⟩ : ∃ kc, kz - cnt = kc := ⟨_, rfl⟩
  have wk1 : wrap64 (kz - cnt) = kc := by unfold wrap64; omega
  have wk2 : IntKind.i64.wrap (kz - cnt) = kc := by rw [IntKind.wrap_i64]; omega
  have wc1 : wrap64 (cnt + 1 - 1) = cnt := by unfold wrap64; omega
  have wc2 : IntKind.i64.wrap (cnt + 1 - 1) = cnt := by rw [IntKind.wrap_i64]; omega
  have wc3 : wrap64 cnt = cnt := by unfold wrap64; omega
  have wc4 : IntKind.i64.wrap cnt = cnt := by rw [IntKind.wrap_i64]; omega
  rw [hkc]
  clear hkc hcb
  have v1 : wrap64 ((N : Int) - 2) = (b : Int) := by unfold wrap64; omega
  have v2 : IntKind.i64.wrap ((N : Int) - 2) = (b : Int) := by rw [IntKind.wrap_i64]; omega
  have v3 : wrap64 ((N : Int) - 1) = (n : Int) := by unfold wrap64; omega
  have v4 : IntKind.i64.wrap ((N : Int) - 1) = (n : Int) := by rw [IntKind.wrap_i64]; omega
  have v5 : wrap64 ((n : Int) - 1) = (b : Int) := by unfold wrap64; omega
  have v6 : IntKind.i64.wrap ((n : Int) - 1) = (b : Int) := by rw [IntKind.wrap_i64]; omega
  have g1 : ¬ (N : Int) < 2 := by omega
  have g2 : (b : Int) < (N : Int) := by omega
  have g3 : (0 : Int) ≤ (b : Int) := by omega
  have g4 : (b : Int) < (n : Int) := by omega
  have g5 : (n : Int) ≤ 24 := by omega
  have g6 : (0 : Int) ≤ (n : Int) := by omega
  have g7 : n ≤ 24 := by omega
  have g8 : ¬ 24 = n := by omega
  have y0 := B.cell 0
  have y2 := B.cell 2
  have y3 := B.cell 3
  simp [turC] at y0 y2 y3
  have hlk : ∀ m, (Instr.lookup 46 (.map (some mb)) (.complex .f64 c1 c2) false).run Try.prog (w.drewN m) = .ok (.int .i64 (cnt + 1)) (w.drewN m) := fun m => by
    have h := MapR.look (M.quiet ((Chg.refl _ _).drewN m)) und46 und44 (zero3 _) hp
    rw [hc] at h; exact h
  clear B T M hp hq hb hN hn h23 hl hrow hc hk hxt hxm htm
  unfold ptr
  go_enter Try.func27, Try.ntmps27
  go_wp2
  refine wp_region_noPanic ?_
  try simp only [List.append_eq, List.cons_append, List.nil_append]
  refine wp_region_mix [(0, true), (1, true), (2, true), (3, true), (4, true), (5, true), (6, true), (7, true), (8, true), (9, true)] [10] (by kernel_rfl) (by kernel_rfl) (fun _ _ _ _ _ h => h) ?_
  simp only [pickM, pickO, List.getElem?_cons_zero, List.getElem?_cons_succ]
  repeat (first | (refine wpMix_read rfl (fun K hK => ?_)) | (refine wpMix_pure rfl (fun K hK => ?_))
          go_big_quiet_op
          first | (refine hK _ ?_; clear hK K))
  refine wpMix_nil ?_
  intro _ hw'
  obtain ⟨nq, hw''⟩ := hw'
  subst hw''
  obtain ⟨W1, hup, ch1, M1⟩ := MapR.store ((unhide MH).quiet ((Chg.refl _ _).drewN nq)) und46 und44 (unhide hpH) (cnt)
  have B1 : Hid (Blk W1 x 48 (turC (.complex .f64 c1 c2) vd (.slice (some ⟨tb, 0, none⟩) N 24) (.map (some mb)) kz vl vh (.complex .f64 o1 o2))) := ch1.blk ((unhide BH).drewN nq) (unhide fH).2.1
  have T1 : Hid (Blk W1 tb 44 cs) := ch1.blk ((unhide TH).drewN nq) (unhide fH).2.2
  have C1 : Hid (Chg (own x tb mb) w W1) := Chg.trans ((Chg.refl _ _).drewN nq) (ch1.mono (fun k _ hk => .inr (.inr hk)))
  have M1H := hide M1
  clear BH TH MH M1 ch1 hlk
  go_wp2
  refine NoPanic.normal ?_
  clear hup y0 y2 y3
  have hlk : ∀ m, (Instr.lookup 46 (.map (some mb)) (.complex .f64 c1 c2) false).run Try.prog (W1.drewN m) = .ok (.int .i64 cnt) (W1.drewN m) := fun m => by
    have h := MapR.look ((unhide M1H).quiet ((Chg.refl _ _).drewN m)) und46 und44 (zero3 _) (unhide hpH)
    rw [unhide c2'] at h; exact h
  have y0 := (unhide B1).cell 0
  have y3 := (unhide B1).cell 3
  have y4 := (unhide B1).cell 4
  have f4 := (unhide B1).frozen 4
  simp [turC] at y0 y3 y4
  go_wp2
  refine wp_region_noPanic ?_
  try simp only [List.append_eq, List.cons_append, List.nil_append]
  refine wp_region_mix [(0, true), (1, true), (2, true), (3, true), (4, true), (5, true), (6, true), (7, true), (8, true), (9, true), (10, true), (11, true), (12, true), (13, true), (14, true), (15, true)] [16] (by kernel_rfl) (by kernel_rfl) (fun _ _ _ _ _ h => h) ?_
  simp only [pickM, pickO, List.getElem?_cons_zero, List.getElem?_cons_succ]
  repeat (first | (refine wpMix_read rfl (fun K hK => ?_)) | (refine wpMix_pure rfl (fun K hK => ?_))
          go_big_quiet_op
          first | (refine hK _ ?_; clear hK K))
  refine wpMix_nil ?_
  intro _ hw'
  obtain ⟨nq, hw''⟩ := hw'
  subst hw''
  have B2 : Hid (Blk ((W1.drewN nq).setCell ⟨x, 4, none⟩ (.int .i64 kc)) x 48 (turC (.complex .f64 c1 c2) vd (.slice (some ⟨tb, 0, none⟩) N 24) (.map (some mb)) kc vl vh (.complex .f64 o1 o2))) := ((unhide B1).drewN nq).set 4 _
  have C2 : Hid (Chg (own x tb mb) w ((W1.drewN nq).setCell ⟨x, 4, none⟩ (.int .i64 kc))) := Chg.setCell ((unhide C1).drewN nq) (p := ⟨x, 4, none⟩) (.inl (.inl rfl)) _
  have M2 : Hid (MapR ((W1.drewN nq).setCell ⟨x, 4, none⟩ (.int .i64 kc)) mb (putL p cnt l1)) := (unhide M1H).of_chg (Chg.setCell ((Chg.refl (fun k => k = x) W1).drewN nq) (p := ⟨x, 4, none⟩) (.inl rfl) _) (fun e => (unhide fH).2.1 e.symm)
  have T2 : Hid (Blk ((W1.drewN nq).setCell ⟨x, 4, none⟩ (.int .i64 kc)) tb 44 cs) := ((unhide T1).drewN nq).set_other (a := ⟨x, 4, none⟩) (Ne.symm (unhide fH).1) _
  clear B1 T1 M1H C1 hlk
  go_wp2
  refine NoPanic.normal ?_
  clear y0 y3 y4 f4
  generalize (W1.drewN nq).setCell ⟨x, 4, none⟩ (.int .i64 kc) = W2 at *
  have hlk : ∀ m, (Instr.lookup 46 (.map (some mb)) (.complex .f64 c1 c2) false).run Try.prog (W2.drewN m) = .ok (.int .i64 cnt) (W2.drewN m) := fun m => by
    have h := MapR.look ((unhide M2).quiet ((Chg.refl _ _).drewN m)) und46 und44 (zero3 _) (unhide hpH)
    rw [unhide c2'] at h; exact h
  have y0 := (unhide B2).cell 0
  have y3 := (unhide B2).cell 3
  simp [turC] at y0 y3
  go_wp2
  refine wp_region_noPanic ?_
  try simp only [List.append_eq, List.cons_append, List.nil_append]
  refine wp_region_mix [(0, true), (1, true), (2, true), (3, true), (4, true), (5, true), (6, true), (7, true), (8, true), (9, true)] [] (by kernel_rfl) (by kernel_rfl) (fun _ _ _ _ _ h => h) ?_
  simp only [pickM, pickO, List.getElem?_cons_zero, List.getElem?_cons_succ]
  repeat (first | (refine wpMix_read rfl (fun K hK => ?_)) | (refine wpMix_pure rfl (fun K hK => ?_))
          go_big_quiet_op
          first | (refine hK _ ?_; clear hK K))
  refine wpMix_nil ?_
  intro _ hw'
  obtain ⟨nq, hw''⟩ := hw'
  subst hw''
  have B3 : Hid (Blk (W2.drewN nq) x 48 (turC (.complex .f64 c1 c2) vd (.slice (some ⟨tb, 0, none⟩) N 24) (.map (some mb)) kc vl vh (.complex .f64 o1 o2))) := (unhide B2).drewN nq
  have C3 : Hid (Chg (own x tb mb) w (W2.drewN nq)) := (unhide C2).drewN nq
  have M3 : Hid (MapR (W2.drewN nq) mb (putL p cnt l1)) := (unhide M2).quiet ((Chg.refl _ _).drewN nq)
  have T3 : Hid (Blk (W2.drewN nq) tb 44 cs) := (unhide T2).drewN nq
  clear B2 T2 M2 C2 hlk
  go_wp2
  refine NoPanic.normal ?_
  clear y0 y3
  generalize W2.drewN nq = W4 at *
  have B4 := B3
  have C4 := C3
  have M4H := M3
  have T4 := T3
  clear B3 C3 M3 T3
  have y0 := (unhide B4).cell 0
  have y2 := (unhide B4).cell 2
  have y7 := (unhide B4).cell 7
  have f7 := (unhide B4).frozen 7
  have yb := ((unhide T4).cell b).trans (unhide hbH)
  simp [turC] at y0 y2 y7
  go_wp2
  rename (cnt == 0) = false => hzb
  clear hzb
  refine wp_region_noPanic ?_
  try simp only [List.append_eq, List.cons_append, List.nil_append]
  refine wp_region_mix [(0, true), (1, true), (2, true), (3, true), (4, true), (5, true), (6, true), (7, true), (8, true), (9, true), (10, true), (11, true), (12, true), (13, true), (14, true), (15, true), (16, true), (17, true), (18, true), (19, true), (20, true), (21, true), (22, true), (23, true), (24, true), (25, true)] [26] (by kernel_rfl) (by kernel_rfl) (fun _ _ _ _ _ h => h) ?_
  simp only [pickM, pickO, List.getElem?_cons_zero, List.getElem?_cons_succ]
  repeat (first | (refine wpMix_read rfl (fun K hK => ?_)) | (refine wpMix_pure rfl (fun K hK => ?_))
          go_big_quiet_op
          first | (refine hK _ ?_; clear hK K) | (apply Exists.intro; refine ⟨fun _ => ?_, ?_⟩; (· (first | (go_at_call 44; exact Calls.quiet_of_same (hcj _)))); refine hK _ ?_; clear hK K))
  refine wpMix_nil ?_
  intro _ hw'
  obtain ⟨nq, hw''⟩ := hw'
  subst hw''
  have B5 : Hid (Blk ((W4.drewN nq).setCell ⟨x, 7, none⟩ (.complex .f64 mg mh)) x 48 (turC (.complex .f64 c1 c2) vd (.slice (some ⟨tb, 0, none⟩) N 24) (.map (some mb)) kc vl vh (.complex .f64 mg mh))) := ((unhide B4).drewN nq).set 7 _
  have C5 : Hid (Chg (own x tb mb) w ((W4.drewN nq).setCell ⟨x, 7, none⟩ (.complex .f64 mg mh))) := Chg.setCell ((unhide C4).drewN nq) (p := ⟨x, 7, none⟩) (.inl (.inl rfl)) _
  have M5 : Hid (MapR ((W4.drewN nq).setCell ⟨x, 7, none⟩ (.complex .f64 mg mh)) mb (putL p cnt l1)) := (unhide M4H).of_chg (Chg.setCell ((Chg.refl (fun k => k = x) W4).drewN nq) (p := ⟨x, 7, none⟩) (.inl rfl) _) (fun e => (unhide fH).2.1 e.symm)
  have T5 : Hid (Blk ((W4.drewN nq).setCell ⟨x, 7, none⟩ (.complex .f64 mg mh)) tb 44 cs) := ((unhide T4).drewN nq).set_other (a := ⟨x, 7, none⟩) (Ne.symm (unhide fH).1) _
  clear B4 T4 M4H C4 hcj hmul hsub
  go_wp2
  refine NoPanic.normal ?_
  clear y0 y2 y7 f7 yb
  generalize (W4.drewN nq).setCell ⟨x, 7, none⟩ (.complex .f64 mg mh) = W5 at *
  have y2 := (unhide B5).cell 2
  have f2 := (unhide B5).frozen 2
  simp [turC] at y2
  go_wp2
  refine wp_region_noPanic ?_
  try simp only [List.append_eq, List.cons_append, List.nil_append]
  refine wp_region_mix [(0, true), (1, true), (2, true), (3, true), (4, true), (5, true), (6, true), (7, true), (8, true), (9, true), (10, true), (11, true), (12, true), (13, true)] [14] (by kernel_rfl) (by kernel_rfl) (fun _ _ _ _ _ h => h) ?_
  simp only [pickM, pickO, List.getElem?_cons_zero, List.getElem?_cons_succ]
  repeat (first | (refine wpMix_read rfl (fun K hK => ?_)) | (refine wpMix_pure rfl (fun K hK => ?_))
          go_big_quiet_op
          first | (refine hK _ ?_; clear hK K))
  refine wpMix_nil ?_
  intro _ hw'
  obtain ⟨nq, hw''⟩ := hw'
  subst hw''
  have B6 : Hid (Blk ((W5.drewN nq).setCell ⟨x, 2, none⟩ (.slice (some ⟨tb, 0, none⟩) n 24)) x 48 (turC (.complex .f64 c1 c2) vd (.slice (some ⟨tb, 0, none⟩) n 24) (.map (some mb)) kc vl vh (.complex .f64 mg mh))) := ((unhide B5).drewN nq).set 2 _
  have C6 : Hid (Chg (own x tb mb) w ((W5.drewN nq).setCell ⟨x, 2, none⟩ (.slice (some ⟨tb, 0, none⟩) n 24))) := Chg.setCell ((unhide C5).drewN nq) (p := ⟨x, 2, none⟩) (.inl (.inl rfl)) _
  have M6 : Hid (MapR ((W5.drewN nq).setCell ⟨x, 2, none⟩ (.slice (some ⟨tb, 0, none⟩) n 24)) mb (putL p cnt l1)) := (unhide M5).of_chg (Chg.setCell ((Chg.refl (fun k => k = x) W5).drewN nq) (p := ⟨x, 2, none⟩) (.inl rfl) _) (fun e => (unhide fH).2.1 e.symm)
  have T6 : Hid (Blk ((W5.drewN nq).setCell ⟨x, 2, none⟩ (.slice (some ⟨tb, 0, none⟩) n 24)) tb 44 cs) := ((unhide T5).drewN nq).set_other (a := ⟨x, 2, none⟩) (Ne.symm (unhide fH).1) _
  clear B5 T5 M5 C5
  go_wp2
  refine NoPanic.normal ?_
  clear y2 f2
  generalize (W5.drewN nq).setCell ⟨x, 2, none⟩ (.slice (some ⟨tb, 0, none⟩) n 24) = W6 at *
  have y0 := (unhide B6).cell 0
  have f0 := (unhide B6).frozen 0
  have y2 := (unhide B6).cell 2
  have yb := ((unhide T6).cell b).trans (unhide hbH)
  simp [turC] at y0 y2
  go_wp2
  refine wp_region_noPanic ?_
  try simp only [List.append_eq, List.cons_append, List.nil_append]
  refine wp_region_mix [(0, true), (1, true), (2, true), (3, true), (4, true), (5, true), (6, true), (7, true), (8, true), (9, true), (10, true), (11, true), (12, true), (13, true), (14, true)] [15] (by kernel_rfl) (by kernel_rfl) (fun _ _ _ _ _ h => h) ?_
  simp only [pickM, pickO, List.getElem?_cons_zero, List.getElem?_cons_succ]
  repeat (first | (refine wpMix_read rfl (fun K hK => ?_)) | (refine wpMix_pure rfl (fun K hK => ?_))
          go_big_quiet_op
          first | (refine hK _ ?_; clear hK K))
  refine wpMix_nil ?_
  intro _ hw'
  obtain ⟨nq, hw''⟩ := hw'
  subst hw''
  have B7 : Hid (Blk ((W6.drewN nq).setCell ⟨x, 0, none⟩ (.complex .f64 q1 q2)) x 48 (turC (.complex .f64 q1 q2) vd (.slice (some ⟨tb, 0, none⟩) n 24) (.map (some mb)) kc vl vh (.complex .f64 mg mh))) := ((unhide B6).drewN nq).set 0 _
  have C7 : Hid (Chg (own x tb mb) w ((W6.drewN nq).setCell ⟨x, 0, none⟩ (.complex .f64 q1 q2))) := Chg.setCell ((unhide C6).drewN nq) (p := ⟨x, 0, none⟩) (.inl (.inl rfl)) _
  have M7 : Hid (MapR ((W6.drewN nq).setCell ⟨x, 0, none⟩ (.complex .f64 q1 q2)) mb (putL p cnt l1)) := (unhide M6).of_chg (Chg.setCell ((Chg.refl (fun k => k = x) W6).drewN nq) (p := ⟨x, 0, none⟩) (.inl rfl) _) (fun e => (unhide fH).2.1 e.symm)
  have T7 : Hid (Blk ((W6.drewN nq).setCell ⟨x, 0, none⟩ (.complex .f64 q1 q2)) tb 44 cs) := ((unhide T6).drewN nq).set_other (a := ⟨x, 0, none⟩) (Ne.symm (unhide fH).1) _
  clear B6 T6 M6 C6
  go_wp2
  refine NoPanic.normal ?_
  clear y0 y2 f0 yb
  generalize (W6.drewN nq).setCell ⟨x, 0, none⟩ (.complex .f64 q1 q2) = W7 at *
  have y0 := (unhide B7).cell 0
  have y5 := (unhide B7).cell 5
  have y6 := (unhide B7).cell 6
  have f5 := (unhide B7).frozen 5
  have f6 := (unhide B7).frozen 6
  simp [turC] at y0 y5 y6
  go_wp2
  refine wp_region_noPanic ?_
  try simp only [List.append_eq, List.cons_append, List.nil_append]
  refine wp_region_mix [(0, true), (1, false), (2, true), (3, true), (4, true), (5, true), (6, true), (7, true), (8, true), (9, true), (10, true), (11, true)] [12, 13, 14, 15] (by kernel_rfl) (by kernel_rfl) (fun _ _ _ _ _ h => h) ?_
  simp only [pickM, pickO, List.getElem?_cons_zero, List.getElem?_cons_succ]
  repeat (first | (refine wpMix_read rfl (fun K hK => ?_)) | (refine wpMix_pure rfl (fun K hK => ?_))
          go_big_quiet_op
          first | (refine hK _ ?_; clear hK K))
  refine wpMix_nil ?_
  intro _ hw'
  obtain ⟨nq, hw''⟩ := hw'
  subst hw''
  have U8 : Hid (Und w (((W7.drewN nq).setCell ⟨x, 5, none⟩ (.complex .f64 q1 q2)).setCell ⟨x, 6, none⟩ (.complex .f64 q1 q2)) x tb mb (.complex .f64 q1 q2) vd n kc (.complex .f64 mg mh) cs (putL p cnt l1) (loTo q pts 0) (hiTo q pts 0)) := by
    have cS : Chg (fun k => k = x) W7 (((W7.drewN nq).setCell ⟨x, 5, none⟩ (.complex .f64 q1 q2)).setCell ⟨x, 6, none⟩ (.complex .f64 q1 q2)) := ((((Chg.refl (fun k => k = x) W7).drewN nq).setCell (p := ⟨x, 5, none⟩) (.inl rfl) _).setCell (p := ⟨x, 6, none⟩) (.inl rfl) _)
    refine ⟨Chg.trans (unhide C7) (cS.mono (fun k _ hk => .inl hk)), ⟨(.complex .f64 q1 q2), (.complex .f64 q1 q2), ?_, ?_, (((unhide B7).drewN nq).set 5 _).set 6 _⟩, cS.blk (unhide T7) (fun e => (unhide fH).1 e.symm), (unhide M7).of_chg cS (fun e => (unhide fH).2.1 e.symm)⟩
    · rw [loTo_zero]; exact unhide hqH
    · rw [hiTo_zero]; exact unhide hqH
  clear B7 T7 M7 C7
  go_wp2
  refine NoPanic.normal ?_
  clear y0 y5 y6 f5 f6
  generalize ((W7.drewN nq).setCell ⟨x, 5, none⟩ (.complex .f64 q1 q2)).setCell ⟨x, 6, none⟩ (.complex .f64 q1 q2) = W8 at *
  have y2 : W8.cell? ⟨x, 2, none⟩ = some (.slice (some ⟨tb, 0, none⟩) n 24) := by
    obtain ⟨vl, vh, _, _, B8⟩ := (unhide U8).own
    have y2 := B8.cell 2
    simpa [turC] using y2
  go_wp2
  clear y2 v1 v2 v3 v4 v5 v6 wk1 wk2 g1 g2 g3 g4 g5 g6 g7 g8
  clear wc1 wc2 wc3 wc4 hz
  generalize (cnt == 0) = bz
  go_loopw [129] (fun z wr => ∃ i : Nat, i ≤ n ∧ z = .int .i64 i ∧ Und w wr x tb mb (.complex .f64 q1 q2) vd n kc (.complex .f64 mg mh) cs (putL p cnt l1) (loTo q pts i) (hiTo q pts i)) (fun z _ => n + 1 - (intOf z).toNat)
  case atStart => exact ⟨0, by omega, rfl, unhide U8⟩
  case round =>
    clear U8
    obtain ⟨i, hi, rfl, U⟩ := hrel
    by_cases hlt : i < n
    · have h1 : (i : Int) < (n : Int) := by omega
      have i0 : (0 : Int) ≤ (i : Int) := by omega
      obtain ⟨vl', vh', hlo, hhi, B8⟩ := U.own
      have hlt' : i < pts.length := by rw [unhide lH]; exact hlt
      obtain ⟨u, hu, cu⟩ := unhide rowH i hlt'
      have yi := (U.row.cell i).trans hu
      have hst : Hid (loP (loTo q pts i) pts[i] = loTo q pts (i + 1) ∧ hiP (hiTo q pts i) pts[i] = hiTo q pts (i + 1)) := ⟨(loTo_succ q pts i hlt').symm, (hiTo_succ q pts i hlt').symm⟩
      have hwd := hide (widen_any wr x _ _ _ _ _ vl' vh' _ (loTo q pts i) (hiTo q pts i) pts[i] B8 hlo hhi u cu)
      rw [(unhide hst).1, (unhide hst).2] at hwd
      have n24 := unhide nH
      have lt5 : wrap64 ((i : Int) + 1) = (i : Int) + 1 := wrap_small (i + 1) (by omega)
      obtain ⟨ua, ub, rfl, cu1, cu2⟩ := cu
      unfold widenPost ptr at hwd
      have UH := hide U
      have hltH := hide hlt
      clear hst cu1 cu2 hu hlt' hlt hlo hhi B8 U n24 hi
      go_wp2_with fail
      refine (unhide hwd).mono ?_
      clear hwd yi
      rintro e w5 ⟨rfl, ch5, lo', hi', k1, k2, B5⟩
      have fin : Hid (Und w w5 x tb mb (.complex .f64 q1 q2) vd n kc (.complex .f64 mg mh) cs (putL p cnt l1) (loTo q pts (i + 1)) (hiTo q pts (i + 1))) :=
        ⟨(unhide UH).chg.trans (ch5.mono (fun k _ hk => .inl hk)), ⟨lo', hi', k1, k2, B5⟩, ch5.blk (unhide UH).row (fun e => (unhide fH).1 e.symm), (unhide UH).map.of_chg ch5 (fun e => (unhide fH).2.1 e.symm)⟩
      clear ch5 k1 k2 B5 UH
      go_wp2
      go_roundw
      case rel => exact ⟨i + 1, unhide hltH, by simp; try exact lt5, unhide fin⟩
      case measure =>
        have h := unhide hltH
        first
          | exact meas_plain h
          | exact meas_next h lt5
    · have h1 : ¬ (i : Int) < (n : Int) := by omega
      obtain rfl : i = n := by omega
      have fin : Hid (Und w wr x tb mb (.complex .f64 q1 q2) vd i kc (.complex .f64 mg mh) cs (putL p cnt l1) (boxLo q pts) (boxHi q pts)) := by
        have e1 : loTo q pts i = boxLo q pts := by rw [← unhide lH]; exact loTo_all q pts
        have e2 : hiTo q pts i = boxHi q pts := by rw [← unhide lH]; exact hiTo_all q pts
        rw [← e1, ← e2]; exact U
      clear U hlt hi
      unfold undPost
      go_wp2
      go_ret
      exact ⟨rfl, unhide fin⟩

theorem undo_real (w : World) (x tb mb : Nat) (tr : List Pt) (p : Pt) (d : Pt) (h0 : 0 < tr.length) (R : Rep w x tb mb (tr ++ [p]) d) (I : Inv (tr ++ [p]) d) : Calls Try.prog 27 #[ptr x] w (errPost w x tb mb (runOf tr) tr d 0) := by
  have hsm : ∀ q ∈ tr, Small q := fun q hq => I.small q (List.mem_append_left _ hq)
  have few := I.few
  rw [List.length_append] at few
  simp only [List.length_singleton] at few
  have hpos := pos_runTo tr hsm (by omega) tr.length (Nat.le_refl _)
  rw [runTo_all] at hpos
  obtain ⟨e1, e2, e3, e4, e5, e6⟩ := undo_run tr h0 p hpos
  have bd0 := bd_runTo tr hsm (by omega) tr.length (Nat.le_refl _)
  rw [runTo_all] at bd0
  have bd1 := I.bd
  have ft := bd1.fits I.few
  have hps : (runOf (tr ++ [p])).pos = p := by rw [runOf_snoc tr h0 p]; rfl
  have hpq := runOf_pos tr h0
  obtain ⟨vp, vd, vl, vh, vo, h1, h2, h3, h4, h5, B⟩ := R.own
  rw [hps] at h1
  have h1' := h1
  obtain ⟨c1, c2, rfl, C1, C2⟩ := h1
  obtain ⟨o1, o2, rfl, O1, O2⟩ := h5
  obtain ⟨cs, BT, hcs, hrow⟩ := R.row
  obtain ⟨u, hu, cu⟩ := hrow (tr.length - 1) (by simp; omega)
  rw [List.getElem_append_left (by omega), ← hpq] at cu
  have cu' := cu
  obtain ⟨q1, q2, rfl, Q1, Q2⟩ := cu
  obtain ⟨me, mf, mg, mh, hmul, hsub, hop⟩ := back_whole Q1 Q2 C1 C2 O1 O2 bd0.pos (I.small p (by simp)) ft.1
  rw [e6] at hop
  have hrow' : ∀ i (h : i < tr.length), ∃ v, cs[i]? = some v ∧ CW v tr[i] := fun i h => by
    obtain ⟨v, hv, cv⟩ := hrow i (by simp; omega)
    rw [List.getElem_append_left h] at cv
    exact ⟨v, hv, cv⟩
  have hc1 := bd0.c p
  have hxt := R.xt
  have hxm := R.xm
  have htm := R.tm
  have hk := ft.2.1
  rw [List.length_append, List.length_singleton] at B
  have fin : ∀ e w', undPost w x tb mb (.complex .f64 q1 q2) vd tr.length ((runOf (tr ++ [p])).k - valAt p (runOf tr).l) (.complex .f64 mg mh) cs (backL p (valAt p (runOf tr).l) (runOf (tr ++ [p])).l) (boxLo (runOf tr).pos tr) (boxHi (runOf tr).pos tr) e w' → errPost w x tb mb (runOf tr) tr d 0 e w' := by
    rintro e w' ⟨rfl, hU⟩
    rw [e2, e3, e4, e5] at hU
    obtain ⟨lo', hi', l1, l2, B'⟩ := hU.own
    exact ⟨rfl, hU.chg, ⟨⟨_, vd, lo', hi', _, cu', h2, l1, l2, hop, B'⟩, ⟨cs, hU.row, hcs, hrow'⟩, hU.map, by omega, hxt, hxm, htm⟩⟩
  by_cases hz : valAt p (runOf tr).l = 0
  · have hh := undo_zero w x tb mb (tr.length + 1) tr.length (tr.length - 1) c1 c2 q1 q2 o1 o2 me mf mg mh vd vl vh _ cs _ p (runOf tr).pos tr hxt hxm htm B BT R.map h1' cu' hu rfl (by omega) (by omega) rfl hrow' (by omega) hk (fun t W => hmul _ t W) (fun t W => hsub _ t W)
    refine hh.mono (fun e w' h => fin e w' ?_)
    rw [hz]
    unfold backL
    rw [if_pos rfl, Int.sub_zero]
    exact h
  · have hh := undo_more w x tb mb (tr.length + 1) tr.length (tr.length - 1) c1 c2 q1 q2 o1 o2 me mf mg mh vd vl vh _ cs _ p (runOf tr).pos tr (valAt p (runOf tr).l) (by omega) hz hxt hxm htm B BT R.map h1' cu' hu rfl (by omega) (by omega) rfl hrow' (by omega) hk (fun t W => hmul _ t W) (fun t W => hsub _ t W)
    refine hh.mono (fun e w' h => fin e w' ?_)
    unfold backL
    rw [if_neg hz]
    exact h

/-- What Undo answers. -/
def unE (tr : List Pt) : Int := if tr.length < 2 then 3 else 0
def unT (tr : List Pt) : List Pt := if tr.length < 2 then tr else tr.dropLast
theorem undo_any (w : World) (x tb mb : Nat) (tr : List Pt) (d : Pt) (R : Rep w x tb mb tr d) (I : Inv tr d) : Calls Try.prog 27 #[ptr x] w (errPost w x tb mb (runOf (unT tr)) (unT tr) d (unE tr)) := by
  unfold unE unT
  by_cases h : tr.length < 2
  · rw [if_pos h, if_pos h]
    exact undo_low w x tb mb tr d R h
  · rw [if_neg h, if_neg h]
    have hne : tr ≠ [] := by intro e; subst e; simp at h
    have e : tr = tr.dropLast ++ [tr.getLast hne] := (List.dropLast_concat_getLast hne).symm
    rw [e] at R I
    rw [e, List.dropLast_concat]
    exact undo_real w x tb mb tr.dropLast (tr.getLast hne) d (by rw [List.length_dropLast]; omega) R I
end Go.Proofs.Qxb6500366a
