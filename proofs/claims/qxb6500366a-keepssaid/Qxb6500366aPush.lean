/-
  THE REAL TURTLE: what it stands for; push. (gen6push.py)
-/
import Derived.Test.Qxb6500366aPlain
import Derived.ArgAppend
namespace Go.Qx
open Go.RowKit
/-- append by what it answers, at a plain step. -/
theorem wpList_append_run {P : Program} {w : World} {ops : Array Oper} {rest : List Oper} {o : Oper} {a : Act} {Q : Exit → Act → World → Prop} (hgd : o.guard = none) (s x : Operand) (t : TypeId)
    (ho : o.op = .call { callee := .builtin .append, args := #[s, x], argTypes := #[t, t] }) (vs vx : Value) (hs : a.eval s = vs) (hx : a.eval x = vx) {v' : Value} {w' : World}
    (hr : ∀ ty, (Builtin.append_ #[t, t] ty #[vs, vx]).run P w = .ok v' w') (h : wpList P ops Q rest (a.put o.dst v') w') : wpList P ops Q (o :: rest) a w :=
  wpList_plain hgd fun _ hK => by
    unfold Oper.wp execOp
    simp only [ho, resolve, invoke, builtin, Sem.run_bind, Sem.run_pure, Result.andThen_ok, List.map_toArray, List.map_cons, List.map_nil, hs, hx, hr]
    exact hK _ _ h
end Go.Qx
namespace Go.Proofs.Qxb6500366a
open Go.RowKit Go.Qx
set_option linter.unusedVariables false
set_option linter.unusedSimpArgs false

/-- The running state. -/
structure Run where
  l : List (Pt × Int)
  k : Int
  lo : Pt
  hi : Pt
  op : Pt
  pos : Pt

def opP (o q p : Pt) : Pt := (o.1 + (q.1 * p.1 - (-q.2) * p.2), o.2 + (q.1 * p.2 + (-q.2) * p.1))
def pushR (r : Run) (p : Pt) : Run := ⟨putL p (valAt p r.l + 1) r.l, r.k + valAt p r.l, loP r.lo p, hiP r.hi p, opP r.op r.pos p, p⟩

def Small (p : Pt) : Prop := -1048576 ≤ p.1 ∧ p.1 ≤ 1048576 ∧ -1048576 ≤ p.2 ∧ p.2 ≤ 1048576
def Fit (c : Int) (p : Pt) : Prop := -c ≤ p.1 ∧ p.1 ≤ c ∧ -c ≤ p.2 ∧ p.2 ≤ c

structure RepR (w : World) (x tb mb : Nat) (r : Run) (tr : List Pt) (d : Pt) : Prop where
  own : ∃ vp vd vl vh vo, CW vp r.pos ∧ CW vd d ∧ CW vl r.lo ∧ CW vh r.hi ∧ CW vo r.op ∧ Blk w x 48 (turC vp vd (.slice (some ⟨tb, 0, none⟩) tr.length 24) (.map (some mb)) r.k vl vh vo)
  row : ∃ cs, Blk w tb 44 cs ∧ cs.length = 24 ∧ ∀ i (h : i < tr.length), ∃ v, cs[i]? = some v ∧ CW v tr[i]
  map : MapR w mb r.l
  few : tr.length ≤ 24
  xt : x ≠ tb
  xm : x ≠ mb
  tm : tb ≠ mb

def own (x tb mb k : Nat) : Prop := k = x ∨ k = tb ∨ k = mb

theorem RepR.of_chg {S : Nat → Prop} {w w' : World} {x tb mb : Nat} {r : Run} {tr : List Pt} {d : Pt} (h : RepR w x tb mb r tr d) (c : Chg S w w') (hS : ∀ k, S k → ¬ Qxb6500366a.own x tb mb k) : RepR w' x tb mb r tr d := by
  obtain ⟨vp, vd, vl, vh, vo, h1, h2, h3, h4, h5, B⟩ := h.own
  obtain ⟨cs, B2, h6, h7⟩ := h.row
  exact ⟨⟨vp, vd, vl, vh, vo, h1, h2, h3, h4, h5, c.blk B (fun k => hS _ k (.inl rfl))⟩, ⟨cs, c.blk B2 (fun k => hS _ k (.inr (.inl rfl))), h6, h7⟩, h.map.of_chg c (fun k => hS _ k (.inr (.inr rfl))), h.few, h.xt, h.xm, h.tm⟩
theorem RepR.quiet {w w' : World} {x tb mb : Nat} {r : Run} {tr : List Pt} {d : Pt} (h : RepR w x tb mb r tr d) (c : Quiet w w') : RepR w' x tb mb r tr d := h.of_chg c (fun _ f => f.elim)

theorem mul_abs {a b c d : Int} (ha : -c ≤ a ∧ a ≤ c) (hb : -d ≤ b ∧ b ≤ d) (hc : 0 ≤ c) (hd : 0 ≤ d) : -(c * d) ≤ a * b ∧ a * b ≤ c * d := by
  have h1 : (a * b).natAbs ≤ (c * d).natAbs := by
    rw [Int.natAbs_mul, Int.natAbs_mul]
    exact Nat.mul_le_mul (by omega) (by omega)
  have h2 := Int.mul_nonneg hc hd
  omega

theorem term_whole {a b c d o1 o2 : Nat} {q p o : Pt} (ha : W64 a q.1) (hb : W64 b q.2) (hc : W64 c p.1) (hd : W64 d p.2) (h1 : W64 o1 o.1) (h2 : W64 o2 o.2) (hq : Small q) (hp : Small p) (ho : Fit 2251799813685248 o) :
    ∃ e f g h, (∀ (P : Program) (t : TypeId) (W : World), (binOp .mul t (.complex .f64 a (Op.negFloat .f64 b)) (.complex .f64 c d)).run P W = .ok (.complex .f64 e f) W) ∧
      (∀ (P : Program) (t : TypeId) (W : World), (binOp .add t (.complex .f64 o1 o2) (.complex .f64 e f)).run P W = .ok (.complex .f64 g h) W) ∧ CW (.complex .f64 g h) (opP o q p) := by
  obtain ⟨q1, q2⟩ := q
  obtain ⟨p1, p2⟩ := p
  obtain ⟨x1, x2⟩ := o
  simp only [Small, Fit] at *
  have m1 := mul_abs (c := 1048576) (d := 1048576) ⟨hq.1, hq.2.1⟩ ⟨hp.1, hp.2.1⟩ (by decide) (by decide)
  have m2 := mul_abs (a := -q2) (c := 1048576) (d := 1048576) (by omega) ⟨hp.2.2.1, hp.2.2.2⟩ (by decide) (by decide)
  have m3 := mul_abs (c := 1048576) (d := 1048576) ⟨hq.1, hq.2.1⟩ ⟨hp.2.2.1, hp.2.2.2⟩ (by decide) (by decide)
  have m4 := mul_abs (a := -q2) (c := 1048576) (d := 1048576) (by omega) ⟨hp.1, hp.2.1⟩ (by decide) (by decide)
  obtain ⟨e, f, h3, we, wf⟩ := cmul_whole ha (w64_neg hb) hc hd (by omega) (by omega) (by omega) (by omega) (by omega) (by omega)
  obtain ⟨g, h, h4, wg, wh⟩ := cadd_whole h1 h2 we wf (by omega) (by omega)
  exact ⟨e, f, g, h, h3, h4, g, h, rfl, wg, wh⟩

theorem und46 : Try.prog.underlying 46 = some (.map 44 3) := by kernel_rfl
theorem und44 : Try.prog.underlying 44 = some (.complex .f64) := by kernel_rfl
theorem und45 : Try.prog.underlying 45 = some (.slice 44) := by kernel_rfl
theorem zero3 (w : World) : (zeroValue 3).run Try.prog w = .ok (.int .i64 0) w := by rfl
theorem size44 : (Try.prog.info? 44).map (fun i => i.size) = some 1 := by kernel_rfl

theorem append45 (W : World) (tb n g : Nat) (v : Value) (cs : List Value) (ty : TypeId) (hn : n < 24) (hv : v.oneCell' = true) (B : Blk W tb 44 cs) (hcs : cs.length = 24) (hg : W.cell? ⟨g, 0, none⟩ = some v) :
    (Builtin.append_ #[45, 45] ty #[.slice (some ⟨tb, 0, none⟩) n 24, .slice (some ⟨g, 0, none⟩) 1 1]).run Try.prog W = .ok (.slice (some ⟨tb, 0, none⟩) (n + 1) 24) (W.setCells tb n [v]) := by
  obtain ⟨i, hi, hs⟩ : ∃ i, Try.prog.info? 44 = some i ∧ i.size = 1 := by
    have h := size44
    cases e : Try.prog.info? 44 with
    | none => rw [e] at h; cases h
    | some i => rw [e] at h; simp at h; exact ⟨i, rfl, h⟩
  have h := run_append_room_cells (P := Try.prog) W 45 ty 44 i und45 hi tb 0 n 24 ⟨g, 0, none⟩ 1 1 [v] (by rw [hs]; rfl) (fun j u hu => by
      cases j with
      | zero => simp at hu; subst hu; simpa [Addr.add] using hg
      | succ j => simp at hu) (by intro u hu; simp at hu; subst hu; exact hv) (by omega)
    (fun j hj => by
      simp at hj; subst hj
      rw [hs, B.cell]; simp; omega)
    (fun j hj => B.frozen _)
  rw [hs, Nat.mul_one, Nat.zero_add] at h
  exact h

def pushPost (w : World) (x tb mb : Nat) (r : Run) (tr : List Pt) (d : Pt) (e : Ending) (w' : World) : Prop := e = .returned (.tuple #[]) ∧ Chg (own x tb mb) w w' ∧ RepR w' x tb mb r tr d

set_option maxRecDepth 100000 in
set_option maxHeartbeats 4000000 in
theorem push_any (w : World) (x tb mb : Nat) (r : Run) (tr : List Pt) (d : Pt) (R : RepR w x tb mb r tr d) (v : Value) (p : Pt) (hv : CW v p) (hp : Small p) (hq : Small r.pos) (ho : Fit 2251799813685248 r.op) (hk : 0 ≤ r.k ∧ r.k ≤ 1000000) (hc : 0 ≤ valAt p r.l ∧ valAt p r.l ≤ 1000000) (hlen : tr.length < 24) :
    Calls Try.prog 43 #[ptr x, v] w (pushPost w x tb mb (pushR r p) (tr ++ [p]) d) := by
  obtain ⟨vp, vd, vl, vh, vo, h1, h2, h3, h4, h5, B⟩ := R.own
  obtain ⟨cs, BT, hcs, hrow⟩ := R.row
  have M := R.map
  have hvH := hide hv
  obtain ⟨q1, q2, rfl, Q1, Q2⟩ := h1
  obtain ⟨o1, o2, rfl, O1, O2⟩ := h5
  obtain ⟨c1, c2, rfl, C1, C2⟩ := hv
  obtain ⟨me, mf, mg, mh, hmul, hadd, hop⟩ := term_whole Q1 Q2 C1 C2 O1 O2 hq hp ho
  have hmul' := fun t W => hmul Try.prog t W
  have hadd' := fun t W => hadd Try.prog t W
  have hopH := hide hop
  have hcj := fun W => conj_any W q1 q2
  have w7 := B.cell 7
  have w0 := B.cell 0
  have f7 := B.frozen 7
  simp [turC] at w7 w0
  have BH := hide B
  have BTH := hide BT
  have MH := hide M
  have lvh := hide (⟨h2, h3, h4⟩ : _ ∧ _ ∧ _)
  have rowH := hide (⟨hcs, hrow⟩ : _ ∧ _)
  have RH := hide (⟨R.xt, R.xm, R.tm, hlen⟩ : _ ∧ _ ∧ _ ∧ _)
  generalize hcnt : valAt p r.l = cnt at *
  have wk : wrap64 (r.k + cnt) = r.k + cnt := by unfold wrap64; omega
  have wk' : IntKind.i64.wrap (r.k + cnt) = r.k + cnt := by rw [IntKind.wrap_i64]; omega
  have wc : wrap64 (cnt + 1) = cnt + 1 := by unfold wrap64; omega
  have hcntH := hide hcnt
  have hpost : Hid (pushR r p = ⟨putL p (cnt + 1) r.l, r.k + cnt, loP r.lo p, hiP r.hi p, opP r.op r.pos p, p⟩) := by show _ = _; unfold pushR; rw [hcnt]
  clear B BT M Q1 Q2 O1 O2 C1 C2 hmul hadd hop h2 h3 h4 hcs hrow R hp hq ho hk hc hlen hcnt
  unfold ptr
  rw [unhide hpost]
  clear hpost
  generalize r.k = kk at *
  go_enter Try.func43, Try.ntmps43
  go_wp2
  refine wp_region_noPanic ?_
  try simp only [List.append_eq, List.cons_append, List.nil_append]
  refine wp_region_mix [(0, true), (1, true), (2, true), (3, true), (4, true), (5, true), (6, true), (7, true), (8, true), (9, true), (10, true), (11, true), (12, true), (13, true)] [14] (by kernel_rfl) (by kernel_rfl) (fun _ _ _ _ _ h => h) ?_
  simp only [pickM, pickO, List.getElem?_cons_zero, List.getElem?_cons_succ]
  repeat (first | (refine wpMix_read rfl (fun K hK => ?_)) | (refine wpMix_pure rfl (fun K hK => ?_))
          go_big_quiet_op
          first | (refine hK _ ?_; clear hK K) | (apply Exists.intro; refine ⟨fun _ => ?_, ?_⟩; (· (first | (go_at_call 44; exact Calls.quiet_of_same (hcj _)))); refine hK _ ?_; clear hK K))
  refine wpMix_nil ?_
  intro _ hw'
  obtain ⟨nq, hw''⟩ := hw'
  subst hw''
  have B1 : Hid (Blk ((w.drewN nq).setCell ⟨x, 7, none⟩ (.complex .f64 mg mh)) x 48 (turC (.complex .f64 q1 q2) vd (.slice (some ⟨tb, 0, none⟩) tr.length 24) (.map (some mb)) kk vl vh (.complex .f64 mg mh))) := ((unhide BH).drewN nq).set 7 _
  have C1 : Hid (Chg (own x tb mb) w ((w.drewN nq).setCell ⟨x, 7, none⟩ (.complex .f64 mg mh))) := Chg.setCell ((Chg.refl _ _).drewN nq) (p := ⟨x, 7, none⟩) (.inl (.inl rfl)) _
  have M1 : Hid (MapR ((w.drewN nq).setCell ⟨x, 7, none⟩ (.complex .f64 mg mh)) mb r.l) := (unhide MH).of_chg (Chg.setCell ((Chg.refl (fun k => k = x) w).drewN nq) (p := ⟨x, 7, none⟩) (.inl rfl) _) (fun e => (unhide RH).2.1 e.symm)
  have T1 : Hid (Blk ((w.drewN nq).setCell ⟨x, 7, none⟩ (.complex .f64 mg mh)) tb 44 cs) := ((unhide BTH).drewN nq).set_other (a := ⟨x, 7, none⟩) (Ne.symm (unhide RH).1) _
  clear BH BTH MH hcj hmul' hadd'
  go_wp2
  refine NoPanic.normal ?_
  clear w7 w0 f7
  generalize (w.drewN nq).setCell ⟨x, 7, none⟩ (.complex .f64 mg mh) = W1 at *
  have y4 := (unhide B1).cell 4
  have y3 := (unhide B1).cell 3
  have g4 := (unhide B1).frozen 4
  simp [turC] at y4 y3
  have hlk : ∀ n, (Instr.lookup 46 (.map (some mb)) (.complex .f64 c1 c2) false).run Try.prog (W1.drewN n) = .ok (.int .i64 cnt) (W1.drewN n) := fun n => by
    have h := MapR.look ((unhide M1).quiet ((Chg.refl _ _).drewN n)) und46 und44 (zero3 _) (unhide hvH)
    rw [unhide hcntH] at h; exact h
  go_wp2
  refine wp_region_noPanic ?_
  try simp only [List.append_eq, List.cons_append, List.nil_append]
  refine wp_region_mix [(0, true), (1, true), (2, true), (3, true), (4, true), (5, true), (6, true), (7, true), (8, true), (9, true), (10, true), (11, true), (12, true)] [13] (by kernel_rfl) (by kernel_rfl) (fun _ _ _ _ _ h => h) ?_
  simp only [pickM, pickO, List.getElem?_cons_zero, List.getElem?_cons_succ]
  repeat (first | (refine wpMix_read rfl (fun K hK => ?_)) | (refine wpMix_pure rfl (fun K hK => ?_))
          go_big_quiet_op
          first | (refine hK _ ?_; clear hK K))
  refine wpMix_nil ?_
  intro _ hw'
  obtain ⟨nq, hw''⟩ := hw'
  subst hw''
  have B2 : Hid (Blk ((W1.drewN nq).setCell ⟨x, 4, none⟩ (.int .i64 (kk + cnt))) x 48 (turC (.complex .f64 q1 q2) vd (.slice (some ⟨tb, 0, none⟩) tr.length 24) (.map (some mb)) (kk + cnt) vl vh (.complex .f64 mg mh))) := ((unhide B1).drewN nq).set 4 _
  have C2 : Hid (Chg (own x tb mb) w ((W1.drewN nq).setCell ⟨x, 4, none⟩ (.int .i64 (kk + cnt)))) := Chg.setCell ((unhide C1).drewN nq) (p := ⟨x, 4, none⟩) (.inl (.inl rfl)) _
  have M2 : Hid (MapR ((W1.drewN nq).setCell ⟨x, 4, none⟩ (.int .i64 (kk + cnt))) mb r.l) := (unhide M1).of_chg (Chg.setCell ((Chg.refl (fun k => k = x) W1).drewN nq) (p := ⟨x, 4, none⟩) (.inl rfl) _) (fun e => (unhide RH).2.1 e.symm)
  have T2 : Hid (Blk ((W1.drewN nq).setCell ⟨x, 4, none⟩ (.int .i64 (kk + cnt))) tb 44 cs) := ((unhide T1).drewN nq).set_other (a := ⟨x, 4, none⟩) (Ne.symm (unhide RH).1) _
  clear B1 T1 M1 C1 hlk y3
  go_wp2
  refine NoPanic.normal ?_
  clear y4 g4
  generalize (W1.drewN nq).setCell ⟨x, 4, none⟩ (.int .i64 (kk + cnt)) = W2 at *
  have z3 := (unhide B2).cell 3
  simp [turC] at z3
  have hlk : (Instr.lookup 46 (.map (some mb)) (.complex .f64 c1 c2) false).run Try.prog W2 = .ok (.int .i64 cnt) W2 := by
    have h := MapR.look (unhide M2) und46 und44 (zero3 _) (unhide hvH)
    rw [unhide hcntH] at h; exact h
  obtain ⟨W3, hup, ch3, M3⟩ := MapR.store (unhide M2) und46 und44 (unhide hvH) (cnt + 1)
  have B3 : Hid (Blk W3 x 48 (turC (.complex .f64 q1 q2) vd (.slice (some ⟨tb, 0, none⟩) tr.length 24) (.map (some mb)) (kk + cnt) vl vh (.complex .f64 mg mh))) := ch3.blk (unhide B2) (unhide RH).2.1
  have T3 : Hid (Blk W3 tb 44 cs) := ch3.blk (unhide T2) (unhide RH).2.2.1
  have C3 : Hid (Chg (own x tb mb) w W3) := (unhide C2).trans (ch3.mono (fun k _ hk => .inr (.inr hk)))
  have M3H := hide M3
  have hwd := hide (widen_any W3 x _ _ _ _ _ vl vh _ r.lo r.hi p (unhide B3) (unhide lvh).2.1 (unhide lvh).2.2 (.complex .f64 c1 c2) (unhide hvH))
  unfold widenPost ptr at hwd
  clear B2 T2 M2 C2 M3 ch3
  go_wp2_with fail
  refine (unhide hwd).mono ?_
  clear hwd hlk hup z3
  rintro e w4 ⟨rfl, ch4, lo', hi', hlo, hhi, B4⟩
  have T4 : Blk w4 tb 44 cs := ch4.blk (unhide T3) (fun e => (unhide RH).1 e.symm)
  have M4 : MapR w4 mb _ := (unhide M3H).of_chg ch4 (fun e => (unhide RH).2.1 e.symm)
  have C4 : Hid (Chg (own x tb mb) w w4) := (unhide C3).trans (ch4.mono (fun k _ hk => .inl hk))
  have v2 := B4.cell 2
  simp [turC] at v2
  have hap : ∀ ty, _ := fun ty => append45 (w4.alloc (.cells #[.complex .f64 c1 c2] 44)) tb tr.length w4.heap.size (.complex .f64 c1 c2) cs ty (unhide RH).2.2.2 rfl (T4.alloc _) (unhide rowH).1 (by have := (Blk.new w4 44 [.complex .f64 c1 c2]).cell 0; simp at this; simp)
  have FIN : Hid (pushPost w x tb mb ⟨putL p (cnt + 1) r.l, kk + cnt, loP r.lo p, hiP r.hi p, opP r.op r.pos p, p⟩ (tr ++ [p]) d (.returned (.tuple #[])) ((((w4.alloc (.cells #[.complex .f64 c1 c2] 44)).setCells tb tr.length [.complex .f64 c1 c2]).setCell ⟨x, 2, none⟩ (.slice (some ⟨tb, 0, none⟩) (tr.length + 1) 24)).setCell ⟨x, 0, none⟩ (.complex .f64 c1 c2))) := by
    obtain ⟨hxt, hxm, htm, hln⟩ := unhide RH
    obtain ⟨hcs, hrow⟩ := unhide rowH
    have Ca : Chg (own x tb mb) w ((w4.alloc (.cells #[.complex .f64 c1 c2] 44)).setCells tb tr.length [.complex .f64 c1 c2]) := Chg.setCells (.inl (.inr (.inl rfl))) _ _ ((unhide C4).alloc _)
    refine ⟨rfl, (Ca.setCell (p := ⟨x, 2, none⟩) (.inl (.inl rfl)) _).setCell (p := ⟨x, 0, none⟩) (.inl (.inl rfl)) _, ?_, ?_, ?_, by simp; omega, hxt, hxm, htm⟩
    · refine ⟨.complex .f64 c1 c2, vd, lo', hi', .complex .f64 mg mh, unhide hvH, (unhide lvh).1, hlo, hhi, unhide hopH, ?_⟩
      have h := ((((B4.alloc (.cells #[.complex .f64 c1 c2] 44)).setCells_other hxt [.complex .f64 c1 c2] tr.length).set 2 (.slice (some ⟨tb, 0, none⟩) (tr.length + 1) 24)).set 0 (.complex .f64 c1 c2))
      simpa [turC] using h
    · refine ⟨over cs tr.length [.complex .f64 c1 c2], ?_, ?_, ?_⟩
      · exact ((((T4.alloc (.cells #[.complex .f64 c1 c2] 44)).setCells [.complex .f64 c1 c2] tr.length).set_other (a := ⟨x, 2, none⟩) (Ne.symm hxt) _).set_other (a := ⟨x, 0, none⟩) (Ne.symm hxt) _)
      · simp [over, hcs]
      · intro i hi
        show ∃ v, (cs.set tr.length (.complex .f64 c1 c2))[i]? = some v ∧ CW v (tr ++ [p])[i]
        by_cases hlt : i < tr.length
        · obtain ⟨u, hu1, hu2⟩ := hrow i hlt
          refine ⟨u, ?_, ?_⟩
          · rw [List.getElem?_set_ne (by omega)]; exact hu1
          · rw [List.getElem_append_left hlt]; exact hu2
        · have hi2 : i = tr.length := by simp at hi; omega
          subst hi2
          refine ⟨.complex .f64 c1 c2, ?_, ?_⟩
          · rw [List.getElem?_set_self (by omega)]
          · rw [List.getElem_append_right (Nat.le_refl _)]; simpa using unhide hvH
    · refine MapR.of_chg (S := fun k => k = x ∨ k = tb) M4 ?_ (by rintro (e | e); exact hxm e.symm; exact htm e.symm)
      exact ((Chg.setCells (S := fun k => k = x ∨ k = tb) (.inl (.inr rfl)) _ _ ((Chg.refl _ w4).alloc _)).setCell (p := ⟨x, 2, none⟩) (.inl (.inl rfl)) _).setCell (p := ⟨x, 0, none⟩) (.inl (.inl rfl)) _
  have B6 := (B4.alloc (.cells #[.complex .f64 c1 c2] 44)).setCells_other (unhide RH).1 [.complex .f64 c1 c2] tr.length
  have s2 := B6.cell 2
  have s0 := B6.cell 0
  have k2 := B6.frozen 2
  have k0 := B6.frozen 0
  simp [turC] at s2 s0
  clear B6 B4 T4 M4 ch4 hlo hhi B3 T3 C3 C4 M3H
  generalize hW6 : (w4.alloc (.cells #[.complex .f64 c1 c2] 44)).setCells tb tr.length [.complex .f64 c1 c2] = W6 at *
  clear hW6
  have hapH := hide hap
  clear hap
  go_wp2_with (at_builtin; refine wpList_append_run rfl (.tmp 45) (.tmp 47) 45 rfl _ _ rfl rfl (unhide hapH) ?_)
  clear hapH
  go_wp2
  go_end0
  exact unhide FIN
end Go.Proofs.Qxb6500366a
