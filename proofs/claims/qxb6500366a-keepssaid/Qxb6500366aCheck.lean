/-
  THE REAL TURTLE: Check. (gen6check.py)
-/
import Derived.Test.Qxb6500366aUndo
namespace Go.Proofs.Qxb6500366a
open Go.RowKit Go.Qx
set_option linter.unusedVariables false
set_option linter.unusedSimpArgs false

theorem neq_same {u v : Value} {p : Pt} (hu : CW u p) (hv : CW v p) (t : TypeId) (W : World) : (binOp .neq t u v).run Try.prog W = .ok (.bool false) W := by
  obtain ⟨a, b, rfl, A, B⟩ := hu
  obtain ⟨c, d, rfl, C, D⟩ := hv
  rw [cne_whole (Q64.of_whole A) (Q64.of_whole B) (Q64.of_whole C) (Q64.of_whole D)]
  simp

theorem eql_dir {u v : Value} {p q : Pt} (hu : CW u p) (hv : CW v q) (b : Bool) (hb : decide (p = q) = b) (t : TypeId) (W : World) : (binOp .eql t u v).run Try.prog W = .ok (.bool b) W := by
  rw [cne_eq hu hv, hb]

theorem RepR.cells {w : World} {x tb mb : Nat} {r : Run} {tr : List Pt} {d : Pt} (R : RepR w x tb mb r tr d) : ∃ vp vd vl vh vo, CW vp r.pos ∧ CW vd d ∧ CW vl r.lo ∧ CW vh r.hi ∧ CW vo r.op ∧
    w.cell? ⟨x, 0, none⟩ = some vp ∧ w.cell? ⟨x, 1, none⟩ = some vd ∧ w.cell? ⟨x, 2, none⟩ = some (.slice (some ⟨tb, 0, none⟩) tr.length 24) ∧ w.cell? ⟨x, 3, none⟩ = some (.map (some mb)) ∧ w.cell? ⟨x, 4, none⟩ = some (.int .i64 r.k) ∧ w.cell? ⟨x, 5, none⟩ = some vl ∧ w.cell? ⟨x, 6, none⟩ = some vh ∧ w.cell? ⟨x, 7, none⟩ = some vo := by
  obtain ⟨vp, vd, vl, vh, vo, h1, h2, h3, h4, h5, B⟩ := R.own
  have c := B.cell
  exact ⟨vp, vd, vl, vh, vo, h1, h2, h3, h4, h5, c 0, c 1, c 2, c 3, c 4, c 5, c 6, c 7⟩

def okPost (w : World) (b : Bool) (e : Ending) (w' : World) : Prop := e = .returned (.bool b) ∧ Quiet w w'

set_option maxRecDepth 100000 in
set_option maxHeartbeats 8000000 in
theorem check_any (w : World) (x tb mb : Nat) (tr : List Pt) (d : Pt) (R : Rep w x tb mb tr d) (I : Inv tr d) : Calls Try.prog 23 #[ptr x] w (okPost w true) := by
  have h1 := I.one
  have h24 := I.few
  have RH := hide R
  have IH := hide I
  obtain ⟨cs, BT, hcs, hrow⟩ := R.row
  have xlt : x < w.heap.size := by
    obtain ⟨vp, vd, vl, vh, vo, h1, h2, h3, h4, h5, B⟩ := R.own
    exact B.lt
  have tlt := BT.lt
  have hag := hide (again_any (w.alloc (.cells #[.complex .f64 0 0, .complex .f64 0 0, .slice none 0 0, .map none, .int .i64 0, .complex .f64 0 0, .complex .f64 0 0, .complex .f64 0 0] 48)) w.heap.size tb 0 24 (.complex .f64 0 0) (.complex .f64 0 0) (.slice none 0 0) (.map none) 0 (.complex .f64 0 0) (.complex .f64 0 0) (.complex .f64 0 0) tr (0, 0)
    (Blk.new w 48 [.complex .f64 0 0, .complex .f64 0 0, .slice none 0 0, .map none, .int .i64 0, .complex .f64 0 0, .complex .f64 0 0, .complex .f64 0 0]) ⟨_, _, rfl, w_zero, w_zero⟩
    (fun i hi => by
      obtain ⟨v, hv, cv⟩ := hrow i hi
      refine ⟨v, ?_, cv⟩
      rw [Nat.zero_add]
      exact ((BT.alloc _).cell i).trans hv)
    (by omega) h1 h24 I.small)
  unfold againPost ptr at hag
  have ltH := hide (⟨xlt, tlt⟩ : _ ∧ _)
  obtain ⟨vp, vd, vl, vh, vo, k1, k2, k3, k4, k5, y0, y1, y2, y3, y4, y5, y6, y7⟩ := R.cells
  have n1 : ¬ (tr.length : Int) < 1 := by omega
  have n2 : ¬ (24 : Int) < (tr.length : Int) := by omega
  have y2a : (w.alloc (.cells #[.complex .f64 0 0, .complex .f64 0 0, .slice none 0 0, .map none, .int .i64 0, .complex .f64 0 0, .complex .f64 0 0, .complex .f64 0 0] 48)).cell? ⟨x, 2, none⟩ = some (.slice (some ⟨tb, 0, none⟩) tr.length 24) := Chg.cell (Chg.alloc (Chg.refl (fun _ => False) w) _) y2 id
  clear R I BT hrow hcs xlt tlt h1 h24 k1 k2 k3 k4 k5 y0 y1 y3 y4 y5 y6 y7
  unfold ptr
  go_enter Try.func23, Try.ntmps23
  go_wp2_with fail
  refine (unhide hag).mono ?_
  clear hag n1 n2 y2 y2a
  rintro e w1 ⟨tb', mb', rfl, ch, ht, hm, R'⟩
  have q1 : Hid (Quiet w w1) := Chg.trans' (Chg.alloc (Chg.refl (fun _ => False) w) _) ch (fun i hi e => by omega)
  clear ch ht hm
  have R1 : Rep w1 x tb mb tr d := (unhide RH).quiet (unhide q1)
  have R1H := hide R1
  have R2H := hide R'
  clear RH
  generalize w.heap.size = uu at *
  obtain ⟨vp, vd, vl, vh, vo, k1, k2, k3, k4, k5, y0, y1, y2, y3, y4, y5, y6, y7⟩ := R1.cells
  obtain ⟨up, ud, ul, uh, uo, j1, j2, j3, j4, j5, z0, z1, z2, z3, z4, z5, z6, z7⟩ := R'.cells
  have e1 := neq_same k1 j1
  have e2 := neq_same k5 j5
  have e3 := neq_same k3 j3
  have e4 := neq_same k4 j4
  have len1 : ∀ m ty, (Builtin.len_ #[46] ty #[.map (some mb)]).run Try.prog (w1.drewN m) = .ok (.int .i64 (runOf tr).l.length) (w1.drewN m) := fun m ty => MapR.len ((R1.map).quiet ((Chg.refl _ _).drewN m)) und46 ty
  have len2 : ∀ m ty, (Builtin.len_ #[46] ty #[.map (some mb')]).run Try.prog (w1.drewN m) = .ok (.int .i64 (runOf tr).l.length) (w1.drewN m) := fun m ty => MapR.len ((R'.map).quiet ((Chg.refl _ _).drewN m)) und46 ty
  obtain ⟨pa, pb, rfl, G1, G2⟩ := k1
  clear G1 G2
  obtain ⟨da, db, rfl, G1, G2⟩ := k2
  clear G1 G2
  obtain ⟨la, lb, rfl, G1, G2⟩ := k3
  clear G1 G2
  obtain ⟨ha, hb, rfl, G1, G2⟩ := k4
  clear G1 G2
  obtain ⟨oa, ob, rfl, G1, G2⟩ := k5
  clear G1 G2
  obtain ⟨pc, pd, rfl, G1, G2⟩ := j1
  clear G1 G2
  obtain ⟨lc, ld, rfl, G1, G2⟩ := j3
  clear G1 G2
  obtain ⟨hc, hd, rfl, G1, G2⟩ := j4
  clear G1 G2
  obtain ⟨oc, od, rfl, G1, G2⟩ := j5
  clear G1 G2
  clear R1 R' y1 z1 z2 j2
  generalize (runOf tr).k = kk at *
  generalize (runOf tr).l.length = ll at *
  go_wp2
  try simp only [List.append_eq, List.cons_append, List.nil_append]
  go_quiet (fail)
  have Q2 : Hid (Quiet w (w1.drewN nq)) := (unhide q1).drewN nq
  have R3 : Hid (Rep (w1.drewN nq) x tb mb tr d) := (unhide R1H).quiet ((Chg.refl _ _).drewN nq)
  have R4 : Hid (RepR (w1.drewN nq) uu tb' mb' (runOf tr) tr (0, 0)) := (unhide R2H).quiet ((Chg.refl _ _).drewN nq)
  clear R1H R2H q1 e1 e2 e3 e4 len1 len2
  go_wp2
  generalize w1.drewN nq = W2 at *
  clear y0 y2 y3 y4 y5 y6 y7 z0 z3 z4 z5 z6 z7
  go_loopw [107, 4] (fun z b wr => ∃ i : Nat, i ≤ tr.length ∧ z = .int .i64 i ∧ b = .bool false ∧ Quiet W2 wr) (fun z _ _ => tr.length + 1 - (intOf z).toNat)
  case atStart => exact ⟨0, by omega, rfl, rfl, Chg.refl _ _⟩
  case round =>
    obtain ⟨i, hi, rfl, rfl, Q⟩ := hrel
    have R5 := (unhide R3).quiet Q
    have R6 := (unhide R4).quiet Q
    by_cases hlt : i < tr.length
    · have g1 : (i : Int) < (tr.length : Int) := by omega
      have i0 : (0 : Int) ≤ (i : Int) := by omega
      obtain ⟨cs, BT, hcs, hrow⟩ := R5.row
      obtain ⟨u, hu, cu⟩ := hrow i hlt
      have yi := (BT.cell i).trans hu
      obtain ⟨vp, vd, vl, vh, vo, k1, k2, k3, k4, k5, y0, y1, y2, y3, y4, y5, y6, y7⟩ := R5.cells
      obtain ⟨up, ud, ul, uh, uo, j1, j2, j3, j4, j5, z0, z1, z2, z3, z4, z5, z6, z7⟩ := R6.cells
      have hsm := (unhide IH).small _ (List.getElem_mem hlt)
      have few := (unhide IH).few
      have lt5 : wrap64 ((i : Int) + 1) = (i : Int) + 1 := wrap_small (i + 1) (by omega)
      have cu' := cu
      obtain ⟨ua, ub, rfl, U1, U2⟩ := cu
      have lk1 : ∀ m, (Instr.lookup 46 (.map (some mb)) (.complex .f64 ua ub) false).run Try.prog (wr.drewN m) = .ok (.int .i64 (valAt tr[i] (runOf tr).l)) (wr.drewN m) := fun m => MapR.look ((R5.map).quiet ((Chg.refl _ _).drewN m)) und46 und44 (zero3 _) cu'
      have lk2 : ∀ m, (Instr.lookup 46 (.map (some mb')) (.complex .f64 ua ub) false).run Try.prog (wr.drewN m) = .ok (.int .i64 (valAt tr[i] (runOf tr).l)) (wr.drewN m) := fun m => MapR.look ((R6.map).quiet ((Chg.refl _ _).drewN m)) und46 und44 (zero3 _) cu'
      have hin : inP (tr[i].1, tr[i].2) = true := by
        obtain ⟨s1, s2, s3, s4⟩ := hsm
        simp [inP]; omega
      have hwi := fun W => within_any W ua ub _ _ U1 U2
      rw [hin] at hwi
      obtain ⟨s1, s2, s3, s4⟩ := hsm
      have t1 := toInt_run U1 (by omega)
      have t2 := toInt_run U2 (by omega)
      have e9 := neq_same cu' (⟨_, _, rfl, w64_of _ (by omega), w64_of _ (by omega)⟩ : CW (.complex .f64 (floatOfInt .f64 tr[i].1) (floatOfInt .f64 tr[i].2)) tr[i])
      have hltH := hide hlt
      have QH := hide Q
      clear R5 R6 BT hrow hu hcs k1 k2 k3 k4 k5 j1 j2 j3 j4 j5 y0 y1 y2 y4 y5 y6 y7 z0 z1 z2 z4 z5 z6 z7 few cu' U1 U2 hin s1 s2 s3 s4 hi Q
      generalize valAt tr[i] (runOf tr).l = cnt at *
      generalize tr[i].1 = X at *
      generalize tr[i].2 = Y at *
      clear hlt
      go_wp2
      go_quiet ((go_at_call 45; exact Calls.quiet_of_same (hwi _)))
      go_wp2
      go_roundw
      case rel => exact ⟨i + 1, unhide hltH, by simp; try exact lt5, rfl, (unhide QH).drewN _⟩
      case measure =>
        have h := unhide hltH
        first
          | exact meas_plain h
          | exact meas_next h lt5
    · have g1 : ¬ (i : Int) < (tr.length : Int) := by omega
      obtain ⟨vp, vd, vl, vh, vo, k1, k2, k3, k4, k5, y0, y1, y2, y3, y4, y5, y6, y7⟩ := R5.cells
      have hd := (unhide IH).dir
      have fin : Hid (Quiet w wr) := Quiet.trans (unhide Q2) Q
      have b1 : CW (.complex .f64 4607182418800017408 0) (1, 0) := ⟨_, _, rfl, w_one, w_zero⟩
      have b2 : CW (.complex .f64 0 4607182418800017408) (0, 1) := ⟨_, _, rfl, w_zero, w_one⟩
      have b3 : CW (.complex .f64 13830554455654793216 0) (-1, 0) := ⟨_, _, rfl, w_mone, w_zero⟩
      have b4 : CW (.complex .f64 0 13830554455654793216) (0, -1) := ⟨_, _, rfl, w_zero, w_mone⟩
      clear R5 R6 Q k1 k3 k4 k5 y0 y2 y3 y4 y5 y6 y7 hi hlt Q2 IH R3 R4
      unfold okPost
      have k2' := k2
      obtain ⟨da, db, rfl, D1, D2⟩ := k2
      clear D1 D2
      rcases hd with rfl | rfl | rfl | rfl
      · have a1 := eql_dir k2' b1 true (by decide)
        have a2 := eql_dir k2' b2 false (by decide)
        have a3 := eql_dir k2' b3 false (by decide)
        have a4 := eql_dir k2' b4 false (by decide)
        clear b1 b2 b3 b4 k2'
        go_wp2
        go_ret
        exact ⟨rfl, unhide fin⟩
      · have a1 := eql_dir k2' b1 false (by decide)
        have a2 := eql_dir k2' b2 true (by decide)
        have a3 := eql_dir k2' b3 false (by decide)
        have a4 := eql_dir k2' b4 false (by decide)
        clear b1 b2 b3 b4 k2'
        go_wp2
        go_ret
        exact ⟨rfl, unhide fin⟩
      · have a1 := eql_dir k2' b1 false (by decide)
        have a2 := eql_dir k2' b2 false (by decide)
        have a3 := eql_dir k2' b3 true (by decide)
        have a4 := eql_dir k2' b4 false (by decide)
        clear b1 b2 b3 b4 k2'
        go_wp2
        go_ret
        exact ⟨rfl, unhide fin⟩
      · have a1 := eql_dir k2' b1 false (by decide)
        have a2 := eql_dir k2' b2 false (by decide)
        have a3 := eql_dir k2' b3 false (by decide)
        have a4 := eql_dir k2' b4 true (by decide)
        clear b1 b2 b3 b4 k2'
        go_wp2
        go_ret
        exact ⟨rfl, unhide fin⟩
end Go.Proofs.Qxb6500366a
