/-
  THE MODEL'S BENCH: Clone, Dft. (gen2mdft.py)
-/
import Derived.Test.Qxb6500362aMod
import Derived.Test.Qxb6500362aQm
namespace Go.Proofs.Qxb6500362a
open Go.RowKit Go.Qx
set_option linter.unusedVariables false
set_option linter.unusedSimpArgs false

theorem copyI (W : World) (v O : Nat) (f g : Nat → Int) (hv : Blk W v 3 (rowI f)) (hO : Blk W O 3 (rowI g)) : (Builtin.copy_ #[77, 77] 3 #[.slice (some ⟨v, 0, none⟩) 4 4, .slice (some ⟨O, 0, none⟩) 4 4]).run Try.prog W = .ok (.int .i64 4) (W.setCells v 0 (rowI g)) := by
  have h := run_copy_cells (P := Try.prog) W 77 77 3 3 v 0 4 4 ⟨O, 0, none⟩ 4 4 (rowI g) Try.underlying77 (by kernel_rfl) rfl ?_ ?_ ?_ ?_
  · exact h
  · intro j u hu
    have e : (⟨O, 0, none⟩ : Addr).add j = ⟨O, j, none⟩ := by simp [Addr.add]; exact fun h => h.symm
    rw [e, hO.cell j]; exact hu
  · intro j hj
    have : j < 4 := hj
    rw [Nat.zero_add, hv.cell j, rowI_get f j this]; rfl
  · intro j hj
    rw [Nat.zero_add]; exact hv.frozen j
  · intro u hu
    simp only [rowI, List.mem_cons, List.mem_nil_iff, or_false] at hu
    rcases hu with rfl | rfl | rfl | rfl <;> rfl

/-- One row laid over. -/
theorem RepM.copyR {w : World} {m p q : Nat} {re im g : Nat → Int} (h : RepM w m p q re im) : RepM (w.setCells p 0 (rowI g)) m p q g im :=
  ⟨Blk.setCells_other h.mp _ _ h.blk, Blk.setCells (rowI g) 0 h.rowR, Blk.setCells_other (Ne.symm h.pq) _ _ h.rowM, h.mp, h.mq, h.pq⟩
theorem RepM.copyM {w : World} {m p q : Nat} {re im g : Nat → Int} (h : RepM w m p q re im) : RepM (w.setCells q 0 (rowI g)) m p q re g :=
  ⟨Blk.setCells_other h.mq _ _ h.blk, Blk.setCells_other h.pq _ _ h.rowR, Blk.setCells (rowI g) 0 h.rowM, h.mp, h.mq, h.pq⟩

theorem RepM.ext {w : World} {m p q : Nat} {re im re' im' : Nat → Int} (h : RepM w m p q re im) (h1 : ∀ j, j < 4 → re j = re' j) (h2 : ∀ j, j < 4 → im j = im' j) : RepM w m p q re' im' := by
  have e1 : rowI re = rowI re' := by simp only [rowI, h1 0 (by decide), h1 1 (by decide), h1 2 (by decide), h1 3 (by decide)]
  have e2 : rowI im = rowI im' := by simp only [rowI, h2 0 (by decide), h2 1 (by decide), h2 2 (by decide), h2 3 (by decide)]
  exact ⟨h.blk, e1 ▸ h.rowR, e2 ▸ h.rowM, h.mp, h.mq, h.pq⟩

theorem RepM.other {w : World} {m p q b : Nat} {re im : Nat → Int} (h : RepM w m p q re im) (hb : ¬ ownM m p q b) (vs : List Value) (o : Nat) : RepM (w.setCells b o vs) m p q re im :=
  ⟨Blk.setCells_other (fun e => hb (.inl e.symm)) _ _ h.blk, Blk.setCells_other (fun e => hb (.inr (.inl e.symm))) _ _ h.rowR, Blk.setCells_other (fun e => hb (.inr (.inr e.symm))) _ _ h.rowM, h.mp, h.mq, h.pq⟩

def clonePost (w : World) (re im : Nat → Int) (e : Ending) (w' : World) : Prop := ∃ m p q, e = .returned (.pointer (some ⟨m, 0, none⟩)) ∧ Quiet w w' ∧ (∀ k, ownM m p q k → w.heap.size ≤ k) ∧ RepM w' m p q re im

set_option maxRecDepth 100000 in
set_option maxHeartbeats 4000000 in
theorem mclone_any (w : World) (m p q : Nat) (re im : Nat → Int) (R : RepM w m p q re im) : Calls Try.prog 69 #[ptr m] w (clonePost w re im) := by
  have hn := mnew_any w
  unfold newMPost at hn
  have RH := hide R
  clear R
  unfold ptr
  go_enter Try.func69, Try.ntmps69
  go_wp2_with fail
  refine hn.mono ?_
  rintro e w1 ⟨m2, p2, q2, rfl, q1, hfr, M⟩
  have fr : Hid (∀ k, ownM m2 p2 q2 k → ¬ ownM m p q k) := fun k h1 h2 => by have := hfr k h1; have := (unhide RH).lts k h2; omega
  have R1 := (unhide RH).quiet q1
  have c0 := R1.blk.cell 0
  simp at c0
  have d0 := M.blk.cell 0
  simp at d0
  have hcp : Hid (∀ n, (Builtin.copy_ #[77, 77] 3 #[.slice (some ⟨p2, 0, none⟩) 4 4, .slice (some ⟨p, 0, none⟩) 4 4]).run Try.prog (w1.drewN n) = .ok (.int .i64 4) ((w1.drewN n).setCells p2 0 (rowI re))) := fun n => copyI _ _ _ _ _ (M.rowR.drewN n) (R1.rowR.drewN n)
  have hcp' := unhide hcp
  have st : Hid (∀ n, Quiet w ((w1.drewN n).setCells p2 0 (rowI re)) ∧ RepM ((w1.drewN n).setCells p2 0 (rowI re)) m p q re im ∧ RepM ((w1.drewN n).setCells p2 0 (rowI re)) m2 p2 q2 re (fun _ => 0)) := fun n =>
    ⟨Chg.setCells (.inr (hfr p2 (.inr (.inl rfl)))) _ _ ((q1 : Chg _ _ _).drewN n), (R1.quiet ((Chg.refl _ _).drewN n)).other (unhide fr p2 (.inr (.inl rfl))) _ _, (M.quiet ((Chg.refl _ _).drewN n)).copyR⟩
  have hfrH := hide hfr
  clear R1 M q1 hn hcp hfr
  go_wp2
  refine wp_region_noPanic ?_
  try simp only [List.append_eq, List.cons_append, List.nil_append]
  refine wp_region_mix [(0, true), (1, true), (2, true), (3, true), (4, true), (5, true), (6, true), (7, true)] [8] (by kernel_rfl) (by kernel_rfl) (fun _ _ _ _ _ h => h) ?_
  simp only [pickM, pickO, List.getElem?_cons_zero, List.getElem?_cons_succ]
  repeat (first | (refine wpMix_read rfl (fun K hK => ?_)) | (refine wpMix_pure rfl (fun K hK => ?_))
          go_big_quiet_op
          first | (refine hK _ ?_; clear hK K))
  refine wpMix_nil ?_
  intro _ hw'
  obtain ⟨nq, hw''⟩ := hw'
  subst hw''
  have stn := unhide st nq
  go_wp2
  refine NoPanic.normal ?_
  obtain ⟨q3, R3, M3⟩ := stn
  have q3H := hide q3
  generalize (w1.drewN nq).setCells p2 0 (rowI re) = w3 at *
  clear hcp' st c0 d0 q3
  have c1 := R3.blk.cell 1
  simp at c1
  have d1 := M3.blk.cell 1
  simp at d1
  have hcp : Hid (∀ n, (Builtin.copy_ #[77, 77] 3 #[.slice (some ⟨q2, 0, none⟩) 4 4, .slice (some ⟨q, 0, none⟩) 4 4]).run Try.prog (w3.drewN n) = .ok (.int .i64 4) ((w3.drewN n).setCells q2 0 (rowI im))) := fun n => copyI _ _ _ _ _ (M3.rowM.drewN n) (R3.rowM.drewN n)
  have hcp' := unhide hcp
  have fin : Hid (∀ n, Quiet w ((w3.drewN n).setCells q2 0 (rowI im)) ∧ RepM ((w3.drewN n).setCells q2 0 (rowI im)) m2 p2 q2 re im) := fun n =>
    ⟨Chg.setCells (.inr (unhide hfrH q2 (.inr (.inr rfl)))) _ _ ((unhide q3H : Chg _ _ _).drewN n), (M3.quiet ((Chg.refl _ _).drewN n)).copyM⟩
  clear R3 M3 hcp
  go_wp2
  refine wp_region_noPanic ?_
  try simp only [List.append_eq, List.cons_append, List.nil_append]
  refine wp_region_mix [(0, true), (1, true), (2, true), (3, true), (4, true), (5, true), (6, true), (7, true)] [8] (by kernel_rfl) (by kernel_rfl) (fun _ _ _ _ _ h => h) ?_
  simp only [pickM, pickO, List.getElem?_cons_zero, List.getElem?_cons_succ]
  repeat (first | (refine wpMix_read rfl (fun K hK => ?_)) | (refine wpMix_pure rfl (fun K hK => ?_))
          go_big_quiet_op
          first | (refine hK _ ?_; clear hK K))
  refine wpMix_nil ?_
  intro _ hw'
  obtain ⟨nq, hw''⟩ := hw'
  subst hw''
  have fn := unhide fin nq
  go_wp2
  refine NoPanic.normal ?_
  generalize (w3.drewN nq).setCells q2 0 (rowI im) = w4 at *
  have fnH := hide fn
  clear fn fin hcp'
  go_wp2
  go_ret
  exact ⟨m2, p2, q2, rfl, (unhide fnH).1, unhide hfrH, (unhide fnH).2⟩

theorem unit_pow : ∀ (d : Bool) (k n : Fin 4), (uR ((k.val * n.val * (3 - 2 * (if d then 1 else 0)) : Int).tmod 4), uI ((k.val * n.val * (3 - 2 * (if d then 1 else 0)) : Int).tmod 4)) = powP (powP (rootP (if d then 1 else 0)) k.val) n.val := by decide

theorem unit_pow' (dir : Int) (hd : dir = 0 ∨ dir = 1) (k n : Nat) (hk : k < 4) (hn : n < 4) : (uR (((k : Int) * n * (3 - 2 * dir)).tmod 4), uI (((k : Int) * n * (3 - 2 * dir)).tmod 4)) = powP (powP (rootP dir) k) n := by
  rcases hd with rfl | rfl
  · exact unit_pow false ⟨k, hk⟩ ⟨n, hn⟩
  · exact unit_pow true ⟨k, hk⟩ ⟨n, hn⟩

theorem wholeP_iff (n m : Int) : wholeP n m = true ↔ n.tmod 4 = 0 ∧ m.tmod 4 = 0 := by
  have h1 := Int.mul_tdiv_add_tmod n 4
  have h2 := Int.mul_tdiv_add_tmod m 4
  simp only [wholeP, decide_eq_true_eq]
  omega

theorem idx_wraps (k n : Nat) (dir : Int) (hk : k < 4) (hn : n < 4) (hd : dir = 0 ∨ dir = 1) :
    wrap64 ((k : Int) * n) = k * n ∧ wrap64 (2 * dir) = 2 * dir ∧ wrap64 (3 - 2 * dir) = 3 - 2 * dir ∧ wrap64 ((k : Int) * n * (3 - 2 * dir)) = k * n * (3 - 2 * dir) ∧
    IntKind.i64.wrap ((k : Int) * n) = k * n ∧ IntKind.i64.wrap (2 * dir) = 2 * dir ∧ IntKind.i64.wrap (3 - 2 * dir) = 3 - 2 * dir ∧ IntKind.i64.wrap ((k : Int) * n * (3 - 2 * dir)) = k * n * (3 - 2 * dir) := by
  have h0 : (k : Int) * n ≤ 9 ∧ 0 ≤ (k : Int) * n := by
    have h1 : k * n ≤ 3 * 3 := Nat.mul_le_mul (by omega) (by omega)
    have e : ((k * n : Nat) : Int) = (k : Int) * n := by simp
    omega
  generalize (k : Int) * n = kn at *
  simp only [IntKind.wrap_i64]
  unfold wrap64
  rcases hd with rfl | rfl <;> refine ⟨?_, ?_, ?_, ?_, ?_, ?_, ?_, ?_⟩ <;> omega

/-- What holds at the head of the k-th round. -/
structure DRel (w : World) (m p q mc pc qc : Nat) (re im : Nat → Int) (dir : Int) (k : Nat) (wr : World) : Prop where
  rep : RepM wr m p q re im
  chg : Quiet w wr
  z : dftTo re im dir k = 0
  c : ∃ cr ci, RepM wr mc pc qc cr ci ∧ ∀ j, j < k → cr j = (valX re im dir j).1 ∧ ci j = (valX re im dir j).2

set_option maxRecDepth 100000 in
set_option maxHeartbeats 4000000 in
theorem mdft_any (w : World) (m p q : Nat) (re im : Nat → Int) (R : RepM w m p q re im) (I : Inv re im) (dir : Int) : Calls Try.prog 64 #[ptr m, .int .i64 dir] w (repPostM w m p q (dftE re im dir) (dftR re im dir) (dftI re im dir)) := by
  have RH := hide R
  by_cases hd : dir < 0 ∨ 1 < dir
  · have e1 : Hid (dftE re im dir = 5) := by show _ = _; simp [dftE, hd]
    have e2 : Hid (dftR re im dir = re) := by show _ = _; simp [dftR, unhide e1]
    have e3 : Hid (dftI re im dir = im) := by show _ = _; simp [dftI, unhide e1]
    rw [unhide e1, unhide e2, unhide e3]
    unfold repPostM ptr
    clear e1 e2 e3 R I
    by_cases h0 : dir < 0
    · clear hd
      go_enter Try.func64, Try.ntmps64
      go_wp2
      go_ret
      exact ⟨rfl, Chg.refl _ _, unhide RH⟩
    · have h1 : 1 < dir := by omega
      clear hd
      go_enter Try.func64, Try.ntmps64
      go_wp2
      go_ret
      exact ⟨rfl, Chg.refl _ _, unhide RH⟩
  · have hdir : dir = 0 ∨ dir = 1 := by omega
    have h0 : ¬ dir < 0 := by omega
    have h1 : ¬ 1 < dir := by omega
    have eE : Hid (dftE re im dir = dftTo re im dir 4) := by show _ = _; simp [dftE]; omega
    have hcl := mclone_any w m p q re im R
    unfold clonePost ptr at hcl
    have IH := hide I
    have hdirH := hide hdir
    clear hd R I hdir
    unfold repPostM ptr
    go_enter Try.func64, Try.ntmps64
    go_wp2_with fail
    refine hcl.mono ?_
    clear hcl
    rintro e w1 ⟨mc, pc, qc, rfl, q1, hfr, M1⟩
    have st0 : Hid (DRel w m p q mc pc qc re im dir 0 w1) := ⟨(unhide RH).quiet q1, q1, rfl, ⟨_, _, M1, fun j hj => absurd hj (by omega)⟩⟩
    have hfrH := hide hfr
    have apart : Hid (∀ k, ownM mc pc qc k → ¬ ownM m p q k) := fun k h1 h2 => by have := hfr k h1; have := (unhide RH).lts k h2; omega
    clear q1 M1 hfr
    go_wp2
    go_loopw [6] (fun i wr => ∃ k : Nat, k ≤ 4 ∧ i = .int .i64 k ∧ DRel w m p q mc pc qc re im dir k wr) (fun i _ => 5 - (intOf i).toNat)
    case atStart => exact ⟨0, by omega, rfl, unhide st0⟩
    case round =>
      obtain ⟨k, hk, rfl, D⟩ := hrel
      have DH := hide D
      clear st0
      by_cases hlt : k < 4
      · have k0 : (0 : Int) ≤ (k : Int) := by omega
        have k1 : (k : Int) < 4 := by omega
        clear D
        go_wp2
        go_loopw [7, 8, 9] (fun u v i w2 => ∃ n : Nat, n ≤ 4 ∧ i = .int .i64 n ∧ u = .int .i64 (sumP re im (powP (rootP dir) k) n).1 ∧ v = .int .i64 (sumP re im (powP (rootP dir) k) n).2 ∧ DRel w m p q mc pc qc re im dir k w2) (fun _ _ i _ => 5 - (intOf i).toNat)
        case atStart => exact ⟨0, by omega, rfl, rfl, rfl, unhide DH⟩
        case round =>
          obtain ⟨n, hn, rfl, rfl, rfl, D⟩ := hrel
          have hU : IsU (powP (rootP dir) k) := isU_pow (isU_root dir) k
          clear DH
          have DH := hide D
          by_cases hltn : n < 4
          · have n0 : (0 : Int) ≤ (n : Int) := by omega
            have n1 : (n : Int) < 4 := by omega
            have c0 := D.rep.blk.cell 0
            have c1 := D.rep.blk.cell 1
            simp at c0 c1
            have r1 := (D.rep.rowR.cell n).trans (rowI_get re n hltn)
            have r2 := (D.rep.rowM.cell n).trans (rowI_get im n hltn)
            have q1 := (unhide IH).r n hltn
            have q2 := (unhide IH).m n hltn
            have hUn := isU_pow hU n
            obtain ⟨b1, b2⟩ := sum_bound (unhide IH) hU n (by omega)
            obtain ⟨b3, b4⟩ := cm_bound (a := re n) (b := im n) hUn (by omega) (by omega)
            obtain ⟨w1, w2, w3, w4, w1', w2', w3', w4'⟩ := idx_wraps k n dir hlt hltn (unhide hdirH)
            have ht := fun W => turn_any W (re n) (im n) (((k : Int) * n * (3 - 2 * dir)).tmod 4) (by omega) (by omega)
            have hup := unit_pow' dir (unhide hdirH) k n hlt hltn
            have u1 : re n * uR (((k : Int) * n * (3 - 2 * dir)).tmod 4) - im n * uI (((k : Int) * n * (3 - 2 * dir)).tmod 4) = (cm (re n, im n) (powP (powP (rootP dir) k) n)).1 := by rw [← hup]; rfl
            have u2 : re n * uI (((k : Int) * n * (3 - 2 * dir)).tmod 4) + im n * uR (((k : Int) * n * (3 - 2 * dir)).tmod 4) = (cm (re n, im n) (powP (powP (rootP dir) k) n)).2 := by rw [← hup]; rfl
            simp only [u1, u2] at ht
            have t1 : (sumP re im (powP (rootP dir) k) (n + 1)).1 = (sumP re im (powP (rootP dir) k) n).1 + (cm (re n, im n) (powP (powP (rootP dir) k) n)).1 := rfl
            have t2 : (sumP re im (powP (rootP dir) k) (n + 1)).2 = (sumP re im (powP (rootP dir) k) n).2 + (cm (re n, im n) (powP (powP (rootP dir) k) n)).2 := rfl
            have tH := hide (And.intro t1 t2)
            generalize (cm (re n, im n) (powP (powP (rootP dir) k) n)).1 = A at *
            generalize (cm (re n, im n) (powP (powP (rootP dir) k) n)).2 = B at *
            generalize (sumP re im (powP (rootP dir) k) n).1 = P1 at *
            generalize (sumP re im (powP (rootP dir) k) n).2 = P2 at *
            have w5 : wrap64 (P1 + A) = P1 + A := by unfold wrap64; omega
            have w6 : wrap64 (P2 + B) = P2 + B := by unfold wrap64; omega
            generalize re n = rn at *
            generalize im n = imn at *
            clear D hU hUn b1 b2 b3 b4 hup u1 u2 t1 t2 q1 q2
            go_wp2
            go_quiet ((go_at_call 68; exact Calls.quiet_of_same (ht _)))
            go_wp2
            go_roundw
            case rel =>
              refine ⟨n + 1, by omega, by go_num, by rw [(unhide tH).1, w5], by rw [(unhide tH).2, w6], ?_⟩
              have D := unhide DH
              obtain ⟨cr, ci, C1, C2⟩ := D.c
              exact ⟨D.rep.quiet ((Chg.refl _ _).drewN _), D.chg.trans ((Chg.refl _ _).drewN _), D.z, ⟨cr, ci, C1.quiet ((Chg.refl _ _).drewN _), C2⟩⟩
            case measure => simp [intOf]; omega
          · have n1 : ¬ (n : Int) < 4 := by omega
            obtain rfl : n = 4 := by omega
            obtain ⟨b1, b2⟩ := sum_bound (unhide IH) hU 4 (by omega)
            have bX : Hid ((bigX re im dir k).1.natAbs ≤ 268435456 ∧ (bigX re im dir k).2.natAbs ≤ 268435456) := ⟨b1, b2⟩
            rw [show (sumP re im (powP (rootP dir) k) 4).1 = (bigX re im dir k).1 from rfl, show (sumP re im (powP (rootP dir) k) 4).2 = (bigX re im dir k).2 from rfl]
            have hfail : Hid (∀ E, badX re im dir k = E → E ≠ 0 → dftE re im dir = E ∧ dftR re im dir = re ∧ dftI re im dir = im) := by
              intro E h1 h2
              have h3 : dftE re im dir = E := by rw [unhide eE]; exact dft_fail (unhide DH).z h1 h2 hlt
              exact ⟨h3, by simp [dftR, h3, h2], by simp [dftI, h3, h2]⟩
            obtain ⟨cr, ci, C1, C2⟩ := D.c
            have hput : Hid (∀ n l, Calls Try.prog 67 #[.pointer (some ⟨mc, 0, none⟩), .int .i64 k, .int .i64 n, .int .i64 l] wr (repPostM wr mc pc qc (putE n l) (putF cr k n l n) (putF ci k n l l))) := fun n l => mput_any wr mc pc qc cr ci C1 k hlt n l
            have hnext : Hid (∀ w5 n l, Chg (ownM mc pc qc) wr w5 → RepM w5 mc pc qc (upd cr k n) (upd ci k l) → badX re im dir k = 0 → n = (valX re im dir k).1 → l = (valX re im dir k).2 → DRel w m p q mc pc qc re im dir (k + 1) w5) := by
              intro w5 n l ch Rc hb en el
              have D := unhide DH
              refine ⟨D.rep.of_chg ch (unhide apart), D.chg.trans' ch (fun i hi hm => by have := unhide hfrH i hm; omega), dft_next D.z hb, ⟨_, _, Rc, ?_⟩⟩
              intro j hj
              unfold upd
              by_cases ej : j = k
              · subst ej; simp [en, el]
              · simp only [if_neg ej]; exact C2 j (by omega)
            have hquit : Hid (∀ w5, Chg (ownM mc pc qc) wr w5 → Chg (ownM m p q) w w5 ∧ RepM w5 m p q re im) := by
              intro w5 ch
              have D := unhide DH
              exact ⟨(D.chg.trans' ch (fun i hi hm => by have := unhide hfrH i hm; omega)).mono (fun _ _ f => f.elim), D.rep.of_chg ch (unhide apart)⟩
            clear b1 b2 hU D C1 C2
            unfold repPostM at hput
            rcases unhide hdirH with hd0 | hd0
            · -- there
              have cz : (dir == 1) = false := by rw [hd0]; rfl
              have ev : valX re im dir k = bigX re im dir k := by simp [valX, hd0]
              have hp := unhide hput (bigX re im dir k).1 (bigX re im dir k).2
              by_cases hin : inP (bigX re im dir k).1 (bigX re im dir k).2 67108864 = true
              · have hb0 : badX re im dir k = 0 := by unfold badX; rw [if_neg (fun h => by have := h.1; omega), ev, if_neg (by simp [hin])]
                have hnx := hide (fun w5 ch Rc => unhide hnext w5 (bigX re im dir k).1 (bigX re im dir k).2 ch Rc hb0 (by rw [ev]) (by rw [ev]))
                rw [show putE (bigX re im dir k).1 (bigX re im dir k).2 = 0 by simp [putE, hin], show putF cr k (bigX re im dir k).1 (bigX re im dir k).2 (bigX re im dir k).1 = upd cr k (bigX re im dir k).1 by simp [putF, hin], show putF ci k (bigX re im dir k).1 (bigX re im dir k).2 (bigX re im dir k).2 = upd ci k (bigX re im dir k).2 by simp [putF, hin]] at hp
                clear hd0 hb0 hin ev hfail bX hput hnext hquit
                generalize (bigX re im dir k).1 = X1 at *
                generalize (bigX re im dir k).2 = X2 at *
                go_wp2_with fail
                refine hp.mono ?_
                rintro e w5 ⟨rfl, ch5, R5⟩
                have D5 := hide (unhide hnx w5 ch5 R5)
                clear ch5 R5
                go_wp2
                go_roundw
                case rel => exact ⟨k + 1, by omega, by go_num, unhide D5⟩
                case measure => simp [intOf]; omega
              · have hin' : inP (bigX re im dir k).1 (bigX re im dir k).2 67108864 = false := by simpa using hin
                obtain ⟨f1, f2, f3⟩ := unhide hfail 2 (by unfold badX; rw [if_neg (fun h => by have := h.1; omega), ev, if_pos hin']) (by decide)
                rw [show putE (bigX re im dir k).1 (bigX re im dir k).2 = 2 by simp [putE, hin']] at hp
                have fH := hide (And.intro f1 (And.intro f2 f3))
                clear hd0 hin hin' ev hfail bX hput hnext f1 f2 f3
                generalize (bigX re im dir k).1 = X1 at *
                generalize (bigX re im dir k).2 = X2 at *
                go_wp2_with fail
                refine hp.mono ?_
                rintro e w5 ⟨rfl, ch5, R5⟩
                have qt := hide (unhide hquit w5 ch5)
                clear ch5 R5
                go_wp2
                go_ret
                refine ⟨by rw [(unhide fH).1]; rfl, (unhide qt).1, ?_⟩
                rw [(unhide fH).2.1, (unhide fH).2.2]
                exact (unhide qt).2
            · -- back
              have cz : (dir == 1) = true := by rw [hd0]; rfl
              have ev : valX re im dir k = ((bigX re im dir k).1.tdiv 4, (bigX re im dir k).2.tdiv 4) := by simp [valX, hd0]
              have bt1 := tdiv4_abs (bigX re im dir k).1
              have bt2 := tdiv4_abs (bigX re im dir k).2
              have bx1 := (unhide bX).1
              have bx2 := (unhide bX).2
              by_cases hwh : wholeP (bigX re im dir k).1 (bigX re im dir k).2 = true
              · obtain ⟨g1, g2⟩ := (wholeP_iff _ _).1 hwh
                obtain ⟨v1, v2⟩ := whole4 _ _ hwh
                have hp := unhide hput ((bigX re im dir k).1.tdiv 4) ((bigX re im dir k).2.tdiv 4)
                have hin : inP ((bigX re im dir k).1.tdiv 4) ((bigX re im dir k).2.tdiv 4) 67108864 = true := by
                  simp only [inP, decide_eq_true_eq]
                  omega
                have hb0 : badX re im dir k = 0 := by unfold badX; rw [if_neg (fun h => by have := h.2; rw [hwh] at this; cases this), ev, if_neg (by simp [hin])]
                have hnx := hide (fun w5 ch Rc => unhide hnext w5 ((bigX re im dir k).1.tdiv 4) ((bigX re im dir k).2.tdiv 4) ch Rc hb0 (by rw [ev]) (by rw [ev]))
                rw [show putE ((bigX re im dir k).1.tdiv 4) ((bigX re im dir k).2.tdiv 4) = 0 by simp [putE, hin], show putF cr k ((bigX re im dir k).1.tdiv 4) ((bigX re im dir k).2.tdiv 4) ((bigX re im dir k).1.tdiv 4) = upd cr k ((bigX re im dir k).1.tdiv 4) by simp [putF, hin], show putF ci k ((bigX re im dir k).1.tdiv 4) ((bigX re im dir k).2.tdiv 4) ((bigX re im dir k).2.tdiv 4) = upd ci k ((bigX re im dir k).2.tdiv 4) by simp [putF, hin]] at hp
                have d1 : wrap64 ((bigX re im dir k).1.tdiv 4) = (bigX re im dir k).1.tdiv 4 := by unfold wrap64; omega
                have d2 : wrap64 ((bigX re im dir k).2.tdiv 4) = (bigX re im dir k).2.tdiv 4 := by unfold wrap64; omega
                clear hd0 hb0 hin ev hfail bX hput hnext hquit bt1 bt2 bx1 bx2 v1 v2 hwh
                generalize (bigX re im dir k).1 = X1 at *
                generalize (bigX re im dir k).2 = X2 at *
                go_wp2_with fail
                refine hp.mono ?_
                rintro e w5 ⟨rfl, ch5, R5⟩
                have D5 := hide (unhide hnx w5 ch5 R5)
                clear ch5 R5
                go_wp2
                go_roundw
                case rel => exact ⟨k + 1, by omega, by go_num, unhide D5⟩
                case measure => simp [intOf]; omega
              · have hwf : wholeP (bigX re im dir k).1 (bigX re im dir k).2 = false := by simpa using hwh
                obtain ⟨f1, f2, f3⟩ := unhide hfail 4 (by unfold badX; rw [if_pos ⟨hd0, hwf⟩]) (by decide)
                have fH := hide (And.intro f1 (And.intro f2 f3))
                have qt := hide (unhide hquit wr (Chg.refl _ _))
                have hno : ¬ ((bigX re im dir k).1.tmod 4 = 0 ∧ (bigX re im dir k).2.tmod 4 = 0) := fun h => hwh ((wholeP_iff _ _).2 h)
                clear hd0 hwh hwf ev hfail bX hput hnext hquit f1 f2 f3 bt1 bt2 bx1 bx2
                generalize (bigX re im dir k).1 = X1 at *
                generalize (bigX re im dir k).2 = X2 at *
                by_cases g1 : X1.tmod 4 = 0
                · have g2 : ¬ X2.tmod 4 = 0 := fun h => hno ⟨g1, h⟩
                  clear hno
                  go_wp2
                  go_ret
                  refine ⟨by rw [(unhide fH).1]; rfl, (unhide qt).1, ?_⟩
                  rw [(unhide fH).2.1, (unhide fH).2.2]
                  exact (unhide qt).2
                · clear hno
                  go_wp2
                  go_ret
                  refine ⟨by rw [(unhide fH).1]; rfl, (unhide qt).1, ?_⟩
                  rw [(unhide fH).2.1, (unhide fH).2.2]
                  exact (unhide qt).2
      · have k1 : ¬ (k : Int) < 4 := by omega
        obtain rfl : k = 4 := by omega
        have hE : dftE re im dir = 0 := by rw [unhide eE]; exact D.z
        have hEH := hide hE
        obtain ⟨cr, ci, C1, C2⟩ := D.c
        have R1 := D.rep
        have c0 := R1.blk.cell 0
        simp at c0
        have d0 := C1.blk.cell 0
        simp at d0
        have hcp : Hid (∀ n, (Builtin.copy_ #[77, 77] 3 #[.slice (some ⟨p, 0, none⟩) 4 4, .slice (some ⟨pc, 0, none⟩) 4 4]).run Try.prog (wr.drewN n) = .ok (.int .i64 4) ((wr.drewN n).setCells p 0 (rowI cr))) := fun n => copyI _ _ _ _ _ (R1.rowR.drewN n) (C1.rowR.drewN n)
        have hcp' := unhide hcp
        have st : Hid (∀ n, Chg (ownM m p q) w ((wr.drewN n).setCells p 0 (rowI cr)) ∧ RepM ((wr.drewN n).setCells p 0 (rowI cr)) m p q cr im ∧ RepM ((wr.drewN n).setCells p 0 (rowI cr)) mc pc qc cr ci) := fun n =>
          ⟨Chg.setCells (.inl (.inr (.inl rfl))) _ _ ((D.chg.chg (ownM m p q)).drewN n), (R1.quiet ((Chg.refl _ _).drewN n)).copyR, (C1.quiet ((Chg.refl _ _).drewN n)).other (fun h => unhide apart p h (.inr (.inl rfl))) _ _⟩
        have C2H := hide C2
        clear R1 D C1 C2 hcp hE DH
        go_wp2
        refine wp_region_noPanic ?_
        try simp only [List.append_eq, List.cons_append, List.nil_append]
        refine wp_region_mix [(0, true), (1, true), (2, true), (3, true), (4, true), (5, true), (6, true), (7, true)] [8] (by kernel_rfl) (by kernel_rfl) (fun _ _ _ _ _ h => h) ?_
        simp only [pickM, pickO, List.getElem?_cons_zero, List.getElem?_cons_succ]
        repeat (first | (refine wpMix_read rfl (fun K hK => ?_)) | (refine wpMix_pure rfl (fun K hK => ?_))
                go_big_quiet_op
                first | (refine hK _ ?_; clear hK K))
        refine wpMix_nil ?_
        intro _ hw'
        obtain ⟨nq, hw''⟩ := hw'
        subst hw''
        have stn := unhide st nq
        go_wp2
        refine NoPanic.normal ?_
        obtain ⟨q3, R3, M3⟩ := stn
        have q3H := hide q3
        generalize (wr.drewN nq).setCells p 0 (rowI cr) = w3 at *
        clear hcp' st c0 d0 q3
        have c1 := R3.blk.cell 1
        simp at c1
        have d1 := M3.blk.cell 1
        simp at d1
        have hcp : Hid (∀ n, (Builtin.copy_ #[77, 77] 3 #[.slice (some ⟨q, 0, none⟩) 4 4, .slice (some ⟨qc, 0, none⟩) 4 4]).run Try.prog (w3.drewN n) = .ok (.int .i64 4) ((w3.drewN n).setCells q 0 (rowI ci))) := fun n => copyI _ _ _ _ _ (R3.rowM.drewN n) (M3.rowM.drewN n)
        have hcp' := unhide hcp
        have fin : Hid (∀ n, Chg (ownM m p q) w ((w3.drewN n).setCells q 0 (rowI ci)) ∧ RepM ((w3.drewN n).setCells q 0 (rowI ci)) m p q cr ci) := fun n =>
          ⟨Chg.setCells (.inl (.inr (.inr rfl))) _ _ ((unhide q3H).drewN n), (R3.quiet ((Chg.refl _ _).drewN n)).copyM⟩
        clear R3 M3 hcp
        go_wp2
        refine wp_region_noPanic ?_
        try simp only [List.append_eq, List.cons_append, List.nil_append]
        refine wp_region_mix [(0, true), (1, true), (2, true), (3, true), (4, true), (5, true), (6, true), (7, true)] [8] (by kernel_rfl) (by kernel_rfl) (fun _ _ _ _ _ h => h) ?_
        simp only [pickM, pickO, List.getElem?_cons_zero, List.getElem?_cons_succ]
        repeat (first | (refine wpMix_read rfl (fun K hK => ?_)) | (refine wpMix_pure rfl (fun K hK => ?_))
                go_big_quiet_op
                first | (refine hK _ ?_; clear hK K))
        refine wpMix_nil ?_
        intro _ hw'
        obtain ⟨nq, hw''⟩ := hw'
        subst hw''
        have fn := unhide fin nq
        go_wp2
        refine NoPanic.normal ?_
        generalize (w3.drewN nq).setCells q 0 (rowI ci) = w4 at *
        have fnH := hide fn
        clear fn fin hcp'
        go_wp2
        go_ret
        refine ⟨by rw [unhide hEH]; rfl, (unhide fnH).1, ?_⟩
        have hE := unhide hEH
        rw [show dftR re im dir = fun k => (valX re im dir k).1 by simp [dftR, hE], show dftI re im dir = fun k => (valX re im dir k).2 by simp [dftI, hE]]
        exact (unhide fnH).2.ext (fun j hj => (unhide C2H j hj).1) (fun j hj => (unhide C2H j hj).2)
end Go.Proofs.Qxb6500362a
