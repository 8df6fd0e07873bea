/-
  Keeps: Turned: a take. (gen65t.py)
-/
import Derived.Test.Qxb6500365aKTurned
import Derived.Test.Qxb6500365aQf
namespace Go.Proofs.Qxb6500365a
open Go.RowKit Go.Qx Ieee
set_option linter.unusedSimpArgs false
set_option linter.unusedVariables false


set_option maxHeartbeats 4000000 in
set_option maxRecDepth 100000 in
theorem turned_take (w : World) (g : Nat) (S : GS) (b : Blk w g 29 (ghC S)) (I : Inv S) (a bb c : Int) (os ot : ByteArray) (h : ¬ 16 ≤ S.n) (he : S.e = 0) (hb : ¬ 281474976710656 < (S.t * S.q).natAbs) :
    Calls Try.prog 15 #[.pointer (some ⟨g, 0, none⟩), opv 7 a bb c os ot, .int .i64 0, ansv S.e S.t 0 ⟨#[]⟩, ansv S.e S.t 0 ⟨#[]⟩] w fun ex w' => ex = .returned (.bool true) ∧ Chg (fun k => k = g) w w' ∧ Blk w' g 29 (ghC ⟨S.d, S.t, S.e, S.q, S.n + 1, S.s + S.t, S.v + S.q, S.k + S.t * S.q⟩) := by
  have al : Quiet w (((w.alloc (.cells #[.int .i64 7, .int .i64 a, .int .i64 bb, .int .i64 c, .string os, .string ot] 32)).alloc (.cells #[.int .i64 S.e, .int .i64 S.t, .int .i64 0, .string ⟨#[]⟩] 42)).alloc (.cells #[.int .i64 S.e, .int .i64 S.t, .int .i64 0, .string ⟨#[]⟩] 42)) := (((Chg.refl _ _).alloc _).alloc _).alloc _
  have b3 := Quiet.blk al b
  have hgl := b.lt
  unfold ghC at b
  have c0 := Quiet.cell al (show w.cell? ⟨g, 0, none⟩ = some (.int .i64 S.d) from b.cell 0)
  have c1 := Quiet.cell al (show w.cell? ⟨g, 1, none⟩ = some (.int .i64 S.q) from b.cell 1)
  have c2 := Quiet.cell al (show w.cell? ⟨g, 2, none⟩ = some (.int .i64 S.n) from b.cell 2)
  have c3 := Quiet.cell al (show w.cell? ⟨g, 3, none⟩ = some (.int .i64 S.s) from b.cell 3)
  have c4 := Quiet.cell al (show w.cell? ⟨g, 4, none⟩ = some (.int .i64 S.v) from b.cell 4)
  have c5 := Quiet.cell al (show w.cell? ⟨g, 5, none⟩ = some (.int .i64 S.k) from b.cell 5)
  have f0 := b3.frozen 0
  have f1 := b3.frozen 1
  have f2 := b3.frozen 2
  have f3 := b3.frozen 3
  have f4 := b3.frozen 4
  have f5 := b3.frozen 5
  have alH := hide al
  have b3H := hide b3
  have h1 : (16 ≤ S.n) = False := eq_false h
  have it1 := I.t1
  have iq1 := I.q1
  have iq2 := I.q2
  have habs := hide (fun W => abs_any W S.t (by omega) (by omega))
  have hdv : (281474976710656 / S.q < (S.t.natAbs : Int)) ↔ 281474976710656 < (S.t * S.q).natAbs := by
    rw [Int.ediv_lt_iff_lt_mul (by omega), Int.natAbs_mul]
    have : (S.t.natAbs : Int) * S.q = ((S.t.natAbs * S.q.natAbs : Nat) : Int) := by rw [Int.natCast_mul]; congr 1; omega
    rw [this]
    omega
  have td : (281474976710656 : Int).tdiv S.q = 281474976710656 / S.q := Int.tdiv_eq_ediv_of_nonneg (by omega)
  have q0 : 0 ≤ 281474976710656 / S.q := Int.ediv_nonneg (by omega) (by omega)
  have q9 : 281474976710656 / S.q ≤ 281474976710656 := Int.ediv_le_self _ (by omega)
  have sq0 : (S.q == 0) = false := by simp; omega
  have sq1 : (S.q == -1) = false := by simp; omega
  have sq2 : (S.q = 0) = False := eq_false (by omega)
  have sq3 : (S.q = -1) = False := eq_false (by omega)
  have hc : (281474976710656 / S.q < (S.t.natAbs : Int)) = False := eq_false (fun x => hb (hdv.1 x))
  have hs1 := I.s1
  have hv1 := I.v2
  have hk1 := I.k1
  have hn0 := I.n0
  have hv0 := I.v1
  have w1n : IntKind.i64.wrap (S.n + 1) = S.n + 1 := by rw [IntKind.wrap_i64]; omega
  have w2n : IntKind.i64.wrap (S.s + S.t) = S.s + S.t := by rw [IntKind.wrap_i64]; omega
  have w3n : IntKind.i64.wrap (S.v + S.q) = S.v + S.q := by rw [IntKind.wrap_i64]; omega
  obtain ⟨P, hP⟩ : ∃ P, S.t * S.q = P := ⟨_, rfl⟩
  have w4n : IntKind.i64.wrap (S.t * S.q) = P := by rw [hP] at hb ⊢; rw [IntKind.wrap_i64]; omega
  have w5n : IntKind.i64.wrap (S.k + P) = S.k + P := by rw [hP] at hb; rw [IntKind.wrap_i64]; omega
  rw [hP]
  have bw : Blk (((w.alloc (.cells #[.int .i64 7, .int .i64 a, .int .i64 bb, .int .i64 c, .string os, .string ot] 32)).alloc (.cells #[.int .i64 S.e, .int .i64 S.t, .int .i64 0, .string ⟨#[]⟩] 42)).alloc (.cells #[.int .i64 S.e, .int .i64 S.t, .int .i64 0, .string ⟨#[]⟩] 42)) (w.heap.size + 1) 42 [.int .i64 S.e, .int .i64 S.t, .int .i64 0, .string ⟨#[]⟩] := (Blk.at_new (cs := [.int .i64 S.e, .int .i64 S.t, .int .i64 0, .string ⟨#[]⟩]) (by simp)).alloc _
  have bn : Blk (((w.alloc (.cells #[.int .i64 7, .int .i64 a, .int .i64 bb, .int .i64 c, .string os, .string ot] 32)).alloc (.cells #[.int .i64 S.e, .int .i64 S.t, .int .i64 0, .string ⟨#[]⟩] 42)).alloc (.cells #[.int .i64 S.e, .int .i64 S.t, .int .i64 0, .string ⟨#[]⟩] 42)) (w.heap.size + 2) 42 [.int .i64 S.e, .int .i64 S.t, .int .i64 0, .string ⟨#[]⟩] := Blk.at_new (cs := [.int .i64 S.e, .int .i64 S.t, .int .i64 0, .string ⟨#[]⟩]) (by simp)
  have bwH := hide bw
  have bnH := hide bn
  clear hs1 hv1 hk1 hn0 hv0 hP bw bn
  obtain ⟨DV, hDV⟩ : ∃ DV, 281474976710656 / S.q = DV := ⟨_, rfl⟩
  rw [hDV] at hc td q0 q9
  have wdv : IntKind.i64.wrap DV = DV := by rw [IntKind.wrap_i64]; omega
  obtain ⟨A, hA⟩ : ∃ A : Int, (S.t.natAbs : Int) = A := ⟨_, rfl⟩
  rw [hA] at hc habs
  clear hDV hA q0 q9 hdv hb it1 iq1 iq2 h
  have n0 : g ≠ w.heap.size := Nat.ne_of_lt hgl
  have n0' : w.heap.size ≠ g := Ne.symm n0
  have n1 : g ≠ w.heap.size + 1 := Nat.ne_of_lt (Nat.lt_of_lt_of_le hgl (Nat.le_add_right _ _))
  have n1' : w.heap.size + 1 ≠ g := Ne.symm n1
  have n2 : g ≠ w.heap.size + 2 := Nat.ne_of_lt (Nat.lt_of_lt_of_le hgl (Nat.le_add_right _ _))
  have n2' : w.heap.size + 2 ≠ g := Ne.symm n2
  have n3 : g ≠ w.heap.size + 1 + 1 := n2
  have n3' : w.heap.size + 1 + 1 ≠ g := n2'
  unfold opv ansv ansC
  clear I b al b3 hgl
  obtain ⟨d, t, e, q, n, s, v, k⟩ := S
  dsimp only at *
  subst he
  go_enter Try.func15, Try.ntmps15
  go_wp2
  go_quiet ((go_at_call 35; exact Calls.quiet_of_same (unhide habs _)))
  have b4 := (unhide b3H).drewN nq
  have bw4 := (unhide bwH).drewN nq
  have bn4 := (unhide bnH).drewN nq
  have q4 := (unhide alH).drewN nq
  unfold ghC at b4
  dsimp only at b4
  obtain ⟨W4, hW4⟩ : ∃ W, (((w.alloc (.cells #[.int .i64 7, .int .i64 a, .int .i64 bb, .int .i64 c, .string os, .string ot] 32)).alloc (.cells #[.int .i64 0, .int .i64 t, .int .i64 0, .string ⟨#[]⟩] 42)).alloc (.cells #[.int .i64 0, .int .i64 t, .int .i64 0, .string ⟨#[]⟩] 42)).drewN nq = W := ⟨_, rfl⟩
  rw [hW4] at b4 bw4 bn4 q4 ⊢
  have e1 : W4.cell? ⟨g, 1, none⟩ = some (.int .i64 q) := b4.cell 1
  have e2 : W4.cell? ⟨g, 2, none⟩ = some (.int .i64 n) := b4.cell 2
  have e3 : W4.cell? ⟨g, 3, none⟩ = some (.int .i64 s) := b4.cell 3
  have e4 : W4.cell? ⟨g, 4, none⟩ = some (.int .i64 v) := b4.cell 4
  have e5 : W4.cell? ⟨g, 5, none⟩ = some (.int .i64 k) := b4.cell 5
  have z2 : W4.frozen? ⟨g, 2, none⟩ = false := b4.frozen 2
  have z3 : W4.frozen? ⟨g, 3, none⟩ = false := b4.frozen 3
  have z4 : W4.frozen? ⟨g, 4, none⟩ = false := b4.frozen 4
  have z5 : W4.frozen? ⟨g, 5, none⟩ = false := b4.frozen 5
  have ww : W4.cell? ⟨w.heap.size + 1, 1, none⟩ = some (.int .i64 t) := bw4.cell 1
  have b4H := hide b4
  have bw4H := hide bw4
  have bn4H := hide bn4
  have q4H := hide q4
  clear b4 bw4 bn4 q4 hW4 c0 c1 c2 c3 c4 c5 f0 f1 f2 f3 f4 f5 b3H alH bwH bnH habs wdv td
  go_wp2
  refine wp_region_noPanic ?_
  try simp only [List.append_eq, List.cons_append, List.nil_append]
  refine wp_region_mixf (fun w' => w'.cell? ⟨w.heap.size + 1, 1, none⟩ = some (.int .i64 t)) [(0, true), (1, false), (2, false), (3, false), (4, true), (5, true), (6, true), (7, true), (8, true), (9, true), (10, true), (11, true), (12, true), (13, false), (14, false), (15, false), (16, true), (17, true), (18, true), (19, true), (20, true), (21, true), (22, true), (23, true), (24, false), (25, true), (26, true), (27, true), (28, true), (29, false), (30, false), (31, true), (32, true), (33, true), (34, true), (35, false), (36, false), (37, true), (38, true)] [39, 40, 41, 42, 43, 44, 45, 46, 47, 48] (by kernel_rfl) (by kernel_rfl) (fun m => by rw [World.cell?_drewN]; exact ww) (fun _ _ _ _ _ h => h) ?_
  simp only [pickM, pickO, List.getElem?_cons_zero, List.getElem?_cons_succ]
  repeat (first
      | (refine wpMixF_read rfl (fun K hK => ?_); go_big_quiet_op; refine hK _ ?_; clear hK K)
      | (refine wpMixF_pure rfl rfl (fun K hK => ?_); go_big_quiet_op; refine hK _ ?_; clear hK K)
      | (refine wpMixF_kept rfl (fun K hK => ?_)
         go_big_quiet_op
         refine ⟨.int .i64 t, fun w' hw' => ?_, ?_⟩
         (· (simp [go_sem, Oper.quietUpon, hw']; done))
         refine hK _ ?_
         clear hK K))
  refine wpMixF_nil ?_
  intro _ hw'
  obtain ⟨nq2, hw''⟩ := hw'
  subst hw''
  repeat (refine wpListF_step rfl (fun K hK => ?_)
          go_simp
          refine hK _ _ ?_ ?_
          (· first | (exact ww) | (simp [World.cell?_setCell_far, n1, ww]; done))
          clear hK K)
  refine wpListF_nil ?_
  refine NoPanic.normal ?_
  have b5 := (((((unhide b4H).drewN nq2).set 2 (.int .i64 (n + 1))).set 3 (.int .i64 (s + t))).set 4 (.int .i64 (v + q))).set 5 (.int .i64 (k + P))
  have bw5 := (((((unhide bw4H).drewN nq2).set_other (a := ⟨g, 2, none⟩) n1' (.int .i64 (n + 1))).set_other (a := ⟨g, 3, none⟩) n1' (.int .i64 (s + t))).set_other (a := ⟨g, 4, none⟩) n1' (.int .i64 (v + q))).set_other (a := ⟨g, 5, none⟩) n1' (.int .i64 (k + P))
  have bn5 := (((((unhide bn4H).drewN nq2).set_other (a := ⟨g, 2, none⟩) n2' (.int .i64 (n + 1))).set_other (a := ⟨g, 3, none⟩) n2' (.int .i64 (s + t))).set_other (a := ⟨g, 4, none⟩) n2' (.int .i64 (v + q))).set_other (a := ⟨g, 5, none⟩) n2' (.int .i64 (k + P))
  have q5 := chg_set (chg_set (chg_set (chg_set ((Quiet.chg (unhide q4H) (fun k => k = g)).drewN nq2) 2 (.int .i64 (n + 1))) 3 (.int .i64 (s + t))) 4 (.int .i64 (v + q))) 5 (.int .i64 (k + P))
  obtain ⟨W5, hW5⟩ : ∃ W, (((((W4.drewN nq2).setCell ⟨g, 2, none⟩ (.int .i64 (n + 1))).setCell ⟨g, 3, none⟩ (.int .i64 (s + t))).setCell ⟨g, 4, none⟩ (.int .i64 (v + q))).setCell ⟨g, 5, none⟩ (.int .i64 (k + P))) = W := ⟨_, rfl⟩
  rw [hW5] at b5 bw5 bn5 q5 ⊢
  have s0 : W5.cell? ⟨w.heap.size + 1, 0, none⟩ = some (.int .i64 0) := bw5.cell 0
  have s1 : W5.cell? ⟨w.heap.size + 1, 1, none⟩ = some (.int .i64 t) := bw5.cell 1
  have s2 : W5.cell? ⟨w.heap.size + 1, 2, none⟩ = some (.int .i64 0) := bw5.cell 2
  have s3 : W5.cell? ⟨w.heap.size + 1, 3, none⟩ = some (.string ⟨#[]⟩) := bw5.cell 3
  have u0 : W5.cell? ⟨w.heap.size + 1 + 1, 0, none⟩ = some (.int .i64 0) := bn5.cell 0
  have u1 : W5.cell? ⟨w.heap.size + 1 + 1, 1, none⟩ = some (.int .i64 t) := bn5.cell 1
  have u2 : W5.cell? ⟨w.heap.size + 1 + 1, 2, none⟩ = some (.int .i64 0) := bn5.cell 2
  have u3 : W5.cell? ⟨w.heap.size + 1 + 1, 3, none⟩ = some (.string ⟨#[]⟩) := bn5.cell 3
  have b5H := hide b5
  have q5H := hide q5
  clear b5 bw5 bn5 q5 hW5 b4H bw4H bn4H q4H e1 e2 e3 e4 e5 z2 z3 z4 z5 ww
  go_wp2
  go_ret
  exact ⟨rfl, unhide q5H, unhide b5H⟩
end Go.Proofs.Qxb6500365a
