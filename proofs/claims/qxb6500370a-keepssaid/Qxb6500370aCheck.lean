/-
  THE REAL GAME: Check. (gen70check.py)
-/
import Derived.Test.Qxb6500370aGuess
import Derived.WideLaws
namespace Go.Proofs.Qxb6500370a
open Go.RowKit Go.Qx Go.Qx.Mk
set_option linter.unusedVariables false
set_option linter.unusedSimpArgs false

theorem lenJ45 {w : World} {b : Nat} {f : Int → Option Value} {n : Nat} (h : MapJ w b f n) (ty : TypeId) : (Builtin.len_ #[45] ty #[.map (some b)]).run Try.prog w = .ok (.int .i64 (n : Int)) w := by
  obtain ⟨es, clock, h1, h2, h3, h4⟩ := h
  rw [run_len_map (P := Try.prog) w 45 ty b es clock (by kernel_rfl) h1, h4]
  rfl
theorem lenJ47 {w : World} {b : Nat} {f : Int → Option Value} {n : Nat} (h : MapJ w b f n) (ty : TypeId) : (Builtin.len_ #[47] ty #[.map (some b)]).run Try.prog w = .ok (.int .i64 (n : Int)) w := by
  obtain ⟨es, clock, h1, h2, h3, h4⟩ := h
  rw [run_len_map (P := Try.prog) w 47 ty b es clock (by kernel_rfl) h1, h4]
  rfl

theorem equalIn_nil_map (d : Nat) (t k e : TypeId) (hu : Try.prog.underlying t = some (.map k e)) (b : Nat) (W : World) : (Op.equalIn (d + 1) t (.map (some b)) (.map none)).run Try.prog W = .ok false W := by
  simp [Op.equalIn, run_underlying hu]
theorem equal_nil_map (t k e : TypeId) (hu : Try.prog.underlying t = some (.map k e)) (b : Nat) (W : World) : (Op.equal t (.map (some b)) (.map none)).run Try.prog W = .ok false W := equalIn_nil_map 9999 t k e hu b W
theorem nil47 (b : Nat) (W : World) : (binOp .eql 47 (.map (some b)) (.map none)).run Try.prog W = .ok (.bool false) W := by
  simp only [binOp]
  simp [equal_nil_map 47 _ _ und47]
theorem nil45 (b : Nat) (W : World) : (binOp .eql 45 (.map (some b)) (.map none)).run Try.prog W = .ok (.bool false) W := by
  simp only [binOp]
  simp [equal_nil_map 45 _ _ und45]

/-- The game made anew, and what it was taught. -/
structure UR (w wr : World) (U : Nat) (L' : Nat → Nat) (ub ut us : Value) (C : KC) : Prop where
  q : Quiet w wr
  b : Blk wr U 52 (gcells ub ut us (fw St.none.sec) C.green false false L')
  kr : KRep wr L' C
  far : Far U L'
  u : w.heap.size ≤ U
  l : ∀ i, i < 7 → w.heap.size ≤ L' i
theorem UR.quiet {w wr wv : World} {U : Nat} {L' : Nat → Nat} {ub ut us : Value} {C : KC} (h : UR w wr U L' ub ut us C) (c : Quiet wr wv) : UR w wv U L' ub ut us C :=
  ⟨h.q.trans c, c.blk h.b, h.kr.quiet c, h.far, h.u, h.l⟩
theorem UR.learn {w wr wv : World} {U : Nat} {L' : Nat → Nat} {ub ut us : Value} {C : KC} (h : UR w wr U L' ub ut us C) {s t : Nat → Int} (l : LR wr wv U L' ub ut us (fw St.none.sec) false false s t C 5) : UR w wv U L' ub ut us (learnC t (Mk.mark 5 s t) (kOf s t) C 5) :=
  ⟨Chg.trans' h.q l.ch (fun x hx hy => by
    rcases hy with rfl | ⟨i, hi, rfl⟩
    · have := h.u; omega
    · have := h.l i hi; omega), l.b, l.kr, h.far, h.u, h.l⟩
def toldTo (st : St) (k : Nat) : KC := taught (fw st.sec) ((st.ts.take k).map fw) KC.none
theorem toldTo_succ (st : St) (k : Nat) (l : List Int) (h : st.ts[k]? = some l) : toldTo st (k + 1) = learnC (fw l) (Mk.mark 5 (fw st.sec) (fw l)) (kOf (fw st.sec) (fw l)) (toldTo st k) 5 := by
  unfold toldTo
  rw [List.take_add_one, h]
  simp only [Option.toList, List.map_append, List.map_cons, List.map_nil]
  exact taught_append _ _ _ _
theorem toldTo_all (st : St) : toldTo st st.ts.length = st.C := by
  unfold toldTo St.C; rw [List.take_length]
/-- A try in memory. -/
theorem GRep.try_at {w : World} {G : Nat} {vb vt vs : Value} {L : Nat → Nat} {st : St} (R : GRep w G vb vt vs L st) (k : Nat) (hk : k < st.ts.length) : ∃ g cap l, st.ts[k]? = some l ∧ vt = .slice (some ⟨g, 0, none⟩) st.ts.length cap ∧ w.cell? ⟨g, k * 5, none⟩ = some (rk (fw l 0)) ∧ w.cell? ⟨g, k * 5 + 1, none⟩ = some (rk (fw l 1)) ∧ w.cell? ⟨g, k * 5 + 2, none⟩ = some (rk (fw l 2)) ∧ w.cell? ⟨g, k * 5 + 3, none⟩ = some (rk (fw l 3)) ∧ w.cell? ⟨g, k * 5 + 4, none⟩ = some (rk (fw l 4)) := by
  obtain ⟨g, cap, t, htj, hv, r0, r1, r2, r3, r4⟩ := R.rt.cells k (by simpa using hk)
  rw [List.getElem?_map] at htj
  cases h : st.ts[k]? with
  | none => rw [h] at htj; cases htj
  | some l =>
    rw [h] at htj
    have e : fw l = t := by simpa using htj
    subst e
    exact ⟨g, cap, l, rfl, by simpa using hv, r0, r1, r2, r3, r4⟩
theorem GRep.mark_at {w : World} {G : Nat} {vb vt vs : Value} {L : Nat → Nat} {st : St} (R : GRep w G vb vt vs L st) (k : Nat) (l : List Int) (hl : st.ts[k]? = some l) : ∃ g cap, vs = .slice (some ⟨g, 0, none⟩) st.ts.length cap ∧ w.cell? ⟨g, k, none⟩ = some (.string (str (marksL (fw st.sec) (fw l)))) := by
  have hk : k < st.ts.length := (List.getElem?_eq_some_iff.1 hl).1
  obtain ⟨g, cap, h1, h2⟩ := R.shown k hk
  refine ⟨g, cap, h1, ?_⟩
  rw [h2]
  unfold trial
  rw [List.getD_eq_getElem?_getD, hl]; rfl
theorem begun_of_try {st : St} (ok : st.Ok) {k : Nat} {l : List Int} (h : st.ts[k]? = some l) : st.bg = true := by
  cases hb : st.bg with
  | true => rfl
  | false => rw [(ok.nob hb).1] at h; simp at h
theorem agree_self (st : St) : agreeB st st.sec = true := by
  unfold agreeB
  rw [List.all_eq_true]
  intro t _
  exact beq_self_eq_true _

set_option maxHeartbeats 4000000 in
set_option maxRecDepth 100000 in
theorem check_any (w : World) (G : Nat) (vb vt vs : Value) (L : Nat → Nat) (st : St) (ok : st.Ok) (R : GRep w G vb vt vs L st) : Calls Try.prog 24 #[ptr G] w fun e w' => e = .returned (.bool true) ∧ Quiet w w' := by
  have hG := R.b.lt
  have few := ok.few
  have six := ok.six
  obtain ⟨x, cp, hx⟩ := R.rb.sl
  obtain ⟨x2, cp2, hx2⟩ := R.rt.sl
  obtain ⟨x3, cp3, hx3⟩ := R.shownSl
  rw [List.length_map] at hx hx2
  have RH := hide (⟨R, ok⟩ : _ ∧ _)
  obtain ⟨n, hn⟩ : ∃ n, st.ts.length = n := ⟨_, rfl⟩
  obtain ⟨N, hN⟩ : ∃ N, st.ws.length = N := ⟨_, rfl⟩
  rw [hN] at hx few
  rw [hn] at hx2 hx3 six
  have c0 : w.cell? ⟨G, 0, none⟩ = some (.slice x N cp) := by rw [← hx]; exact R.b.cell 0
  have c1 : w.cell? ⟨G, 1, none⟩ = some (.slice x2 n cp2) := by rw [← hx2]; exact R.b.cell 1
  have c14 : w.cell? ⟨G, 14, none⟩ = some (.slice x3 n cp3) := by rw [← hx3]; exact R.b.cell 14
  have d0 : decide ((8 : Int) < (N : Int)) = false := decide_eq_false (by omega)
  have d1 : decide ((6 : Int) < (n : Int)) = false := decide_eq_false (by omega)
  have d2 : ((n : Int) != (n : Int)) = false := by simp
  have hnH := hide hn
  have sixH := hide six
  have hxH := hide (⟨hx2, hx3⟩ : _ ∧ _)
  clear R ok hx hx2 hx3 hn hN few six
  unfold ptr
  go_enter Try.func24, Try.ntmps24
  go_wp2
  go_quiet (fail)
  go_wp2
  clear c0 c1 c14 d0 d1 d2
  go_loopw [49] (fun z wr => ∃ k : Nat, k ≤ n ∧ z = .int .i64 (k : Int) ∧ Quiet w wr) (fun z _ => n + 1 - (intOf z).toNat)
  case atStart => exact ⟨0, by omega, rfl, (Chg.refl _ _).drewN _⟩
  case round =>
    obtain ⟨k, hk, rfl, q⟩ := hrel
    obtain ⟨R, ok⟩ := unhide RH
    have hn := unhide hnH
    have six := unhide sixH
    by_cases hlt : k < n
    · have k1 : (k : Int) < (n : Int) := by omega
      have k0 : (0 : Int) ≤ (k : Int) := by omega
      have wk : wrap64 ((k : Int) + 1) = (k : Int) + 1 := wrap_small (k + 1) (by omega)
      obtain ⟨g2, cap2, l, hl, hv, r0, r1, r2, r3, r4⟩ := (R.quiet q).try_at k (by omega)
      obtain ⟨h1, h2⟩ : x2 = some ⟨g2, 0, none⟩ ∧ cp2 = cap2 := by
        have := (unhide hxH).1.symm.trans hv
        simp at this; exact ⟨this.1, this.2.2⟩
      subst h1; subst h2
      obtain ⟨W1, hW1⟩ : ∃ W, wr.alloc (.cells #[rk (fw l 0), rk (fw l 1), rk (fw l 2), rk (fw l 3), rk (fw l 4)] 50) = W := ⟨_, rfl⟩
      have q1 : Quiet w W1 := by rw [← hW1]; exact Chg.alloc q _
      have BD : Blk W1 wr.heap.size 50 (wc (fw l)) := by rw [← hW1]; exact Blk.new wr 50 (wc (fw l))
      have R1 := R.quiet q1
      obtain ⟨g4, cap4, hv4, cg⟩ := R1.mark_at k l hl
      obtain ⟨h1, h2⟩ : x3 = some ⟨g4, 0, none⟩ ∧ cp3 = cap4 := by
        have := (unhide hxH).2.symm.trans hv4
        simp at this; exact ⟨this.1, this.2.2⟩
      subst h1; subst h2
      have hbg := begun_of_try ok hl
      have y12 : ∀ q : QW W1, q.w.cell? ⟨G, 12, none⟩ = some (.bool true) := fun q => by rw [← hbg]; exact QW.blk R1.b q 12
      have y2 : ∀ q : QW W1, q.w.cell? ⟨G, 2, none⟩ = some (rk (fw st.sec 0)) := fun q => QW.blk R1.b q 2
      have y3 : ∀ q : QW W1, q.w.cell? ⟨G, 3, none⟩ = some (rk (fw st.sec 1)) := fun q => QW.blk R1.b q 3
      have y4 : ∀ q : QW W1, q.w.cell? ⟨G, 4, none⟩ = some (rk (fw st.sec 2)) := fun q => QW.blk R1.b q 4
      have y5 : ∀ q : QW W1, q.w.cell? ⟨G, 5, none⟩ = some (rk (fw st.sec 3)) := fun q => QW.blk R1.b q 5
      have y6 : ∀ q : QW W1, q.w.cell? ⟨G, 6, none⟩ = some (rk (fw st.sec 4)) := fun q => QW.blk R1.b q 6
      have y14 : ∀ q : QW W1, q.w.cell? ⟨G, 14, none⟩ = some (.slice (some ⟨g4, 0, none⟩) n cp3) := fun q => (QW.blk R1.b q 14).trans (by show some vs = _; rw [(unhide hxH).2])
      have u0 : ∀ q : QW W1, q.w.cell? ⟨wr.heap.size, 0, none⟩ = some (rk (fw l 0)) := fun q => QW.blk BD q 0
      have u1 : ∀ q : QW W1, q.w.cell? ⟨wr.heap.size, 1, none⟩ = some (rk (fw l 1)) := fun q => QW.blk BD q 1
      have u2 : ∀ q : QW W1, q.w.cell? ⟨wr.heap.size, 2, none⟩ = some (rk (fw l 2)) := fun q => QW.blk BD q 2
      have u3 : ∀ q : QW W1, q.w.cell? ⟨wr.heap.size, 3, none⟩ = some (rk (fw l 3)) := fun q => QW.blk BD q 3
      have u4 : ∀ q : QW W1, q.w.cell? ⟨wr.heap.size, 4, none⟩ = some (rk (fw l 4)) := fun q => QW.blk BD q 4
      have hM : Hid (∀ W, Calls Try.prog 35 #[.agg #[rk (fw st.sec 0), rk (fw st.sec 1), rk (fw st.sec 2), rk (fw st.sec 3), rk (fw st.sec 4)], .agg #[rk (fw l 0), rk (fw l 1), rk (fw l 2), rk (fw l 3), rk (fw l 4)]] W fun e w' => e = .returned (.string (str (marksL (fw st.sec) (fw l)))) ∧ Quiet W w') := fun W => marks_any W (fw st.sec) (fw l)
      generalize str (marksL (fw st.sec) (fw l)) = MM at *
      have ug : ∀ q : QW W1, q.w.cell? ⟨g4, k, none⟩ = some (.string MM) := fun q => Quiet.cell (QW.q q) cg
      have hss : (MM.toList == MM.toList) = true := by simp
      have q1H := hide q1
      have hltH := hide hlt
      clear R ok hn six hv hv4 cg R1 BD q q1 hl hbg hlt hk
      go_wp2
      clear r0 r1 r2 r3 r4
      refine wp_region_noPanic ?_
      try simp only [List.append_eq, List.cons_append, List.nil_append]
      refine wp_region_mixq [(0, true), (1, true), (2, true), (3, true), (4, true), (5, true), (6, true), (7, true), (8, true), (9, true), (10, true), (11, true), (12, true), (13, true), (14, true), (15, true), (16, true), (17, true), (18, true), (19, true), (20, true)] [] (by kernel_rfl) (by kernel_rfl) (fun _ _ _ _ _ h => h) ?_
      simp only [pickM, pickO, List.getElem?_cons_zero, List.getElem?_cons_succ]
      repeat (first | (refine wpMix_read rfl (fun K hK => ?_)) | (refine wpMix_pure rfl (fun K hK => ?_))
              go_big_quiet_op
              first | (refine hK _ ?_; clear hK K) | (apply Exists.intro; refine ⟨fun _ => ?_, ?_⟩; (· (first | (go_at_call 35; exact Calls.in_qw (unhide hM _)))); refine hK _ ?_; clear hK K))
      refine wpMix_nil ?_
      intro _ hw'
      obtain ⟨qq, hw''⟩ := hw'
      subst hw''
      have hqq := qq.q
      generalize qq.w = wq at *
      clear hM y12 y2 y3 y4 y5 y6 y14 u0 u1 u2 u3 u4 ug
      have Q2 := hide (Quiet.trans (unhide q1H) hqq)
      clear hqq q1H
      go_wp2
      refine NoPanic.normal ?_
      go_wp2
      go_roundw
      case rel => exact ⟨k + 1, unhide hltH, by simp; try exact wk, unhide Q2⟩
      case measure =>
        have h := unhide hltH
        first
          | exact meas_list h
          | (rw [wk]; exact meas_list h)
    · have k1 : ¬ (k : Int) < (n : Int) := by omega
      obtain rfl : k = n := by omega
      have R1 := R.quiet q
      have c20 : wr.cell? ⟨G, 20, none⟩ = some (.map (some (L 5))) := R1.b.cell 20
      have c21 : wr.cell? ⟨G, 21, none⟩ = some (.map (some (L 6))) := R1.b.cell 21
      have hnew := hide (new_rep wr)
      have hnil5 := nil47 (L 5)
      have hnil6 := nil47 (L 6)
      have qH := hide q
      have hGw := R1.b.lt
      clear R ok R1 q hn six hlt hk
      unfold ptr at hnew
      go_wp2_with fail
      refine (unhide hnew).mono ?_
      clear hnew c20 c21 hnil5 hnil6
      rintro e w2 ⟨U, OU, rfl, RU, q2, hOU⟩
      obtain ⟨ub, ut, us, L', GU, hGO⟩ := RU
      have UR0 : Hid (UR w w2 U L' ub ut us (toldTo st 0)) := ⟨(unhide qH).trans q2, GU.b, GU.kr, GU.far, Nat.le_trans (unhide qH).size (hOU _ (hGO _ (.inl rfl))), fun i hi => Nat.le_trans (unhide qH).size (hOU _ (hGO _ (.inr (.inr (.inr (.inr ⟨i, hi, rfl⟩))))))⟩
      have c1 : w2.cell? ⟨G, 1, none⟩ = some (.slice x2 k cp2) := by rw [← (unhide hxH).1]; exact Quiet.cell ((unhide qH).trans q2) ((unhide RH).1.b.cell 1)
      clear GU hGO hOU q2 qH hGw
      go_wp2
      clear c1
      go_loopw [94] (fun z wr => ∃ i : Nat, i ≤ k ∧ z = .int .i64 (i : Int) ∧ UR w wr U L' ub ut us (toldTo st i)) (fun z _ => k + 1 - (intOf z).toNat)
      case atStart => exact ⟨0, by omega, rfl, unhide UR0⟩
      case round =>
        clear UR0
        rename_i wr0 wr
        obtain ⟨i, hi, rfl, u⟩ := hrel
        obtain ⟨R, ok⟩ := unhide RH
        have hn := unhide hnH
        have six := unhide sixH
        by_cases hlt : i < k
        · have k1 : (i : Int) < (k : Int) := by omega
          have k0 : (0 : Int) ≤ (i : Int) := by omega
          have wk : wrap64 ((i : Int) + 1) = (i : Int) + 1 := wrap_small (i + 1) (by omega)
          obtain ⟨g2, cap2, l, hl, hv, r0, r1, r2, r3, r4⟩ := (R.quiet u.q).try_at i (by omega)
          obtain ⟨h1, h2⟩ : x2 = some ⟨g2, 0, none⟩ ∧ cp2 = cap2 := by
            have := (unhide hxH).1.symm.trans hv
            simp at this; exact ⟨this.1, this.2.2⟩
          subst h1; subst h2
          obtain ⟨W1, hW1⟩ : ∃ W, wr.alloc (.cells #[rk (fw l 0), rk (fw l 1), rk (fw l 2), rk (fw l 3), rk (fw l 4)] 50) = W := ⟨_, rfl⟩
          have u1' : UR w W1 U L' ub ut us (toldTo st i) := by rw [← hW1]; exact u.quiet (Chg.alloc (Chg.refl _ _) _)
          have BD : Blk W1 wr.heap.size 50 (wc (fw l)) := by rw [← hW1]; exact Blk.new wr 50 (wc (fw l))
          have R1 := R.quiet u1'.q
          obtain ⟨g4, cap4, hv4, cg⟩ := R1.mark_at i l hl
          obtain ⟨h1, h2⟩ : x3 = some ⟨g4, 0, none⟩ ∧ cp3 = cap4 := by
            have := (unhide hxH).2.symm.trans hv4
            simp at this; exact ⟨this.1, this.2.2⟩
          subst h1; subst h2
          have c14 : W1.cell? ⟨G, 14, none⟩ = some (.slice (some ⟨g4, 0, none⟩) k cp3) := by rw [← (unhide hxH).2]; exact R1.b.cell 14
          have e0 : W1.cell? ⟨wr.heap.size, 0, none⟩ = some (rk (fw l 0)) := BD.cell 0
          have e1 : W1.cell? ⟨wr.heap.size, 1, none⟩ = some (rk (fw l 1)) := BD.cell 1
          have e2 : W1.cell? ⟨wr.heap.size, 2, none⟩ = some (rk (fw l 2)) := BD.cell 2
          have e3 : W1.cell? ⟨wr.heap.size, 3, none⟩ = some (rk (fw l 3)) := BD.cell 3
          have e4 : W1.cell? ⟨wr.heap.size, 4, none⟩ = some (rk (fw l 4)) := BD.cell 4
          have hcl : Hid (∀ m, Calls Try.prog 36 #[.pointer (some ⟨U, 0, none⟩), .agg #[rk (fw l 0), rk (fw l 1), rk (fw l 2), rk (fw l 3), rk (fw l 4)], .string (str (marksL (fw st.sec) (fw l)))] (W1.drewN m) fun e w' => e = .returned (.tuple #[]) ∧ UR w w' U L' ub ut us (toldTo st (i + 1))) := by
            show ∀ m, _
            intro m
            have um := u1'.quiet ((Chg.refl (fun _ => False) W1).drewN m)
            refine (learn_any (W1.drewN m) U L' ub ut us (fw St.none.sec) false false (fw st.sec) (fw l) (toldTo st i) um.b um.kr um.far).mono ?_
            rintro e w' ⟨rfl, lr⟩
            refine ⟨rfl, ?_⟩
            rw [toldTo_succ st i l hl]
            exact um.learn lr
          have hltH := hide hlt
          clear R ok hn six hv hv4 R1 BD u u1' hl hlt hi
          generalize str (marksL (fw st.sec) (fw l)) = MM at *
          go_wp2
          clear r0 r1 r2 r3 r4
          refine wp_region_noPanic ?_
          try simp only [List.append_eq, List.cons_append, List.nil_append]
          refine wp_region_mix [(0, true), (1, true), (2, true), (3, true), (4, true), (5, true), (6, true), (7, true), (8, true)] [9] (by kernel_rfl) (by kernel_rfl) (fun _ _ _ _ _ h => h) ?_
          simp only [pickM, pickO, List.getElem?_cons_zero, List.getElem?_cons_succ]
          repeat (first | (refine wpMix_read rfl (fun K hK => ?_)) | (refine wpMix_pure rfl (fun K hK => ?_))
                  go_big_quiet_op
                  first | (refine hK _ ?_; clear hK K))
          refine wpMix_nil ?_
          intro _ hw'
          obtain ⟨nq, hw''⟩ := hw'
          subst hw''
          have hcq := hide (unhide hcl nq)
          clear hcl cg c14 e0 e1 e2 e3 e4
          go_wp2_with fail
          refine (unhide hcq).mono ?_
          clear hcq
          rintro e w3 ⟨rfl, u3⟩
          have U3 := hide u3
          clear u3
          go_wp2
          refine NoPanic.normal ?_
          go_wp2
          go_roundw
          case rel => exact ⟨i + 1, unhide hltH, by simp; try exact wk, unhide U3⟩
          case measure =>
            have h := unhide hltH
            first
              | exact meas_list h
              | (rw [wk]; exact meas_list h)
        · have k1 : ¬ (i : Int) < (k : Int) := by omega
          obtain rfl : i = k := by omega
          rw [show toldTo st i = st.C by rw [← hn]; exact toldTo_all st] at u
          have R1 := R.quiet u.q
          have g0 : wr.cell? ⟨G, 7, none⟩ = some (rk (st.C.green 0)) := R1.b.cell 7
          have v0 : wr.cell? ⟨U, 7, none⟩ = some (rk (st.C.green 0)) := u.b.cell 7
          have g1 : wr.cell? ⟨G, 8, none⟩ = some (rk (st.C.green 1)) := R1.b.cell 8
          have v1 : wr.cell? ⟨U, 8, none⟩ = some (rk (st.C.green 1)) := u.b.cell 8
          have g2 : wr.cell? ⟨G, 9, none⟩ = some (rk (st.C.green 2)) := R1.b.cell 9
          have v2 : wr.cell? ⟨U, 9, none⟩ = some (rk (st.C.green 2)) := u.b.cell 9
          have g3 : wr.cell? ⟨G, 10, none⟩ = some (rk (st.C.green 3)) := R1.b.cell 10
          have v3 : wr.cell? ⟨U, 10, none⟩ = some (rk (st.C.green 3)) := u.b.cell 10
          have g4 : wr.cell? ⟨G, 11, none⟩ = some (rk (st.C.green 4)) := R1.b.cell 11
          have v4 : wr.cell? ⟨U, 11, none⟩ = some (rk (st.C.green 4)) := u.b.cell 11
          have hne : ∀ W, (binOp .neq 50 (.agg #[rk (st.C.green 0), rk (st.C.green 1), rk (st.C.green 2), rk (st.C.green 3), rk (st.C.green 4)]) (.agg #[rk (st.C.green 0), rk (st.C.green 1), rk (st.C.green 2), rk (st.C.green 3), rk (st.C.green 4)])).run Try.prog W = .ok (.bool false) W := fun W => by
            rw [neq50 W st.C.green st.C.green]; simp [sameW]
          have c20 : wr.cell? ⟨G, 20, none⟩ = some (.map (some (L 5))) := R1.b.cell 20
          have c21 : wr.cell? ⟨G, 21, none⟩ = some (.map (some (L 6))) := R1.b.cell 21
          have v20 : wr.cell? ⟨U, 20, none⟩ = some (.map (some (L' 5))) := u.b.cell 20
          have v21 : wr.cell? ⟨U, 21, none⟩ = some (.map (some (L' 6))) := u.b.cell 21
          have l5 : ∀ m ty, (Builtin.len_ #[47] ty #[.map (some (L 5))]).run Try.prog (wr.drewN m) = .ok (.int .i64 (st.C.nl : Int)) (wr.drewN m) := fun m ty => lenJ47 (R1.kr.quiet ((Chg.refl _ _).drewN m)).lo ty
          have l5' : ∀ m ty, (Builtin.len_ #[47] ty #[.map (some (L' 5))]).run Try.prog (wr.drewN m) = .ok (.int .i64 (st.C.nl : Int)) (wr.drewN m) := fun m ty => lenJ47 (u.kr.quiet ((Chg.refl _ _).drewN m)).lo ty
          have l6 : ∀ m ty, (Builtin.len_ #[47] ty #[.map (some (L 6))]).run Try.prog (wr.drewN m) = .ok (.int .i64 (st.C.nh : Int)) (wr.drewN m) := fun m ty => lenJ47 (R1.kr.quiet ((Chg.refl _ _).drewN m)).hi ty
          have l6' : ∀ m ty, (Builtin.len_ #[47] ty #[.map (some (L' 6))]).run Try.prog (wr.drewN m) = .ok (.int .i64 (st.C.nh : Int)) (wr.drewN m) := fun m ty => lenJ47 (u.kr.quiet ((Chg.refl _ _).drewN m)).hi ty
          have d5 : ((st.C.nl : Int) != (st.C.nl : Int)) = false := by simp
          have d6 : ((st.C.nh : Int) != (st.C.nh : Int)) = false := by simp
          have uH := hide u
          clear R ok R1 u hn six hlt hi
          generalize st.C.nl = nl at *
          generalize st.C.nh = nh at *
          generalize st.C.green 0 = z0 at *
          generalize st.C.green 1 = z1 at *
          generalize st.C.green 2 = z2 at *
          generalize st.C.green 3 = z3 at *
          generalize st.C.green 4 = z4 at *
          go_wp2
          go_quiet (fail)
          clear g0 g1 g2 g3 g4 v0 v1 v2 v3 v4 hne c20 c21 v20 v21 l5 l5' l6 l6' d5 d6
          have UR1 := hide ((unhide uH).quiet ((Chg.refl _ _).drewN nq))
          generalize wr.drewN nq = wA at *
          clear uH
          go_wp2
          go_loopw [145] (fun z wr => ∃ p : Nat, p ≤ 5 ∧ z = .int .i64 (p : Int) ∧ UR w wr U L' ub ut us st.C) (fun z _ => 6 - (intOf z).toNat)
          case atStart => exact ⟨0, by omega, rfl, unhide UR1⟩
          case round =>
            clear UR1
            obtain ⟨p, hp, rfl, u⟩ := hrel
            obtain ⟨R, ok⟩ := unhide RH
            have hn := unhide hnH
            have six := unhide sixH
            have R1 := R.quiet u.q
            by_cases hlt : p < 5
            · have k1 : (p : Int) < 5 := by omega
              have k0 : (0 : Int) ≤ (p : Int) := by omega
              have wk : wrap64 ((p : Int) + 1) = (p : Int) + 1 := wrap_small (p + 1) (by omega)
              have cG : wr.cell? ⟨G, 15 + p, none⟩ = some (.map (some (L p))) := (R1.b.cell (15 + p)).trans (gcells_ban _ _ _ _ _ _ _ _ p hlt)
              have cU : wr.cell? ⟨U, 15 + p, none⟩ = some (.map (some (L' p))) := (u.b.cell (15 + p)).trans (gcells_ban _ _ _ _ _ _ _ _ p hlt)
              have lG : ∀ m ty, (Builtin.len_ #[45] ty #[.map (some (L p))]).run Try.prog (wr.drewN m) = .ok (.int .i64 (st.C.nb p : Int)) (wr.drewN m) := fun m ty => lenJ45 ((R1.kr.quiet ((Chg.refl _ _).drewN m)).ban p hlt) ty
              have lU : ∀ m ty, (Builtin.len_ #[45] ty #[.map (some (L' p))]).run Try.prog (wr.drewN m) = .ok (.int .i64 (st.C.nb p : Int)) (wr.drewN m) := fun m ty => lenJ45 ((u.kr.quiet ((Chg.refl _ _).drewN m)).ban p hlt) ty
              have hni := nil45 (L p)
              have d5 : ((st.C.nb p : Int) != (st.C.nb p : Int)) = false := by simp
              have uH := hide u
              have hltH := hide hlt
              clear R ok R1 u hn six hlt hp
              generalize st.C.nb p = nb at *
              generalize L p = lp at *
              generalize L' p = lp' at *
              go_wp2
              go_quiet (fail)
              have UR2 := hide ((unhide uH).quiet ((Chg.refl _ _).drewN nq))
              clear cG cU lG lU hni d5 uH
              generalize wr.drewN nq = wA at *
              go_wp2
              go_roundw
              case rel => exact ⟨p + 1, unhide hltH, by simp; try exact wk, unhide UR2⟩
              case measure =>
                have h := unhide hltH
                first
                  | exact meas_list h
                  | (rw [wk]; exact meas_list h)
            · have k1 : ¬ (p : Int) < 5 := by omega
              have c1 : wr.cell? ⟨G, 1, none⟩ = some (.slice x2 i cp2) := by rw [← (unhide hxH).1]; exact R1.b.cell 1
              have uH := hide u
              clear R ok R1 u hn six hlt hp
              go_wp2
              clear c1
              go_loopw [178] (fun z wr => ∃ k : Nat, k ≤ i ∧ z = .int .i64 (k : Int) ∧ UR w wr U L' ub ut us st.C) (fun z _ => i + 1 - (intOf z).toNat)
              case atStart => exact ⟨0, by omega, rfl, unhide uH⟩
              case round =>
                clear uH
                obtain ⟨k, hk, rfl, u⟩ := hrel
                obtain ⟨R, ok⟩ := unhide RH
                have hn := unhide hnH
                have six := unhide sixH
                have R1 := R.quiet u.q
                by_cases hlt : k < i
                · have j1 : (k : Int) < (i : Int) := by omega
                  have j0 : (0 : Int) ≤ (k : Int) := by omega
                  have wj : wrap64 ((k : Int) + 1) = (k : Int) + 1 := wrap_small (k + 1) (by omega)
                  obtain ⟨g2, cap2, l, hl, hv, r0, r1, r2, r3, r4⟩ := R1.try_at k (by omega)
                  obtain ⟨h1, h2⟩ : x2 = some ⟨g2, 0, none⟩ ∧ cp2 = cap2 := by
                    have := (unhide hxH).1.symm.trans hv
                    simp at this; exact ⟨this.1, this.2.2⟩
                  subst h1; subst h2
                  obtain ⟨W1, hW1⟩ : ∃ W, wr.alloc (.cells #[rk (fw l 0), rk (fw l 1), rk (fw l 2), rk (fw l 3), rk (fw l 4)] 50) = W := ⟨_, rfl⟩
                  have u1' : Hid (UR w W1 U L' ub ut us st.C) := by show UR _ _ _ _ _ _ _ _; rw [← hW1]; exact u.quiet (Chg.alloc (Chg.refl _ _) _)
                  have BD : Blk W1 wr.heap.size 50 (wc (fw l)) := by rw [← hW1]; exact Blk.new wr 50 (wc (fw l))
                  have e0 : W1.cell? ⟨wr.heap.size, 0, none⟩ = some (rk (fw l 0)) := BD.cell 0
                  have e1 : W1.cell? ⟨wr.heap.size, 1, none⟩ = some (rk (fw l 1)) := BD.cell 1
                  have e2 : W1.cell? ⟨wr.heap.size, 2, none⟩ = some (rk (fw l 2)) := BD.cell 2
                  have e3 : W1.cell? ⟨wr.heap.size, 3, none⟩ = some (rk (fw l 3)) := BD.cell 3
                  have e4 : W1.cell? ⟨wr.heap.size, 4, none⟩ = some (rk (fw l 4)) := BD.cell 4
                  have hix : Hid (∀ j : Nat, j < 5 → ∀ W, (Instr.index 50 (.agg #[rk (fw l 0), rk (fw l 1), rk (fw l 2), rk (fw l 3), rk (fw l 4)]) (.int .i64 (j : Int))).run Try.prog W = .ok (rk (fw l j)) W) := fun j hj W =>
                    run_index_agg (P := Try.prog) W 50 21 5 Try.underlying50 Try.sizeOf21 Try.isAgg21 _ j hj _ (by have := wc_get (fw l) j hj; simpa [wc] using this)
                  have hltH := hide hlt
                  clear R ok R1 u hn six hlt hk hl hv BD
                  go_wp2
                  clear r0 r1 r2 r3 r4 e0 e1 e2 e3 e4
                  clear hW1
                  go_loopw [183] (fun z wr => ∃ q : Nat, q ≤ 5 ∧ z = .int .i64 (q : Int) ∧ UR w wr U L' ub ut us st.C) (fun z _ => 6 - (intOf z).toNat)
                  case atStart => exact ⟨0, by omega, rfl, unhide u1'⟩
                  case round =>
                    clear u1'
                    obtain ⟨q, hq, rfl, u⟩ := hrel
                    obtain ⟨R, ok⟩ := unhide RH
                    have R1 := R.quiet u.q
                    by_cases hlt : q < 5
                    · have i1 : (q : Int) < 5 := by omega
                      have i0 : (0 : Int) ≤ (q : Int) := by omega
                      have wq : wrap64 ((q : Int) + 1) = (q : Int) + 1 := wrap_small (q + 1) (by omega)
                      have hx5 := unhide hix q hlt
                      have c20 : wr.cell? ⟨G, 20, none⟩ = some (.map (some (L 5))) := R1.b.cell 20
                      have c21 : wr.cell? ⟨G, 21, none⟩ = some (.map (some (L 6))) := R1.b.cell 21
                      have v20 : wr.cell? ⟨U, 20, none⟩ = some (.map (some (L' 5))) := u.b.cell 20
                      have v21 : wr.cell? ⟨U, 21, none⟩ = some (.map (some (L' 6))) := u.b.cell 21
                      have cG : wr.cell? ⟨G, 15 + q, none⟩ = some (.map (some (L q))) := (R1.b.cell (15 + q)).trans (gcells_ban _ _ _ _ _ _ _ _ q hlt)
                      have cU : wr.cell? ⟨U, 15 + q, none⟩ = some (.map (some (L' q))) := (u.b.cell (15 + q)).trans (gcells_ban _ _ _ _ _ _ _ _ q hlt)
                      have h6 := R1.kr.exact2 (fw l q)
                      have h6' := u.kr.exact2 (fw l q)
                      have hl5 := fun m => (R1.kr.quiet ((Chg.refl (fun _ => False) wr).drewN m)).least (fw l q)
                      have hl5' := fun m => (u.kr.quiet ((Chg.refl (fun _ => False) wr).drewN m)).least (fw l q)
                      have hb := fun m => (R1.kr.quiet ((Chg.refl (fun _ => False) wr).drewN m)).banned q hlt (fw l q)
                      have hb' := fun m => (u.kr.quiet ((Chg.refl (fun _ => False) wr).drewN m)).banned q hlt (fw l q)
                      have uH := hide u
                      have hltI := hide hlt
                      clear R ok R1 u hlt hq
                      generalize fw l q = c at *
                      generalize st.C.ban q c = bv at *
                      generalize (st.C.lo c).getD 0 = lo at *
                      generalize (st.C.hi c).getD 0 = hi at *
                      generalize (st.C.hi c).isSome = ok at *
                      generalize L q = lq at *
                      generalize L' q = lq' at *
                      have z1 : (lo != lo) = false := by simp
                      have z2 : (ok != ok) = false := by simp
                      have z3 : (hi != hi) = false := by simp
                      have z4 : (bv != bv) = false := by simp
                      go_wp2
                      go_quiet (fail)
                      have UR2 := hide ((unhide uH).quiet ((Chg.refl _ _).drewN nq))
                      clear c20 c21 v20 v21 cG cU h6 h6' hl5 hl5' hb hb' uH z1 z2 z3 z4 hx5
                      generalize wr.drewN nq = wA at *
                      go_wp2
                      go_roundw
                      case rel => exact ⟨q + 1, unhide hltI, by simp; try exact wq, unhide UR2⟩
                      case measure =>
                        have h := unhide hltI
                        first
                          | exact meas_list h
                          | (rw [wq]; exact meas_list h)
                    · have i1 : ¬ (q : Int) < 5 := by omega
                      have uH := hide u
                      clear R ok R1 u hlt hq hix
                      go_wp2
                      go_roundw
                      case rel => exact ⟨k + 1, unhide hltH, by simp; try exact wj, unhide uH⟩
                      case measure =>
                        have h := unhide hltH
                        first
                          | exact meas_list h
                          | (rw [wj]; exact meas_list h)
                · have j1 : ¬ (k : Int) < (i : Int) := by omega
                  have i2 : wr.cell? ⟨G, 2, none⟩ = some (rk (fw st.sec 0)) := R1.b.cell 2
                  have i3 : wr.cell? ⟨G, 3, none⟩ = some (rk (fw st.sec 1)) := R1.b.cell 3
                  have i4 : wr.cell? ⟨G, 4, none⟩ = some (rk (fw st.sec 2)) := R1.b.cell 4
                  have i5 : wr.cell? ⟨G, 5, none⟩ = some (rk (fw st.sec 3)) := R1.b.cell 5
                  have i6 : wr.cell? ⟨G, 6, none⟩ = some (rk (fw st.sec 4)) := R1.b.cell 6
                  have hcl := allowsG wr G vb vt vs L st ok R1 st.sec
                  rw [agree_self] at hcl
                  unfold ptr wordF wc at hcl
                  have hclH := hide hcl
                  have qH := hide u.q
                  clear R ok R1 u hn six hlt hk hcl
                  go_wp2_with fail
                  refine (unhide hclH).mono ?_
                  clear hclH
                  rintro e w3 ⟨rfl, q3⟩
                  have Q3 := hide ((unhide qH).trans q3)
                  clear q3 qH
                  go_wp2
                  go_ret
                  exact ⟨rfl, unhide Q3⟩
end Go.Proofs.Qxb6500370a
