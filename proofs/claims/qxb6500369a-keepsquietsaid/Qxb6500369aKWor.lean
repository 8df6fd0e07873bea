/-
  369 Keeps: worst, counted.
-/
import Derived.Test.Qxb6500369aKActA
namespace Go.Proofs.Qxb6500369a
open Go.RowKit Go.Qx
set_option linter.unusedSimpArgs false
set_option linter.unusedVariables false

/-- The falling ring: i joins have been tried. -/
def WI (W wr : World) (x a b g : Nat) (top : Int) (i : Nat) : Prop :=
  ∃ ns ord G O, KS W wr x a b g (-1) ns ord G O ∧ ns.length = (if i ≤ 8 then i else 8) ∧ (∀ j : Nat, j < ns.length → idf ns j = top - j)

theorem WI.join {W w : World} {x a b g : Nat} {top : Int} {i : Nat} (h : WI W w x a b g top i) (hi : i ≤ 8) (hlt : (i : Int) < top) (ht : top ≤ 9223372036854775807) :
    Calls Try.prog 14 #[ptr x, ptr g, .agg #[.int .i64 1, .int .i64 (top - i), .int .i64 0, .int .i64 0, .string ⟨#[]⟩, .string ⟨#[]⟩]] w fun e w' => e = .returned (.tuple #[]) ∧ WI W w' x a b g top (i + 1) := by
  obtain ⟨ns, ord, G, O, S, hl, hf⟩ := h
  rw [if_pos hi] at hl
  refine (act_any S 1 (top - i) 0 0 ⟨#[]⟩ ⟨#[]⟩ (.inl rfl) (by unfold In64; omega)).mono ?_
  rintro e w' ⟨rfl, ord', G', O', S', _⟩
  have hnx : nextP (-1) ns ⟨0, 0, 0⟩ ⟨1, top - i, 0, 0, ⟨#[]⟩, ⟨#[]⟩⟩ = (-1, joinN (-1) ns (top - i)) := by simp [nextP]
  rw [hnx] at S'
  refine ⟨rfl, _, ord', G', O', S', ?_, ?_⟩
  · unfold joinN
    by_cases h8 : i = 8
    · have : joinE (-1) ns (top - i) = 2 := by unfold joinE; simp; omega
      rw [this, if_neg (by decide), if_neg (by omega), hl, h8]
    · have : joinE (-1) ns (top - i) = 0 := by
        unfold joinE
        have hno : hasId ns (top - i) = false := by
          cases hh : hasId ns (top - i)
          · rfl
          · exfalso
            rw [hasId_iff, List.mem_map] at hh
            obtain ⟨c, h1, h2⟩ := hh
            obtain ⟨j, hj, e⟩ := List.getElem_of_mem h1
            have h3 := hf j hj
            have h4 : idf ns j = c.id := by
              unfold idf vf; rw [List.getD_eq_getElem?_getD, List.getElem?_eq_getElem hj, e]; rfl
            omega
        simp [hno]; omega
      rw [this, if_pos rfl, if_pos (by omega)]
      simp [hl]
  · intro j hj
    show idf (joinN (-1) ns (top - i)) j = _
    replace hj : j < (joinN (-1) ns (top - i)).length := hj
    unfold joinN at hj ⊢
    split at hj
    · rename_i hE
      rw [if_pos hE]
      by_cases e : j < ns.length
      · unfold idf; rw [vf_snoc e]; exact hf j e
      · have : j = ns.length := by simp at hj; omega
        subst this
        unfold idf; rw [vf_last]; simp only; omega
    · rename_i hE
      rw [if_neg hE]; exact hf j hj

set_option maxHeartbeats 8000000 in
set_option maxRecDepth 100000 in
theorem worst_any (W w : World) (x a b g : Nat) (mode : Int) (ns : List N5) (ord : List Int) (G : Gh) (O : Nat → Prop) (S : KS W w x a b g mode ns ord G O) (top : Int) (ht : In64 top) :
    Calls Try.prog 17 #[ptr x, ptr g, .int .i64 top] w fun e w' => e = .returned (.tuple #[]) ∧ ∃ mode' ns' ord' G' O', KS W w' x a b g mode' ns' ord' G' O' := by
  have h1 : Hid (Calls Try.prog 14 #[.pointer (some ⟨x, 0, none⟩), .pointer (some ⟨g, 0, none⟩), .agg #[.int .i64 3, .int .i64 0, .int .i64 0, .int .i64 0, .string ⟨#[]⟩, .string ⟨#[]⟩]] w fun e w' => e = .returned (.tuple #[]) ∧ WI W w' x a b g top 0) := by
    refine (act_any S 3 0 0 0 ⟨#[]⟩ ⟨#[]⟩ (.inr (.inr (.inl rfl))) (by unfold In64; omega)).mono ?_
    rintro e w' ⟨rfl, ord', G', O', S', _⟩
    exact ⟨rfl, [], ord', G', O', S', rfl, fun j hj => by simp at hj⟩
  have htl := ht.1
  have hth := ht.2
  clear S ht
  unfold ptr
  go_enter Try.func17, Try.ntmps17
  go_wp2_with fail
  refine (unhide h1).mono ?_
  clear h1
  rintro e w1 ⟨rfl, hW1⟩
  have hW1H := hide hW1
  clear hW1
  go_wp2
  go_loopw [6] (fun i wr => ∃ k : Nat, k ≤ 9 ∧ i = .int .i64 k ∧ WI W wr x a b g top k) (fun i _ => 10 - (intOf i).toNat)
  case atStart => exact ⟨0, by omega, rfl, unhide hW1H⟩
  case round =>
    clear hW1H
    obtain ⟨k, hk, rfl, hS⟩ := hrel
    by_cases hlt : (k : Int) < top ∧ k ≤ 8
    · have i1 : (k : Int) < top := hlt.1
      have i2 : (k : Int) ≤ 8 := by omega
      have hwf := worst_fn wr top k (by omega) (by omega)
      have hj := hide (hS.join hlt.2 hlt.1 hth)
      unfold ptr at hj
      have wk : IntKind.i64.wrap ((k : Int) + 1) = (k : Int) + 1 := by rw [IntKind.wrap_i64]; omega
      clear hS
      go_wp2_with fail
      refine hwf.mono ?_
      clear hwf
      rintro e w2 ⟨rfl, rfl⟩
      go_wp2_with fail
      refine (unhide hj).mono ?_
      clear hj
      rintro e w3 ⟨rfl, h3⟩
      have h3H := hide h3
      clear h3
      go_wp2
      go_roundw
      case rel => exact ⟨k + 1, by omega, by go_num, unhide h3H⟩
      case measure => simp [intOf]; omega
    · have hst : Hid (Calls Try.prog 14 #[.pointer (some ⟨x, 0, none⟩), .pointer (some ⟨g, 0, none⟩), .agg #[.int .i64 2, .int .i64 0, .int .i64 0, .int .i64 0, .string ⟨#[]⟩, .string ⟨#[]⟩]] wr fun e w' => e = .returned (.tuple #[]) ∧ ∃ ns ord G O, KS W w' x a b g 0 ns ord G O ∧ ∀ j : Nat, j < ns.length → idf ns j = top - j) := by
        obtain ⟨ns, ord, G, O, S, hl, hf⟩ := hS
        refine (act_any S 2 0 0 0 ⟨#[]⟩ ⟨#[]⟩ (.inr (.inl rfl)) (by unfold In64; omega)).mono ?_
        rintro e w' ⟨rfl, ord', G', O', S', _⟩
        have hnx : nextP (-1) ns ⟨0, 0, 0⟩ ⟨2, 0, 0, 0, ⟨#[]⟩, ⟨#[]⟩⟩ = (0, ns) := by simp [nextP, startP]
        rw [hnx] at S'
        exact ⟨rfl, ns, ord', G', O', S', hf⟩
      clear hS
      have step : (∀ (u : Prop), u → True) := fun _ _ => trivial
      by_cases hlt1 : (k : Int) < top
      · have i1 : (k : Int) < top := hlt1
        have i2 : ¬ (k : Int) ≤ 8 := by omega
        go_wp2_with fail
        refine (unhide hst).mono ?_
        clear hst
        rintro e w4 ⟨rfl, ns, ord, G, O, S, hf⟩
        obtain ⟨vi, vw, H, hO⟩ := S.gh
        have f9 := H.blk.frozen 9
        have c9 : w4.cell? ⟨g, 9, none⟩ = some (.bool G.worst) := H.blk.cell 9
        have c5 : Chg (fun k => k = g) w4 (w4.setCell ⟨g, 9, none⟩ (.bool true)) := chg_set _ w4 g 9 _ rfl
        have H2 := H.set1c (G' := { G with worst := true }) 9 (.bool true) rfl rfl rfl
        have L2 : KI 0 ns { G with worst := true } := { S.law with wst := fun _ => ⟨rfl, top, hf⟩ }
        have fin := hide (S.next (c5.mono (fun k _ h => .inl (hO k (.inl h)))) (S.rep.of_chg c5 (fun k hk => by subst hk; exact S.dis k (hO k (.inl rfl)))) S.inv ⟨vi, vw, H2, fun k h => .inl (hO k h)⟩ L2)
        clear S H hO c5 H2 L2 hf
        go_wp2
        go_end0
        exact ⟨rfl, _, _, _, _, _, unhide fin⟩
      · have i1 : ¬ (k : Int) < top := hlt1
        go_wp2_with fail
        refine (unhide hst).mono ?_
        clear hst
        rintro e w4 ⟨rfl, ns, ord, G, O, S, hf⟩
        obtain ⟨vi, vw, H, hO⟩ := S.gh
        have f9 := H.blk.frozen 9
        have c9 : w4.cell? ⟨g, 9, none⟩ = some (.bool G.worst) := H.blk.cell 9
        have c5 : Chg (fun k => k = g) w4 (w4.setCell ⟨g, 9, none⟩ (.bool true)) := chg_set _ w4 g 9 _ rfl
        have H2 := H.set1c (G' := { G with worst := true }) 9 (.bool true) rfl rfl rfl
        have L2 : KI 0 ns { G with worst := true } := { S.law with wst := fun _ => ⟨rfl, top, hf⟩ }
        have fin := hide (S.next (c5.mono (fun k _ h => .inl (hO k (.inl h)))) (S.rep.of_chg c5 (fun k hk => by subst hk; exact S.dis k (hO k (.inl rfl)))) S.inv ⟨vi, vw, H2, fun k h => .inl (hO k h)⟩ L2)
        clear S H hO c5 H2 L2 hf
        go_wp2
        go_end0
        exact ⟨rfl, _, _, _, _, _, unhide fin⟩

theorem tri_int (n : Nat) (h8 : n ≤ 8) : ∃ t : Nat, IntKind.i64.wrap (IntKind.i64.wrap ((n : Int) * IntKind.i64.wrap ((n : Int) + 1)) |>.tdiv 2) = t ∧ (n : Int) * (n + 1) / 2 = t := by
  rcases (by omega : n = 0 ∨ n = 1 ∨ n = 2 ∨ n = 3 ∨ n = 4 ∨ n = 5 ∨ n = 6 ∨ n = 7 ∨ n = 8) with rfl | rfl | rfl | rfl | rfl | rfl | rfl | rfl | rfl
  · exact ⟨0, by decide, by decide⟩
  · exact ⟨1, by decide, by decide⟩
  · exact ⟨3, by decide, by decide⟩
  · exact ⟨6, by decide, by decide⟩
  · exact ⟨10, by decide, by decide⟩
  · exact ⟨15, by decide, by decide⟩
  · exact ⟨21, by decide, by decide⟩
  · exact ⟨28, by decide, by decide⟩
  · exact ⟨36, by decide, by decide⟩

set_option maxHeartbeats 8000000 in
set_option maxRecDepth 100000 in
theorem counted_any (w : World) (g : Nat) (vi vw : Value) (G : Gh) (n : Nat) (H : GhR w g vi vw G) (hn : G.ids.length = n) (h8 : n ≤ 8) (C : Cnt G.mode n G) :
    Calls Try.prog 18 #[ptr g] w fun e w' => e = .returned (.bool true) ∧ Quiet w w' := by
  obtain ⟨ai, ci, rfl⟩ := H.ri.shape
  rw [hn] at H
  have hb := bound_any w G.mode n h8
  have c0 : w.cell? ⟨g, 0, none⟩ = some (.slice ai n ci) := H.blk.cell 0
  have c3 : w.cell? ⟨g, 3, none⟩ = some (.int .i64 G.s1) := H.blk.cell 3
  have c4 : w.cell? ⟨g, 4, none⟩ = some (.int .i64 G.s2) := H.blk.cell 4
  have c5 : w.cell? ⟨g, 5, none⟩ = some (.int .i64 G.s3) := H.blk.cell 5
  have c7 : w.cell? ⟨g, 7, none⟩ = some (.int .i64 G.mode) := H.blk.cell 7
  have hgl := H.blk.lt
  have hbv := bound_val G.mode n h8
  have p1 := C.p1
  have p2 := C.p2
  have p3 := C.p3
  have pb := C.b
  have pb3 := C.b3
  have hcr := C.cr
  generalize boundP G.mode n = bb at *
  have w1 : IntKind.i64.wrap (G.s1 + G.s2) = G.s1 + G.s2 := by rw [IntKind.wrap_i64]; omega
  have w2 : IntKind.i64.wrap (G.s1 + G.s2 + G.s3) = G.s1 + G.s2 + G.s3 := by rw [IntKind.wrap_i64]; omega
  have d1 : decide (bb < G.s1 + G.s2 + G.s3) = false := by simp; omega
  have d2 : decide ((n : Int) < G.s3) = false := by simp; omega
  clear C hn
  have HH := hide H
  clear H
  generalize hs1 : G.s1 = s1 at *
  generalize hs2 : G.s2 = s2 at *
  generalize hs3 : G.s3 = s3 at *
  generalize hmo : G.mode = mode at *
  clear hs1 hs2 hs3 hmo
  unfold ptr
  go_enter Try.func18, Try.ntmps18
  go_wp2_with fail
  refine hb.mono ?_
  clear hb
  rintro e v ⟨rfl, rfl⟩
  go_wp2
  go_big_quiet (fail)
  have qd : Quiet v (v.drewN nq) := (Chg.refl _ _).drewN nq
  have c3' := qd.cell c3
  have c4' := qd.cell c4
  have c7' := qd.cell c7
  have qH := hide qd
  have hgl' : g < (v.drewN nq).heap.size := hgl
  generalize v.drewN nq = V at *
  clear c0 c3 c4 c5 c7 qd hgl
  by_cases hm : mode = 0
  · subst hm
    obtain ⟨q1, q2⟩ := hcr rfl
    subst q2
    rcases (by omega : n = 0 ∨ n = 1 ∨ n = 2 ∨ n = 3 ∨ n = 4 ∨ n = 5 ∨ n = 6 ∨ n = 7 ∨ n = 8) with rfl | rfl | rfl | rfl | rfl | rfl | rfl | rfl | rfl
    all_goals
      simp at q1
      go_wp2
      go_ret
      exact ⟨rfl, unhide qH⟩
  · have m1 : (mode == 0) = false := by simpa using hm
    have m2 : (mode != 0) = true := by rw [bne, m1]; rfl
    clear hcr
    go_wp2
    go_ret
    exact ⟨rfl, unhide qH⟩
end Go.Proofs.Qxb6500369a
