/-
  THE WALK OF Refines AND RefinesQuiet.
-/
import Derived.Test.Qxb6500363aPlay
import Derived.Test.Qxb6500363aScript
namespace Go.Proofs.Qxb6500363a
open Go.RowKit Go.Qx
set_option linter.unusedSimpArgs false
set_option linter.unusedVariables false

/-- A script in memory: it is nil and empty, or its steps lie one behind the other. -/
structure IsOps (w : World) (a : Option Addr) (len cap : Nat) (ops : List Opr) : Prop where
  count : ops.length = len
  small : len ≤ 9223372036854775807
  cells : ∀ i (h : i < ops.length), ∃ b o, a = some ⟨b, o, none⟩ ∧ b < w.heap.size ∧
    w.cell? ⟨b, o + i * 6, none⟩ = some (.int .i64 ops[i].k) ∧ w.cell? ⟨b, o + i * 6 + 1, none⟩ = some (.int .i64 ops[i].a) ∧ w.cell? ⟨b, o + i * 6 + 2, none⟩ = some (.int .i64 ops[i].b) ∧
    w.cell? ⟨b, o + i * 6 + 3, none⟩ = some (.int .i64 ops[i].c) ∧ w.cell? ⟨b, o + i * 6 + 4, none⟩ = some (.string ops[i].s) ∧ w.cell? ⟨b, o + i * 6 + 5, none⟩ = some (.string ops[i].t)
  fit : ∀ o ∈ ops, In64 o.a ∧ In64 o.b

theorem alike_any (w : World) (r a b m c : Nat) (k : Int) (xs : List Int) (R : RepR w r a b k xs (hots xs)) (M : RepM w m c k xs) (o : Ok k xs) :
    Calls Try.prog 35 #[ptr r, ptr m] w fun e w' => e = .returned (.bool true) ∧ Quiet w w' := by
  have h1 := showR_any w r a b k xs R o
  unfold ptr at h1 ⊢
  go_enter Try.func35, Try.ntmps35
  go_wp2_with fail
  refine h1.mono ?_
  rintro e w1 ⟨rfl, q1⟩
  have h2 := showM_any w1 m c k xs (M.quiet q1) o
  unfold ptr at h2
  go_wp2_with fail
  refine h2.mono ?_
  rintro e w2 ⟨rfl, q2⟩
  have h3 := checkR_any w2 r a b k xs ((R.quiet q1).quiet q2) o
  unfold ptr at h3
  generalize str (showP k xs) = X at *
  have hX : (X.toList == X.toList) = true := by simp
  go_wp2_with fail
  refine h3.mono ?_
  rintro e w3 ⟨rfl, q3⟩
  go_wp2
  go_ret
  exact ⟨rfl, (q1.trans q2).trans q3⟩

/-- Both sides in memory, apart from each other, in new blocks alone, all of them below Z. -/
structure Both (W : World) (Z : Nat) (w : World) (r m : Nat) : Prop where
  chg : Chg (fun x => W.heap.size ≤ x) W w
  reps : ∃ a b c k xs, RepR w r a b k xs (hots xs) ∧ RepM w m c k xs ∧ Ok k xs ∧ (∀ x, ownR r a b x → ¬ ownM m c x) ∧ (∀ x, ownR r a b x → W.heap.size ≤ x ∧ x < Z) ∧ ∀ x, ownM m c x → W.heap.size ≤ x ∧ x < Z

theorem Both.quiet {W w w' : World} {Z r m : Nat} (h : Both W Z w r m) (q : Quiet w w') : Both W Z w' r m := by
  obtain ⟨h1, a, b, c, k, xs, R, M, o, h2, h3, h4⟩ := h
  exact ⟨h1.trans (q.chg _), a, b, c, k, xs, R.quiet q, M.quiet q, o, h2, h3, h4⟩

theorem Both.self {W w : World} {Z r m : Nat} (h : Both W Z w r m) : Both W w.heap.size w r m := by
  obtain ⟨h1, a, b, c, k, xs, R, M, o, h2, h3, h4⟩ := h
  obtain ⟨l1, l2, l3⟩ := R.lts
  obtain ⟨l4, l5⟩ := M.lts
  refine ⟨h1, a, b, c, k, xs, R, M, o, h2, fun x hx => ⟨(h3 x hx).1, ?_⟩, fun x hx => ⟨(h4 x hx).1, ?_⟩⟩
  · rcases hx with rfl | rfl | rfl <;> assumption
  · rcases hx with rfl | rfl <;> assumption

/-- A step that both sides play. -/
theorem both_step {W w : World} {Z r m : Nat} (h : Both W Z w r m) (p : Opr) (ha : In64 p.a) (hb : In64 p.b) :
    ∃ X : An, Calls Try.prog 14 #[.pointer (some ⟨r, 0, none⟩), .agg #[.int .i64 p.k, .int .i64 p.a, .int .i64 p.b, .int .i64 p.c, .string p.s, .string p.t]] w fun e w1 => e = .returned (.agg #[.int .i64 X.e, .int .i64 X.n, .string X.s]) ∧
      Chg (fun x => W.heap.size ≤ x ∧ x < Z) w w1 ∧
      ∀ w2, Quiet w1 w2 → Calls Try.prog 36 #[.pointer (some ⟨m, 0, none⟩), .agg #[.int .i64 p.k, .int .i64 p.a, .int .i64 p.b, .int .i64 p.c, .string p.s, .string p.t]] w2 fun e w3 => e = .returned (.agg #[.int .i64 X.e, .int .i64 X.n, .string X.s]) ∧
        Chg (fun x => W.heap.size ≤ x ∧ x < Z) w2 w3 ∧ Both W w3.heap.size w3 r m := by
  obtain ⟨h1, a, b, c, k, xs, R, M, o, h2, h3, h4⟩ := h
  refine ⟨ansP k xs p, ?_⟩
  refine Calls.mono (do_any w r a b k xs R o p ha hb) ?_
  rintro e w1 ⟨rfl, hch, a', b', ha', hb', R1⟩
  have M1 := M.of_chg hch h2
  obtain ⟨l4, l5⟩ := M.lts
  refine ⟨rfl, hch.mono (fun x _ h => h3 x h), ?_⟩
  intro w2 q2
  refine Calls.mono (dom_any w2 m c k xs (M1.quiet q2) o p ha hb) ?_
  rintro e w3 ⟨rfl, hchm, c', hc', M3⟩
  refine ⟨rfl, hchm.mono (fun x _ h => h4 x h), ?_⟩
  have hz : w.heap.size ≤ w2.heap.size := Nat.le_trans hch.size q2.size
  have hWz := h1.size
  have dis : ∀ x, ownR r a' b' x → ¬ ownM m c x := by
    rintro x (rfl | rfl | rfl) hm
    · exact h2 _ (.inl rfl) hm
    · rcases ha' with rfl | h
      · exact h2 _ (.inr (.inl rfl)) hm
      · rcases hm with rfl | rfl <;> omega
    · rcases hb' with rfl | h
      · exact h2 _ (.inr (.inr rfl)) hm
      · rcases hm with rfl | rfl <;> omega
  have R2 := R1.quiet q2
  obtain ⟨z1, z2, z3⟩ := R2.lts
  have R3 := R2.of_chg hchm (fun x hx hr => dis x hr hx)
  have bel := Both.self (Z := w3.heap.size) (W := W) (w := w3) (r := r) (m := m)
  obtain ⟨y1, y2, y3⟩ := R3.lts
  obtain ⟨y4, y5⟩ := M3.lts
  refine ⟨((h1.trans (hch.mono (fun x _ h => (h3 x h).1))).trans (q2.chg _)).trans (hchm.mono (fun x _ h => (h4 x h).1)), a', b', c', _, _, R3, M3, ok_next o p, ?_, ?_, ?_⟩
  · rintro x hx (rfl | rfl)
    · exact dis _ hx (.inl rfl)
    · rcases hc' with rfl | h
      · exact dis _ hx (.inr rfl)
      · rcases hx with rfl | rfl | rfl <;> omega
  · rintro x (rfl | rfl | rfl)
    · exact ⟨(h3 _ (.inl rfl)).1, y1⟩
    · refine ⟨?_, y2⟩
      rcases ha' with rfl | h
      · exact (h3 _ (.inr (.inl rfl))).1
      · omega
    · refine ⟨?_, y3⟩
      rcases hb' with rfl | h
      · exact (h3 _ (.inr (.inr rfl))).1
      · omega
  · rintro x (rfl | rfl)
    · exact ⟨(h4 _ (.inl rfl)).1, y4⟩
    · refine ⟨?_, y5⟩
      rcases hc' with rfl | h
      · exact (h4 _ (.inr rfl)).1
      · omega

theorem both_alike {W w : World} {Z r m : Nat} (h : Both W Z w r m) : Calls Try.prog 35 #[.pointer (some ⟨r, 0, none⟩), .pointer (some ⟨m, 0, none⟩)] w fun e w' => e = .returned (.bool true) ∧ Quiet w w' := by
  obtain ⟨_, a, b, c, k, xs, R, M, o, _, _, _⟩ := h
  exact alike_any w r a b m c k xs R M o

theorem ok_first : Ok 2 [0, 0] := ⟨by decide, by decide, by decide, by decide, by decide⟩

set_option maxHeartbeats 1000000 in
set_option maxRecDepth 100000 in
theorem walk_any (w : World) (a : Option Addr) (len cap : Nat) (ops : List Opr) (quiet : Bool) (ho : IsOps w a len cap ops) :
    Calls Try.prog 22 #[.slice a len cap, .bool quiet] w fun e w' => (∃ n : Int, e = .returned (.tuple #[.int .i64 (-1), .int .i64 n])) ∧ Below w.heap.size w w' := by
  have hlen := ho.small
  have hnew := newR_any w
  unfold ptr at hnew
  go_enter Try.func22, Try.ntmps22
  go_wp2_with fail
  refine hnew.mono ?_
  clear hnew
  rintro e w1 ⟨r, ra, rb, rfl, q1, ho1, R1⟩
  have hmn := newM_any w1
  unfold ptr at hmn
  go_wp2_with fail
  refine hmn.mono ?_
  clear hmn
  rintro e w2 ⟨m, mc, rfl, q2, ho2, M2⟩
  have hb0 : Both w w2.heap.size w2 r m := by
    have R2 := R1.quiet q2
    obtain ⟨y1, y2, y3⟩ := R2.lts
    obtain ⟨z1, z2, z3⟩ := R1.lts
    obtain ⟨y4, y5⟩ := M2.lts
    have hz := q1.size
    refine ⟨(q1.trans q2).chg _, ra, rb, mc, 2, [0, 0], R2, M2, ok_first, ?_, ?_, ?_⟩
    · intro x hx hm
      have := ho2 x hm
      rcases hx with rfl | rfl | rfl <;> omega
    · intro x hx
      refine ⟨ho1 x hx, ?_⟩
      rcases hx with rfl | rfl | rfl <;> assumption
    · intro x hx
      have := ho2 x hx
      refine ⟨by omega, ?_⟩
      rcases hx with rfl | rfl <;> assumption
  have hb0H := hide hb0
  clear hb0 q1 q2 R1 M2 ho1 ho2
  cases quiet with
  | true =>
    go_wp2
    go_loopw [8] (fun i wr => ∃ j : Nat, j ≤ len ∧ i = .int .i64 j ∧ Both w wr.heap.size wr r m) (fun i _ => len - (intOf i).toNat)
    case atStart => exact ⟨0, Nat.zero_le _, rfl, unhide hb0H⟩
    case round =>
      obtain ⟨j, hj, rfl, hb⟩ := hrel
      have hbel : Below w.heap.size w wr := hb.chg.below _ (Nat.le_refl _) (fun _ h => h)
      have hbelH := hide hbel
      clear hbel
      by_cases hlt : j < len
      · by_cases hmax : (j : Int) < 4398046511104
        · have hjo : j < ops.length := by rw [ho.count]; exact hlt
          obtain ⟨sb, so, rfl, hsb, k0, k1, k2, k3, k4, k5⟩ := ho.cells j hjo
          have hfit := ho.fit ops[j] (List.getElem_mem hjo)
          generalize ops[j] = o at *
          obtain ⟨ok, oa, ob, oc, os, ot⟩ := o
          simp only at k0 k1 k2 k3 k4 k5 hfit
          have i1 : (0 : Int) ≤ (j : Int) := by omega
          have i2 : (j : Int) < (len : Int) := by omega
          have g1 : decide (j < len) = true := by simpa using hlt
          have hbl := unhide hbelH
          rw [← hbl.cell (p := ⟨sb, so + j * 6, none⟩) hsb] at k0
          rw [← hbl.cell (p := ⟨sb, so + j * 6 + 1, none⟩) hsb] at k1
          rw [← hbl.cell (p := ⟨sb, so + j * 6 + 2, none⟩) hsb] at k2
          rw [← hbl.cell (p := ⟨sb, so + j * 6 + 3, none⟩) hsb] at k3
          rw [← hbl.cell (p := ⟨sb, so + j * 6 + 4, none⟩) hsb] at k4
          rw [← hbl.cell (p := ⟨sb, so + j * 6 + 5, none⟩) hsb] at k5
          clear hbl
          have hq0 : Quiet wr (wr.alloc (.cells #[.int .i64 ok, .int .i64 oa, .int .i64 ob, .int .i64 oc, .string os, .string ot] 34)) := (Chg.refl _ _).alloc _
          have hb4 := hb.quiet hq0
          have bo := Blk.new wr 34 [.int .i64 ok, .int .i64 oa, .int .i64 ob, .int .i64 oc, .string os, .string ot]
          clear hq0
          have z4 := bo.lt
          obtain ⟨⟨xe, xn, xs⟩, hdo⟩ := both_step hb4 ⟨ok, oa, ob, oc, os, ot⟩ hfit.1 hfit.2
          simp only at hdo
          have hdoH := hide hdo
          clear hdo hb4
          go_wp2_with fail
          refine (unhide hdoH).mono ?_
          clear hdoH
          rintro e w5 ⟨rfl, hch5, hdom⟩
          have bo5 := hch5.blk bo (by omega)
          have z5 := bo5.lt
          have co5 := bo5.cell
          have hdm := hdom (w5.alloc (.cells #[.int .i64 xe, .int .i64 xn, .string xs] 37)) ((Chg.refl _ _).alloc _)
          have bx := Blk.new w5 37 [.int .i64 xe, .int .i64 xn, .string xs]
          have hdmH := hide hdm
          clear hdm hdom
          go_wp2_with fail
          refine (unhide hdmH).mono ?_
          clear hdmH co5
          rintro e w7 ⟨rfl, hch7, hb7⟩
          have bx7 := hch7.blk bx (by omega)
          have z7 := bx7.lt
          have cx := bx7.cell
          have hb8 : Both w w7.heap.size (w7.alloc (.cells #[.int .i64 xe, .int .i64 xn, .string xs] 37)) r m := hb7.quiet ((Chg.refl _ _).alloc _)
          have hb8H := hide hb8
          clear hb8 hb7
          go_wp2
          go_roundw
          case rel => exact ⟨j + 1, by omega, by go_num, (unhide hb8H).self⟩
          case measure => simp [intOf]; omega
        · have g1 : decide (j < len) = true := by simpa using hlt
          have g2 : ¬ (j : Int) < 4398046511104 := hmax
          have g3 : ¬ (len : Int) < 4398046511104 := by omega
          clear hb hmax
          go_wp2
          go_ret2
          exact ⟨⟨_, rfl⟩, unhide hbelH⟩
      · have g1 : decide (j < len) = false := by simpa using hlt
        have g2 : ¬ (j : Int) < (len : Int) := by omega
        by_cases g3 : (len : Int) < 4398046511104
        · go_wp2
          go_ret2
          exact ⟨⟨_, rfl⟩, unhide hbelH⟩
        · go_wp2
          go_ret2
          exact ⟨⟨_, rfl⟩, unhide hbelH⟩
  | false =>
    go_wp2_with fail
    refine (both_alike (unhide hb0H)).mono ?_
    rintro e w3 ⟨rfl, q3⟩
    have hb3 := hide (((unhide hb0H).quiet q3).self)
    clear hb0H
    go_wp2
    go_loopw [8] (fun i wr => ∃ j : Nat, j ≤ len ∧ i = .int .i64 j ∧ Both w wr.heap.size wr r m) (fun i _ => len - (intOf i).toNat)
    case atStart => exact ⟨0, Nat.zero_le _, rfl, unhide hb3⟩
    case round =>
      obtain ⟨j, hj, rfl, hb⟩ := hrel
      have hbel : Below w.heap.size w wr := hb.chg.below _ (Nat.le_refl _) (fun _ h => h)
      have hbelH := hide hbel
      clear hbel
      by_cases hlt : j < len
      · by_cases hmax : (j : Int) < 4398046511104
        · have hjo : j < ops.length := by rw [ho.count]; exact hlt
          obtain ⟨sb, so, rfl, hsb, k0, k1, k2, k3, k4, k5⟩ := ho.cells j hjo
          have hfit := ho.fit ops[j] (List.getElem_mem hjo)
          generalize ops[j] = o at *
          obtain ⟨ok, oa, ob, oc, os, ot⟩ := o
          simp only at k0 k1 k2 k3 k4 k5 hfit
          have i1 : (0 : Int) ≤ (j : Int) := by omega
          have i2 : (j : Int) < (len : Int) := by omega
          have g1 : decide (j < len) = true := by simpa using hlt
          have hbl := unhide hbelH
          rw [← hbl.cell (p := ⟨sb, so + j * 6, none⟩) hsb] at k0
          rw [← hbl.cell (p := ⟨sb, so + j * 6 + 1, none⟩) hsb] at k1
          rw [← hbl.cell (p := ⟨sb, so + j * 6 + 2, none⟩) hsb] at k2
          rw [← hbl.cell (p := ⟨sb, so + j * 6 + 3, none⟩) hsb] at k3
          rw [← hbl.cell (p := ⟨sb, so + j * 6 + 4, none⟩) hsb] at k4
          rw [← hbl.cell (p := ⟨sb, so + j * 6 + 5, none⟩) hsb] at k5
          clear hbl
          have hq0 : Quiet wr (wr.alloc (.cells #[.int .i64 ok, .int .i64 oa, .int .i64 ob, .int .i64 oc, .string os, .string ot] 34)) := (Chg.refl _ _).alloc _
          have hb4 := hb.quiet hq0
          have bo := Blk.new wr 34 [.int .i64 ok, .int .i64 oa, .int .i64 ob, .int .i64 oc, .string os, .string ot]
          clear hq0
          have z4 := bo.lt
          obtain ⟨⟨xe, xn, xs⟩, hdo⟩ := both_step hb4 ⟨ok, oa, ob, oc, os, ot⟩ hfit.1 hfit.2
          simp only at hdo
          have hdoH := hide hdo
          clear hdo hb4
          go_wp2_with fail
          refine (unhide hdoH).mono ?_
          clear hdoH
          rintro e w5 ⟨rfl, hch5, hdom⟩
          have bo5 := hch5.blk bo (by omega)
          have z5 := bo5.lt
          have co5 := bo5.cell
          have hdm := hdom (w5.alloc (.cells #[.int .i64 xe, .int .i64 xn, .string xs] 37)) ((Chg.refl _ _).alloc _)
          have bx := Blk.new w5 37 [.int .i64 xe, .int .i64 xn, .string xs]
          have hdmH := hide hdm
          clear hdm hdom
          go_wp2_with fail
          refine (unhide hdmH).mono ?_
          clear hdmH co5
          rintro e w7 ⟨rfl, hch7, hb7⟩
          have bx7 := hch7.blk bx (by omega)
          have z7 := bx7.lt
          have cx := bx7.cell
          have hb8 : Both w w7.heap.size (w7.alloc (.cells #[.int .i64 xe, .int .i64 xn, .string xs] 37)) r m := hb7.quiet ((Chg.refl _ _).alloc _)
          have hb8H := hide hb8
          clear hb8 hb7
          go_wp2_with fail
          refine (both_alike (unhide hb8H)).mono ?_
          rintro e w9 ⟨rfl, q9⟩
          go_wp2
          go_roundw
          case rel => exact ⟨j + 1, by omega, by go_num, ((unhide hb8H).quiet q9).self⟩
          case measure => simp [intOf]; omega
        · have g1 : decide (j < len) = true := by simpa using hlt
          have g2 : ¬ (j : Int) < 4398046511104 := hmax
          have g3 : ¬ (len : Int) < 4398046511104 := by omega
          clear hb hmax
          go_wp2
          go_ret2
          exact ⟨⟨_, rfl⟩, unhide hbelH⟩
      · have g1 : decide (j < len) = false := by simpa using hlt
        have g2 : ¬ (j : Int) < (len : Int) := by omega
        by_cases g3 : (len : Int) < 4398046511104
        · go_wp2
          go_ret2
          exact ⟨⟨_, rfl⟩, unhide hbelH⟩
        · go_wp2
          go_ret2
          exact ⟨⟨_, rfl⟩, unhide hbelH⟩
end Go.Proofs.Qxb6500363a
