/-
  THE WALK OF Refines AND RefinesQuiet. (gen9walk.py)
-/
import Derived.Test.Qxb6500369aPlay
import Derived.Test.Qxb6500369aScript
import Derived.Deep.DeepCutAuto
namespace Go.Proofs.Qxb6500369a
open Go.RowKit Go.Qx
set_option linter.unusedSimpArgs false
set_option linter.unusedVariables false

/-- A script in memory: it is nil and empty, or its steps lie one behind the other. -/
structure IsOps (w : World) (a : Option Addr) (len cap : Nat) (ops : List Opr) : Prop where
  count : ops.length = len
  small : len ≤ 9223372036854775807
  cells : ∀ i (h : i < ops.length), ∃ b o, a = some ⟨b, o, none⟩ ∧ b < w.heap.size ∧
    w.cell? ⟨b, o + i * 6, none⟩ = some (.int .i64 ops[i].k) ∧ w.cell? ⟨b, o + i * 6 + 1, none⟩ = some (.int .i64 ops[i].a) ∧ w.cell? ⟨b, o + i * 6 + 2, none⟩ = some (.int .i64 ops[i].b) ∧
    w.cell? ⟨b, o + i * 6 + 3, none⟩ = some (.int .i64 ops[i].c) ∧ w.cell? ⟨b, o + i * 6 + 4, none⟩ = some (.string ops[i].s) ∧ w.cell? ⟨b, o + i * 6 + 5, none⟩ = some (.string ops[i].t)
  fit : ∀ o ∈ ops, In64 o.a ∧ In64 o.b ∧ In64 o.c

/-- Both sides in memory, apart from each other and from G, in new blocks alone, all of them below Z. -/
structure Both (W : World) (Z G : Nat) (w : World) (x m : Nat) : Prop where
  chg : Chg (fun k => W.heap.size ≤ k) W w
  reps : ∃ a b v mode ns ord, Rep w x a b mode ns ord ∧ RepM w m v mode ns ∧ Inv mode ns ord ∧ (∀ k, own x a b k → ¬ ownM m v k) ∧ (∀ k, own x a b k → W.heap.size ≤ k ∧ k < Z ∧ k ≠ G) ∧ ∀ k, ownM m v k → W.heap.size ≤ k ∧ k < Z ∧ k ≠ G

theorem Both.of_chg {W w w' : World} {Z G x m : Nat} (h : Both W Z G w x m) (hG : W.heap.size ≤ G) (q : Chg (fun k => k = G) w w') : Both W Z G w' x m := by
  obtain ⟨h1, a, b, v, mode, ns, ord, R, M, I, h2, h3, h4⟩ := h
  refine ⟨h1.trans' q (fun i hi e => ?_), a, b, v, mode, ns, ord, R.of_chg q (fun k e hk => (h3 k hk).2.2 e), M.of_chg q (fun k e hk => (h4 k hk).2.2 e), I, h2, h3, h4⟩
  omega

theorem Both.quiet {W w w' : World} {Z G x m : Nat} (h : Both W Z G w x m) (q : Quiet w w') : Both W Z G w' x m := by
  obtain ⟨h1, a, b, v, mode, ns, ord, R, M, I, h2, h3, h4⟩ := h
  exact ⟨h1.trans (q.chg _), a, b, v, mode, ns, ord, R.quiet q, M.quiet q, I, h2, h3, h4⟩

theorem Both.self {W w : World} {Z G x m : Nat} (h : Both W Z G w x m) : Both W w.heap.size G w x m := by
  obtain ⟨h1, a, b, v, mode, ns, ord, R, M, I, h2, h3, h4⟩ := h
  exact ⟨h1, a, b, v, mode, ns, ord, R, M, I, h2, fun k hk => ⟨(h3 k hk).1, R.lts k hk, (h3 k hk).2.2⟩, fun k hk => ⟨(h4 k hk).1, M.lts k hk, (h4 k hk).2.2⟩⟩

/-- A step that both sides play. -/
theorem both_step {W w : World} {Z G x m : Nat} (h : Both W Z G w x m) (hG : G < w.heap.size) (p : Opr) (ha : In64 p.a) (g : Ms) (hg : MsIn g) (hh : g.hop ≤ 9223372036854775807) :
    ∃ X : An, Calls Try.prog 21 #[.pointer (some ⟨x, 0, none⟩), .agg #[.int .i64 p.k, .int .i64 p.a, .int .i64 p.b, .int .i64 p.c, .string p.s, .string p.t], .agg #[.int .i64 g.k, .int .i64 g.id, .int .i64 g.hop]] w fun e w1 => e = .returned (.agg #[.int .i64 X.e, .int .i64 X.n, .int .i64 X.o.cw.k, .int .i64 X.o.cw.id, .int .i64 X.o.cw.hop, .int .i64 X.o.ccw.k, .int .i64 X.o.ccw.id, .int .i64 X.o.ccw.hop, .int .i64 X.d.id, .int .i64 X.d.st, .int .i64 X.d.lead, .int .i64 X.d.reach, .int .i64 X.d.got, .string X.s]) ∧
      Chg (fun k => W.heap.size ≤ k ∧ k < Z ∧ k ≠ G) w w1 ∧
      ∀ w2, Quiet w1 w2 → Calls Try.prog 32 #[.pointer (some ⟨m, 0, none⟩), .agg #[.int .i64 p.k, .int .i64 p.a, .int .i64 p.b, .int .i64 p.c, .string p.s, .string p.t], .agg #[.int .i64 g.k, .int .i64 g.id, .int .i64 g.hop]] w2 fun e w3 => e = .returned (.agg #[.int .i64 X.e, .int .i64 X.n, .int .i64 X.o.cw.k, .int .i64 X.o.cw.id, .int .i64 X.o.cw.hop, .int .i64 X.o.ccw.k, .int .i64 X.o.ccw.id, .int .i64 X.o.ccw.hop, .int .i64 X.d.id, .int .i64 X.d.st, .int .i64 X.d.lead, .int .i64 X.d.reach, .int .i64 X.d.got, .string X.s]) ∧
        Chg (fun k => W.heap.size ≤ k ∧ k < Z ∧ k ≠ G) w2 w3 ∧ Both W w3.heap.size G w3 x m := by
  obtain ⟨h1, a, b, v, mode, ns, ord, R, M, I, h2, h3, h4⟩ := h
  refine ⟨ansP mode ns g p, ?_⟩
  refine Calls.mono (do_any w x a b mode ns ord R I g hg hh p ha) ?_
  rintro e w1 ⟨rfl, hch, ord', R1, I1⟩
  have M1 := M.of_chg hch h2
  have hl := M.lts
  refine ⟨rfl, hch.mono (fun k _ h => h3 k h), ?_⟩
  intro w2 q2
  refine Calls.mono (dom_any w2 m v mode ns ord (M1.quiet q2) I R.n8 g hh p) ?_
  rintro e w3 ⟨rfl, hchm, v', M3, hf⟩
  refine ⟨rfl, hchm.mono (fun k _ h => h4 k h), ?_⟩
  have hz : w.heap.size ≤ w2.heap.size := Nat.le_trans hch.size q2.size
  have hWz := h1.size
  have R2 := R1.quiet q2
  have R3 := R2.of_chg hchm (fun k hx hr => h2 k hr hx)
  refine ⟨((h1.trans (hch.mono (fun k _ h => (h3 k h).1))).trans (q2.chg _)).trans (hchm.mono (fun k _ h => (h4 k h).1)), a, b, v', _, _, ord', R3, M3, I1, ?_, ?_, ?_⟩
  · rintro k hk (rfl | e)
    · exact h2 _ hk (.inl rfl)
    · rcases hf _ e with e | e
      · exact h2 _ hk (.inr e)
      · have := R.lts k hk; omega
  · intro k hk
    exact ⟨(h3 k hk).1, R3.lts k hk, (h3 k hk).2.2⟩
  · intro k hk
    refine ⟨?_, M3.lts k hk, ?_⟩
    · rcases hk with rfl | e
      · exact (h4 _ (.inl rfl)).1
      · rcases hf _ e with e | e
        · exact (h4 _ (.inr e)).1
        · omega
    · rcases hk with rfl | e
      · exact (h4 _ (.inl rfl)).2.2
      · rcases hf _ e with e | e
        · exact (h4 _ (.inr e)).2.2
        · omega

theorem both_look {W w : World} {Z G x m : Nat} (h : Both W Z G w x m) : ∃ S : ByteArray,
    (∀ w1, Quiet w w1 → Calls Try.prog 30 #[.pointer (some ⟨x, 0, none⟩)] w1 fun e w' => e = .returned (.string S) ∧ Quiet w1 w') ∧
    (∀ w1, Quiet w w1 → Calls Try.prog 33 #[.pointer (some ⟨m, 0, none⟩)] w1 fun e w' => e = .returned (.string S) ∧ Quiet w1 w') ∧
    (∀ w1, Quiet w w1 → Calls Try.prog 34 #[.pointer (some ⟨x, 0, none⟩)] w1 fun e w' => e = .returned (.bool true) ∧ Quiet w1 w') := by
  obtain ⟨h1, a, b, v, mode, ns, ord, R, M, I, h2, h3, h4⟩ := h
  exact ⟨str (showP mode ns), fun w1 q => show_any w1 x a b mode ns ord (R.quiet q) I.stgot I.mode64 I.in5, fun w1 q => mshow_any w1 m v mode ns (M.quiet q) R.n8 I.mode64 I.in5, fun w1 q => check_any w1 x a b mode ns ord (R.quiet q) I.ord I.mo I.ok⟩

set_option maxHeartbeats 4000000 in
set_option maxRecDepth 100000 in
theorem walk_any (w : World) (a : Option Addr) (len cap : Nat) (ops : List Opr) (quiet : Bool) (ho : IsOps w a len cap ops) :
    Calls Try.prog 20 #[.slice a len cap, .bool quiet] w fun e w' => (∃ n : Int, e = .returned (.tuple #[.int .i64 (-1), .int .i64 n])) ∧ Below w.heap.size w w' := by
  have hlen := ho.small
  have hnew := new_any w
  unfold ptr newPost at hnew
  go_enter Try.func20, Try.ntmps20
  go_wp2_with fail
  refine hnew.mono ?_
  clear hnew
  rintro e w1 ⟨x, ra, rb, rfl, q1, ho1, R1⟩
  have hmn := mnew_any w1
  unfold ptr at hmn
  go_wp2_with fail
  refine hmn.mono ?_
  clear hmn
  rintro e w2 ⟨m, rfl, q2, ho2, M2⟩
  have hb0 : Both w w2.heap.size w2.heap.size w2 x m := by
    have R2 := R1.quiet q2
    have hz := q1.size
    refine ⟨(q1.trans q2).chg _, ra, rb, _, -1, [], _, R2, M2, inv_first, ?_, ?_, ?_⟩
    · intro k hk hm
      have h1 := R1.lts k hk
      rcases hm with rfl | e
      · omega
      · simp [Value.ownBlock] at e
    · intro k hk
      have := R2.lts k hk
      exact ⟨ho1 k hk, this, by omega⟩
    · intro k hk
      have := M2.lts k hk
      refine ⟨?_, this, by omega⟩
      rcases hk with rfl | e
      · omega
      · simp [Value.ownBlock] at e
  have hb0' : Both w w2.heap.size w2.heap.size (w2.alloc (.cells #[.int .i64 0, .int .i64 0, .int .i64 0] 55)) x m := hb0.quiet ((Chg.refl _ _).alloc _)
  have hb0H := hide hb0'.self
  have bgH := hide (Blk.new w2 55 [.int .i64 0, .int .i64 0, .int .i64 0])
  have hGw : w.heap.size ≤ w2.heap.size := Nat.le_trans q1.size q2.size
  clear hb0 hb0' q1 q2 R1 M2 ho1 ho2
  go_wp2
  generalize hG : w2.heap.size = G at *
  have hGH := hide hG
  clear hG
  cases quiet with
  | true =>
    go_loopw [9] (fun i wr => ∃ (j : Nat) (g : Ms), j ≤ len ∧ i = .int .i64 j ∧ Both w wr.heap.size G wr x m ∧ Blk wr G 55 [.int .i64 g.k, .int .i64 g.id, .int .i64 g.hop] ∧ MsIn g ∧ g.hop ≤ 9223372036854775807) (fun i _ => len - (intOf i).toNat)
    case atStart => exact ⟨0, ⟨0, 0, 0⟩, Nat.zero_le _, rfl, unhide hb0H, unhide bgH, by simp [MsIn], by simp⟩
    case round =>
      obtain ⟨j, ⟨gk, gi, gh⟩, hj, rfl, hb, bg, hgi, hgh⟩ := hrel
      simp only at bg hgh
      clear hb0H bgH
      have hbel : Below w.heap.size w wr := hb.chg.below _ (Nat.le_refl _) (fun _ h => h)
      have hbelH := hide hbel
      clear hbel
      by_cases hlt : j < len
      · by_cases hmax : (j : Int) < 4398046511104
        · have hjo : j < ops.length := by rw [ho.count]; exact hlt
          obtain ⟨sb, so, rfl, hsb, k0, k1, k2, k3, k4, k5⟩ := ho.cells j hjo
          have hfit := ho.fit ops[j] (List.getElem_mem hjo)
          generalize ops[j] = o at *
          obtain ⟨ok, oa, ob, oc, os, ot⟩ := o
          simp only at k0 k1 k2 k3 k4 k5 hfit
          obtain ⟨hfa, hfb, hfc⟩ := hfit
          have i1 : (0 : Int) ≤ (j : Int) := by omega
          have i2 : (j : Int) < (len : Int) := by omega
          have g1 : decide (j < len) = true := by simpa using hlt
          have hbl := unhide hbelH
          rw [← hbl.cell (p := ⟨sb, so + j * 6, none⟩) hsb] at k0
          rw [← hbl.cell (p := ⟨sb, so + j * 6 + 1, none⟩) hsb] at k1
          rw [← hbl.cell (p := ⟨sb, so + j * 6 + 2, none⟩) hsb] at k2
          rw [← hbl.cell (p := ⟨sb, so + j * 6 + 3, none⟩) hsb] at k3
          rw [← hbl.cell (p := ⟨sb, so + j * 6 + 4, none⟩) hsb] at k4
          rw [← hbl.cell (p := ⟨sb, so + j * 6 + 5, none⟩) hsb] at k5
          clear hbl
          have zg := bg.lt
          have hq0 : Quiet wr (wr.alloc (.cells #[.int .i64 ok, .int .i64 oa, .int .i64 ob, .int .i64 oc, .string os, .string ot] 40)) := (Chg.refl _ _).alloc _
          have hb4 := hb.quiet hq0
          have bo := Blk.new wr 40 [.int .i64 ok, .int .i64 oa, .int .i64 ob, .int .i64 oc, .string os, .string ot]
          have bg4 := hq0.blk bg
          have fg0 := bg.frozen 0
          have fg1 := bg.frozen 1
          have fg2 := bg.frozen 2
          have cg0 := bg.cell 0
          have cg1 := bg.cell 1
          have cg2 := bg.cell 2
          simp at cg0 cg1 cg2
          clear hq0
          have z4 := bo.lt
          have jH := hide (And.intro hlt hmax)
          by_cases hk5 : ok = 5
          · have b5 : (ok == 5) = true := by simpa using hk5
            have hb4' := (hb.of_chg hGw ((((Chg.refl (fun k => k = G) wr).setCell (p := ⟨G, 0, none⟩) (.inl rfl) (.int .i64 oa)).setCell (p := ⟨G, 1, none⟩) (.inl rfl) (.int .i64 ob)).setCell (p := ⟨G, 2, none⟩) (.inl rfl) (.int .i64 oc))).quiet ((Chg.refl _ _).alloc (.cells #[.int .i64 ok, .int .i64 oa, .int .i64 ob, .int .i64 oc, .string os, .string ot] 40))
            have bo4 : Blk ((((wr.setCell ⟨G, 0, none⟩ (.int .i64 oa)).setCell ⟨G, 1, none⟩ (.int .i64 ob)).setCell ⟨G, 2, none⟩ (.int .i64 oc)).alloc (.cells #[.int .i64 ok, .int .i64 oa, .int .i64 ob, .int .i64 oc, .string os, .string ot] 40)) wr.heap.size 40 [.int .i64 ok, .int .i64 oa, .int .i64 ob, .int .i64 oc, .string os, .string ot] := Blk.at_new (cs := [.int .i64 ok, .int .i64 oa, .int .i64 ob, .int .i64 oc, .string os, .string ot]) (by simp)
            have bg5 := (((bg.set 0 (.int .i64 oa)).set 1 (.int .i64 ob)).set 2 (.int .i64 oc)).alloc (.cells #[.int .i64 ok, .int .i64 oa, .int .i64 ob, .int .i64 oc, .string os, .string ot] 40)
            simp only [List.set_cons_zero, List.set_cons_succ] at bg5
            obtain ⟨⟨xe, xn, ⟨⟨xa, xb, xc⟩, ⟨xd, xf, xg⟩⟩, ⟨xh, xi, xj, xk, xl⟩, xs⟩, hdo⟩ := both_step hb4' bg5.lt ⟨ok, oa, ob, oc, os, ot⟩ hfa ⟨oa, ob, oc⟩ hfb hfc.2
            simp only at hdo
            have hdoH := hide hdo
            have newg : Hid (MsIn ⟨oa, ob, oc⟩ ∧ (⟨oa, ob, oc⟩ : Ms).hop ≤ 9223372036854775807) := ⟨hfb, hfc.2⟩
            have fgH := hide bg5
            have foH := hide bo4
            clear hdo hb4 hb4' hk5 bg5 bo4 bg bg4 hb
            go_upto_if 33 with fail
            clear g1 i1 i2 hmax hlt hj hjo
            go_wp2_with fail
            refine (unhide hdoH).mono ?_
            clear hdoH cg0 cg1 cg2 fg0 fg1 fg2 k0 k1 k2 k3 k4 k5 hsb
            rintro e w5 ⟨rfl, hch5, hdom⟩
            have bo5 := hch5.blk (unhide foH) (by omega)
            have bg5 := hch5.blk (unhide fgH) (by simp)
            clear foH fgH
            have z5 := bo5.lt
            have y5 := bg5.lt
            have co5 := bo5.cell
            have cg5 := bg5.cell
            have hdm := hdom (w5.alloc (.cells #[.int .i64 xe, .int .i64 xn, .int .i64 xa, .int .i64 xb, .int .i64 xc, .int .i64 xd, .int .i64 xf, .int .i64 xg, .int .i64 xh, .int .i64 xi, .int .i64 xj, .int .i64 xk, .int .i64 xl, .string xs] 59)) ((Chg.refl _ _).alloc _)
            have bx := Blk.new w5 59 [.int .i64 xe, .int .i64 xn, .int .i64 xa, .int .i64 xb, .int .i64 xc, .int .i64 xd, .int .i64 xf, .int .i64 xg, .int .i64 xh, .int .i64 xi, .int .i64 xj, .int .i64 xk, .int .i64 xl, .string xs]
            have bg6 := bg5.alloc (.cells #[.int .i64 xe, .int .i64 xn, .int .i64 xa, .int .i64 xb, .int .i64 xc, .int .i64 xd, .int .i64 xf, .int .i64 xg, .int .i64 xh, .int .i64 xi, .int .i64 xj, .int .i64 xk, .int .i64 xl, .string xs] 59)
            have hdmH := hide hdm
            have bgH6 := hide bg6
            clear hdm hdom bg6 bo5 bg5 hch5
            go_wp2_with fail
            refine (unhide hdmH).mono ?_
            clear hdmH co5 cg5
            rintro e w7 ⟨rfl, hch7, hb7⟩
            have bx7 := hch7.blk bx (by omega)
            have bg7 := hch7.blk (unhide bgH6) (by simp)
            have z7 := bx7.lt
            have cx := bx7.cell
            have hb8 : Both w w7.heap.size G (w7.alloc (.cells #[.int .i64 xe, .int .i64 xn, .int .i64 xa, .int .i64 xb, .int .i64 xc, .int .i64 xd, .int .i64 xf, .int .i64 xg, .int .i64 xh, .int .i64 xi, .int .i64 xj, .int .i64 xk, .int .i64 xl, .string xs] 59)) x m := hb7.quiet ((Chg.refl _ _).alloc _)
            have hb8H := hide hb8
            have bgH8 := hide (bg7.alloc (.cells #[.int .i64 xe, .int .i64 xn, .int .i64 xa, .int .i64 xb, .int .i64 xc, .int .i64 xd, .int .i64 xf, .int .i64 xg, .int .i64 xh, .int .i64 xi, .int .i64 xj, .int .i64 xk, .int .i64 xl, .string xs] 59))
            have hX : (xs.toList == xs.toList) = true := by simp
            clear hb8 hb7 bgH6 bg7 hch7 bx bx7
            obtain ⟨hlt, hmax⟩ := unhide jH
            go_wp2
            go_roundw
            case rel => exact ⟨j + 1, ⟨oa, ob, oc⟩, by omega, by go_num, (unhide hb8H).self, unhide bgH8, (unhide newg).1, (unhide newg).2⟩
            case measure => simp [intOf]; omega
          · have b5 : (ok == 5) = false := by simpa using hk5
            obtain ⟨⟨xe, xn, ⟨⟨xa, xb, xc⟩, ⟨xd, xf, xg⟩⟩, ⟨xh, xi, xj, xk, xl⟩, xs⟩, hdo⟩ := both_step hb4 bg4.lt ⟨ok, oa, ob, oc, os, ot⟩ hfa ⟨gk, gi, gh⟩ hgi hgh
            simp only at hdo
            have hdoH := hide hdo
            have newg : Hid (MsIn ⟨gk, gi, gh⟩ ∧ (⟨gk, gi, gh⟩ : Ms).hop ≤ 9223372036854775807) := ⟨hgi, hgh⟩
            have fgH := hide bg4
            have foH := hide bo
            clear hdo hb4 hk5 bg hb
            go_upto_if 33 with fail
            clear g1 i1 i2 hmax hlt hj hjo
            go_wp2_with fail
            refine (unhide hdoH).mono ?_
            clear hdoH cg0 cg1 cg2 fg0 fg1 fg2 k0 k1 k2 k3 k4 k5 hsb
            rintro e w5 ⟨rfl, hch5, hdom⟩
            have bo5 := hch5.blk (unhide foH) (by omega)
            have bg5 := hch5.blk (unhide fgH) (by simp)
            clear foH fgH
            have z5 := bo5.lt
            have y5 := bg5.lt
            have co5 := bo5.cell
            have cg5 := bg5.cell
            have hdm := hdom (w5.alloc (.cells #[.int .i64 xe, .int .i64 xn, .int .i64 xa, .int .i64 xb, .int .i64 xc, .int .i64 xd, .int .i64 xf, .int .i64 xg, .int .i64 xh, .int .i64 xi, .int .i64 xj, .int .i64 xk, .int .i64 xl, .string xs] 59)) ((Chg.refl _ _).alloc _)
            have bx := Blk.new w5 59 [.int .i64 xe, .int .i64 xn, .int .i64 xa, .int .i64 xb, .int .i64 xc, .int .i64 xd, .int .i64 xf, .int .i64 xg, .int .i64 xh, .int .i64 xi, .int .i64 xj, .int .i64 xk, .int .i64 xl, .string xs]
            have bg6 := bg5.alloc (.cells #[.int .i64 xe, .int .i64 xn, .int .i64 xa, .int .i64 xb, .int .i64 xc, .int .i64 xd, .int .i64 xf, .int .i64 xg, .int .i64 xh, .int .i64 xi, .int .i64 xj, .int .i64 xk, .int .i64 xl, .string xs] 59)
            have hdmH := hide hdm
            have bgH6 := hide bg6
            clear hdm hdom bg6 bo5 bg5 hch5
            go_wp2_with fail
            refine (unhide hdmH).mono ?_
            clear hdmH co5 cg5
            rintro e w7 ⟨rfl, hch7, hb7⟩
            have bx7 := hch7.blk bx (by omega)
            have bg7 := hch7.blk (unhide bgH6) (by simp)
            have z7 := bx7.lt
            have cx := bx7.cell
            have hb8 : Both w w7.heap.size G (w7.alloc (.cells #[.int .i64 xe, .int .i64 xn, .int .i64 xa, .int .i64 xb, .int .i64 xc, .int .i64 xd, .int .i64 xf, .int .i64 xg, .int .i64 xh, .int .i64 xi, .int .i64 xj, .int .i64 xk, .int .i64 xl, .string xs] 59)) x m := hb7.quiet ((Chg.refl _ _).alloc _)
            have hb8H := hide hb8
            have bgH8 := hide (bg7.alloc (.cells #[.int .i64 xe, .int .i64 xn, .int .i64 xa, .int .i64 xb, .int .i64 xc, .int .i64 xd, .int .i64 xf, .int .i64 xg, .int .i64 xh, .int .i64 xi, .int .i64 xj, .int .i64 xk, .int .i64 xl, .string xs] 59))
            have hX : (xs.toList == xs.toList) = true := by simp
            clear hb8 hb7 bgH6 bg7 hch7 bx bx7
            obtain ⟨hlt, hmax⟩ := unhide jH
            go_wp2
            go_roundw
            case rel => exact ⟨j + 1, ⟨gk, gi, gh⟩, by omega, by go_num, (unhide hb8H).self, unhide bgH8, (unhide newg).1, (unhide newg).2⟩
            case measure => simp [intOf]; omega
        · have g1 : decide (j < len) = true := by simpa using hlt
          have g2 : ¬ (j : Int) < 4398046511104 := hmax
          have g3 : ¬ (len : Int) < 4398046511104 := by omega
          clear hb hmax bg
          go_wp2
          go_ret2
          exact ⟨⟨_, rfl⟩, unhide hbelH⟩
      · have g1 : decide (j < len) = false := by simpa using hlt
        have g2 : ¬ (j : Int) < (len : Int) := by omega
        clear hb bg
        by_cases g3 : (len : Int) < 4398046511104
        · go_wp2
          go_ret2
          exact ⟨⟨_, rfl⟩, unhide hbelH⟩
        · go_wp2
          go_ret2
          exact ⟨⟨_, rfl⟩, unhide hbelH⟩
  | false =>
    go_loopw [9] (fun i wr => ∃ (j : Nat) (g : Ms), j ≤ len ∧ i = .int .i64 j ∧ Both w wr.heap.size G wr x m ∧ Blk wr G 55 [.int .i64 g.k, .int .i64 g.id, .int .i64 g.hop] ∧ MsIn g ∧ g.hop ≤ 9223372036854775807) (fun i _ => len - (intOf i).toNat)
    case atStart => exact ⟨0, ⟨0, 0, 0⟩, Nat.zero_le _, rfl, unhide hb0H, unhide bgH, by simp [MsIn], by simp⟩
    case round =>
      obtain ⟨j, ⟨gk, gi, gh⟩, hj, rfl, hb, bg, hgi, hgh⟩ := hrel
      simp only at bg hgh
      clear hb0H bgH
      have hbel : Below w.heap.size w wr := hb.chg.below _ (Nat.le_refl _) (fun _ h => h)
      have hbelH := hide hbel
      clear hbel
      by_cases hlt : j < len
      · by_cases hmax : (j : Int) < 4398046511104
        · have hjo : j < ops.length := by rw [ho.count]; exact hlt
          obtain ⟨sb, so, rfl, hsb, k0, k1, k2, k3, k4, k5⟩ := ho.cells j hjo
          have hfit := ho.fit ops[j] (List.getElem_mem hjo)
          generalize ops[j] = o at *
          obtain ⟨ok, oa, ob, oc, os, ot⟩ := o
          simp only at k0 k1 k2 k3 k4 k5 hfit
          obtain ⟨hfa, hfb, hfc⟩ := hfit
          have i1 : (0 : Int) ≤ (j : Int) := by omega
          have i2 : (j : Int) < (len : Int) := by omega
          have g1 : decide (j < len) = true := by simpa using hlt
          have hbl := unhide hbelH
          rw [← hbl.cell (p := ⟨sb, so + j * 6, none⟩) hsb] at k0
          rw [← hbl.cell (p := ⟨sb, so + j * 6 + 1, none⟩) hsb] at k1
          rw [← hbl.cell (p := ⟨sb, so + j * 6 + 2, none⟩) hsb] at k2
          rw [← hbl.cell (p := ⟨sb, so + j * 6 + 3, none⟩) hsb] at k3
          rw [← hbl.cell (p := ⟨sb, so + j * 6 + 4, none⟩) hsb] at k4
          rw [← hbl.cell (p := ⟨sb, so + j * 6 + 5, none⟩) hsb] at k5
          clear hbl
          have zg := bg.lt
          have hq0 : Quiet wr (wr.alloc (.cells #[.int .i64 ok, .int .i64 oa, .int .i64 ob, .int .i64 oc, .string os, .string ot] 40)) := (Chg.refl _ _).alloc _
          have hb4 := hb.quiet hq0
          have bo := Blk.new wr 40 [.int .i64 ok, .int .i64 oa, .int .i64 ob, .int .i64 oc, .string os, .string ot]
          have bg4 := hq0.blk bg
          have fg0 := bg.frozen 0
          have fg1 := bg.frozen 1
          have fg2 := bg.frozen 2
          have cg0 := bg.cell 0
          have cg1 := bg.cell 1
          have cg2 := bg.cell 2
          simp at cg0 cg1 cg2
          clear hq0
          have z4 := bo.lt
          have jH := hide (And.intro hlt hmax)
          by_cases hk5 : ok = 5
          · have b5 : (ok == 5) = true := by simpa using hk5
            have hb4' := (hb.of_chg hGw ((((Chg.refl (fun k => k = G) wr).setCell (p := ⟨G, 0, none⟩) (.inl rfl) (.int .i64 oa)).setCell (p := ⟨G, 1, none⟩) (.inl rfl) (.int .i64 ob)).setCell (p := ⟨G, 2, none⟩) (.inl rfl) (.int .i64 oc))).quiet ((Chg.refl _ _).alloc (.cells #[.int .i64 ok, .int .i64 oa, .int .i64 ob, .int .i64 oc, .string os, .string ot] 40))
            have bo4 : Blk ((((wr.setCell ⟨G, 0, none⟩ (.int .i64 oa)).setCell ⟨G, 1, none⟩ (.int .i64 ob)).setCell ⟨G, 2, none⟩ (.int .i64 oc)).alloc (.cells #[.int .i64 ok, .int .i64 oa, .int .i64 ob, .int .i64 oc, .string os, .string ot] 40)) wr.heap.size 40 [.int .i64 ok, .int .i64 oa, .int .i64 ob, .int .i64 oc, .string os, .string ot] := Blk.at_new (cs := [.int .i64 ok, .int .i64 oa, .int .i64 ob, .int .i64 oc, .string os, .string ot]) (by simp)
            have bg5 := (((bg.set 0 (.int .i64 oa)).set 1 (.int .i64 ob)).set 2 (.int .i64 oc)).alloc (.cells #[.int .i64 ok, .int .i64 oa, .int .i64 ob, .int .i64 oc, .string os, .string ot] 40)
            simp only [List.set_cons_zero, List.set_cons_succ] at bg5
            obtain ⟨⟨xe, xn, ⟨⟨xa, xb, xc⟩, ⟨xd, xf, xg⟩⟩, ⟨xh, xi, xj, xk, xl⟩, xs⟩, hdo⟩ := both_step hb4' bg5.lt ⟨ok, oa, ob, oc, os, ot⟩ hfa ⟨oa, ob, oc⟩ hfb hfc.2
            simp only at hdo
            have hdoH := hide hdo
            have newg : Hid (MsIn ⟨oa, ob, oc⟩ ∧ (⟨oa, ob, oc⟩ : Ms).hop ≤ 9223372036854775807) := ⟨hfb, hfc.2⟩
            have fgH := hide bg5
            have foH := hide bo4
            clear hdo hb4 hb4' hk5 bg5 bo4 bg bg4 hb
            go_upto_if 33 with fail
            clear g1 i1 i2 hmax hlt hj hjo
            go_wp2_with fail
            refine (unhide hdoH).mono ?_
            clear hdoH cg0 cg1 cg2 fg0 fg1 fg2 k0 k1 k2 k3 k4 k5 hsb
            rintro e w5 ⟨rfl, hch5, hdom⟩
            have bo5 := hch5.blk (unhide foH) (by omega)
            have bg5 := hch5.blk (unhide fgH) (by simp)
            clear foH fgH
            have z5 := bo5.lt
            have y5 := bg5.lt
            have co5 := bo5.cell
            have cg5 := bg5.cell
            have hdm := hdom (w5.alloc (.cells #[.int .i64 xe, .int .i64 xn, .int .i64 xa, .int .i64 xb, .int .i64 xc, .int .i64 xd, .int .i64 xf, .int .i64 xg, .int .i64 xh, .int .i64 xi, .int .i64 xj, .int .i64 xk, .int .i64 xl, .string xs] 59)) ((Chg.refl _ _).alloc _)
            have bx := Blk.new w5 59 [.int .i64 xe, .int .i64 xn, .int .i64 xa, .int .i64 xb, .int .i64 xc, .int .i64 xd, .int .i64 xf, .int .i64 xg, .int .i64 xh, .int .i64 xi, .int .i64 xj, .int .i64 xk, .int .i64 xl, .string xs]
            have bg6 := bg5.alloc (.cells #[.int .i64 xe, .int .i64 xn, .int .i64 xa, .int .i64 xb, .int .i64 xc, .int .i64 xd, .int .i64 xf, .int .i64 xg, .int .i64 xh, .int .i64 xi, .int .i64 xj, .int .i64 xk, .int .i64 xl, .string xs] 59)
            have hdmH := hide hdm
            have bgH6 := hide bg6
            clear hdm hdom bg6 bo5 bg5 hch5
            go_wp2_with fail
            refine (unhide hdmH).mono ?_
            clear hdmH co5 cg5
            rintro e w7 ⟨rfl, hch7, hb7⟩
            have bx7 := hch7.blk bx (by omega)
            have bg7 := hch7.blk (unhide bgH6) (by simp)
            have z7 := bx7.lt
            have cx := bx7.cell
            have hb8 : Both w w7.heap.size G (w7.alloc (.cells #[.int .i64 xe, .int .i64 xn, .int .i64 xa, .int .i64 xb, .int .i64 xc, .int .i64 xd, .int .i64 xf, .int .i64 xg, .int .i64 xh, .int .i64 xi, .int .i64 xj, .int .i64 xk, .int .i64 xl, .string xs] 59)) x m := hb7.quiet ((Chg.refl _ _).alloc _)
            have hb8H := hide hb8
            have bgH8 := hide (bg7.alloc (.cells #[.int .i64 xe, .int .i64 xn, .int .i64 xa, .int .i64 xb, .int .i64 xc, .int .i64 xd, .int .i64 xf, .int .i64 xg, .int .i64 xh, .int .i64 xi, .int .i64 xj, .int .i64 xk, .int .i64 xl, .string xs] 59))
            have hX : (xs.toList == xs.toList) = true := by simp
            clear hb8 hb7 bgH6 bg7 hch7 bx bx7
            obtain ⟨S, s1, s2, s3⟩ := both_look (unhide hb8H)
            have s1' := hide (s1 _ (Chg.refl _ _))
            have s2H := hide s2
            have s3H := hide s3
            clear s1 s2 s3
            go_wp2_with fail
            refine (unhide s1').mono ?_
            clear cx s1'
            rintro e w9 ⟨rfl, q9⟩
            have s2' := hide (unhide s2H w9 q9)
            clear s2H
            go_wp2_with fail
            refine (unhide s2').mono ?_
            clear s2'
            rintro e w10 ⟨rfl, q10⟩
            have s3' := hide (unhide s3H w10 (q9.trans q10))
            clear s3H
            go_wp2_with fail
            refine (unhide s3').mono ?_
            clear s3'
            rintro e w11 ⟨rfl, q11⟩
            have hS : (S.toList == S.toList) = true := by simp
            have qq := hide ((q9.trans q10).trans q11)
            clear q9 q10 q11
            obtain ⟨hlt, hmax⟩ := unhide jH
            go_wp2
            go_roundw
            case rel => exact ⟨j + 1, ⟨oa, ob, oc⟩, by omega, by go_num, ((unhide hb8H).quiet (unhide qq)).self, (unhide qq).blk (unhide bgH8), (unhide newg).1, (unhide newg).2⟩
            case measure => simp [intOf]; omega
          · have b5 : (ok == 5) = false := by simpa using hk5
            obtain ⟨⟨xe, xn, ⟨⟨xa, xb, xc⟩, ⟨xd, xf, xg⟩⟩, ⟨xh, xi, xj, xk, xl⟩, xs⟩, hdo⟩ := both_step hb4 bg4.lt ⟨ok, oa, ob, oc, os, ot⟩ hfa ⟨gk, gi, gh⟩ hgi hgh
            simp only at hdo
            have hdoH := hide hdo
            have newg : Hid (MsIn ⟨gk, gi, gh⟩ ∧ (⟨gk, gi, gh⟩ : Ms).hop ≤ 9223372036854775807) := ⟨hgi, hgh⟩
            have fgH := hide bg4
            have foH := hide bo
            clear hdo hb4 hk5 bg hb
            go_upto_if 33 with fail
            clear g1 i1 i2 hmax hlt hj hjo
            go_wp2_with fail
            refine (unhide hdoH).mono ?_
            clear hdoH cg0 cg1 cg2 fg0 fg1 fg2 k0 k1 k2 k3 k4 k5 hsb
            rintro e w5 ⟨rfl, hch5, hdom⟩
            have bo5 := hch5.blk (unhide foH) (by omega)
            have bg5 := hch5.blk (unhide fgH) (by simp)
            clear foH fgH
            have z5 := bo5.lt
            have y5 := bg5.lt
            have co5 := bo5.cell
            have cg5 := bg5.cell
            have hdm := hdom (w5.alloc (.cells #[.int .i64 xe, .int .i64 xn, .int .i64 xa, .int .i64 xb, .int .i64 xc, .int .i64 xd, .int .i64 xf, .int .i64 xg, .int .i64 xh, .int .i64 xi, .int .i64 xj, .int .i64 xk, .int .i64 xl, .string xs] 59)) ((Chg.refl _ _).alloc _)
            have bx := Blk.new w5 59 [.int .i64 xe, .int .i64 xn, .int .i64 xa, .int .i64 xb, .int .i64 xc, .int .i64 xd, .int .i64 xf, .int .i64 xg, .int .i64 xh, .int .i64 xi, .int .i64 xj, .int .i64 xk, .int .i64 xl, .string xs]
            have bg6 := bg5.alloc (.cells #[.int .i64 xe, .int .i64 xn, .int .i64 xa, .int .i64 xb, .int .i64 xc, .int .i64 xd, .int .i64 xf, .int .i64 xg, .int .i64 xh, .int .i64 xi, .int .i64 xj, .int .i64 xk, .int .i64 xl, .string xs] 59)
            have hdmH := hide hdm
            have bgH6 := hide bg6
            clear hdm hdom bg6 bo5 bg5 hch5
            go_wp2_with fail
            refine (unhide hdmH).mono ?_
            clear hdmH co5 cg5
            rintro e w7 ⟨rfl, hch7, hb7⟩
            have bx7 := hch7.blk bx (by omega)
            have bg7 := hch7.blk (unhide bgH6) (by simp)
            have z7 := bx7.lt
            have cx := bx7.cell
            have hb8 : Both w w7.heap.size G (w7.alloc (.cells #[.int .i64 xe, .int .i64 xn, .int .i64 xa, .int .i64 xb, .int .i64 xc, .int .i64 xd, .int .i64 xf, .int .i64 xg, .int .i64 xh, .int .i64 xi, .int .i64 xj, .int .i64 xk, .int .i64 xl, .string xs] 59)) x m := hb7.quiet ((Chg.refl _ _).alloc _)
            have hb8H := hide hb8
            have bgH8 := hide (bg7.alloc (.cells #[.int .i64 xe, .int .i64 xn, .int .i64 xa, .int .i64 xb, .int .i64 xc, .int .i64 xd, .int .i64 xf, .int .i64 xg, .int .i64 xh, .int .i64 xi, .int .i64 xj, .int .i64 xk, .int .i64 xl, .string xs] 59))
            have hX : (xs.toList == xs.toList) = true := by simp
            clear hb8 hb7 bgH6 bg7 hch7 bx bx7
            obtain ⟨S, s1, s2, s3⟩ := both_look (unhide hb8H)
            have s1' := hide (s1 _ (Chg.refl _ _))
            have s2H := hide s2
            have s3H := hide s3
            clear s1 s2 s3
            go_wp2_with fail
            refine (unhide s1').mono ?_
            clear cx s1'
            rintro e w9 ⟨rfl, q9⟩
            have s2' := hide (unhide s2H w9 q9)
            clear s2H
            go_wp2_with fail
            refine (unhide s2').mono ?_
            clear s2'
            rintro e w10 ⟨rfl, q10⟩
            have s3' := hide (unhide s3H w10 (q9.trans q10))
            clear s3H
            go_wp2_with fail
            refine (unhide s3').mono ?_
            clear s3'
            rintro e w11 ⟨rfl, q11⟩
            have hS : (S.toList == S.toList) = true := by simp
            have qq := hide ((q9.trans q10).trans q11)
            clear q9 q10 q11
            obtain ⟨hlt, hmax⟩ := unhide jH
            go_wp2
            go_roundw
            case rel => exact ⟨j + 1, ⟨gk, gi, gh⟩, by omega, by go_num, ((unhide hb8H).quiet (unhide qq)).self, (unhide qq).blk (unhide bgH8), (unhide newg).1, (unhide newg).2⟩
            case measure => simp [intOf]; omega
        · have g1 : decide (j < len) = true := by simpa using hlt
          have g2 : ¬ (j : Int) < 4398046511104 := hmax
          have g3 : ¬ (len : Int) < 4398046511104 := by omega
          clear hb hmax bg
          go_wp2
          go_ret2
          exact ⟨⟨_, rfl⟩, unhide hbelH⟩
      · have g1 : decide (j < len) = false := by simpa using hlt
        have g2 : ¬ (j : Int) < (len : Int) := by omega
        clear hb bg
        by_cases g3 : (len : Int) < 4398046511104
        · go_wp2
          go_ret2
          exact ⟨⟨_, rfl⟩, unhide hbelH⟩
        · go_wp2
          go_ret2
          exact ⟨⟨_, rfl⟩, unhide hbelH⟩
end Go.Proofs.Qxb6500369a
