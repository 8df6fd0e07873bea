/-
  THE WALK OF Refines AND RefinesQuiet.
-/
import Derived.Test.Qxb6500361aPlay
import Derived.Test.Qxb6500361aPlayM
namespace Go.Proofs.Qxb6500361a
open Go.RowKit Go.Qx
set_option linter.unusedSimpArgs false
set_option linter.unusedVariables false

/-- A script in memory: it is nil and empty, or its steps lie one behind the other. -/
structure IsOps (w : World) (a : Option Addr) (len cap : Nat) (ops : List Opr) : Prop where
  count : ops.length = len
  small : len ≤ 9223372036854775807
  cells : ∀ i (h : i < ops.length), ∃ b o, a = some ⟨b, o, none⟩ ∧ b < w.heap.size ∧
    w.cell? ⟨b, o + i * 6, none⟩ = some (.int .i64 ops[i].k) ∧ w.cell? ⟨b, o + i * 6 + 1, none⟩ = some (.int .i64 ops[i].a) ∧ w.cell? ⟨b, o + i * 6 + 2, none⟩ = some (.int .i64 ops[i].b) ∧
    w.cell? ⟨b, o + i * 6 + 3, none⟩ = some (.int .i64 ops[i].c) ∧ w.cell? ⟨b, o + i * 6 + 4, none⟩ = some (.string ops[i].s) ∧ w.cell? ⟨b, o + i * 6 + 5, none⟩ = some (.string ops[i].t)
  fit : ∀ o ∈ ops, o.s.size ≤ maxLen ∧ -9223372036854775808 ≤ o.a ∧ o.a ≤ 9223372036854775807

theorem seen_any (w : World) (c l hd : Nat) (s : ByteArray) (nds : List Nd) (top : Nat) (m b : Nat) (r : Rep w c l hd s nds top) (rm : MRep w m b (kv (kvh nds))) :
    Calls Try.prog 34 #[ptr l, ptr m] w fun e w' => e = .returned (.bool true) ∧ Quiet w w' := by
  have h1 := show_any w c l hd s nds top r
  rw [pairs_same] at h1
  unfold ptr at h1 ⊢
  go_enter Try.func34, Try.ntmps34
  go_wp2_with fail
  refine h1.mono ?_
  rintro e w1 ⟨rfl, q1⟩
  have h2 := mshow_any w1 m b _ (rm.quiet q1)
  unfold ptr at h2
  go_wp2_with fail
  refine h2.mono ?_
  rintro e w2 ⟨rfl, q2⟩
  have h3 := check_any w2 c l hd s nds top ((r.quiet q1).quiet q2)
  unfold ptr at h3
  generalize mpairs (kv (kvh nds)) = X at *
  have hX : (X.toList == X.toList) = true := by simp
  go_wp2_with fail
  refine h3.mono ?_
  rintro e w3 ⟨rfl, q3⟩
  have h4 := mcheck_any w3 m b _ (((rm.quiet q1).quiet q2).quiet q3)
  unfold ptr at h4
  go_wp2_with fail
  refine h4.mono ?_
  rintro e w4 ⟨rfl, q4⟩
  go_wp2
  go_ret
  exact ⟨rfl, ((q1.trans q2).trans q3).trans q4⟩

/-- Both sides in memory, apart from each other, in new blocks alone, all of them below Z. -/
structure Both (W : World) (Z : Nat) (w : World) (c l hd m b : Nat) : Prop where
  chg : Chg (fun x => W.heap.size ≤ x) W w
  reps : ∃ s nds top, Rep w c l hd s nds top ∧ MRep w m b (kv (kvh nds)) ∧ (∀ d ∈ nds, d.addr ≠ m ∧ d.addr ≠ b) ∧ ∀ d ∈ nds, W.heap.size ≤ d.addr ∧ d.addr < Z
  new : W.heap.size ≤ c ∧ W.heap.size ≤ l ∧ W.heap.size ≤ hd ∧ W.heap.size ≤ m ∧ W.heap.size ≤ b
  old : c < Z ∧ l < Z ∧ hd < Z ∧ m < Z ∧ b < Z
  ne : c ≠ m ∧ c ≠ b ∧ l ≠ m ∧ l ≠ b ∧ hd ≠ m ∧ hd ≠ b

theorem Both.quiet {W w w' : World} {Z c l hd m b : Nat} (h : Both W Z w c l hd m b) (q : Quiet w w') : Both W Z w' c l hd m b := by
  obtain ⟨h1, ⟨s, nds, top, r, rm, h2, h3⟩, h4, h5, h6⟩ := h
  exact ⟨h1.trans (q.chg _), ⟨s, nds, top, r.quiet q, rm.quiet q, h2, h3⟩, h4, h5, h6⟩

theorem Both.self {W w : World} {Z c l hd m b : Nat} (h : Both W Z w c l hd m b) : Both W w.heap.size w c l hd m b := by
  obtain ⟨h1, ⟨s, nds, top, r, rm, h2, h3⟩, h4, h5, h6⟩ := h
  exact ⟨h1, ⟨s, nds, top, r, rm, h2, fun d hd => ⟨(h3 d hd).1, r.addr_lt hd⟩⟩, h4, ⟨r.coin.lt, r.list.lt, r.head.lt, mown_lt rm (.inl rfl), mown_lt rm (.inr rfl)⟩, h6⟩

/-- A step that both sides play. -/
theorem both_step {W w : World} {Z c l hd m b : Nat} (h : Both W Z w c l hd m b) (o : Opr) (hs : o.s.size ≤ maxLen) (ha1 : -9223372036854775808 ≤ o.a) (ha2 : o.a ≤ 9223372036854775807) :
    ∃ X : An, Calls Try.prog 30 #[.pointer (some ⟨l, 0, none⟩), .agg #[.int .i64 o.k, .int .i64 o.a, .int .i64 o.b, .int .i64 o.c, .string o.s, .string o.t]] w fun e w1 => e = .returned (.agg #[.int .i64 X.e, .int .i64 X.n, .int .i64 X.m, .string X.s]) ∧
      Chg (fun x => W.heap.size ≤ x ∧ x < Z) w w1 ∧
      ∀ w2, Quiet w1 w2 → Calls Try.prog 33 #[.pointer (some ⟨m, 0, none⟩), .agg #[.int .i64 o.k, .int .i64 o.a, .int .i64 o.b, .int .i64 o.c, .string o.s, .string o.t]] w2 fun e w3 => e = .returned (.agg #[.int .i64 X.e, .int .i64 X.n, .int .i64 X.m, .string X.s]) ∧
        Chg (fun x => W.heap.size ≤ x ∧ x < Z) w2 w3 ∧ Both W w3.heap.size w3 c l hd m b := by
  obtain ⟨h1, ⟨s, nds, top, r, rm, h2, h3⟩, h4, h6, h5⟩ := h
  refine ⟨ansA (kvh nds) o, ?_⟩
  refine Calls.mono (do_any w c l hd s nds top r o hs ha1 ha2) ?_
  rintro e w1 ⟨rfl, hch, nds', s', top', r', hk, hs', hold⟩
  have hml := mown_lt rm (.inl rfl)
  have hbl := mown_lt rm (.inr rfl)
  have hown : ∀ x, ownC c l hd nds x → W.heap.size ≤ x ∧ x < Z := by
    intro x hx
    rcases hx with rfl | rfl | rfl | ⟨d, hd, rfl⟩
    · exact ⟨h4.1, h6.1⟩
    · exact ⟨h4.2.1, h6.2.1⟩
    · exact ⟨h4.2.2.1, h6.2.2.1⟩
    · exact h3 d hd
  have hmn : ¬ ownC c l hd nds m := by
    rintro (h | h | h | ⟨d, hd, h⟩)
    · exact h5.1 h.symm
    · exact h5.2.2.1 h.symm
    · exact h5.2.2.2.2.1 h.symm
    · exact (h2 d hd).1 h.symm
  have hbn : ¬ ownC c l hd nds b := by
    rintro (h | h | h | ⟨d, hd, h⟩)
    · exact h5.2.1 h.symm
    · exact h5.2.2.2.1 h.symm
    · exact h5.2.2.2.2.2 h.symm
    · exact (h2 d hd).2 h.symm
  have rm1 := rm.of_chg hch hmn hbn
  refine ⟨rfl, hch.mono (fun x _ h => hown x h), ?_⟩
  intro w2 q2
  refine Calls.mono (dom_any w2 m b (kvh nds) s.data.toList (rm1.quiet q2) o hs ha1 ha2) ?_
  rintro e w3 ⟨rfl, hchm, rm3⟩
  refine ⟨rfl, hchm.mono (fun x _ h => ?_), ?_⟩
  · rcases h with rfl | rfl
    · exact ⟨h4.2.2.2.1, h6.2.2.2.1⟩
    · exact ⟨h4.2.2.2.2, h6.2.2.2.2⟩
  have hnd' : ∀ d ∈ nds', d.addr ≠ m ∧ d.addr ≠ b := by
    intro d hd
    rcases hold d hd with ⟨e, he, hea⟩ | h
    · rw [hea]; exact h2 e he
    · omega
  have hnew' : ∀ d ∈ nds', W.heap.size ≤ d.addr := by
    intro d hd
    rcases hold d hd with ⟨e, he, hea⟩ | h
    · rw [hea]; exact (h3 e he).1
    · have := h1.size; omega
  have r3 : Rep w3 c l hd s' nds' top' := by
    refine (r'.quiet q2).of_chg hchm ?_ ?_ ?_ ?_
    · rintro (h | h); exact h5.1 h; exact h5.2.1 h
    · rintro (h | h); exact h5.2.2.1 h; exact h5.2.2.2.1 h
    · rintro (h | h); exact h5.2.2.2.2.1 h; exact h5.2.2.2.2.2 h
    · intro d hd
      rintro (h | h)
      · exact (hnd' d hd).1 h
      · exact (hnd' d hd).2 h
  refine ⟨?_, ⟨s', nds', top', r3, by rw [hk]; exact rm3, hnd', fun d hd => ⟨hnew' d hd, r3.addr_lt hd⟩⟩, h4, ⟨r3.coin.lt, r3.list.lt, r3.head.lt, mown_lt rm3 (.inl rfl), mown_lt rm3 (.inr rfl)⟩, h5⟩
  refine ((h1.trans (hch.mono (fun x _ h => (hown x h).1))).trans (q2.chg _)).trans (hchm.mono (fun x _ h => ?_))
  rcases h with rfl | rfl
  · exact h4.2.2.2.1
  · exact h4.2.2.2.2

/-- A Feed of the script. -/
theorem both_feed {W w : World} {Z c l hd m b : Nat} (h : Both W Z w c l hd m b) (t : ByteArray) (hs : t.size ≤ maxLen) :
    Calls Try.prog 14 #[.pointer (some ⟨c, 0, none⟩), .string t] w fun e w1 => (∃ x : Int, e = .returned (.int .i64 x)) ∧ Chg (fun x => W.heap.size ≤ x ∧ x < Z) w w1 ∧ Both W Z w1 c l hd m b := by
  obtain ⟨h1, ⟨s, nds, top, r, rm, h2, h3⟩, h4, h6, h5⟩ := h
  refine Calls.mono (feed_any w c s t r.coin r.slen hs) ?_
  rintro e w1 ⟨rfl, hch, hb⟩
  refine ⟨⟨_, rfl⟩, hch.mono (fun x _ h => by subst h; exact ⟨h4.1, h6.1⟩), h1.trans (hch.mono (fun x _ h => by subst h; exact h4.1)), ⟨_, nds, top, r.set_coin hch _ hb ?_, rm.of_chg hch (Ne.symm h5.1) (Ne.symm h5.2.1), h2, h3⟩, h4, h6, h5⟩
  unfold feedNew
  split
  · exact r.slen
  · split
    · exact r.slen
    · rw [ByteArray.size_append]; omega

theorem both_seen {W w : World} {Z c l hd m b : Nat} (h : Both W Z w c l hd m b) : Calls Try.prog 34 #[.pointer (some ⟨l, 0, none⟩), .pointer (some ⟨m, 0, none⟩)] w fun e w' => e = .returned (.bool true) ∧ Quiet w w' := by
  obtain ⟨_, ⟨s, nds, top, r, rm, _, _⟩, _, _, _⟩ := h
  exact seen_any w c l hd s nds top m b r rm

set_option maxHeartbeats 1000000 in
theorem walk_any (w : World) (a : Option Addr) (len cap : Nat) (ops : List Opr) (quiet : Bool) (ho : IsOps w a len cap ops) :
    Calls Try.prog 22 #[.slice a len cap, .bool quiet] w fun e w' => (∃ n : Int, e = .returned (.tuple #[.int .i64 (-1), .int .i64 n])) ∧ Below w.heap.size w w' := by
  have hlen := ho.small
  go_enter Try.func22, Try.ntmps22
  go_wp2_with fail
  refine (ground_any w).mono ?_
  rintro e w1 ⟨rfl, hw1⟩
  have b1 : Blk w1 w.heap.size 72 [.string ⟨#[]⟩] := by rw [hw1]; exact Blk.new w 72 [.string ⟨#[]⟩]
  have q1 : Quiet w w1 := by rw [hw1]; exact (Chg.refl _ _).alloc _
  have z1 : Hid (w1.heap.size = w.heap.size + 1) := by rw [hw1]; exact World.size_alloc ..
  clear hw1
  unfold ptr
  have hnew := new_any w1 w.heap.size ⟨#[]⟩ b1 (by decide)
  unfold ptr at hnew
  go_wp2_with fail
  refine hnew.mono ?_
  clear hnew
  rintro e w2 ⟨rfl, q2, r2⟩
  have hmn := mnew_any w2
  unfold ptr at hmn
  go_wp2_with fail
  refine hmn.mono ?_
  clear hmn
  rintro e w3 ⟨rfl, q3, rm3⟩
  have z2 := r2.list.lt
  have z1' := unhide z1
  have hboth : Both w w3.heap.size w3 w.heap.size (w1.heap.size + 1) w1.heap.size (w2.heap.size + 1) w2.heap.size :=
    ⟨((q1.trans q2).trans q3).chg _, ⟨_, [], 1, r2.quiet q3, rm3, by simp, by simp⟩, by omega, ⟨(r2.quiet q3).coin.lt, (r2.quiet q3).list.lt, (r2.quiet q3).head.lt, mown_lt rm3 (.inl rfl), mown_lt rm3 (.inr rfl)⟩, by omega⟩
  clear q1 q2 q3 r2 rm3 b1
  generalize hL : w1.heap.size + 1 = L at *
  generalize hHD : w1.heap.size = HD at *
  generalize hM : w2.heap.size + 1 = M at *
  generalize hB : w2.heap.size = B at *
  clear hL hHD hM hB z1 z1' z2
  go_wp2
  go_loopw [9] (fun i wr => ∃ j : Nat, j ≤ len ∧ i = .int .i64 j ∧ Both w wr.heap.size wr w.heap.size L HD M B) (fun i _ => len - (intOf i).toNat)
  case atStart => exact ⟨0, Nat.zero_le _, rfl, hboth⟩
  case round =>
    clear hboth
    obtain ⟨j, hj, rfl, hb⟩ := hrel
    have hbel : Below w.heap.size w wr := hb.chg.below _ (Nat.le_refl _) (fun _ h => h)
    have hbelH := hide hbel
    clear hbel
    by_cases hlt : j < len
    · by_cases hmax : (j : Int) < 4398046511104
      · have hjo : j < ops.length := by rw [ho.count]; exact hlt
        obtain ⟨sb, so, rfl, hsb, k0, k1, k2, k3, k4, k5⟩ := ho.cells j hjo
        have hfit := ho.fit ops[j] (List.getElem_mem hjo)
        generalize ops[j] = o at *
        obtain ⟨ok, oa, ob, oc, os, ot⟩ := o
        simp only at k0 k1 k2 k3 k4 k5 hfit
        have i1 : (0 : Int) ≤ (j : Int) := by omega
        have i2 : (j : Int) < (len : Int) := by omega
        have g1 : decide (j < len) = true := by simpa using hlt
        have hbl := unhide hbelH
        rw [← hbl.cell (p := ⟨sb, so + j * 6, none⟩) hsb] at k0
        rw [← hbl.cell (p := ⟨sb, so + j * 6 + 1, none⟩) hsb] at k1
        rw [← hbl.cell (p := ⟨sb, so + j * 6 + 2, none⟩) hsb] at k2
        rw [← hbl.cell (p := ⟨sb, so + j * 6 + 3, none⟩) hsb] at k3
        rw [← hbl.cell (p := ⟨sb, so + j * 6 + 4, none⟩) hsb] at k4
        rw [← hbl.cell (p := ⟨sb, so + j * 6 + 5, none⟩) hsb] at k5
        clear hbl
        have hq0 : Quiet wr (wr.alloc (.cells #[.int .i64 ok, .int .i64 oa, .int .i64 ob, .int .i64 oc, .string os, .string ot] 44)) := (Chg.refl _ _).alloc _
        have hbq := hb.quiet hq0
        have hbo := Blk.new wr 44 [.int .i64 ok, .int .i64 oa, .int .i64 ob, .int .i64 oc, .string os, .string ot]
        have hbqH := hide hbq
        clear hbq hq0
        by_cases hk1 : ok = 1
        · subst hk1
          go_wp2_with fail
          refine (both_feed (unhide hbqH) os hfit.1).mono ?_
          rintro e w4 ⟨⟨x, rfl⟩, hch4, hb4⟩
          have bo := hch4.blk hbo (by omega)
          have z4 := bo.lt
          have co := bo.cell
          obtain ⟨⟨xe, xn, xm, xs⟩, hdo⟩ := both_step hb4 ⟨1, oa, ob, oc, os, ot⟩ hfit.1 hfit.2.1 hfit.2.2
          simp only at hdo
          have hdoH := hide hdo
          clear hdo
          go_wp2_with fail
          refine (unhide hdoH).mono ?_
          clear hdoH
          rintro e w5 ⟨rfl, hch5, hdom⟩
          have bo5 := hch5.blk bo (by omega)
          have z5 := bo5.lt
          have co5 := bo5.cell
          have hdm := hdom (w5.alloc (.cells #[.int .i64 xe, .int .i64 xn, .int .i64 xm, .string xs] 63)) ((Chg.refl _ _).alloc _)
          have bx := Blk.new w5 63 [.int .i64 xe, .int .i64 xn, .int .i64 xm, .string xs]
          have hdmH := hide hdm
          clear hdm hdom co
          go_wp2_with fail
          refine (unhide hdmH).mono ?_
          clear hdmH co5
          rintro e w7 ⟨rfl, hch7, hb7⟩
          have bx7 := hch7.blk bx (by omega)
          have z7 := bx7.lt
          have cx := bx7.cell
          have hb8 : Both w w7.heap.size (w7.alloc (.cells #[.int .i64 xe, .int .i64 xn, .int .i64 xm, .string xs] 63)) w.heap.size L HD M B := hb7.quiet ((Chg.refl _ _).alloc _)
          have hb8H := hide hb8
          clear hb8 hb7
          cases quiet with
          | true =>
            go_wp2
            go_roundw
            case rel => exact ⟨j + 1, by omega, by go_num, (unhide hb8H).self⟩
            case measure => simp [intOf]; omega
          | false =>
            go_wp2_with fail
            refine (both_seen (unhide hb8H)).mono ?_
            rintro e w9 ⟨rfl, q9⟩
            go_wp2
            go_roundw
            case rel => exact ⟨j + 1, by omega, by go_num, ((unhide hb8H).quiet q9).self⟩
            case measure => simp [intOf]; omega
        · have g3 : (ok == 1) = false := by simpa using hk1
          have hk1H := hide hk1
          clear hk1
          have hb4 := unhide hbqH
          have bo := hbo
          have z4 := bo.lt
          obtain ⟨⟨xe, xn, xm, xs⟩, hdo⟩ := both_step hb4 ⟨ok, oa, ob, oc, os, ot⟩ hfit.1 hfit.2.1 hfit.2.2
          simp only at hdo
          have hdoH := hide hdo
          clear hdo
          go_wp2_with fail
          refine (unhide hdoH).mono ?_
          clear hdoH
          rintro e w5 ⟨rfl, hch5, hdom⟩
          have bo5 := hch5.blk bo (by omega)
          have z5 := bo5.lt
          have co5 := bo5.cell
          have hdm := hdom (w5.alloc (.cells #[.int .i64 xe, .int .i64 xn, .int .i64 xm, .string xs] 63)) ((Chg.refl _ _).alloc _)
          have bx := Blk.new w5 63 [.int .i64 xe, .int .i64 xn, .int .i64 xm, .string xs]
          have hdmH := hide hdm
          clear hdm hdom
          go_wp2_with fail
          refine (unhide hdmH).mono ?_
          clear hdmH co5
          rintro e w7 ⟨rfl, hch7, hb7⟩
          have bx7 := hch7.blk bx (by omega)
          have z7 := bx7.lt
          have cx := bx7.cell
          have hb8 : Both w w7.heap.size (w7.alloc (.cells #[.int .i64 xe, .int .i64 xn, .int .i64 xm, .string xs] 63)) w.heap.size L HD M B := hb7.quiet ((Chg.refl _ _).alloc _)
          have hb8H := hide hb8
          clear hb8 hb7
          cases quiet with
          | true =>
            go_wp2
            go_roundw
            case rel => exact ⟨j + 1, by omega, by go_num, (unhide hb8H).self⟩
            case measure => simp [intOf]; omega
          | false =>
            go_wp2_with fail
            refine (both_seen (unhide hb8H)).mono ?_
            rintro e w9 ⟨rfl, q9⟩
            go_wp2
            go_roundw
            case rel => exact ⟨j + 1, by omega, by go_num, ((unhide hb8H).quiet q9).self⟩
            case measure => simp [intOf]; omega
      · have g1 : decide (j < len) = true := by simpa using hlt
        have g2 : ¬ (j : Int) < 4398046511104 := hmax
        go_wp2
        go_ret2
        exact ⟨⟨_, rfl⟩, unhide hbelH⟩
    · have g1 : decide (j < len) = false := by simpa using hlt
      have g2 : ¬ (j : Int) < (len : Int) := by omega
      go_wp2
      go_ret2
      exact ⟨⟨_, rfl⟩, unhide hbelH⟩
end Go.Proofs.Qxb6500361a
