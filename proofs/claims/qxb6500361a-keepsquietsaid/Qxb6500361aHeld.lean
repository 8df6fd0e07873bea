/-
  fed and held: one step of the law over the real list.
-/
import Derived.Test.Qxb6500361aOwedAny
namespace Go.Proofs.Qxb6500361a
open Go.RowKit Go.Qx
set_option linter.unusedSimpArgs false
set_option linter.unusedVariables false

/-- The real list and the ghost in memory, apart from each other, in new blocks alone, all below Z. -/
structure Kp (W : World) (Z : Nat) (w : World) (c l hd g a b v : Nat) : Prop where
  chg : Chg (fun x => W.heap.size ≤ x) W w
  reps : ∃ s nds top, Rep w c l hd s nds top ∧ Gh w g a b v (kvh nds) s ∧ (∀ x, ownC c l hd nds x → ¬ gown g a b v x) ∧ ∀ x, ownC c l hd nds x → W.heap.size ≤ x ∧ x < Z
  gnew : ∀ x, gown g a b v x → W.heap.size ≤ x ∧ x < Z

theorem Gh.lts {w : World} {g a b v : Nat} {ts : List K3} {p : ByteArray} (r : Gh w g a b v ts p) {x : Nat} (hx : gown g a b v x) : x < w.heap.size := by
  obtain ⟨_, _, h1⟩ := r.ks
  obtain ⟨_, _, h2⟩ := r.hs
  obtain ⟨_, _, h3⟩ := r.vs
  rcases hx with rfl | rfl | rfl | rfl
  · exact r.blk.lt
  · exact h1.lt
  · exact h2.lt
  · exact h3.lt

theorem Kp.quiet {W w w' : World} {Z c l hd g a b v : Nat} (h : Kp W Z w c l hd g a b v) (q : Quiet w w') : Kp W Z w' c l hd g a b v := by
  obtain ⟨h1, ⟨s, nds, top, r, gh, h2, h3⟩, h4⟩ := h
  exact ⟨h1.trans (q.chg _), ⟨s, nds, top, r.quiet q, gh.quiet q, h2, h3⟩, h4⟩

theorem Kp.self {W w : World} {Z c l hd g a b v : Nat} (h : Kp W Z w c l hd g a b v) : Kp W w.heap.size w c l hd g a b v := by
  obtain ⟨h1, ⟨s, nds, top, r, gh, h2, h3⟩, h4⟩ := h
  exact ⟨h1, ⟨s, nds, top, r, gh, h2, fun x hx => ⟨(h3 x hx).1, ownC_lt r hx⟩⟩, fun x hx => ⟨(h4 x hx).1, gh.lts hx⟩⟩

theorem Rep.fit {w : World} {c l hd : Nat} {s : ByteArray} {nds : List Nd} {top : Nat} (r : Rep w c l hd s nds top) : Fit (kvh nds) := by
  intro t ht
  obtain ⟨d, hd', rfl⟩ := mem_kvh ht
  have := r.high d hd'
  have := r.top8
  exact ⟨r.keys d hd', r.vals d hd', by show d.h ≤ 8; omega⟩

theorem Rep.asc {w : World} {c l hd : Nat} {s : ByteArray} {nds : List Nd} {top : Nat} (r : Rep w c l hd s nds top) : (kvh nds).Pairwise (fun a b => a.1 < b.1) := by
  unfold kvh
  rw [List.pairwise_map]
  exact r.sorted

theorem Rep.of_chg' {w w' : World} {c l hd : Nat} {s : ByteArray} {nds : List Nd} {top : Nat} {S : Nat → Prop} (r : Rep w c l hd s nds top) (h : Chg S w w') (hS : ∀ x, ownC c l hd nds x → ¬ S x) : Rep w' c l hd s nds top :=
  r.of_chg h (hS c (.inl rfl)) (hS l (.inr (.inl rfl))) (hS hd (.inr (.inr (.inl rfl)))) (fun d hd' => hS d.addr (.inr (.inr (.inr ⟨d, hd', rfl⟩))))

/-- The ghost's purse turned. -/
theorem Gh.setP {w : World} {g a b v : Nat} {ts : List K3} {p : ByteArray} (r : Gh w g a b v ts p) (q : ByteArray) : Gh (w.setCell ⟨g, 3, none⟩ (.string q)) g a b v ts q := by
  obtain ⟨n1, n2, n3, n4, n5, n6⟩ := r.nes
  obtain ⟨s1, k1, k2⟩ := r.ks
  obtain ⟨s2, h1, h2⟩ := r.hs
  obtain ⟨s3, v1, v2⟩ := r.vs
  exact ⟨r.blk.set 3 _, ⟨s1, k1, k2.set_other (Ne.symm n1) _⟩, ⟨s2, h1, h2.set_other (Ne.symm n2) _⟩, ⟨s3, v1, v2.set_other (Ne.symm n3) _⟩, r.nes⟩

theorem ansA_nine (ts : List K3) (o : Opr) (h : o.k = 9) : ansA ts o = ⟨0, 0, 0, ⟨#[]⟩⟩ := by unfold ansA; simp [h]
theorem ansA_m (ts : List K3) (o : Opr) : (ansK ts o).m = 0 := by
  unfold ansK ansA
  repeat' split
  all_goals rfl

theorem nextP_len (ts : List K3) (p : List UInt8) (o : Opr) (h : p.length ≤ 32) : (nextP ts p o).length ≤ 32 := by
  unfold nextP
  have := (toss_bounds 7 p).2.2
  repeat' split
  all_goals omega

set_option maxRecDepth 100000 in
set_option maxHeartbeats 2000000 in
theorem held_any {W w : World} {Z c l hd g a b v : Nat} (h : Kp W Z w c l hd g a b v) (o : Opr) (hs : o.s.size ≤ maxLen) (ha1 : -9223372036854775808 ≤ o.a) (ha2 : o.a ≤ 9223372036854775807) :
    Calls Try.prog 21 #[ptr c, ptr l, ptr g, opOf o] w fun e w' => e = .returned (.bool true) ∧ Chg (fun x => W.heap.size ≤ x ∧ x < Z) w w' ∧ Kp W w'.heap.size w' c l hd g a b v := by
  obtain ⟨h1, ⟨s, nds, top, r, gh, h2, h3⟩, h4⟩ := h
  obtain ⟨k, oa, ob, oc, os, ot⟩ := o
  simp only at hs ha1 ha2
  have q0 : Quiet w (w.alloc (.cells #[.int .i64 k, .int .i64 oa, .int .i64 ob, .int .i64 oc, .string os, .string ot] 44)) := (Chg.refl _ _).alloc _
  have bo0 := Blk.new w 44 [.int .i64 k, .int .i64 oa, .int .i64 ob, .int .i64 oc, .string os, .string ot]
  have hdo := do_any _ c l hd s nds top (r.quiet q0) ⟨k, oa, ob, oc, os, ot⟩ hs ha1 ha2
  have gh0 := gh.quiet q0
  have hlO : ∀ x, ownC c l hd nds x → x < w.heap.size := fun x hx => ownC_lt r hx
  have hgO : ∀ x, gown g a b v x → x < w.heap.size := fun x hx => gh.lts hx
  have hz0 : w.heap.size < (w.alloc (.cells #[.int .i64 k, .int .i64 oa, .int .i64 ob, .int .i64 oc, .string os, .string ot] 44)).heap.size := bo0.lt
  have cg := gh0.blk.cell 3
  simp only [List.getElem?_cons_zero, List.getElem?_cons_succ] at cg
  have hfit := r.fit
  have hasc := r.asc
  have hsl := r.slen
  unfold opOf opv at hdo ⊢
  have hdoH := hide hdo
  clear hdo
  unfold ptr at *
  go_enter Try.func21, Try.ntmps21
  go_wp2_with fail
  refine (unhide hdoH).mono ?_
  clear hdoH cg
  intro e w1 hpost
  obtain ⟨he, hch, nds', s', top', r1, hk, hs', hold⟩ := hpost
  subst he
  have gh1 := gh0.of_chg hch (fun x hx hs => h2 x hs hx)
  have bo1 := hch.blk bo0 (fun hs => by have := hlO _ hs; omega)
  have hch1 := hch.size
  have hnew : ∀ x, ownC c l hd nds' x → ¬ gown g a b v x ∧ W.heap.size ≤ x := by
    intro x hx
    have key : ownC c l hd nds x ∨ w.heap.size < x := by
      rcases hx with rfl | rfl | rfl | ⟨d, hd', rfl⟩
      · exact .inl (.inl rfl)
      · exact .inl (.inr (.inl rfl))
      · exact .inl (.inr (.inr (.inl rfl)))
      · rcases hold d hd' with ⟨e, he, hea⟩ | h
        · rw [hea]; exact .inl (.inr (.inr (.inr ⟨e, he, rfl⟩)))
        · exact .inr (by omega)
    rcases key with h | h
    · exact ⟨h2 x h, (h3 x h).1⟩
    · refine ⟨fun hg => ?_, ?_⟩
      · have := hgO x hg; omega
      · have := h1.size; omega
  have chw1 : Chg (fun x => W.heap.size ≤ x ∧ x < Z) w w1 := Chg.trans' (q0.chg _) hch (fun i _ h => h3 i h)
  have hbig : w.heap.size < w1.heap.size := by omega
  have hsp : Hid (s'.data.toList = nextP (kvh nds) s.data.toList ⟨k, oa, ob, oc, os, ot⟩) := by show _ = _; rw [hs']; exact List.toList_toArray
  have howed := fun V (qV : Quiet w1 V) => owed_any V g a b v (kvh nds) s (gh1.quiet qV) hasc hfit hsl ⟨k, oa, ob, oc, os, ot⟩
  rw [← hk, ← hs'] at howed
  have hcoin := fun V (qV : Quiet w1 V) => coins_any V c s' (qV.blk r1.coin)
  unfold opOf opv at howed
  unfold ptr at howed hcoin
  have howedH := hide howed
  have hcoinH := hide hcoin
  have hfinal : Hid (∀ V w3, Quiet w1 V → Chg (gown g a b v) V w3 → Gh w3 g a b v (kvh nds') s → ∀ w4, Quiet (w3.setCell ⟨g, 3, none⟩ (.string s')) w4 → Chg (fun x => W.heap.size ≤ x ∧ x < Z) w w4 ∧ Kp W w4.heap.size w4 c l hd g a b v) := by
    intro V w3 qV c3 g3 w4 q4
    have g4 := (g3.setP s').quiet q4
    have cz : Chg (fun x => W.heap.size ≤ x ∧ x < Z) w w4 := (((chw1.trans (qV.chg _)).trans' c3 (fun i _ h => h4 i h)).setCell (.inl (h4 g (.inl rfl))) _).trans (q4.chg _)
    have r4 : Rep w4 c l hd s' nds' top' := ((r1.quiet qV).of_chg' c3 (fun x hx hg => (hnew x hx).1 hg)).of_chg' (S := fun x => x = g) ((Chg.setCell (S := fun x => x = g) (p := ⟨g, 3, none⟩) (Chg.refl _ w3) (.inl rfl) _).trans (q4.chg _)) (fun x hx hg => (hnew x hx).1 (.inl hg))
    refine ⟨cz, h1.trans (cz.mono (fun _ _ h => h.1)), ⟨s', nds', top', r4, g4, fun x hx => (hnew x hx).1, fun x hx => ⟨(hnew x hx).2, ownC_lt r4 hx⟩⟩, fun x hx => ⟨(h4 x hx).1, g4.lts hx⟩⟩
  clear howed hcoin
  by_cases hk9 : k = 9
  · subst hk9
    have hKA : ansA (kvh nds) ⟨9, oa, ob, oc, os, ot⟩ = ⟨0, 0, 0, ⟨#[]⟩⟩ := ansA_nine _ _ rfl
    have hmm := ansA_m (kvh nds) ⟨9, oa, ob, oc, os, ot⟩
    have hKK : Hid ((ansK (kvh nds) ⟨9, oa, ob, oc, os, ot⟩ = if 0 ≤ oa ∧ oa < 8 then ⟨0, 0, 0, levelT oa.toNat (kvh nds)⟩ else ⟨4, 0, 0, ⟨#[]⟩⟩)) := by show _ = _; unfold ansK; rw [if_pos rfl]
    rw [hKA]
    unfold anOf ansv at *
    simp only
    have qA : Quiet w1 (w1.alloc (.cells #[.int .i64 0, .int .i64 0, .int .i64 0, .string ⟨#[]⟩] 63)) := (Chg.refl _ _).alloc _
    have bA := Blk.new w1 63 [.int .i64 0, .int .i64 0, .int .i64 0, .string ⟨#[]⟩]
    have bo2 := bo1.alloc (.cells #[.int .i64 0, .int .i64 0, .int .i64 0, .string ⟨#[]⟩] 63)
    have co := bo2.cell
    have hnn : kvh nds' = kvh nds := by rw [hk]; simp [nextT]
    have hlev : ∃ E S, Hid (ansK (kvh nds) ⟨9, oa, ob, oc, os, ot⟩ = ⟨E, 0, 0, S⟩) ∧ Hid (Calls Try.prog 17 #[.pointer (some ⟨l, 0, none⟩), .int .i64 oa] (w1.alloc (.cells #[.int .i64 0, .int .i64 0, .int .i64 0, .string ⟨#[]⟩] 63)) fun e w' => e = .returned (.tuple #[.string S, .int .i64 E]) ∧ Quiet (w1.alloc (.cells #[.int .i64 0, .int .i64 0, .int .i64 0, .string ⟨#[]⟩] 63)) w') := by
      by_cases hr : 0 ≤ oa ∧ oa < 8
      · obtain ⟨lv, rfl⟩ : ∃ lv : Nat, oa = lv := ⟨oa.toNat, by omega⟩
        have hl := level_any _ c l hd s' nds' top' lv (r1.quiet qA) (by omega)
        rw [← levelT_kvh, hnn] at hl
        refine ⟨0, levelT lv (kvh nds), ?_, hl⟩
        have := unhide hKK
        rw [if_pos hr] at this
        exact this
      · refine ⟨4, ⟨#[]⟩, ?_, ?_⟩
        · have := unhide hKK
          rw [if_neg hr] at this
          exact this
        · exact (level_bad _ l oa (by omega)).mono fun e w' ⟨g1, g2⟩ => ⟨g1, g2 ▸ Quiet.refl _⟩
    obtain ⟨xe, xs, hXe, hlevH⟩ := hlev
    rw [unhide hXe] at howedH
    simp only at howedH
    clear hKA hmm hKK hnn
    go_wp2_with fail
    refine (unhide hlevH).mono ?_
    rintro e V ⟨rfl, qV⟩
    have bAV := qV.blk bA
    have boV := qV.blk bo2
    have qAV := Quiet.trans qA qV
    have hVz := qV.size
    have hV1 : w1.heap.size < V.heap.size := bAV.lt
    have fA0 := bAV.frozen 0
    have fA3 := bAV.frozen 3
    have cAV := bAV.cell
    have coV := boV.cell
    -- the two stores
    have bA2 : Blk ((V.setCell ⟨w1.heap.size, 3, none⟩ (.string xs)).setCell ⟨w1.heap.size, 0, none⟩ (.int .i64 xe)) w1.heap.size 63 [.int .i64 xe, .int .i64 0, .int .i64 0, .string xs] := (bAV.set 3 _).set 0 _
    have q2 : Quiet w1 ((V.setCell ⟨w1.heap.size, 3, none⟩ (.string xs)).setCell ⟨w1.heap.size, 0, none⟩ (.int .i64 xe)) := (qAV.setCell (.inr (Nat.le_refl _)) _).setCell (.inr (Nat.le_refl _)) _
    have bo3 : Blk ((V.setCell ⟨w1.heap.size, 3, none⟩ (.string xs)).setCell ⟨w1.heap.size, 0, none⟩ (.int .i64 xe)) w.heap.size 44 [.int .i64 9, .int .i64 oa, .int .i64 ob, .int .i64 oc, .string os, .string ot] := (boV.set_other (show w.heap.size ≠ w1.heap.size by omega) _).set_other (show w.heap.size ≠ w1.heap.size by omega) _
    have hc1 := unhide hcoinH _ q2
    have hw1 := unhide howedH _ q2
    have hc1H := hide hc1
    have hw1H := hide hw1
    have q2H := hide q2
    have bA2H := hide bA2
    have bo3H := hide bo3
    clear hc1 hw1 hcoinH howedH q2 bA2 bo3
    go_wp2_with fail
    refine (unhide hc1H).mono ?_
    rintro e V2 ⟨rfl, hV2⟩
    have q2 := unhide q2H
    have bA2 := unhide bA2H
    have bo3 := unhide bo3H
    rw [← hV2] at q2 bA2 bo3 hw1H
    clear hV2 hc1H q2H bA2H bo3H cAV coV
    have co3 := bo3.cell
    go_wp2_with fail
    refine (unhide hw1H).mono ?_
    rintro e w3 ⟨rfl, c3, g3⟩
    have bA3 := c3.blk bA2 (fun hg => by have := hgO _ hg; omega)
    have cA := bA3.cell
    have f3 := g3.blk.frozen 3
    have c33 := g3.blk.cell 3
    simp only [List.getElem?_cons_zero, List.getElem?_cons_succ] at c33
    have hb1 : (xe == xe) = true := by simp
    have hb4 : (xs.toList == xs.toList) = true := by simp
    have hb5 : (s'.toList == s'.toList) = true := by simp
    have hAg : w1.heap.size ≠ g := by have := hgO g (.inl rfl); omega
    have hgA := Ne.symm hAg
    have hz3 := bA3.lt
    have hgl3 := g3.blk.lt
    have hg3n : w3.heap.size ≠ g := by omega
    have hg3m := Ne.symm hg3n
    have hA3n : w3.heap.size ≠ w1.heap.size := by omega
    have hA3m := Ne.symm hA3n
    go_wp2
    go_ret
    rw [← hs']
    exact ⟨rfl, unhide hfinal V2 w3 q2 c3 g3 _ ((Chg.refl _ _).alloc _)⟩
  · have hk9b : (k == 9) = false := by simpa using hk9
    have hKA : ansK (kvh nds) ⟨k, oa, ob, oc, os, ot⟩ = ansA (kvh nds) ⟨k, oa, ob, oc, os, ot⟩ := by unfold ansK; rw [if_neg hk9]
    rw [hKA] at howedH
    clear hKA hk9
    unfold anOf ansv at *
    generalize ansA (kvh nds) ⟨k, oa, ob, oc, os, ot⟩ = X at *
    obtain ⟨xe, xn, xm, xs⟩ := X
    simp only at howedH ⊢
    have qA : Quiet w1 (w1.alloc (.cells #[.int .i64 xe, .int .i64 xn, .int .i64 xm, .string xs] 63)) := (Chg.refl _ _).alloc _
    have bA := Blk.new w1 63 [.int .i64 xe, .int .i64 xn, .int .i64 xm, .string xs]
    have bo2 := bo1.alloc (.cells #[.int .i64 xe, .int .i64 xn, .int .i64 xm, .string xs] 63)
    have co := bo2.cell
    have hc1 := unhide hcoinH _ qA
    have hw1 := unhide howedH _ qA
    have hc1H := hide hc1
    have hw1H := hide hw1
    clear hc1 hw1 hcoinH howedH
    go_wp2_with fail
    refine (unhide hc1H).mono ?_
    rintro e V ⟨rfl, hV⟩
    rw [← hV] at qA bA bo2 hw1H co
    clear hV hc1H
    go_wp2_with fail
    refine (unhide hw1H).mono ?_
    rintro e w3 ⟨rfl, c3, g3⟩
    have bA3 := c3.blk bA (fun hg => by have := hgO _ hg; omega)
    have cA := bA3.cell
    have f3 := g3.blk.frozen 3
    have c33 := g3.blk.cell 3
    simp only [List.getElem?_cons_zero, List.getElem?_cons_succ] at c33
    have hb1 : (xe == xe) = true := by simp
    have hb2 : (xn == xn) = true := by simp
    have hb3 : (xm == xm) = true := by simp
    have hb4 : (xs.toList == xs.toList) = true := by simp
    have hb5 : (s'.toList == s'.toList) = true := by simp
    have hAg : w1.heap.size ≠ g := by have := hgO g (.inl rfl); omega
    have hgA := Ne.symm hAg
    have hz3 := bA3.lt
    have hgl3 := g3.blk.lt
    have hg3n : w3.heap.size ≠ g := by omega
    have hg3m := Ne.symm hg3n
    have hA3n : w3.heap.size ≠ w1.heap.size := by omega
    have hA3m := Ne.symm hA3n
    go_wp2
    go_ret
    rw [← hs']
    exact ⟨rfl, unhide hfinal V w3 qA c3 g3 _ ((Chg.refl _ _).alloc _)⟩
end Go.Proofs.Qxb6500361a
