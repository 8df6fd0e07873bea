/-
  The model: Del.
-/
import Derived.Test.Qxb6500361aMPut
namespace Go.Proofs.Qxb6500361a
open Go.RowKit Go.Qx
set_option linter.unusedSimpArgs false
set_option linter.unusedVariables false

set_option maxHeartbeats 400000 in
theorem mdel_miss (w : World) (m b : Nat) (pre suf : List (Int × ByteArray)) (k : Int) (r : MRep w m b (pre ++ suf)) (hpre : ∀ p ∈ pre, p.1 < k) (hsuf : ∀ p ∈ suf, k < p.1) :
    Calls Try.prog 45 #[ptr m, .int .i64 k] w fun e w' => e = .returned (.int .i64 3) ∧ Quiet w w' := by
  have hl := r.len
  have cm := r.list.cell 0
  simp only [List.getElem?_cons_zero] at cm
  have hnot := mnot w m b pre suf k r hsuf _ rfl
  generalize hN : (pre ++ suf).length = N at cm hl hnot
  clear hN
  have h := place_any w m b pre suf k r hpre (fun x hx => by have := hsuf x hx; omega)
  unfold ptr at *
  go_enter Try.func45, Try.ntmps45
  go_wp2_with fail
  refine h.mono ?_
  rintro e w1 ⟨rfl, hq⟩
  have cm1 := Quiet.cell hq cm
  rcases hnot with hge | ⟨q, hlt, hk, hc⟩
  · generalize pre.length = j at *
    have g1 : decide (N ≤ j) = true := by simp; omega
    go_wp2
    go_ret
    exact ⟨rfl, hq⟩
  · have hc1 := hc w1 hq
    clear hc
    generalize pre.length = j at *
    have i1 : (0 : Int) ≤ (j : Int) := by omega
    have i2 : (j : Int) < (N : Int) := by omega
    have g1 : decide (N ≤ j) = false := by simp; omega
    go_wp2
    go_ret
    exact ⟨rfl, hq⟩

set_option maxHeartbeats 2000000 in
theorem mdel_hit (w : World) (m b : Nat) (pre suf : List (Int × ByteArray)) (q : Int × ByteArray) (r : MRep w m b (pre ++ q :: suf)) (hpre : ∀ p ∈ pre, p.1 < q.1) (hsuf : ∀ p ∈ suf, q.1 ≤ p.1) :
    Calls Try.prog 45 #[ptr m, .int .i64 q.1] w fun e w' => e = .returned (.int .i64 0) ∧ Chg (mown m b) w w' ∧ MRep w' m b (pre ++ suf) := by
  have hl := r.len
  have cm := r.list.cell 0
  simp only [List.getElem?_cons_zero] at cm
  have hNe : (pre ++ q :: suf).length = (pre ++ suf).length + 1 := by simp; omega
  rw [hNe] at cm hl
  have hpl : pre.length ≤ (pre ++ suf).length := by simp
  have hlist0 := r.list
  rw [hNe] at hlist0
  generalize hN : (pre ++ suf).length = N at cm hl hpl hlist0
  have hNH := hide hN
  clear hN hNe
  have h := place_any w m b pre (q :: suf) q.1 r hpre (fun x hx => by rcases List.mem_cons.1 hx with rfl | h; omega; exact hsuf x h)
  have hH := hide h
  clear h
  unfold ptr at *
  go_enter Try.func45, Try.ntmps45
  go_wp2_with fail
  refine (unhide hH).mono ?_
  clear hH
  rintro e w1 ⟨rfl, hq⟩
  have cm1 := Quiet.cell hq cm
  clear cm
  have r1 := r.quiet hq
  have hlist1 := Quiet.blk hq hlist0
  obtain ⟨rest, hrl, hrows⟩ := r1.rows
  have hc := (r1.get pre.length q (get_mid _ _ _)).1
  have hne := r.ne
  have hne' : b ≠ m := Ne.symm hne
  have hj : ∃ j, pre.length = j := ⟨_, rfl⟩
  obtain ⟨j, hj⟩ := hj
  rw [hj] at hc hpl
  rw [hj]
  have hjH := hide hj
  clear hj
  have i1 : (0 : Int) ≤ (j : Int) := by omega
  have i2 : (j : Int) < (N : Int) + 1 := by omega
  have g1 : decide (N + 1 ≤ j) = false := by simp; omega
  have g2 : decide ((N : Int) + 1 ≤ (j : Int)) = false := by simp; omega
  go_wp2
  clear hc g1 g2 cm1
  go_loopg [6] suf.length (fun g jv wr => ∃ (s1 s2 : List (Int × ByteArray)) (y : Int × ByteArray), suf = s1 ++ s2 ∧ s2.length = g ∧ jv = .int .i64 ((pre ++ s1).length : Nat) ∧ Chg (mown m b) w wr ∧ Blk wr m 82 [.slice (some ⟨b, 0, none⟩) (N + 1) 12] ∧ Blk wr b 85 (pairCells (pre ++ s1 ++ y :: (s2 ++ rest))))
  case atStart => exact ⟨[], suf, q, rfl, rfl, by simp [unhide hjH], hq.chg _, hlist1, by simpa using hrows⟩
  case round =>
    clear hlist0 hlist1 hrows
    obtain ⟨s1, s2, y, hs, rfl, rfl, hch, hlist, hrw⟩ := hrel
    have cm2 := hlist.cell 0
    have fm2 := hlist.frozen 0
    simp only [List.getElem?_cons_zero] at cm2
    have hQ : ∃ Q, (pre ++ s1).length = Q := ⟨_, rfl⟩
    obtain ⟨Q, hQ⟩ := hQ
    rw [hQ]
    have hNs := unhide hNH
    cases s2 with
    | nil =>
      have hQN : Q = N := by rw [← hQ, ← hNs, hs]; simp
      subst hQN
      have hsz : suf = s1 := by simpa using hs
      subst hsz
      clear hs hQ hNs
      have i3 : ¬ (Q : Int) + 1 < (Q : Int) + 1 := by omega
      have i5 : (0 : Int) ≤ (Q : Int) := by omega
      have i6 : (Q : Int) ≤ 12 := by omega
      have hw1 : IntKind.i64.wrap (Q : Int) = (Q : Int) := by simp [IntKind.wrap, IntKind.bits, IntKind.signed]; omega
      go_wp2
      go_region
      go_wp2
      go_ret
      refine ⟨rfl, (hch.drew).setCell (.inl (.inl rfl)) _, ?_⟩
      refine ⟨?_, ⟨y :: rest, ?_, ?_⟩, ?_, ?_, ?_, hne⟩
      · rw [unhide hNH]
        exact (hlist.drew).set 0 (.slice (some ⟨b, 0, none⟩) Q 12)
      · simp at hrl ⊢; omega
      · exact (hrw.drew).set_other hne' _
      · have := r.sorted
        simp only [List.pairwise_append, List.pairwise_cons, List.mem_cons] at this ⊢
        exact ⟨this.1, this.2.1.2, fun a ha x hx => this.2.2 a ha x (.inr hx)⟩
      · intro p hp
        refine r.vals p ?_
        simp only [List.mem_append, List.mem_cons] at hp ⊢
        rcases hp with h | h
        · exact .inl h
        · exact .inr (.inr h)
      · intro p hp
        refine r.keys p ?_
        simp only [List.mem_append, List.mem_cons] at hp ⊢
        rcases hp with h | h
        · exact .inl h
        · exact .inr (.inr h)
    | cons z s2 =>
      have hQN : Q < N := by have h1 := hQ; have h2 := hNs; rw [hs] at h2; simp at h1 h2; omega
      have hy := pairCells_get (pre ++ s1 ++ y :: (z :: s2 ++ rest)) (pre ++ s1).length y (get_mid _ _ _)
      have hz := pairCells_get (pre ++ s1 ++ [y] ++ z :: (s2 ++ rest)) (pre ++ s1 ++ [y]).length z (get_mid _ _ _)
      have e1 : pre ++ s1 ++ [y] ++ z :: (s2 ++ rest) = pre ++ s1 ++ y :: (z :: s2 ++ rest) := by simp
      have e2 : (pre ++ s1 ++ [y]).length = Q + 1 := by rw [← hQ]; simp; omega
      rw [e1, e2] at hz
      rw [hQ] at hy
      have c0 := (hrw.cell (Q * 2)).trans hy.1
      have c1 := (hrw.cell (Q * 2 + 1)).trans hy.2
      have c2 := (hrw.cell ((Q + 1) * 2)).trans hz.1
      have c3 := (hrw.cell ((Q + 1) * 2 + 1)).trans hz.2
      have f0 := hrw.frozen (Q * 2)
      have f1 := hrw.frozen (Q * 2 + 1)
      have hQH := hide hQ
      have hsH := hide hs
      clear hy hz e1 e2 hQ hs hNs
      have eQ2 : ((Q : Int) + 1).toNat = Q + 1 := by omega
      have i5 : (0 : Int) ≤ (Q : Int) := by omega
      have i6 : (Q : Int) < (N : Int) + 1 := by omega
      have i7 : (0 : Int) ≤ (Q : Int) + 1 := by omega
      have i8 : (Q : Int) + 1 < (N : Int) + 1 := by omega
      have n1 : Q * 2 ≠ (Q + 1) * 2 := by omega
      have n2 : Q * 2 + 1 ≠ (Q + 1) * 2 := by omega
      have n3 : Q * 2 ≠ (Q + 1) * 2 + 1 := by omega
      have n4 : Q * 2 + 1 ≠ (Q + 1) * 2 + 1 := by omega
      have hw1 : IntKind.i64.wrap ((Q : Int) + 1) = (Q : Int) + 1 := by simp [IntKind.wrap, IntKind.bits, IntKind.signed]; omega
      have kk : ∀ u v, ((wr.setCell ⟨b, Q * 2, none⟩ u).setCell ⟨b, Q * 2 + 1, none⟩ v).cell? ⟨m, 0, none⟩ = some (.slice (some ⟨b, 0, none⟩) (N + 1) 12) ∧ ((wr.setCell ⟨b, Q * 2, none⟩ u).setCell ⟨b, Q * 2 + 1, none⟩ v).cell? ⟨b, (Q + 1) * 2, none⟩ = some (.int .i64 z.1) ∧ ((wr.setCell ⟨b, Q * 2, none⟩ u).setCell ⟨b, Q * 2 + 1, none⟩ v).cell? ⟨b, (Q + 1) * 2 + 1, none⟩ = some (.string z.2) :=
        fun u v => ⟨cell_set2_ne cm2 (.inl hne') (.inl hne'), cell_set2_ne c2 (.inr n1) (.inr n2), cell_set2_ne c3 (.inr n3) (.inr n4)⟩
      have kkH := hide kk
      clear kk
      go_wp2
      go_region_held3 (fun w' => w'.cell? ⟨m, 0, none⟩ = some (.slice (some ⟨b, 0, none⟩) (N + 1) 12) ∧ w'.cell? ⟨b, (Q + 1) * 2, none⟩ = some (.int .i64 z.1) ∧ w'.cell? ⟨b, (Q + 1) * 2 + 1, none⟩ = some (.string z.2)) (first | exact unhide kkH _ _ | go_keep) (fail)
      go_wp2
      go_roundg s2.length
      case measure => simp
      case rel =>
        refine ⟨s1 ++ [z], s2, z, by rw [unhide hsH]; simp, rfl, ?_, ?_, ?_, ?_⟩
        · rw [show (pre ++ (s1 ++ [z])).length = Q + 1 by rw [← unhide hQH]; simp; omega]; go_num
        · exact ((hch.drew).setCell (.inl (.inr rfl)) _).setCell (.inl (.inr rfl)) _
        · exact ((hlist.drew).set_other hne _).set_other hne _
        · have h1 := ((hrw.drew).set (Q * 2) (.int .i64 z.1)).set (Q * 2 + 1) (.string z.2)
          rw [pairCells_set _ Q _ _ (by rw [← unhide hQH]; simp)] at h1
          rw [show (pre ++ s1 ++ y :: (z :: s2 ++ rest)).set Q (z.1, z.2) = pre ++ (s1 ++ [z]) ++ z :: (s2 ++ rest) by
            have := set_mid (pre ++ s1) y z (z :: s2 ++ rest)
            rw [unhide hQH] at this
            simpa using this] at h1
          exact h1
end Go.Proofs.Qxb6500361a
