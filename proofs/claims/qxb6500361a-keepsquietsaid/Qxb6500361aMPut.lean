/-
  The model: Put, Del.
-/
import Derived.Test.Qxb6500361aMod
namespace Go.Proofs.Qxb6500361a
open Go.RowKit Go.Qx
set_option linter.unusedSimpArgs false
set_option linter.unusedVariables false

/-- The blocks of the model. -/
def mown (m b x : Nat) : Prop := x = m ∨ x = b

theorem mput_long (w : World) (m : Nat) (k : Int) (v : ByteArray) (hv : 8 < v.size) (hm : v.size ≤ maxLen) :
    Calls Try.prog 43 #[ptr m, .int .i64 k, .string v] w fun e w' => e = .returned (.int .i64 1) ∧ w' = w := by
  unfold ptr maxLen at *
  go_enter Try.func43, Try.ntmps43
  go_wp2
  go_ret
  exact ⟨rfl, rfl⟩

set_option maxHeartbeats 1000000 in
theorem mput_hit (w : World) (m b : Nat) (pre suf : List (Int × ByteArray)) (q : Int × ByteArray) (v : ByteArray) (hv : v.size ≤ 8) (r : MRep w m b (pre ++ q :: suf)) (hpre : ∀ p ∈ pre, p.1 < q.1) (hsuf : ∀ p ∈ suf, q.1 ≤ p.1) :
    Calls Try.prog 43 #[ptr m, .int .i64 q.1, .string v] w fun e w' => e = .returned (.int .i64 0) ∧ Chg (mown m b) w w' ∧ MRep w' m b (pre ++ (q.1, v) :: suf) := by
  have h8 : (v.size : Int) ≤ 8 := by omega
  have hl := r.len
  have cm := r.list.cell 0
  simp only [List.getElem?_cons_zero] at cm
  have hlt : pre.length < (pre ++ q :: suf).length := by simp
  generalize hN : (pre ++ q :: suf).length = N at cm hl hlt
  have hNH := hide hN
  clear hN
  have h := place_any w m b pre (q :: suf) q.1 r hpre (fun x hx => by rcases List.mem_cons.1 hx with rfl | h; omega; exact hsuf x h)
  unfold ptr at *
  go_enter Try.func43, Try.ntmps43
  go_wp2_with fail
  refine h.mono ?_
  rintro e w1 ⟨rfl, hq⟩
  have cm1 := Quiet.cell hq cm
  have r1 := r.quiet hq
  have hc := r1.get pre.length q (by rw [List.getElem?_append_right (Nat.le_refl _)]; simp)
  obtain ⟨rest, hrl, hrows⟩ := r1.rows
  have hf := hrows.frozen (pre.length * 2 + 1)
  generalize hj : pre.length = j at *
  have hjH := hide hj
  clear hj
  have i1 : (0 : Int) ≤ (j : Int) := by omega
  have i2 : (j : Int) < (N : Int) := by omega
  have g1 : decide (j < N) = true := by simp; omega
  go_wp2
  go_ret
  refine ⟨rfl, (hq.chg _).setCell (.inl (.inr rfl)) _, ?_⟩
  refine ⟨?_, ⟨rest, by simpa using hrl, ?_⟩, ?_, ?_, ?_, r.ne⟩
  · have := r1.list.set_other (a := ⟨b, j * 2 + 1, none⟩) r.ne (.string v)
    simpa using this
  · have := hrows.set (j * 2 + 1) (.string v)
    rw [pairCells_setv _ j q.1 q.2 v (by rw [List.append_assoc, ← unhide hjH, List.getElem?_append_right (Nat.le_refl _)]; simp)] at this
    rw [show (pre ++ q :: suf ++ rest).set j (q.1, v) = pre ++ (q.1, v) :: suf ++ rest by rw [← unhide hjH]; simp] at this
    exact this
  · have := r.sorted
    simp only [List.pairwise_append, List.pairwise_cons, List.mem_cons] at this ⊢
    refine ⟨this.1, ⟨this.2.1.1, this.2.1.2⟩, ?_⟩
    intro a ha x hx
    rcases hx with rfl | hx
    · exact this.2.2 a ha q (.inl rfl)
    · exact this.2.2 a ha x (.inr hx)
  · intro p hp
    simp only [List.mem_append, List.mem_cons] at hp
    rcases hp with hp | rfl | hp
    · exact r.vals p (by simp [hp])
    · exact hv
    · exact r.vals p (by simp [hp])
  · intro p hp
    simp only [List.mem_append, List.mem_cons] at hp
    rcases hp with hp | rfl | hp
    · exact r.keys p (by simp [hp])
    · exact r.keys q (by simp)
    · exact r.keys p (by simp [hp])

set_option maxHeartbeats 1000000 in
theorem mput_full (w : World) (m b : Nat) (pre suf : List (Int × ByteArray)) (k : Int) (v : ByteArray) (hv : v.size ≤ 8) (r : MRep w m b (pre ++ suf)) (hpre : ∀ p ∈ pre, p.1 < k) (hsuf : ∀ p ∈ suf, k < p.1) (hfull : 12 ≤ (pre ++ suf).length) :
    Calls Try.prog 43 #[ptr m, .int .i64 k, .string v] w fun e w' => e = .returned (.int .i64 2) ∧ Quiet w w' := by
  have h8 : (v.size : Int) ≤ 8 := by omega
  have cm := r.list.cell 0
  simp only [List.getElem?_cons_zero] at cm
  have hnot := mnot w m b pre suf k r hsuf _ rfl
  generalize hN : (pre ++ suf).length = N at cm hnot hfull
  clear hN
  have hN12 : (12 : Int) ≤ (N : Int) := by omega
  have h := place_any w m b pre suf k r hpre (fun x hx => by have := hsuf x hx; omega)
  unfold ptr at *
  go_enter Try.func43, Try.ntmps43
  go_wp2_with fail
  refine h.mono ?_
  rintro e w1 ⟨rfl, hq⟩
  have cm1 := Quiet.cell hq cm
  rcases hnot with hge | ⟨q, hlt, hk, hc⟩
  · generalize pre.length = j at *
    have g1 : decide (j < N) = false := by simp; omega
    go_wp2
    go_ret
    exact ⟨rfl, hq⟩
  · have hc1 := hc w1 hq
    clear hc
    generalize pre.length = j at *
    have i1 : (0 : Int) ≤ (j : Int) := by omega
    have i2 : (j : Int) < (N : Int) := by omega
    have g1 : decide (j < N) = true := by simp; omega
    go_wp2
    go_ret
    exact ⟨rfl, hq⟩

/-- The model's Put of a new key: the loop that makes room, and what stands behind it. -/
theorem insert_rep {w wf : World} {m b : Nat} {pre suf rest2 : List (Int × ByteArray)} {k : Int} {v : ByteArray} (r : MRep w m b (pre ++ suf)) (hv : v.size ≤ 8) (hk1 : -9223372036854775808 ≤ k) (hk2 : k ≤ 9223372036854775807) (hpre : ∀ p ∈ pre, p.1 < k) (hsuf : ∀ p ∈ suf, k < p.1)
    (hlist : Blk wf m 82 [.slice (some ⟨b, 0, none⟩) ((pre ++ suf).length + 1) 12]) (hlen : (pre ++ (k, v) :: (suf ++ rest2)).length = 12) (hrows : Blk wf b 85 (pairCells (pre ++ (k, v) :: (suf ++ rest2)))) : MRep wf m b (pre ++ (k, v) :: suf) := by
  refine ⟨?_, ⟨rest2, by simpa using hlen, by simpa using hrows⟩, ?_, ?_, ?_, r.ne⟩
  · have e : (pre ++ (k, v) :: suf).length = (pre ++ suf).length + 1 := by simp; omega
    rw [e]; exact hlist
  · have := r.sorted
    simp only [List.pairwise_append, List.pairwise_cons, List.mem_cons] at this ⊢
    refine ⟨this.1, ⟨hsuf, this.2.1⟩, ?_⟩
    intro a ha x hx
    rcases hx with rfl | hx
    · exact hpre a ha
    · exact this.2.2 a ha x hx
  · intro p hp
    simp only [List.mem_append, List.mem_cons] at hp
    rcases hp with hp | rfl | hp
    · exact r.vals p (by simp [hp])
    · exact hv
    · exact r.vals p (by simp [hp])
  · intro p hp
    simp only [List.mem_append, List.mem_cons] at hp
    rcases hp with hp | rfl | hp
    · exact r.keys p (by simp [hp])
    · exact ⟨hk1, hk2⟩
    · exact r.keys p (by simp [hp])

theorem get_mid (a : List (Int × ByteArray)) (z : Int × ByteArray) (l : List (Int × ByteArray)) : (a ++ z :: l)[a.length]? = some z := by
  rw [List.getElem?_append_right (Nat.le_refl _)]; simp

theorem set_mid (a : List (Int × ByteArray)) (z x : Int × ByteArray) (l : List (Int × ByteArray)) : (a ++ z :: l).set a.length x = a ++ x :: l := by
  rw [List.set_append_right _ _ (Nat.le_refl _)]; simp

set_option maxHeartbeats 2000000 in
theorem mput_new (w : World) (m b : Nat) (pre suf : List (Int × ByteArray)) (k : Int) (v : ByteArray) (hv : v.size ≤ 8) (hk1 : -9223372036854775808 ≤ k) (hk2 : k ≤ 9223372036854775807) (r : MRep w m b (pre ++ suf)) (hpre : ∀ p ∈ pre, p.1 < k) (hsuf : ∀ p ∈ suf, k < p.1) (hroom : (pre ++ suf).length < 12) :
    Calls Try.prog 43 #[ptr m, .int .i64 k, .string v] w fun e w' => e = .returned (.int .i64 0) ∧ Chg (mown m b) w w' ∧ MRep w' m b (pre ++ (k, v) :: suf) := by
  have h8 : (v.size : Int) ≤ 8 := by omega
  have cm := r.list.cell 0
  simp only [List.getElem?_cons_zero] at cm
  have hnot := mnot w m b pre suf k r hsuf _ rfl
  have hpl : pre.length ≤ (pre ++ suf).length := by simp
  generalize hN : (pre ++ suf).length = N at cm hnot hroom hpl
  have hNH := hide hN
  clear hN
  have hN12 : (N : Int) < 12 := by omega
  have h := place_any w m b pre suf k r hpre (fun x hx => by have := hsuf x hx; omega)
  have hH := hide h
  clear h
  unfold ptr at *
  go_enter Try.func43, Try.ntmps43
  go_wp2_with fail
  refine (unhide hH).mono ?_
  clear hH
  rintro e w1 ⟨rfl, hq⟩
  have cm1 := Quiet.cell hq cm
  clear cm
  have r1 := r.quiet hq
  obtain ⟨rest, hrl, hrows⟩ := r1.rows
  have hml := r1.list.lt
  have hbl := hrows.lt
  have hfm := r1.list.frozen 0
  have hne := r.ne
  have hne' : b ≠ m := Ne.symm hne
  obtain ⟨z, rest2, hrest⟩ : ∃ z rest2, rest = z :: rest2 := by
    cases rest with
    | nil => have := unhide hNH; simp at hrl this; omega
    | cons z rest2 => exact ⟨z, rest2, rfl⟩
  subst hrest
  have hcz := pairCells_get (pre ++ suf ++ z :: rest2) (pre ++ suf).length z (get_mid _ _ _)
  rw [unhide hNH] at hcz
  have cz0 := (hrows.cell (N * 2)).trans hcz.1
  have cz1 := (hrows.cell (N * 2 + 1)).trans hcz.2
  have fz0 := hrows.frozen (N * 2)
  have fz1 := hrows.frozen (N * 2 + 1)
  clear hcz
  have hj : ∃ j, pre.length = j := ⟨_, rfl⟩
  obtain ⟨j, hj⟩ := hj
  rw [hj] at hnot hpl
  rw [hj]
  have hjH := hide hj
  clear hj
  have hcase : (decide (j < N) = false) ∨ ∃ q : Int × ByteArray, (j : Int) < (N : Int) ∧ (0 : Int) ≤ (j : Int) ∧ decide (j < N) = true ∧ (q.1 == k) = false ∧ w1.cell? ⟨b, j * 2, none⟩ = some (.int .i64 q.1) := by
    rcases hnot with hge | ⟨q, hlt, hk, hc⟩
    · left; simp; omega
    · right; exact ⟨q, by omega, by omega, by simp; omega, hk, hc w1 hq⟩
  clear hnot
  have eN : ((N : Int) + 1) - 1 = (N : Int) := by omega
  rcases hcase with g1 | ⟨q, i1, i2, g1, hk, hc1⟩
  all_goals
    go_wp2
    go_loopg [8] suf.length (fun g jv wr => ∃ (s1 s2 : List (Int × ByteArray)) (y : Int × ByteArray), suf = s1 ++ s2 ∧ s1.length = g ∧ jv = .int .i64 ((pre ++ s1).length : Nat) ∧ Chg (mown m b) w wr ∧ Blk wr m 82 [.slice (some ⟨b, 0, none⟩) (N + 1) 12] ∧ Blk wr b 85 (pairCells (pre ++ s1 ++ y :: (s2 ++ rest2))))
    case atStart =>
      refine ⟨suf, [], (0, ⟨#[]⟩), by simp, rfl, by rw [unhide hNH], ?_, ?_, ?_⟩
      · exact ((((hq.chg (mown m b)).setCell (.inl (.inr rfl)) _).setCell (.inl (.inr rfl)) _).setCell (.inl (.inl rfl)) _).alloc _
      · exact (((r1.list.set_other hne _).set_other hne _).set 0 _).alloc _
      · have h1 := (((hrows.set (N * 2) (.int .i64 0)).set (N * 2 + 1) (.string ⟨#[]⟩)).set_other (a := ⟨m, 0, none⟩) hne' (.slice (some ⟨b, 0, none⟩) (N + 1) 12)).alloc (.cells #[.int .i64 0, .string ⟨#[]⟩] 85)
        rw [pairCells_set _ N _ _ (by omega)] at h1
        rw [show (pre ++ suf ++ z :: rest2).set N (0, ⟨#[]⟩) = pre ++ suf ++ (0, ⟨#[]⟩) :: ([] ++ rest2) by rw [← unhide hNH, set_mid]; rfl] at h1
        exact h1
    case round =>
      clear cm1 cz0 cz1 fz0 fz1 hfm hml hbl
      obtain ⟨s1, s2, y, hs, rfl, rfl, hch, hlist, hrw⟩ := hrel
      have cm2 := hlist.cell 0
      simp only [List.getElem?_cons_zero] at cm2
      have hlenN : (pre ++ s1).length ≤ N := by have := unhide hNH; rw [hs] at this; simp at this ⊢; omega
      rcases List.eq_nil_or_concat s1 with rfl | ⟨s1', z1, rfl⟩
      · simp only [List.append_nil] at *
        have hst : s2 = suf := by simpa using hs.symm
        subst hst
        have hy := pairCells_get (pre ++ y :: (s2 ++ rest2)) pre.length y (get_mid _ _ _)
        have c0 := (hrw.cell (pre.length * 2)).trans hy.1
        have c1 := (hrw.cell (pre.length * 2 + 1)).trans hy.2
        have f0 := hrw.frozen (pre.length * 2)
        have f1 := hrw.frozen (pre.length * 2 + 1)
        rw [unhide hjH] at c0 c1 f0 f1 hlenN ⊢
        clear hy hs
        have i5 : (0 : Int) ≤ (j : Int) := by omega
        have i6 : (j : Int) < (N : Int) + 1 := by omega
        go_wp2
        go_ret
        refine ⟨rfl, (hch.setCell (.inl (.inr rfl)) _).setCell (.inl (.inr rfl)) _, ?_⟩
        refine insert_rep (rest2 := rest2) r hv hk1 hk2 hpre hsuf ?_ ?_ ?_
        · rw [unhide hNH]
          exact (hlist.set_other hne _).set_other hne _
        · have := unhide hNH; simp at hrl this ⊢; omega
        · have h1 := (hrw.set (j * 2) (.int .i64 k)).set (j * 2 + 1) (.string v)
          rw [pairCells_set _ j _ _ (by rw [← unhide hjH]; simp)] at h1
          rw [show (pre ++ y :: (s2 ++ rest2)).set j (k, v) = pre ++ (k, v) :: (s2 ++ rest2) by rw [← unhide hjH, set_mid]] at h1
          exact h1
      · rw [List.concat_eq_append] at *
        have hQ : ∃ Q, (pre ++ s1').length = Q := ⟨_, rfl⟩
        obtain ⟨Q, hQ⟩ := hQ
        have hz := pairCells_get (pre ++ s1' ++ z1 :: (y :: (s2 ++ rest2))) (pre ++ s1').length z1 (get_mid _ _ _)
        have hy := pairCells_get (pre ++ (s1' ++ [z1]) ++ y :: (s2 ++ rest2)) (pre ++ (s1' ++ [z1])).length y (get_mid _ _ _)
        have e1 : pre ++ (s1' ++ [z1]) ++ y :: (s2 ++ rest2) = pre ++ s1' ++ z1 :: (y :: (s2 ++ rest2)) := by simp
        have e2 : (pre ++ (s1' ++ [z1])).length = Q + 1 := by rw [← hQ]; simp; omega
        rw [e1] at hrw hy
        rw [e2] at hlenN hy ⊢
        rw [hQ] at hz
        have c0 := (hrw.cell (Q * 2)).trans hz.1
        have c1 := (hrw.cell (Q * 2 + 1)).trans hz.2
        have c2 := (hrw.cell ((Q + 1) * 2)).trans hy.1
        have c3 := (hrw.cell ((Q + 1) * 2 + 1)).trans hy.2
        have f2 := hrw.frozen ((Q + 1) * 2)
        have f3 := hrw.frozen ((Q + 1) * 2 + 1)
        have hjQ : j ≤ Q := by rw [← hQ, ← unhide hjH]; simp
        have hQH := hide hQ
        have hsH := hide hs
        clear hz hy e1 e2 hQ hs
        have eQ : ((Q + 1 : Nat) : Int) = (Q : Int) + 1 := by omega
        rw [eQ]
        have eQ1 : (Q : Int) + 1 - 1 = (Q : Int) := by omega
        have eQ2 : ((Q : Int) + 1).toNat = Q + 1 := by omega
        have i5 : (0 : Int) ≤ (Q : Int) := by omega
        have i6 : (Q : Int) < (N : Int) + 1 := by omega
        have i7 : (0 : Int) ≤ (Q : Int) + 1 := by omega
        have i8 : (Q : Int) + 1 < (N : Int) + 1 := by omega
        have i9 : (j : Int) < (Q : Int) + 1 := by omega
        have n1 : (Q + 1) * 2 ≠ Q * 2 := by omega
        have n2 : (Q + 1) * 2 + 1 ≠ Q * 2 := by omega
        have n3 : (Q + 1) * 2 ≠ Q * 2 + 1 := by omega
        have n4 : (Q + 1) * 2 + 1 ≠ Q * 2 + 1 := by omega
        clear eQ
        have hw1 : IntKind.i64.wrap (Q : Int) = (Q : Int) := by simp [IntKind.wrap, IntKind.bits, IntKind.signed]; omega
        have hw2 : IntKind.i64.wrap ((Q : Int) + 1 - 1) = (Q : Int) := by rw [eQ1]; exact hw1
        have kk : ∀ u v, ((wr.setCell ⟨b, (Q + 1) * 2, none⟩ u).setCell ⟨b, (Q + 1) * 2 + 1, none⟩ v).cell? ⟨m, 0, none⟩ = some (.slice (some ⟨b, 0, none⟩) (N + 1) 12) ∧ ((wr.setCell ⟨b, (Q + 1) * 2, none⟩ u).setCell ⟨b, (Q + 1) * 2 + 1, none⟩ v).cell? ⟨b, Q * 2, none⟩ = some (.int .i64 z1.1) ∧ ((wr.setCell ⟨b, (Q + 1) * 2, none⟩ u).setCell ⟨b, (Q + 1) * 2 + 1, none⟩ v).cell? ⟨b, Q * 2 + 1, none⟩ = some (.string z1.2) :=
          fun u v => ⟨cell_set2_ne cm2 (.inl hne') (.inl hne'), cell_set2_ne c0 (.inr n1) (.inr n2), cell_set2_ne c1 (.inr n3) (.inr n4)⟩
        have kkH := hide kk
        clear kk
        go_wp2
        go_region_held3 (fun w' => w'.cell? ⟨m, 0, none⟩ = some (.slice (some ⟨b, 0, none⟩) (N + 1) 12) ∧ w'.cell? ⟨b, Q * 2, none⟩ = some (.int .i64 z1.1) ∧ w'.cell? ⟨b, Q * 2 + 1, none⟩ = some (.string z1.2)) (first | exact unhide kkH _ _ | go_keep) (fail)
        go_wp2
        go_roundg s1'.length
        case measure => simp
        case rel =>
          refine ⟨s1', z1 :: s2, z1, by rw [unhide hsH]; simp, rfl, by rw [unhide hQH], ?_, ?_, ?_⟩
          · exact ((hch.drew).setCell (.inl (.inr rfl)) _).setCell (.inl (.inr rfl)) _
          · exact ((hlist.drew).set_other hne _).set_other hne _
          · have h1 := ((hrw.drew).set ((Q + 1) * 2) (.int .i64 z1.1)).set ((Q + 1) * 2 + 1) (.string z1.2)
            rw [pairCells_set _ (Q + 1) _ _ (by rw [← unhide hQH]; simp; omega)] at h1
            rw [show (pre ++ s1' ++ z1 :: (y :: (s2 ++ rest2))).set (Q + 1) (z1.1, z1.2) = pre ++ s1' ++ z1 :: (z1 :: s2 ++ rest2) by
              have := set_mid (pre ++ s1' ++ [z1]) y z1 (s2 ++ rest2)
              rw [show (pre ++ s1' ++ [z1]).length = Q + 1 by rw [← unhide hQH]; simp; omega] at this
              simpa using this] at h1
            exact h1
end Go.Proofs.Qxb6500361a
