/-
  The node's queue: insert.
-/
import Derived.Test.Qxb6500367aSmallFns
import Derived.Deep.RegionLaw
import Derived.Laws.Cover4
import Derived.OwnWalk
namespace Go.Proofs.Qxb6500367a
open Go.RowKit Go.Qx
set_option linter.unusedSimpArgs false
set_option linter.unusedVariables false

theorem info91 : (Try.prog.info? 91).map (fun i => (i.zero, i.size, i.bytes)) = some (some (.agg #[.int .i64 0, .int .i64 0]), 2, 16) := by kernel_rfl

/-- The queue while s goes down: the place k is free. -/
def gap (q : List (Int × Int)) (k : Nat) (z : Int × Int) : List (Int × Int) := q.take k ++ z :: q.drop k

theorem over2 (p q : List Value) (u v c d : Value) (n : Nat) (hn : p.length = n) : over (p ++ (u :: v :: q)) n [c, d] = p ++ (c :: d :: q) := by
  have := over_mid [c, d] p [u, v] q rfl
  rw [hn] at this
  simpa using this

theorem set2 (p q : List Value) (u v c d : Value) (n : Nat) (hn : p.length = n) : ((p ++ (u :: v :: q)).set n c).set (n + 1) d = p ++ (c :: d :: q) := over2 p q u v c d n hn

theorem sp_two {q : List (Int × Int)} {sp : List Value} {n : Nat} (hl : (qCells q ++ sp).length = n * 2) (hq : q.length < n) : ∃ u v sp', sp = u :: v :: sp' := by
  rw [List.length_append, qCells_length] at hl
  match sp, hl with
  | [], hl => simp at hl; omega
  | [u], hl => simp at hl; omega
  | u :: v :: sp', _ => exact ⟨u, v, sp', rfl⟩

theorem gap_cells (q : List (Int × Int)) (k : Nat) (z : Int × Int) (sp : List Value) : qCells (gap q k z) ++ sp = qCells (q.take k) ++ (.int .i64 z.1 :: .int .i64 z.2 :: (qCells (q.drop k) ++ sp)) := by
  unfold gap; rw [qCells_append]; simp [qCells]

theorem gap_set (q : List (Int × Int)) (k : Nat) (hk : k ≤ q.length) (z u : Int × Int) (sp : List Value) :
    ((qCells (gap q k z) ++ sp).set (k * 2) (.int .i64 u.1)).set (k * 2 + 1) (.int .i64 u.2) = qCells (gap q k u) ++ sp := by
  rw [gap_cells, gap_cells]
  exact set2 _ _ _ _ _ _ _ (by rw [qCells_length, List.length_take, Nat.min_eq_left hk])

theorem gap_at (q : List (Int × Int)) (k : Nat) (hk : k ≤ q.length) (z : Int × Int) : (gap q k z)[k]? = some z := by
  unfold gap
  rw [List.getElem?_append_right (by simp; omega), List.length_take, Nat.min_eq_left hk]; simp

theorem gap_get (q : List (Int × Int)) (m : Nat) (hm : m < q.length) (z : Int × Int) : (gap q (m + 1) z)[m]? = some q[m] := by
  unfold gap
  rw [List.getElem?_append_left (by simp; omega)]; simp [hm]

theorem gap_shift (q : List (Int × Int)) (m : Nat) (hm : m < q.length) : gap q (m + 1) q[m] = gap q m q[m] := by
  unfold gap
  have h1 := List.take_succ_eq_append_getElem hm
  have h2 : q.drop m = q[m] :: q.drop (m + 1) := List.drop_eq_getElem_cons hm
  rw [h1, h2, List.append_assoc]; rfl

theorem gap_length (q : List (Int × Int)) (k : Nat) (hk : k ≤ q.length) (z : Int × Int) : (gap q k z).length = q.length + 1 := by
  unfold gap; simp; omega

set_option maxRecDepth 100000 in
set_option maxHeartbeats 2000000 in
theorem insert_any (w : World) (x a b : Nat) (s : Nd) (r : Rep w x a b s) (t j : Int) (hroom : s.q.length < s.n) :
    Calls Try.prog 51 #[ptr x, .agg #[.int .i64 t, .int .i64 j]] w fun e w' => e = .returned (.tuple #[]) ∧ Chg (own x a b) w w' ∧ Rep w' x a b { s with q := insP s.q (t, j) } := by
  obtain ⟨_, _, _, _, _, c5, _, _⟩ := r.cells
  have f5 := r.blk.frozen 5
  obtain ⟨sp, ba, hbl⟩ := r.row
  obtain ⟨u0, u1, sp', rfl⟩ := sp_two hbl hroom
  have h4 := r.n4
  have hxw := r.blk.lt
  have haw := ba.lt
  have hbw := r.gb.lt
  have hax := r.na
  have hql := qCells_length s.q
  unfold ptr
  have hlen : Hid (s.q.length = s.q.length) := rfl
  generalize hN : s.q.length = N at c5 hroom hql
  have hNH := hide hN
  clear hN hlen
  obtain ⟨i0, hi0, hz0, hz1, hz2⟩ := info_parts info91
  go_enter Try.func51, Try.ntmps51
  go_wp2
  have bx := r.blk.alloc (.cells #[.int .i64 t, .int .i64 j] 91)
  have ba' := ba.alloc (.cells #[.int .i64 t, .int .i64 j] 91)
  have bb' := r.gb.alloc (.cells #[.int .i64 t, .int .i64 j] 91)
  have bH := Blk.new w 91 [.int .i64 t, .int .i64 j]
  have ch0 : Chg (own x a b) w (w.alloc (.cells #[.int .i64 t, .int .i64 j] 91)) := (Chg.refl _ _).alloc _
  have hW : (w.alloc (.cells #[.int .i64 t, .int .i64 j] 91)).heap.size = w.heap.size + 1 := by simp
  generalize w.alloc (.cells #[.int .i64 t, .int .i64 j] 91) = W at bx ba' bb' bH ch0 hW ⊢
  have hWH := hide hW
  clear hW
  generalize hH : w.heap.size = H at *
  have hHH := hide hH
  clear hH
  have d5 := bx.cell 5
  have d0 := bH.cell 0
  have d1 := bH.cell 1
  simp [nodeCells] at d5 d0 d1
  rw [unhide hNH] at d5
  have baa := ba'.alloc (.cells #[.int .i64 t, .int .i64 j] 91)
  have e0 := baa.cell (N * 2)
  have e1 := baa.cell (N * 2 + 1)
  have fe0 := baa.frozen (N * 2)
  have fe1 := baa.frozen (N * 2 + 1)
  have g0 : (qCells s.q ++ u0 :: u1 :: sp')[N * 2]? = some u0 := by rw [List.getElem?_append_right (by omega), hql]; simp
  have g1 : (qCells s.q ++ u0 :: u1 :: sp')[N * 2 + 1]? = some u1 := by rw [List.getElem?_append_right (by omega), hql]; simp
  rw [g0] at e0
  rw [g1] at e1
  clear g0 g1
  have hr1 : N + 1 ≤ s.n := hroom
  have bxx := bx.alloc (.cells #[.int .i64 t, .int .i64 j] 91)
  have x5 := bxx.cell 5
  have fx5 := bxx.frozen 5
  simp [nodeCells] at x5
  rw [unhide hNH] at x5
  have hxa := Ne.symm hax
  go_region_law (fail)
  all_goals
    have bx2 : Blk (((((W.alloc (.cells #[.int .i64 t, .int .i64 j] 91)).setCell ⟨a, N * 2, none⟩ (.int .i64 t)).setCell ⟨a, N * 2 + 1, none⟩ (.int .i64 j)).setCell ⟨x, 5, none⟩ (.slice (some ⟨a, 0, none⟩) (N + 1) s.n)).drew) x 72 ((nodeCells s a b).set 5 (.slice (some ⟨a, 0, none⟩) (N + 1) s.n)) := (((bxx.set_other hxa _).set_other hxa _).set 5 _).drew
    have ba2 : Blk (((((W.alloc (.cells #[.int .i64 t, .int .i64 j] 91)).setCell ⟨a, N * 2, none⟩ (.int .i64 t)).setCell ⟨a, N * 2 + 1, none⟩ (.int .i64 j)).setCell ⟨x, 5, none⟩ (.slice (some ⟨a, 0, none⟩) (N + 1) s.n)).drew) a 91 (qCells s.q ++ .int .i64 t :: .int .i64 j :: sp') := by
      have := ((((baa.set (N * 2) (.int .i64 t)).set (N * 2 + 1) (.int .i64 j)).set_other (a := ⟨x, 5, none⟩) hax (.slice (some ⟨a, 0, none⟩) (N + 1) s.n))).drew
      rw [set2 _ _ _ _ _ _ _ hql] at this
      exact this
    have bb2 : Blk (((((W.alloc (.cells #[.int .i64 t, .int .i64 j] 91)).setCell ⟨a, N * 2, none⟩ (.int .i64 t)).setCell ⟨a, N * 2 + 1, none⟩ (.int .i64 j)).setCell ⟨x, 5, none⟩ (.slice (some ⟨a, 0, none⟩) (N + 1) s.n)).drew) b 4 (s.got.map Value.bool) := ((((bb'.alloc _).set_other (Ne.symm r.nab) _).set_other (Ne.symm r.nab) _).set_other r.nb _).drew
    have bH2 : Blk (((((W.alloc (.cells #[.int .i64 t, .int .i64 j] 91)).setCell ⟨a, N * 2, none⟩ (.int .i64 t)).setCell ⟨a, N * 2 + 1, none⟩ (.int .i64 j)).setCell ⟨x, 5, none⟩ (.slice (some ⟨a, 0, none⟩) (N + 1) s.n)).drew) H 91 [.int .i64 t, .int .i64 j] := ((((bH.alloc _).set_other (show H ≠ a by omega) _).set_other (show H ≠ a by omega) _).set_other (show H ≠ x by omega) _).drew
    have ch2 : Chg (own x a b) w (((((W.alloc (.cells #[.int .i64 t, .int .i64 j] 91)).setCell ⟨a, N * 2, none⟩ (.int .i64 t)).setCell ⟨a, N * 2 + 1, none⟩ (.int .i64 j)).setCell ⟨x, 5, none⟩ (.slice (some ⟨a, 0, none⟩) (N + 1) s.n)).drew) := ((((ch0.alloc _).setCell (.inl (.inr (.inl rfl))) _).setCell (.inl (.inr (.inl rfl))) _).setCell (.inl (.inl rfl)) _).drew
    clear e0 e1 fe0 fe1 x5 fx5 bxx baa d5 d0 d1 bx ba' bb' bH ch0 f5 c5 hi0 hz0 hz1 hz2
    generalize ((((W.alloc (.cells #[.int .i64 t, .int .i64 j] 91)).setCell ⟨a, N * 2, none⟩ (.int .i64 t)).setCell ⟨a, N * 2 + 1, none⟩ (.int .i64 j)).setCell ⟨x, 5, none⟩ (.slice (some ⟨a, 0, none⟩) (N + 1) s.n)).drew = W2 at bx2 ba2 bb2 bH2 ch2 ⊢
    have x5 := bx2.cell 5
    simp [nodeCells] at x5
    have iN : (0 : Int) ≤ (N : Int) := by omega
    go_wp2
    go_loopg [4] N (fun g i wr => ∃ (k : Nat) (z : Int × Int), k ≤ N ∧ g = k ∧ i = .int .i64 k ∧ Blk wr x 72 ((nodeCells s a b).set 5 (.slice (some ⟨a, 0, none⟩) (N + 1) s.n)) ∧ Blk wr a 91 (qCells (gap s.q k z) ++ sp') ∧ Blk wr b 4 (s.got.map Value.bool) ∧ Blk wr H 91 [.int .i64 t, .int .i64 j] ∧ Chg (own x a b) w wr ∧ slot (t, j) s.q k = slot (t, j) s.q N)
    case atStart =>
      refine ⟨N, (t, j), Nat.le_refl _, rfl, by go_num, bx2, ?_, bb2, bH2, ch2, rfl⟩
      rw [gap_cells, List.take_of_length_le (by rw [unhide hNH]; omega), List.drop_eq_nil_of_le (by rw [unhide hNH]; omega)]
      exact ba2
    case round =>
      obtain ⟨k, z, hkN, hg, rfl, bx3, ba3, bb3, bH3, ch3, hsl⟩ := hrel
      clear bx2 ba2 bb2 bH2 ch2 x5
      have hslH := hide hsl
      have hgH := hide hg
      clear hsl hg
      have hkl : k ≤ s.q.length := by rw [unhide hNH]; exact hkN
      have x5 := bx3.cell 5
      simp [nodeCells] at x5
      have d0 := bH3.cell 0
      have d1 := bH3.cell 1
      simp at d0 d1
      obtain ⟨v0, v1⟩ := qCells_get _ k z sp' (gap_at s.q k hkl z)
      have a0 := (ba3.cell _).trans v0
      have a1 := (ba3.cell _).trans v1
      clear v0 v1
      have fa0 := ba3.frozen (k * 2)
      have fa1 := ba3.frozen (k * 2 + 1)
      have nHa : H ≠ a := by omega
      have nHx : H ≠ x := by omega
      have naH := Ne.symm nHa
      have k0 : (0 : Int) ≤ (k : Int) := by omega
      have k1 : (k : Int) < (N : Int) + 1 := by omega
      have kw : IntKind.i64.wrap (k : Int) = k := by rw [IntKind.wrap_i64]; omega
      have fin : Hid (slot (t, j) s.q k = k → ∀ V, Quiet wr V → Chg (own x a b) w ((V.setCell ⟨a, k * 2, none⟩ (.int .i64 t)).setCell ⟨a, k * 2 + 1, none⟩ (.int .i64 j)) ∧ Rep ((V.setCell ⟨a, k * 2, none⟩ (.int .i64 t)).setCell ⟨a, k * 2 + 1, none⟩ (.int .i64 j)) x a b { s with q := insP s.q (t, j) }) := by
        intro hk V hV
        have ch3 := ch3.trans (hV.chg _)
        have bx3 := hV.blk bx3
        have ba3 := hV.blk ba3
        have bb3 := hV.blk bb3
        refine ⟨(ch3.setCell (.inl (.inr (.inl rfl))) _).setCell (.inl (.inr (.inl rfl))) _, ?_⟩
        have hi : insP s.q (t, j) = gap s.q k (t, j) := by
          unfold insP; rw [unhide hNH, ← unhide hslH, hk]; rfl
        have hgl : (gap s.q k (t, j)).length = N + 1 := by rw [gap_length _ _ hkl, unhide hNH]
        have bx4 := (bx3.set_other (a := ⟨a, k * 2, none⟩) hxa (.int .i64 t)).set_other (a := ⟨a, k * 2 + 1, none⟩) hxa (.int .i64 j)
        have ba4 := (ba3.set (k * 2) (.int .i64 t)).set (k * 2 + 1) (.int .i64 j)
        have gs := gap_set s.q k hkl z (t, j) sp'
        simp only at gs
        rw [gs] at ba4
        refine ⟨?_, ⟨sp', ?_, ?_⟩, ?_, r.na, r.nb, r.nab, r.n1, r.n4, r.il, ?_, r.gl⟩
        · simp only [nodeCells, hi, hgl]; exact bx4
        · simp only [hi]; exact ba4
        · simp only [hi]
          rw [List.length_append, qCells_length, hgl]
          rw [List.length_append, qCells_length, unhide hNH] at hbl
          simp only [List.length_cons] at hbl
          omega
        · exact (bb3.set_other (Ne.symm r.nab) _).set_other (Ne.symm r.nab) _
        · simp only [hi, hgl]; exact hroom
      cases k with
      | zero =>
        simp only [Nat.zero_mul, Nat.zero_add] at a0 a1 fa0 fa1 fin
        clear kw k0
        go_wp2
        go_big_quiet (fail)
        go_wp2
        go_region_held3 (fun w' => w'.cell? ⟨H, 0, none⟩ = some (.int .i64 t) ∧ w'.cell? ⟨H, 1, none⟩ = some (.int .i64 j) ∧ w'.cell? ⟨x, 5, none⟩ = some (.slice (some ⟨a, 0, none⟩) (N + 1) s.n)) (go_keep) (fail)
        go_end0
        exact ⟨rfl, (unhide fin) rfl _ ((Chg.refl _ _).drewN _)⟩
      | succ m =>
        have hml : m < s.q.length := hkl
        have hsl := unhide hslH
        simp only [slot, List.getD_eq_getElem?_getD, List.getElem?_eq_getElem hml, Option.getD_some] at hsl
        have gsh := gap_shift s.q m hml
        obtain ⟨v0, v1⟩ := qCells_get _ m s.q[m] sp' (gap_get s.q m hml z)
        have gs := gap_set s.q (m + 1) hkl z s.q[m] sp'
        generalize s.q[m] = u at *
        obtain ⟨ut, ui⟩ := u
        have m0 := (ba3.cell _).trans v0
        have m1 := (ba3.cell _).trans v1
        simp only at m0 m1 gs
        clear v0 v1
        have hbf := fun W => before_any W t j ut ui
        have gsH := hide gs
        have gshH := hide gsh
        clear gs gsh
        generalize hB : beforeP (t, j) (ut, ui) = B at hbf hsl
        clear hB
        have e0 : ((m + 1 : Nat) : Int) = (m : Int) + 1 := by omega
        rw [e0] at *
        have mw : IntKind.i64.wrap (m : Int) = m := by rw [IntKind.wrap_i64]; omega
        have mw1 : IntKind.i64.wrap ((m : Int) + 1 - 1) = m := by rw [IntKind.wrap_i64]; omega
        have mi0 : (0 : Int) ≤ (m : Int) := by omega
        have mi1 : (m : Int) < (N : Int) + 1 := by omega
        have mi2 : (0 : Int) < (m : Int) + 1 := by omega
        have mi3 : (0 : Int) ≤ (m : Int) + 1 := by omega
        have mi4 : (m : Int) + 1 < (N : Int) + 1 := by omega
        cases B with
        | true =>
          simp only [if_true] at hsl
          have hslT := hide hsl
          clear hsl
          go_wp2
          go_region_held3 (fun w' => w'.cell? ⟨H, 0, none⟩ = some (.int .i64 t) ∧ w'.cell? ⟨H, 1, none⟩ = some (.int .i64 j) ∧ w'.cell? ⟨x, 5, none⟩ = some (.slice (some ⟨a, 0, none⟩) (N + 1) s.n) ∧ w'.cell? ⟨a, m * 2, none⟩ = some (.int .i64 ut) ∧ w'.cell? ⟨a, m * 2 + 1, none⟩ = some (.int .i64 ui)) (first | exact ⟨Quiet.cell hq2 d0, Quiet.cell hq2 d1, Quiet.cell hq2 x5, Quiet.cell hq2 m0, Quiet.cell hq2 m1⟩ | go_keep) (first | (go_at_call 56; refine (hbf _).mono ?_; rintro e w2 ⟨rfl, hq2⟩))
          have bx4 := hq2.blk bx3.drew
          have ba4 := hq2.blk ba3.drew
          have bb4 := hq2.blk bb3.drew
          have bH4 := hq2.blk bH3.drew
          have ch4 := ch3.drew.trans (Quiet.chg hq2 (own x a b))
          have y5 := bx4.cell 5
          simp [nodeCells] at y5
          have n0 := Quiet.cell hq2 m0
          have n1 := Quiet.cell hq2 m1
          have o0 := Quiet.cell hq2 a0
          have o1 := Quiet.cell hq2 a1
          have fo0 := ba4.frozen ((m + 1) * 2)
          have fo1 := ba4.frozen ((m + 1) * 2 + 1)
          rename_i hHeld
          clear hHeld a0 a1 fa0 fa1 m0 m1 x5 d0 d1
          go_wp2
          go_region_held3 (fun w' => w'.cell? ⟨x, 5, none⟩ = some (.slice (some ⟨a, 0, none⟩) (N + 1) s.n) ∧ w'.cell? ⟨a, m * 2, none⟩ = some (.int .i64 ut) ∧ w'.cell? ⟨a, m * 2 + 1, none⟩ = some (.int .i64 ui)) (first | exact ⟨cell_set2_ne y5 (.inl hax) (.inl hax), cell_set2_ne n0 (.inr (by omega)) (.inr (by omega)), cell_set2_ne n1 (.inr (by omega)) (.inr (by omega))⟩ | go_keep) (fail)
          rename_i hHeld
          clear hHeld
          go_wp2
          go_roundg m
          case measure => have := unhide hgH; omega
          case rel =>
            refine ⟨m, (ut, ui), by omega, rfl, by go_num, ((bx4.drew.set_other hxa _).set_other hxa _), ?_, ((bb4.drew.set_other (Ne.symm r.nab) _).set_other (Ne.symm r.nab) _), ((bH4.drew.set_other nHa _).set_other nHa _), ((ch4.drew.setCell (.inl (.inr (.inl rfl))) _).setCell (.inl (.inr (.inl rfl))) _), unhide hslT⟩
            have := (ba4.set ((m + 1) * 2) (.int .i64 ut)).set ((m + 1) * 2 + 1) (.int .i64 ui)
            rw [unhide gsH, unhide gshH] at this
            exact this
        | false =>
          simp only [Bool.false_eq_true, if_false] at hsl
          have hslT := hide hsl
          clear hsl
          have hsx : Hid (slot (t, j) s.q (m + 1) = m + 1) := (unhide hslH).trans (unhide hslT).symm
          go_wp2
          go_region_held3 (fun w' => w'.cell? ⟨H, 0, none⟩ = some (.int .i64 t) ∧ w'.cell? ⟨H, 1, none⟩ = some (.int .i64 j) ∧ w'.cell? ⟨x, 5, none⟩ = some (.slice (some ⟨a, 0, none⟩) (N + 1) s.n) ∧ w'.cell? ⟨a, m * 2, none⟩ = some (.int .i64 ut) ∧ w'.cell? ⟨a, m * 2 + 1, none⟩ = some (.int .i64 ui)) (first | exact ⟨Quiet.cell hq2 d0, Quiet.cell hq2 d1, Quiet.cell hq2 x5, Quiet.cell hq2 m0, Quiet.cell hq2 m1⟩ | go_keep) (first | (go_at_call 56; refine (hbf _).mono ?_; rintro e w2 ⟨rfl, hq2⟩))
          have ba4 := hq2.blk ba3.drew
          have y5 := Quiet.cell hq2 x5
          have e0 := Quiet.cell hq2 d0
          have e1 := Quiet.cell hq2 d1
          have o0 := Quiet.cell hq2 a0
          have o1 := Quiet.cell hq2 a1
          have fo0 := ba4.frozen ((m + 1) * 2)
          have fo1 := ba4.frozen ((m + 1) * 2 + 1)
          rename_i hHeld
          clear hHeld a0 a1 fa0 fa1 m0 m1 x5 d0 d1
          go_wp2
          go_region_held3 (fun w' => w'.cell? ⟨H, 0, none⟩ = some (.int .i64 t) ∧ w'.cell? ⟨H, 1, none⟩ = some (.int .i64 j) ∧ w'.cell? ⟨x, 5, none⟩ = some (.slice (some ⟨a, 0, none⟩) (N + 1) s.n)) (go_keep) (fail)
          go_end0
          exact ⟨rfl, (unhide fin) (unhide hsx) _ (Quiet.trans (Quiet.trans ((Chg.refl _ _).drew) hq2) ((Chg.refl _ _).drew))⟩
end Go.Proofs.Qxb6500367a
