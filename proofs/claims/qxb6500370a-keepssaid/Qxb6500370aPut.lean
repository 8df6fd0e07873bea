/-
  The book: New, Put.
-/
import Derived.Test.Qxb6500370aParse
import Derived.Test.Qxb6500370aRow
import Derived.Laws.Cover4
import Derived.OwnWalk
import Derived.Deep.RegionLaw
namespace Go.Proofs.Qxb6500370a
open Go.RowKit Go.Qx
set_option linter.unusedSimpArgs false
set_option linter.unusedVariables false

def ptr (a : Nat) : Value := .pointer (some ⟨a, 0, none⟩)

def flat (ws : List (List Int)) : List Value := ws.flatMap fun l => l.map (Value.int .i32)

/-- The book in memory: the game's block G, whose first cell is the slice v of the words ws; rest: its other cells. -/
structure Book (w : World) (G : Nat) (rest : List Value) (v : Value) (ws : List (List Int)) : Prop where
  blk : Blk w G 52 (v :: rest)
  row : Row w 50 5 v ws.length (flat ws)
  apart : v.ownBlock ≠ some G
  five : ∀ x ∈ ws, x.length = 5
  few : ws.length ≤ 8

/-- What Put answers: the text, the error; and the book behind it. -/
def putP (ws : List (List Int)) (i : Int) (s : ByteArray) : ByteArray × Int × List (List Int) :=
  if (parseP s).2 ≠ 0 then (⟨#[]⟩, (parseP s).2, ws)
  else if i < 0 ∨ ws.length < i ∨ 8 ≤ i then (⟨#[]⟩, 5, ws)
  else (runesBytes (parseP s).1, 0, if i = ws.length then ws ++ [(parseP s).1] else ws.set i.toNat (parseP s).1)

theorem parseP_five (s : ByteArray) : (parseP s).1.length = 5 := by
  unfold parseP
  repeat' split
  all_goals first | rfl | (rw [List.length_map]; omega) | skip
  all_goals simp_all

theorem flat_length {ws : List (List Int)} (h5 : ∀ x ∈ ws, x.length = 5) : (flat ws).length = ws.length * 5 := by
  induction ws with
  | nil => rfl
  | cons x ws ih =>
    have := ih (fun y hy => h5 y (by simp [hy]))
    have h0 := h5 x (by simp)
    simp only [flat, List.flatMap_cons, List.length_append, List.length_map, List.length_cons] at this ⊢
    omega

theorem row_there {w : World} {g : Nat} {ws : List (List Int)} {spare : List Value} (h : Blk w g 50 (flat ws ++ spare)) (j : Nat) (hj : j < ws.length) (h5 : ∀ x ∈ ws, x.length = 5) :
    (∃ u, w.cell? ⟨g, j * 5, none⟩ = some u) ∧ (∃ u, w.cell? ⟨g, j * 5 + 1, none⟩ = some u) ∧ (∃ u, w.cell? ⟨g, j * 5 + 2, none⟩ = some u) ∧ (∃ u, w.cell? ⟨g, j * 5 + 3, none⟩ = some u) ∧ (∃ u, w.cell? ⟨g, j * 5 + 4, none⟩ = some u) := by
  have hl := flat_length h5
  have key : ∀ o, o < ws.length * 5 → ∃ u, w.cell? ⟨g, o, none⟩ = some u := fun o ho => by
    rw [h.cell o, List.getElem?_append_left (by omega)]
    exact ⟨_, List.getElem?_eq_getElem (by omega)⟩
  exact ⟨key _ (by omega), key _ (by omega), key _ (by omega), key _ (by omega), key _ (by omega)⟩

theorem flat_cons (x : List Int) (ws : List (List Int)) : flat (x :: ws) = x.map (Value.int .i32) ++ flat ws := rfl

theorem flat_set5 : ∀ (us : List (List Int)) (spare : List Value) (j : Nat) (r0 r1 r2 r3 r4 : Int), j < us.length → (∀ x ∈ us, x.length = 5) →
    (((((flat us ++ spare).set (j * 5) (.int .i32 r0)).set (j * 5 + 1) (.int .i32 r1)).set (j * 5 + 2) (.int .i32 r2)).set (j * 5 + 3) (.int .i32 r3)).set (j * 5 + 4) (.int .i32 r4) = flat (us.set j [r0, r1, r2, r3, r4]) ++ spare
  | [], _, _, _, _, _, _, _, h, _ => by simp at h
  | x :: us, spare, 0, r0, r1, r2, r3, r4, _, h5 => by
    have h0 := h5 x (by simp)
    match x, h0 with
    | [a, b, c, d, e], _ => simp [flat_cons]
  | x :: us, spare, j + 1, r0, r1, r2, r3, r4, h, h5 => by
    have h0 := h5 x (by simp)
    have ih := flat_set5 us spare j r0 r1 r2 r3 r4 (by simpa using h) (fun y hy => h5 y (by simp [hy]))
    match x, h0 with
    | [a, b, c, d, e], _ =>
      rw [List.set_cons_succ, flat_cons, flat_cons, List.append_assoc, List.append_assoc, ← ih]
      have e5 : (j + 1) * 5 = j * 5 + 5 := by omega
      rw [e5]
      simp

theorem set_last (ws : List (List Int)) (x : List Int) : (ws ++ [x]).set ws.length x = ws ++ [x] := by
  rw [List.set_append_right _ _ (Nat.le_refl _)]; simp

theorem conv_word (W : World) (D : Nat) (r0 r1 r2 r3 r4 : Int) (h : Blk W D 50 [.int .i32 r0, .int .i32 r1, .int .i32 r2, .int .i32 r3, .int .i32 r4]) :
    (convert 68 9 (.slice (some ⟨D, 0, none⟩) 5 5)).run Try.prog W = .ok (.string (runesBytes [r0, r1, r2, r3, r4])) W := by
  have := run_convert_runes (P := Try.prog) W 68 9 21 ⟨D, 0, none⟩ 5 5 [r0, r1, r2, r3, r4] (by simp) Try.underlying68 Try.underlying21 Try.underlying9 (by
    intro j hj
    have e : (⟨D, 0, none⟩ : Addr).add j = ⟨D, j, none⟩ := by unfold Addr.add; split <;> simp_all
    rw [e, h.cell j]
    simp at hj
    match j, hj with
    | 0, _ => rfl
    | 1, _ => rfl
    | 2, _ => rfl
    | 3, _ => rfl
    | 4, _ => rfl)
  simpa using this

theorem info50 : (Try.prog.info? 50).map (fun i => (i.zero, i.size, i.bytes)) = some (some (.agg #[.int .i32 0, .int .i32 0, .int .i32 0, .int .i32 0, .int .i32 0]), 5, 20) := by kernel_rfl

theorem Book.quiet {w w' : World} {G : Nat} {rest : List Value} {v : Value} {ws : List (List Int)} (h : Book w G rest v ws) (q : Quiet w w') : Book w' G rest v ws :=
  { h with blk := q.blk h.blk, row := h.row.quiet q }

set_option maxHeartbeats 1000000 in
theorem new_any (w : World) : Calls Try.prog 11 #[] w fun e w' => ∃ G rest, e = .returned (ptr G) ∧ w.heap.size ≤ G ∧ Quiet w w' ∧ Book w' G rest (.slice none 0 0) [] := by
  have h45 := fun W => run_makeMap (P := Try.prog) 45 W
  have h47 := fun W => run_makeMap (P := Try.prog) 47 W
  go_enter Try.func11, Try.ntmps11
  go_wp2
  go_ret
  refine ⟨_, _, rfl, ?_, ?_, ⟨Blk.at_new (by simp), Row.nil _ _ _, by simp [Value.ownBlock], by simp, by simp⟩⟩
  · omega
  · exact ((((((((Chg.refl _ _).alloc _).alloc _).alloc _).alloc _).alloc _).alloc _).alloc _).alloc _

set_option maxRecDepth 100000 in
set_option maxHeartbeats 1000000 in
theorem put_any (w : World) (G : Nat) (rest : List Value) (v : Value) (ws : List (List Int)) (hb : Book w G rest v ws) (i : Int) (s : ByteArray) (hs : s.size ≤ maxLen) :
    Calls Try.prog 18 #[ptr G, .int .i64 i, .string s] w fun e w' => e = .returned (.tuple #[.string (putP ws i s).1, .int .i64 (putP ws i s).2.1]) ∧
      ∃ v', Book w' G rest v' (putP ws i s).2.2 ∧ Chg (fun x => x = G ∨ v.ownBlock = some x) w w' ∧ (v'.ownBlock = v.ownBlock ∨ ∃ b, v'.ownBlock = some b ∧ w.heap.size ≤ b) := by
  unfold ptr
  have h1 := parse_any w s hs
  have h5 := parseP_five s
  unfold wordV at h1
  obtain ⟨r0, r1, r2, r3, r4, hr⟩ : ∃ r0 r1 r2 r3 r4, (parseP s).1 = [r0, r1, r2, r3, r4] := by
    match (parseP s).1, h5 with
    | [r0, r1, r2, r3, r4], _ => exact ⟨r0, r1, r2, r3, r4, rfl⟩
  rw [hr] at h1
  simp at h1
  by_cases he : (parseP s).2 = 0
  · rw [he] at h1
    obtain ⟨x, cp, hx⟩ : ∃ x cp, v = .slice x ws.length cp := by
      rcases hb.row.form with ⟨h, hn, _⟩ | ⟨g, cap, sp, h, _⟩
      · exact ⟨none, 0, by rw [h, hn]⟩
      · exact ⟨_, _, h⟩
    have c0 := hb.blk.cell 0
    simp only [List.getElem?_cons_zero, hx] at c0
    have hH := hide h1
    by_cases hbad : i < 0 ∨ ws.length < i ∨ 8 ≤ i
    · have hp : putP ws i s = (⟨#[]⟩, 5, ws) := by simp [putP, he, hbad]
      rw [hp]
      clear h1 hp
      have hbH := hide hb
      have hG := hb.blk.lt
      clear hb
      have fin : ∀ w1, Quiet w w1 → ∀ o, ∃ v', Book (w1.alloc o) G rest v' ws ∧ Chg (fun x => x = G ∨ v.ownBlock = some x) w (w1.alloc o) ∧ (v'.ownBlock = v.ownBlock ∨ ∃ b, v'.ownBlock = some b ∧ w.heap.size ≤ b) :=
        fun w1 q o => ⟨v, (unhide hbH).quiet (q.alloc _), (show Quiet w (w1.alloc o) from q.alloc o).chg _, .inl rfl⟩
      have finH := hide fin
      clear fin hx
      have cs : i < 0 ∨ (0 ≤ i ∧ (ws.length : Int) < i) ∨ (0 ≤ i ∧ i ≤ (ws.length : Int) ∧ 8 ≤ i) := by omega
      generalize ws.length = k at *
      clear hbad
      rcases cs with hi | ⟨hi, hi2⟩ | ⟨hi, hi2, hi3⟩
      all_goals
        go_enter Try.func18, Try.ntmps18
        go_wp2_with fail
        refine (unhide hH).mono ?_
        rintro e w1 ⟨rfl, hq⟩
        have c1 := Quiet.cell hq c0
        have hG1 : G < w1.heap.size := Nat.lt_of_lt_of_le hG hq.size
        go_wp2
        go_ret2
        exact ⟨rfl, unhide finH w1 hq _⟩
    · obtain ⟨j, rfl⟩ : ∃ j : Nat, i = j := ⟨i.toNat, by omega⟩
      have hj8 : (j : Int) < 8 := by omega
      have hjk : j ≤ ws.length := by omega
      have hp : putP ws j s = (runesBytes [r0, r1, r2, r3, r4], 0, if j = ws.length then ws ++ [[r0, r1, r2, r3, r4]] else ws.set j [r0, r1, r2, r3, r4]) := by
        unfold putP
        rw [if_neg (by simp [he]), if_neg (by omega), hr]
        by_cases h : j = ws.length <;> simp [h] <;> intro h' <;> omega
      rw [hp]
      have hG := hb.blk.lt
      by_cases hj : j = ws.length
      · subst hj
        rw [if_pos rfl]
        clear hbad hp h1
        have hk8 : ws.length < 8 := by omega
        have i0 : (0 : Int) ≤ (ws.length : Int) := by omega
        have ig : ((ws.length : Int) == (ws.length : Int)) = true := by simp
        go_enter Try.func18, Try.ntmps18
        go_wp2_with fail
        refine (unhide hH).mono ?_
        rintro e w1 ⟨rfl, hq⟩
        have c1 := Quiet.cell hq c0
        have hG1 : G < w1.heap.size := Nat.lt_of_lt_of_le hG hq.size
        go_wp2
        have q2 : Quiet w (w1.alloc (.cells #[.int .i32 r0, .int .i32 r1, .int .i32 r2, .int .i32 r3, .int .i32 r4] 50)) := hq.alloc _
        have bd := Blk.new w1 50 [.int .i32 r0, .int .i32 r1, .int .i32 r2, .int .i32 r3, .int .i32 r4]
        generalize w1.alloc (.cells #[.int .i32 r0, .int .i32 r1, .int .i32 r2, .int .i32 r3, .int .i32 r4] 50) = W at q2 bd ⊢
        have hD0 : w.heap.size ≤ w1.heap.size := hq.size
        clear c1 hq c0
        generalize w1.heap.size = D at *
        have b2 := hb.quiet q2
        have row2 := b2.row
        have hap := hb.apart
        have bG := b2.blk
        have hGW := bG.lt
        have hDW := bd.lt
        have hne : G ≠ D := by omega
        have hvD : v.ownBlock ≠ some D := fun h => by have := hb.row.lt h; omega
        have c0 := bG.cell 0
        have f0 := bG.frozen 0
        simp only [List.getElem?_cons_zero] at c0
        have d0 := bd.cell 0
        have d1 := bd.cell 1
        have d2 := bd.cell 2
        have d3 := bd.cell 3
        have d4 := bd.cell 4
        simp at d0 d1 d2 d3 d4
        rw [hx] at c0
        obtain ⟨i0, hi0, hz0, hz1, hz2⟩ := info_parts info50
        go_region_law
          ((refine step_append_row (by rfl) _ _ _ (by rfl) 50 i0 _ 5 20 Try.underlying48 hi0 hz0 hz1 hz2 rfl (by omega) v ws.length (flat ws) (by rw [hx]; rfl) (row2.quiet (((Chg.refl _ _).alloc _).drew))
              ⟨W.heap.size, 0, none⟩ 1 1 [.int .i32 r0, .int .i32 r1, .int .i32 r2, .int .i32 r3, .int .i32 r4] (by rfl) (by rfl) (World.news_of_block (cs := #[.int .i32 r0, .int .i32 r1, .int .i32 r2, .int .i32 r3, .int .i32 r4]) (t := 50) (fr := (0, 0)) (heap_alloc_new W _)) (by simp [Value.oneCell'])
              (by omega) (by unfold maxLen; omega) (by omega) (W.heap.size + 1) (by simp) ?_
            intro g cap w3 row3 hch3 hat hlt
            have bG3 := hch3.blk ((bG.alloc (.cells #[.int .i32 r0, .int .i32 r1, .int .i32 r2, .int .i32 r3, .int .i32 r4] 50)).drew) hap
            have bD3 := hch3.blk ((bd.alloc (.cells #[.int .i32 r0, .int .i32 r1, .int .i32 r2, .int .i32 r3, .int .i32 r4] 50)).drew) hvD
            have c3 := bG3.cell 0
            have f3 := bG3.frozen 0
            simp only [List.getElem?_cons_zero] at c3
            rw [hx] at c3
            have e0 := bD3.cell 0
            have e1 := bD3.cell 1
            have e2 := bD3.cell 2
            have e3 := bD3.cell 3
            have e4 := bD3.cell 4
            simp at e0 e1 e2 e3 e4))
        all_goals
          have bG4 : Blk (w3.setCell ⟨G, 0, none⟩ (.slice (some ⟨g, 0, none⟩) (ws.length + 1) cap)) G 52 (.slice (some ⟨g, 0, none⟩) (ws.length + 1) cap :: rest) := bG3.set 0 _
          have bD4 : Blk (w3.setCell ⟨G, 0, none⟩ (.slice (some ⟨g, 0, none⟩) (ws.length + 1) cap)) D 50 _ := bD3.set_other (Ne.symm hne) _
          have hgG : g ≠ G := fun h => by rcases hat with h1 | h1; exact hap (by rw [h1, h]); omega
          have hgD : g ≠ D := fun h => by rcases hat with h1 | h1; exact hvD (by rw [h1, h]); omega
          obtain ⟨spare, bR3, hcap1, hcap2, hcap3⟩ := row3.some_form
          have bR : Blk (w3.setCell ⟨G, 0, none⟩ (.slice (some ⟨g, 0, none⟩) (ws.length + 1) cap)) g 50 _ := bR3.set_other hgG _
          have ch4 : Chg (fun x => x = G ∨ v.ownBlock = some x) w (w3.setCell ⟨G, 0, none⟩ (.slice (some ⟨g, 0, none⟩) (ws.length + 1) cap)) :=
            (((q2.chg _).trans (((Chg.refl _ _).alloc _).drew)).trans (hch3.mono (fun _ _ h => .inr h))).setCell (.inl (.inl rfl)) _
          rw [show flat ws ++ [Value.int .i32 r0, .int .i32 r1, .int .i32 r2, .int .i32 r3, .int .i32 r4] = flat (ws ++ [[r0, r1, r2, r3, r4]]) by simp [flat]] at bR
          have hu5 : ∀ x ∈ ws ++ [[r0, r1, r2, r3, r4]], x.length = 5 := by
            intro x hx; simp at hx; rcases hx with hx | rfl; exact hb.five x hx; rfl
          generalize w3.setCell ⟨G, 0, none⟩ (.slice (some ⟨g, 0, none⟩) (ws.length + 1) cap) = W4 at *
          have c4 := bG4.cell 0
          simp only [List.getElem?_cons_zero] at c4
          have a0 := bD4.cell 0
          have a1 := bD4.cell 1
          have a2 := bD4.cell 2
          have a3 := bD4.cell 3
          have a4 := bD4.cell 4
          simp at a0 a1 a2 a3 a4
          obtain ⟨⟨u0, t0⟩, ⟨u1, t1⟩, ⟨u2, t2⟩, ⟨u3, t3⟩, u4, t4⟩ := row_there bR ws.length (by first | omega | simp) hu5
          have g0 := bR.frozen (ws.length * 5)
          have g1 := bR.frozen (ws.length * 5 + 1)
          have g2 := bR.frozen (ws.length * 5 + 2)
          have g3 := bR.frozen (ws.length * 5 + 3)
          have g4 := bR.frozen (ws.length * 5 + 4)
          have k1 : (0 : Int) ≤ ((ws.length : Nat) : Int) := by omega
          have k3 : ((ws.length : Nat) : Int) < (ws.length : Int) + 1 := by omega
          have hgS : (g = G ∨ v.ownBlock = some g) ∨ w.heap.size ≤ g := by
            rcases hat with h | h
            · exact .inl (.inr h)
            · right; omega
          have n1 : g ≠ G := hgG
          have n2 : g ≠ D := hgD
          have n3 := Ne.symm hgG
          have n4 := Ne.symm hgD
          go_wp2
          go_region_held3 (fun w' => w'.cell? ⟨G, 0, none⟩ = some (.slice (some ⟨g, 0, none⟩) (ws.length + 1) cap) ∧ w'.cell? ⟨D, 0, none⟩ = some (.int .i32 r0) ∧ w'.cell? ⟨D, 1, none⟩ = some (.int .i32 r1) ∧ w'.cell? ⟨D, 2, none⟩ = some (.int .i32 r2) ∧ w'.cell? ⟨D, 3, none⟩ = some (.int .i32 r3) ∧ w'.cell? ⟨D, 4, none⟩ = some (.int .i32 r4)) (go_keep) (fail)
          have bG5 : Blk (((((W4.setCell ⟨g, ws.length * 5, none⟩ (.int .i32 r0)).setCell ⟨g, ws.length * 5 + 1, none⟩ (.int .i32 r1)).setCell ⟨g, ws.length * 5 + 2, none⟩ (.int .i32 r2)).setCell ⟨g, ws.length * 5 + 3, none⟩ (.int .i32 r3)).setCell ⟨g, ws.length * 5 + 4, none⟩ (.int .i32 r4)).drew G 52 (.slice (some ⟨g, 0, none⟩) (ws.length + 1) cap :: rest) := (((((bG4.set_other n3 _).set_other n3 _).set_other n3 _).set_other n3 _).set_other n3 _).drew
          have bD5 : Blk (((((W4.setCell ⟨g, ws.length * 5, none⟩ (.int .i32 r0)).setCell ⟨g, ws.length * 5 + 1, none⟩ (.int .i32 r1)).setCell ⟨g, ws.length * 5 + 2, none⟩ (.int .i32 r2)).setCell ⟨g, ws.length * 5 + 3, none⟩ (.int .i32 r3)).setCell ⟨g, ws.length * 5 + 4, none⟩ (.int .i32 r4)).drew D 50 [.int .i32 r0, .int .i32 r1, .int .i32 r2, .int .i32 r3, .int .i32 r4] := (((((bD4.set_other n4 _).set_other n4 _).set_other n4 _).set_other n4 _).set_other n4 _).drew
          have bR5 : Blk (((((W4.setCell ⟨g, ws.length * 5, none⟩ (.int .i32 r0)).setCell ⟨g, ws.length * 5 + 1, none⟩ (.int .i32 r1)).setCell ⟨g, ws.length * 5 + 2, none⟩ (.int .i32 r2)).setCell ⟨g, ws.length * 5 + 3, none⟩ (.int .i32 r3)).setCell ⟨g, ws.length * 5 + 4, none⟩ (.int .i32 r4)).drew g 50 (flat ((ws ++ [[r0, r1, r2, r3, r4]]).set ws.length [r0, r1, r2, r3, r4]) ++ spare) := by
            have := (((((bR.set (ws.length * 5) (.int .i32 r0)).set (ws.length * 5 + 1) (.int .i32 r1)).set (ws.length * 5 + 2) (.int .i32 r2)).set (ws.length * 5 + 3) (.int .i32 r3)).set (ws.length * 5 + 4) (.int .i32 r4)).drew
            rw [flat_set5 (ws ++ [[r0, r1, r2, r3, r4]]) spare ws.length r0 r1 r2 r3 r4 (by first | omega | simp) hu5] at this
            exact this
          have ch5 : Chg (fun x => x = G ∨ v.ownBlock = some x) w (((((W4.setCell ⟨g, ws.length * 5, none⟩ (.int .i32 r0)).setCell ⟨g, ws.length * 5 + 1, none⟩ (.int .i32 r1)).setCell ⟨g, ws.length * 5 + 2, none⟩ (.int .i32 r2)).setCell ⟨g, ws.length * 5 + 3, none⟩ (.int .i32 r3)).setCell ⟨g, ws.length * 5 + 4, none⟩ (.int .i32 r4)).drew := (((((ch4.setCell hgS _).setCell hgS _).setCell hgS _).setCell hgS _).setCell hgS _).drew
          clear c4 a0 a1 a2 a3 a4 t0 t1 t2 t3 t4 g0 g1 g2 g3 g4 bG4 bD4 bR ch4
          rename_i hHeld
          clear hHeld
          generalize (((((W4.setCell ⟨g, ws.length * 5, none⟩ (.int .i32 r0)).setCell ⟨g, ws.length * 5 + 1, none⟩ (.int .i32 r1)).setCell ⟨g, ws.length * 5 + 2, none⟩ (.int .i32 r2)).setCell ⟨g, ws.length * 5 + 3, none⟩ (.int .i32 r3)).setCell ⟨g, ws.length * 5 + 4, none⟩ (.int .i32 r4)).drew = W5 at bG5 bD5 bR5 ch5 ⊢
          have hcv := conv_word W5 D r0 r1 r2 r3 r4 bD5
          go_wp2
          go_ret2
          refine ⟨rfl, .slice (some ⟨g, 0, none⟩) (ws.length + 1) cap, ?_, ch5, ?_⟩
          · rw [set_last] at bR5
            exact ⟨bG5, by have := Row.of_blk (w := W5) (e := 50) (size := 5) (n := (ws ++ [[r0, r1, r2, r3, r4]]).length) (cap := cap) bR5 (flat_length hu5) (by simpa using hcap1) hcap2 (by rw [← hcap3]; simp [flat]); simpa using this, by simpa [Value.ownBlock] using hgG, hu5, by simp; omega⟩
          · rcases hat with h | h
            · left; rw [h]; rfl
            · right; exact ⟨g, rfl, by omega⟩
      · rw [if_neg hj]
        have hjlt : j < ws.length := by omega
        rcases hb.row.form with ⟨h, hn, _⟩ | ⟨g, cap, spare, h, hR, hcap1, hcap2, hcap3⟩
        · omega
        · rw [hx] at h
          have hxx : x = some ⟨g, 0, none⟩ := by cases h; rfl
          have hcc : cp = cap := by cases h; rfl
          clear h
          subst cp
          subst x
          clear hbad hp h1
          have i1 : (j : Int) ≤ (ws.length : Int) := by omega
          have i0 : (0 : Int) ≤ (j : Int) := by omega
          have ig : ((j : Int) == (ws.length : Int)) = false := by simp; omega
          go_enter Try.func18, Try.ntmps18
          go_wp2_with fail
          refine (unhide hH).mono ?_
          rintro e w1 ⟨rfl, hq⟩
          have c1 := Quiet.cell hq c0
          have hG1 : G < w1.heap.size := Nat.lt_of_lt_of_le hG hq.size
          go_wp2
          have q2 : Quiet w (w1.alloc (.cells #[.int .i32 r0, .int .i32 r1, .int .i32 r2, .int .i32 r3, .int .i32 r4] 50)) := hq.alloc _
          have bD4 := Blk.new w1 50 [.int .i32 r0, .int .i32 r1, .int .i32 r2, .int .i32 r3, .int .i32 r4]
          generalize w1.alloc (.cells #[.int .i32 r0, .int .i32 r1, .int .i32 r2, .int .i32 r3, .int .i32 r4] 50) = W4 at q2 bD4 ⊢
          have hD0 : w.heap.size ≤ w1.heap.size := hq.size
          clear c1 hq c0
          generalize w1.heap.size = D at *
          have b2 := hb.quiet q2
          have bG4 := b2.blk
          rw [hx] at bG4
          have bR : Blk W4 g 50 (flat ws ++ spare) := q2.blk hR
          have ch4 : Chg (fun x => x = G ∨ v.ownBlock = some x) w W4 := q2.chg _
          have hu5 := hb.five
          have hgG : g ≠ G := fun h => hb.apart (by rw [hx, h]; rfl)
          have hgD : g ≠ D := fun h => by have := hR.lt; omega
          clear b2
          have hbH := hide hb
          clear hb
          have c4 := bG4.cell 0
          simp only [List.getElem?_cons_zero] at c4
          have a0 := bD4.cell 0
          have a1 := bD4.cell 1
          have a2 := bD4.cell 2
          have a3 := bD4.cell 3
          have a4 := bD4.cell 4
          simp at a0 a1 a2 a3 a4
          obtain ⟨⟨u0, t0⟩, ⟨u1, t1⟩, ⟨u2, t2⟩, ⟨u3, t3⟩, u4, t4⟩ := row_there bR j (by first | omega | simp) hu5
          have g0 := bR.frozen (j * 5)
          have g1 := bR.frozen (j * 5 + 1)
          have g2 := bR.frozen (j * 5 + 2)
          have g3 := bR.frozen (j * 5 + 3)
          have g4 := bR.frozen (j * 5 + 4)
          have k1 : (0 : Int) ≤ ((j : Nat) : Int) := by omega
          have k2 : (j : Int) < (ws.length : Int) := by omega
          have hgS : (g = G ∨ v.ownBlock = some g) ∨ w.heap.size ≤ g := .inl (.inr (by rw [hx]; rfl))
          have n1 : g ≠ G := hgG
          have n2 : g ≠ D := hgD
          have n3 := Ne.symm hgG
          have n4 := Ne.symm hgD
          go_wp2
          go_region_held3 (fun w' => w'.cell? ⟨G, 0, none⟩ = some (.slice (some ⟨g, 0, none⟩) ws.length cap) ∧ w'.cell? ⟨D, 0, none⟩ = some (.int .i32 r0) ∧ w'.cell? ⟨D, 1, none⟩ = some (.int .i32 r1) ∧ w'.cell? ⟨D, 2, none⟩ = some (.int .i32 r2) ∧ w'.cell? ⟨D, 3, none⟩ = some (.int .i32 r3) ∧ w'.cell? ⟨D, 4, none⟩ = some (.int .i32 r4)) (go_keep) (fail)
          have bG5 : Blk (((((W4.setCell ⟨g, j * 5, none⟩ (.int .i32 r0)).setCell ⟨g, j * 5 + 1, none⟩ (.int .i32 r1)).setCell ⟨g, j * 5 + 2, none⟩ (.int .i32 r2)).setCell ⟨g, j * 5 + 3, none⟩ (.int .i32 r3)).setCell ⟨g, j * 5 + 4, none⟩ (.int .i32 r4)).drew G 52 (.slice (some ⟨g, 0, none⟩) ws.length cap :: rest) := (((((bG4.set_other n3 _).set_other n3 _).set_other n3 _).set_other n3 _).set_other n3 _).drew
          have bD5 : Blk (((((W4.setCell ⟨g, j * 5, none⟩ (.int .i32 r0)).setCell ⟨g, j * 5 + 1, none⟩ (.int .i32 r1)).setCell ⟨g, j * 5 + 2, none⟩ (.int .i32 r2)).setCell ⟨g, j * 5 + 3, none⟩ (.int .i32 r3)).setCell ⟨g, j * 5 + 4, none⟩ (.int .i32 r4)).drew D 50 [.int .i32 r0, .int .i32 r1, .int .i32 r2, .int .i32 r3, .int .i32 r4] := (((((bD4.set_other n4 _).set_other n4 _).set_other n4 _).set_other n4 _).set_other n4 _).drew
          have bR5 : Blk (((((W4.setCell ⟨g, j * 5, none⟩ (.int .i32 r0)).setCell ⟨g, j * 5 + 1, none⟩ (.int .i32 r1)).setCell ⟨g, j * 5 + 2, none⟩ (.int .i32 r2)).setCell ⟨g, j * 5 + 3, none⟩ (.int .i32 r3)).setCell ⟨g, j * 5 + 4, none⟩ (.int .i32 r4)).drew g 50 (flat ((ws).set j [r0, r1, r2, r3, r4]) ++ spare) := by
            have := (((((bR.set (j * 5) (.int .i32 r0)).set (j * 5 + 1) (.int .i32 r1)).set (j * 5 + 2) (.int .i32 r2)).set (j * 5 + 3) (.int .i32 r3)).set (j * 5 + 4) (.int .i32 r4)).drew
            rw [flat_set5 (ws) spare j r0 r1 r2 r3 r4 (by first | omega | simp) hu5] at this
            exact this
          have ch5 : Chg (fun x => x = G ∨ v.ownBlock = some x) w (((((W4.setCell ⟨g, j * 5, none⟩ (.int .i32 r0)).setCell ⟨g, j * 5 + 1, none⟩ (.int .i32 r1)).setCell ⟨g, j * 5 + 2, none⟩ (.int .i32 r2)).setCell ⟨g, j * 5 + 3, none⟩ (.int .i32 r3)).setCell ⟨g, j * 5 + 4, none⟩ (.int .i32 r4)).drew := (((((ch4.setCell hgS _).setCell hgS _).setCell hgS _).setCell hgS _).setCell hgS _).drew
          clear c4 a0 a1 a2 a3 a4 t0 t1 t2 t3 t4 g0 g1 g2 g3 g4 bG4 bD4 bR ch4
          rename_i hHeld
          clear hHeld
          generalize (((((W4.setCell ⟨g, j * 5, none⟩ (.int .i32 r0)).setCell ⟨g, j * 5 + 1, none⟩ (.int .i32 r1)).setCell ⟨g, j * 5 + 2, none⟩ (.int .i32 r2)).setCell ⟨g, j * 5 + 3, none⟩ (.int .i32 r3)).setCell ⟨g, j * 5 + 4, none⟩ (.int .i32 r4)).drew = W5 at bG5 bD5 bR5 ch5 ⊢
          have hcv := conv_word W5 D r0 r1 r2 r3 r4 bD5
          go_wp2
          go_ret2
          have hb := unhide hbH
          have hl5 : ∀ y ∈ ws.set j [r0, r1, r2, r3, r4], y.length = 5 := by
            intro y hy
            rcases List.mem_or_eq_of_mem_set hy with h | h
            · exact hb.five y h
            · rw [h]; rfl
          refine ⟨rfl, .slice (some ⟨g, 0, none⟩) ws.length cap, ?_, ch5, .inl (by rw [hx])⟩
          exact ⟨bG5, by have := Row.of_blk (w := W5) (e := 50) (size := 5) (n := (ws.set j [r0, r1, r2, r3, r4]).length) (cap := cap) bR5 (flat_length hl5) (by simpa using hcap1) hcap2 (by rw [← hcap3, List.length_append, List.length_append, flat_length hl5, flat_length hb.five]; simp); simpa using this, by simpa [Value.ownBlock] using hgG, hl5, by have := hb.few; simpa using this⟩

  · have hp : putP ws i s = (⟨#[]⟩, (parseP s).2, ws) := by simp [putP, he]
    rw [hp]
    have he' : ((parseP s).2 == 0) = false := by simpa using he
    go_enter Try.func18, Try.ntmps18
    go_wp2_with fail
    refine h1.mono ?_
    rintro e w1 ⟨rfl, hq⟩
    go_wp2
    go_ret2
    exact ⟨rfl, v, hb.quiet (hq.alloc _), Quiet.chg (show Quiet w (w1.alloc _) from hq.alloc _) _, .inl rfl⟩
end Go.Proofs.Qxb6500370a
