/-
  THE REAL MESH: Glyph, Show.
-/
import Derived.Test.Qxb6500364aMesh
import Derived.Laws.MakeOwn
namespace Go.Proofs.Qxb6500364a
open Go.RowKit Go.Qx
set_option linter.unusedVariables false
set_option linter.unusedSimpArgs false

def gl (v : Int) : UInt8 := UInt8.ofNat (48 + v).toNat

theorem gl_toNat (v : Int) (h1 : -1 ≤ v) (h2 : v ≤ 16) : ((gl v).toNat : Int) = 48 + v := by
  unfold gl
  rw [UInt8.toNat_ofNat']
  omega

theorem glyph_any (w : World) (v : Int) (h1 : -1 ≤ v) (h2 : v ≤ 16) : Calls Try.prog 23 #[.int .i64 v] w fun e w' => e = .returned (bv (gl v)) ∧ w' = w := by
  have p1 : ¬ v < -1 := by omega
  have p2 : ¬ 16 < v := by omega
  have w1 : IntKind.i64.wrap (48 + v) = 48 + v := by rw [IntKind.wrap_i64]; omega
  have w2 : IntKind.u8.wrap (48 + v) = 48 + v := by rw [IntKind.wrap_u8]; omega
  have hg : Hid (bv (gl v) = .int .u8 (48 + v)) := by show _ = _; unfold bv; rw [gl_toNat v h1 h2]
  rw [unhide hg]
  clear hg
  go_enter Try.func23, Try.ntmps23
  go_wp2
  go_ret
  exact ⟨rfl, rfl⟩

/-- The bytes laid so far, and the room behind them. -/
def lay (xs : List UInt8) : List Value := xs.map bv ++ List.replicate (225 - xs.length) (bv 0)

theorem lay_length (xs : List UInt8) (h : xs.length ≤ 225) : (lay xs).length = 225 := by
  unfold lay; simp; omega

theorem lay_set (xs : List UInt8) (c : UInt8) (h : xs.length < 225) : (lay xs).set xs.length (bv c) = lay (xs ++ [c]) := by
  unfold lay
  rw [List.set_append_right _ _ (by simp), List.length_map, Nat.sub_self, show 225 - xs.length = (225 - (xs ++ [c]).length) + 1 by simp; omega, List.replicate_succ, List.set_cons_zero]
  simp

theorem info5 : (Try.prog.info? 5).map (fun i => (i.zero, i.size, i.bytes)) = some (some (.int .u8 0), 1, 1) := by kernel_rfl

theorem made5 : madeCells (Value.int .u8 0).cells (225 * 1) = (lay []).toArray := by kernel_rfl

theorem make60 (W : World) : (Instr.makeSlice 60 (.int .i64 0) (.int .i64 225)).run Try.prog W = .ok (.slice (some ⟨W.heap.size, 0, none⟩) 0 225) (W.alloc (.cells (lay []).toArray 5)) := by
  obtain ⟨i, hi, hz0, hz1, hz2⟩ := info_parts info5
  have := run_make (P := Try.prog) W 60 5 i _ Try.underlying60 hi hz0 .i64 .i64 0 225 (by omega) (by omega) (by rw [hz2]; omega) (by omega)
  rw [hz1] at this
  rw [this]
  exact congrArg (fun x => Result.ok _ (W.alloc (.cells x 5))) made5

def pairP (C : Nat → Nat → Int) (H : Nat → Nat → Nat → Int) (a b : Nat) : List UInt8 := [gl (bestP a (C a) (H a) b).1, gl (bestP a (C a) (H a) b).2, gl (C a b)] ++ [gl (H a b 0), gl (H a b 1), gl (H a b 2), gl (H a b 3), gl (H a b 4)] ++ [59]

/-- Row a up to b. -/
def rowS (C : Nat → Nat → Int) (H : Nat → Nat → Nat → Int) (a : Nat) : Nat → List UInt8
  | 0 => []
  | b + 1 => rowS C H a b ++ pairP C H a b

def showTo (C : Nat → Nat → Int) (H : Nat → Nat → Nat → Int) : Nat → List UInt8
  | 0 => []
  | a + 1 => showTo C H a ++ rowS C H a 5

def showP (C : Nat → Nat → Int) (H : Nat → Nat → Nat → Int) : List UInt8 := showTo C H 5

theorem rowS_length (C : Nat → Nat → Int) (H : Nat → Nat → Nat → Int) (a : Nat) : ∀ b, (rowS C H a b).length = 9 * b
  | 0 => rfl
  | b + 1 => by
    rw [rowS, List.length_append, rowS_length C H a b]
    simp [pairP]; omega

theorem showTo_length (C : Nat → Nat → Int) (H : Nat → Nat → Nat → Int) : ∀ a, (showTo C H a).length = 45 * a
  | 0 => rfl
  | a + 1 => by
    rw [showTo, List.length_append, showTo_length C H a, rowS_length]
    omega

def earTo (h : Nat → Int) : Nat → List UInt8
  | 0 => []
  | d + 1 => earTo h d ++ [gl (h d)]

theorem earTo_length (h : Nat → Int) : ∀ d, (earTo h d).length = d
  | 0 => rfl
  | d + 1 => by rw [earTo, List.length_append, earTo_length h d]; rfl

theorem lay3 (X : List UInt8) (P1 P2 P3 : UInt8) (L : Nat) (hl : X.length = L) (h : L + 3 ≤ 225) : (((lay X).set L (bv P1)).set (L + 1) (bv P2)).set (L + 2) (bv P3) = lay (X ++ [P1, P2, P3]) := by
  subst hl
  rw [lay_set X P1 (by omega)]
  have e1 := lay_set (X ++ [P1]) P2 (by simp; omega)
  have e2 := lay_set (X ++ [P1] ++ [P2]) P3 (by simp; omega)
  simp only [List.length_append, List.length_cons, List.length_nil, Nat.zero_add] at e1 e2
  rw [e1, e2]
  simp

theorem lay1 (X : List UInt8) (c : UInt8) (L : Nat) (hl : X.length = L) (h : L + 1 ≤ 225) : (lay X).set L (bv c) = lay (X ++ [c]) := by
  subst hl
  exact lay_set X c (by omega)

theorem vec_index' (v : Nat → Int) (k : Nat) (hk : k < 5) (W : World) : (Instr.index 55 (.agg #[.int .i64 (v 0), .int .i64 (v 1), .int .i64 (v 2), .int .i64 (v 3), .int .i64 (v 4)]) (.int .i64 k)).run Try.prog W = .ok (.int .i64 (v k)) W :=
  run_index_agg (P := Try.prog) W 55 3 5 Try.underlying55 Try.sizeOf3 Try.isAgg3 _ k hk _ (by have := vecC_get v k hk; simpa [vecC] using this)

theorem pairP_ear (C : Nat → Nat → Int) (H : Nat → Nat → Nat → Int) (a b : Nat) : pairP C H a b = [gl (bestP a (C a) (H a) b).1, gl (bestP a (C a) (H a) b).2, gl (C a b)] ++ earTo (H a b) 5 ++ [59] := rfl

set_option maxRecDepth 100000 in
set_option maxHeartbeats 2000000 in
theorem show_any (w : World) (x r : Nat) (n : Nat → Nat) (C : Nat → Nat → Int) (H : Nat → Nat → Nat → Int) (R : Rep w x r n C H) (I : Inv C H) :
    Calls Try.prog 11 #[ptr x] w fun e w' => e = .returned (.string (str (showP C H))) ∧ Quiet w w' := by
  have c0 := R.blk.cell 0
  simp at c0
  have hxl := R.blk.lt
  have hm := make60
  have hlay : Hid ((lay []).toArray = (lay []).toArray) := rfl
  have hrow : Hid (∀ W, Quiet w W → ∀ k, k < 5 → W.cell? ⟨r, k, none⟩ = some (.pointer (some ⟨n k, 0, none⟩))) := fun W q k hk => ((R.quiet q).row.cell k).trans (rowC_get n k hk)
  have hnd : Hid (∀ W, Quiet w W → ∀ a, a < 5 → Blk W (n a) 58 (ndC a (mended a (C a) (H a)))) := fun W q a ha => (R.quiet q).nd a ha
  have hI := hide I
  clear R I
  generalize hL : (lay []).toArray = L0 at hm
  have hLH := hide hL
  clear hL hlay
  unfold ptr
  go_enter Try.func11, Try.ntmps11
  go_wp2
  have bB : Hid (Blk (w.alloc (.cells L0 5)) w.heap.size 5 (lay [])) := by
    rw [← unhide hLH]
    exact Blk.new w 5 (lay [])
  have q0 : Hid (Quiet w (w.alloc (.cells L0 5))) := (Chg.refl _ _).alloc _
  generalize w.alloc (.cells L0 5) = W0 at *
  generalize hB : w.heap.size = B at *
  have hBH := hide hB
  clear hB
  go_loopw [3, 19] (fun v i wr => ∃ a : Nat, a ≤ 5 ∧ i = .int .i64 a ∧ v = .slice (some ⟨B, 0, none⟩) (45 * a) 225 ∧ Quiet w wr ∧ Blk wr B 5 (lay (showTo C H a))) (fun _ i _ => 6 - (intOf i).toNat)
  case atStart => exact ⟨0, by omega, rfl, rfl, unhide q0, unhide bB⟩
  case round =>
    obtain ⟨a, ha, rfl, rfl, q, bb⟩ := hrel
    clear bB q0 c0
    by_cases hlt : a < 5
    · have a0 : (0 : Int) ≤ (a : Int) := by omega
      have a1 : (a : Int) < 5 := by omega
      have cr := unhide hrow _ q a hlt
      have qH := hide q
      have bbH := hide bb
      clear q bb
      go_wp2
      clear cr
      go_loopw [3, 23] (fun v i w2 => ∃ b : Nat, b ≤ 5 ∧ i = .int .i64 b ∧ v = .slice (some ⟨B, 0, none⟩) (45 * a + 9 * b) 225 ∧ Quiet w w2 ∧ Blk w2 B 5 (lay (showTo C H a ++ rowS C H a b))) (fun _ i _ => 6 - (intOf i).toNat)
      case atStart => exact ⟨0, by omega, rfl, rfl, unhide qH, by rw [rowS, List.append_nil]; exact unhide bbH⟩
      case round =>
        obtain ⟨b, hb, rfl, rfl, q, bb⟩ := hrel
        clear qH bbH
        by_cases hltb : b < 5
        · have b0 : (0 : Int) ≤ (b : Int) := by omega
          have b1 : (b : Int) < 5 := by omega
          have bn := unhide hnd _ q a hlt
          obtain ⟨⟨g1, g2⟩, g3, g4⟩ := ((unhide hI).ok a hlt).best a hlt b hltb
          obtain ⟨g5, g6⟩ := (unhide hI).c a b hlt hltb
          have z1 : Hid (∀ V, Calls Try.prog 23 #[.int .i64 (bestP a (C a) (H a) b).1] V fun e w' => e = .returned (bv (gl (bestP a (C a) (H a) b).1)) ∧ w' = V) := fun V => glyph_any V _ (by have := g1; show -1 ≤ (bestP a (C a) (H a) b).1; have : (0:Int) ≤ (bestP a (C a) (H a) b).1 := g1; omega) g2
          have z2 : Hid (∀ V, Calls Try.prog 23 #[.int .i64 (bestP a (C a) (H a) b).2] V fun e w' => e = .returned (bv (gl (bestP a (C a) (H a) b).2)) ∧ w' = V) := fun V => glyph_any V _ g3 (by have : (bestP a (C a) (H a) b).2 ≤ 4 := g4; omega)
          have z3 : Hid (∀ V, Calls Try.prog 23 #[.int .i64 (C a b)] V fun e w' => e = .returned (bv (gl (C a b))) ∧ w' = V) := fun V => glyph_any V _ (by omega) g6
          have d1 : World.cell? _ ⟨n a, 31 + b, none⟩ = some (.int .i64 (bestP a (C a) (H a) b).1) := cell_d bn b hltb
          have d2 : World.cell? _ ⟨n a, 36 + b, none⟩ = some (.int .i64 (bestP a (C a) (H a) b).2) := cell_p bn b hltb
          have d3 : World.cell? _ ⟨n a, 1 + b, none⟩ = some (.int .i64 (C a b)) := cell_c bn b hltb
          have y0 : wr.cell? ⟨n a, 6 + b * 5, none⟩ = some (.int .i64 (H a b 0)) := cell_h bn b 0 hltb (by omega)
          have y1 : wr.cell? ⟨n a, 6 + b * 5 + 1, none⟩ = some (.int .i64 (H a b 1)) := cell_h bn b 1 hltb (by omega)
          have y2 : wr.cell? ⟨n a, 6 + b * 5 + 2, none⟩ = some (.int .i64 (H a b 2)) := cell_h bn b 2 hltb (by omega)
          have y3 : wr.cell? ⟨n a, 6 + b * 5 + 3, none⟩ = some (.int .i64 (H a b 3)) := cell_h bn b 3 hltb (by omega)
          have y4 : wr.cell? ⟨n a, 6 + b * 5 + 4, none⟩ = some (.int .i64 (H a b 4)) := cell_h bn b 4 hltb (by omega)
          have nlt := bn.lt
          have hlen : (showTo C H a ++ rowS C H a b).length = 45 * a + 9 * b := by rw [List.length_append, showTo_length, rowS_length]
          have ear := fun d (hd : d < 5) => (unhide hI).h a b d hlt hltb hd
          have earH := hide ear
          have L225 : 45 * a + 9 * b + 9 ≤ 225 := by omega
          have Bn : B ≠ n a := fun e => by have h1 := (unhide hnd _ (Chg.refl _ w) a hlt).lt; have h2 := unhide hBH; omega
          have nB : n a ≠ B := fun e => by have h1 := (unhide hnd _ (Chg.refl _ w) a hlt).lt; have h2 := unhide hBH; omega
          have hpair := pairP_ear C H a b
          generalize hP1 : gl (bestP a (C a) (H a) b).1 = P1 at *
          generalize hP2 : gl (bestP a (C a) (H a) b).2 = P2 at *
          generalize hP3 : gl (C a b) = P3 at *
          generalize (bestP a (C a) (H a) b).1 = D1 at *
          generalize (bestP a (C a) (H a) b).2 = D2 at *
          generalize C a b = D3 at *
          have nextH : Hid (showTo C H a ++ rowS C H a (b + 1) = showTo C H a ++ rowS C H a b ++ ([P1, P2, P3] ++ earTo (H a b) 5 ++ [59])) := by
            show _ = _
            rw [rowS, hpair, ← List.append_assoc]
          clear hpair
          generalize hX : showTo C H a ++ rowS C H a b = X at *
          generalize hLL : 45 * a + 9 * b = L at *
          have ex : Hid (∀ j, j < 225 → ∀ V xs, xs.length ≤ 225 → Blk V B 5 (lay xs) → ∃ u, V.cell? ⟨B, j, none⟩ = some u) := fun j hj V xs hxs hb => ⟨_, (hb.cell j).trans (List.getElem?_eq_getElem (by rw [lay_length xs hxs]; exact hj))⟩
          obtain ⟨u0, bx0⟩ := unhide ex L (by omega) _ X (by omega) bb
          obtain ⟨u1, bx1⟩ := unhide ex (L + 1) (by omega) _ X (by omega) bb
          obtain ⟨u2, bx2⟩ := unhide ex (L + 2) (by omega) _ X (by omega) bb
          have fx0 := bb.frozen L
          have fx1 := bb.frozen (L + 1)
          have fx2 := bb.frozen (L + 2)
          have BL := bb.lt
          have xH := hide hX
          have lH := hide hLL
          have hlenH := hide hlen
          have L3 : L + 3 ≤ 225 := by omega
          have L3' : (L : Int) + 3 ≤ 225 := by omega
          have bbH := hide bb
          have qH := hide q
          have bnH := hide bn
          unfold bv at z1 z2 z3
          clear g1 g2 g3 g4 g5 g6 bb q bn ear hX hLL hlen hP1 hP2 hP3
          go_wp2_with fail
          refine (unhide z1 _).mono ?_
          rintro e w3 ⟨rfl, rfl⟩
          go_wp2_with fail
          refine (unhide z2 _).mono ?_
          rintro e w4 ⟨rfl, rfl⟩
          go_wp2_with fail
          refine (unhide z3 _).mono ?_
          rintro e w5 ⟨rfl, rfl⟩
          go_wp2
          have bW : Hid (Blk ((((w5.setCell ⟨B, L, none⟩ (.int .u8 P1.toNat)).setCell ⟨B, L + 1, none⟩ (.int .u8 P2.toNat)).setCell ⟨B, L + 2, none⟩ (.int .u8 P3.toNat)).alloc (.cells #[.int .u8 P1.toNat, .int .u8 P2.toNat, .int .u8 P3.toNat] 5)) B 5 (lay (X ++ [P1, P2, P3]))) := by
            have h1 := ((((unhide bbH).set L (bv P1)).set (L + 1) (bv P2)).set (L + 2) (bv P3)).alloc (.cells #[.int .u8 P1.toNat, .int .u8 P2.toNat, .int .u8 P3.toNat] 5)
            rw [lay3 X P1 P2 P3 L (unhide hlenH) L3] at h1
            exact h1
          have qW : Hid (Quiet w ((((w5.setCell ⟨B, L, none⟩ (.int .u8 P1.toNat)).setCell ⟨B, L + 1, none⟩ (.int .u8 P2.toNat)).setCell ⟨B, L + 2, none⟩ (.int .u8 P3.toNat)).alloc (.cells #[.int .u8 P1.toNat, .int .u8 P2.toNat, .int .u8 P3.toNat] 5))) :=
            ((((unhide qH).setCell (p := ⟨B, L, none⟩) (.inr (Nat.le_of_eq (unhide hBH))) _).setCell (p := ⟨B, L + 1, none⟩) (.inr (Nat.le_of_eq (unhide hBH))) _).setCell (p := ⟨B, L + 2, none⟩) (.inr (Nat.le_of_eq (unhide hBH))) _).alloc _
          generalize (((w5.setCell ⟨B, L, none⟩ (.int .u8 P1.toNat)).setCell ⟨B, L + 1, none⟩ (.int .u8 P2.toNat)).setCell ⟨B, L + 2, none⟩ (.int .u8 P3.toNat)).alloc (.cells #[.int .u8 P1.toNat, .int .u8 P2.toNat, .int .u8 P3.toNat] 5) = W6 at *
          clear d1 d2 d3 y0 y1 y2 y3 y4 bx0 bx1 bx2 fx0 fx1 fx2 bbH bnH qH z1 z2 z3
          have hidx := fun (d : Nat) (hd : d < 5) => vec_index' (H a b) d hd
          have hidxH := hide hidx
          clear hidx
          go_loopw [3, 59] (fun v i w2 => ∃ d : Nat, d ≤ 5 ∧ i = .int .i64 d ∧ v = .slice (some ⟨B, 0, none⟩) (L + 3 + d) 225 ∧ Quiet w w2 ∧ Blk w2 B 5 (lay (X ++ [P1, P2, P3] ++ earTo (H a b) d))) (fun _ i _ => 6 - (intOf i).toNat)
          case atStart => exact ⟨0, by omega, rfl, rfl, unhide qW, by rw [earTo, List.append_nil]; exact unhide bW⟩
          case round =>
            obtain ⟨d, hd, rfl, rfl, q, bb⟩ := hrel
            clear bW qW
            have hlen2 : (X ++ [P1, P2, P3] ++ earTo (H a b) d).length = L + 3 + d := by
              rw [List.length_append, List.length_append, unhide hlenH, earTo_length]; rfl
            obtain ⟨u0, bx0⟩ := unhide ex (L + 3 + d) (by omega) _ _ (by omega) bb
            have fx0 := bb.frozen (L + 3 + d)
            have BL2 := bb.lt
            by_cases hltd : d < 5
            · have e0 : (0 : Int) ≤ (d : Int) := by omega
              have e1 : (d : Int) < 5 := by omega
              obtain ⟨g1, g2⟩ := unhide earH d hltd
              have hix := unhide hidxH d hltd
              have zz : Hid (∀ V, Calls Try.prog 23 #[.int .i64 (H a b d)] V fun e w' => e = .returned (.int .u8 (gl (H a b d)).toNat) ∧ w' = V) := fun V => glyph_any V _ (by omega) g2
              have fin : Hid (Blk ((wr.setCell ⟨B, L + 3 + d, none⟩ (.int .u8 (gl (H a b d)).toNat)).alloc (.cells #[.int .u8 (gl (H a b d)).toNat] 5)) B 5 (lay (X ++ [P1, P2, P3] ++ earTo (H a b) (d + 1))) ∧ Quiet w ((wr.setCell ⟨B, L + 3 + d, none⟩ (.int .u8 (gl (H a b d)).toNat)).alloc (.cells #[.int .u8 (gl (H a b d)).toNat] 5))) := by
                refine ⟨?_, (q.setCell (p := ⟨B, L + 3 + d, none⟩) (.inr (Nat.le_of_eq (unhide hBH))) _).alloc _⟩
                have h1 := (bb.set (L + 3 + d) (bv (gl (H a b d)))).alloc (.cells #[.int .u8 (gl (H a b d)).toNat] 5)
                rw [lay1 _ _ _ hlen2 (by omega), List.append_assoc] at h1
                exact h1
              generalize gl (H a b d) = P at *
              generalize H a b d = hv at *
              have L4 : L + 3 + d + 1 ≤ 225 := by omega
              have L4' : (L : Int) + 3 + d + 1 ≤ 225 := by omega
              clear q bb hlen2
              go_wp2_with fail
              refine (unhide zz _).mono ?_
              rintro e w7 ⟨rfl, rfl⟩
              go_wp2
              go_roundw
              case rel => exact ⟨d + 1, by omega, by go_num, by rfl, (unhide fin).2, (unhide fin).1⟩
              case measure => simp [intOf]; omega
            · have e1 : ¬ (d : Int) < 5 := by omega
              obtain rfl : d = 5 := by omega
              have fin : Hid (Blk ((wr.setCell ⟨B, L + 3 + 5, none⟩ (.int .u8 59)).alloc (.cells #[.int .u8 59] 5)) B 5 (lay (showTo C H a ++ rowS C H a (b + 1))) ∧ Quiet w ((wr.setCell ⟨B, L + 3 + 5, none⟩ (.int .u8 59)).alloc (.cells #[.int .u8 59] 5))) := by
                refine ⟨?_, (q.setCell (p := ⟨B, L + 3 + 5, none⟩) (.inr (Nat.le_of_eq (unhide hBH))) _).alloc _⟩
                have h1 := (bb.set (L + 3 + 5) (bv 59)).alloc (.cells #[.int .u8 59] 5)
                rw [lay1 _ _ _ hlen2 (by omega)] at h1
                rw [unhide nextH]
                have e : X ++ [P1, P2, P3] ++ earTo (H a b) 5 ++ [59] = X ++ ([P1, P2, P3] ++ earTo (H a b) 5 ++ [59]) := by simp only [List.append_assoc]
                rw [e] at h1
                exact h1
              have L4 : L + 3 + 5 + 1 ≤ 225 := by omega
              clear q bb hlen2
              go_wp2
              go_roundw
              case rel => exact ⟨b + 1, by omega, by go_num, by rw [← unhide lH]; rfl, (unhide fin).2, (unhide fin).1⟩
              case measure => simp [intOf]; omega
        · have b1 : ¬ (b : Int) < 5 := by omega
          obtain rfl : b = 5 := by omega
          have qH := hide q
          have bbH := hide bb
          clear q bb
          go_wp2
          go_roundw
          case rel => exact ⟨a + 1, by omega, by go_num, by rfl, unhide qH, unhide bbH⟩
          case measure => simp [intOf]; omega
    · have a1 : ¬ (a : Int) < 5 := by omega
      obtain rfl : a = 5 := by omega
      have hl := showTo_length C H 5
      have hcs : (convert 60 9 (.slice (some ⟨B, 0, none⟩) 225 225)).run Try.prog wr = .ok (.string ⟨(showTo C H 5).toArray⟩) wr := by
        refine run_str_of_cells (P := Try.prog) wr 60 5 Try.underlying60 Try.underlying5 B 0 225 225 (showTo C H 5) hl ?_ 9 Try.underlying9
        intro i hi
        rw [Nat.zero_add, bb.cell i]
        unfold lay
        rw [List.getElem?_append_left (by simp; omega), List.getElem?_map]
      have qH := hide q
      clear q bb hl
      go_wp2
      go_ret
      exact ⟨rfl, unhide qH⟩
end Go.Proofs.Qxb6500364a
