/-
  THE BOOK: how it lies in memory; Least.
-/
import Derived.Test.Qxb6500364aKTruth
import Derived.Test.Qxb6500364aRouteM
namespace Go.Proofs.Qxb6500364a
open Go.RowKit Go.Qx
set_option linter.unusedVariables false
set_option linter.unusedSimpArgs false

/-- The book at g: the costs p, the ears q, the marks m, the fed f. -/
structure RepG (w : World) (g p q m f : Nat) (C : Nat → Nat → Int) (H : Nat → Nat → Nat → Int) (M F : Nat → Nat → Bool) (r : Nat) : Prop where
  blk : Blk w g 43 [.slice (some ⟨p, 0, none⟩) 25 25, .slice (some ⟨q, 0, none⟩) 25 25, .slice (some ⟨m, 0, none⟩) 25 25, .slice (some ⟨f, 0, none⟩) 25 25, .int .i64 r]
  cb : Blk w p 3 (grid iv C)
  hb : Blk w q 9 (grid sv H)
  mb : Blk w m 4 (grid Value.bool M)
  fb : Blk w f 4 (grid Value.bool F)
  gp : g ≠ p
  gq : g ≠ q
  gm : g ≠ m
  gf : g ≠ f
  pq : p ≠ q
  pm : p ≠ m
  pf : p ≠ f
  qm : q ≠ m
  qf : q ≠ f
  mf : m ≠ f

def ownG (g p q m f k : Nat) : Prop := k = g ∨ k = p ∨ k = q ∨ k = m ∨ k = f

section
variable {w w' : World} {g p q m f : Nat} {C : Nat → Nat → Int} {H : Nat → Nat → Nat → Int} {M F : Nat → Nat → Bool} {r : Nat}
theorem RepG.of_chg {S : Nat → Prop} (h : RepG w g p q m f C H M F r) (c : Chg S w w') (hS : ∀ k, S k → ¬ ownG g p q m f k) : RepG w' g p q m f C H M F r :=
  { h with blk := c.blk h.blk (fun k => hS _ k (.inl rfl)), cb := c.blk h.cb (fun k => hS _ k (.inr (.inl rfl))), hb := c.blk h.hb (fun k => hS _ k (.inr (.inr (.inl rfl)))), mb := c.blk h.mb (fun k => hS _ k (.inr (.inr (.inr (.inl rfl))))), fb := c.blk h.fb (fun k => hS _ k (.inr (.inr (.inr (.inr rfl))))) }
theorem RepG.quiet (h : RepG w g p q m f C H M F r) (c : Quiet w w') : RepG w' g p q m f C H M F r := h.of_chg c (fun _ f => f.elim)
theorem RepG.lts (h : RepG w g p q m f C H M F r) : ∀ k, ownG g p q m f k → k < w.heap.size := by
  rintro k (rfl | rfl | rfl | rfl | rfl)
  · exact h.blk.lt
  · exact h.cb.lt
  · exact h.hb.lt
  · exact h.mb.lt
  · exact h.fb.lt
theorem RepG.cells (h : RepG w g p q m f C H M F r) : w.cell? ⟨g, 0, none⟩ = some (.slice (some ⟨p, 0, none⟩) 25 25) ∧ w.cell? ⟨g, 1, none⟩ = some (.slice (some ⟨q, 0, none⟩) 25 25) ∧ w.cell? ⟨g, 2, none⟩ = some (.slice (some ⟨m, 0, none⟩) 25 25) ∧ w.cell? ⟨g, 3, none⟩ = some (.slice (some ⟨f, 0, none⟩) 25 25) ∧ w.cell? ⟨g, 4, none⟩ = some (.int .i64 r) :=
  ⟨h.blk.cell 0, h.blk.cell 1, h.blk.cell 2, h.blk.cell 3, h.blk.cell 4⟩
theorem RepG.c (h : RepG w g p q m f C H M F r) (a b : Nat) (ha : a < 5) (hb : b < 5) : w.cell? ⟨p, a * 5 + b, none⟩ = some (.int .i64 (C a b)) := (h.cb.cell _).trans (grid_get iv C a b ha hb)
theorem RepG.e (h : RepG w g p q m f C H M F r) (a b : Nat) (ha : a < 5) (hb : b < 5) : w.cell? ⟨q, a * 5 + b, none⟩ = some (.string (ear (H a b))) := (h.hb.cell _).trans (grid_get sv H a b ha hb)
theorem RepG.mk' (h : RepG w g p q m f C H M F r) (a b : Nat) (ha : a < 5) (hb : b < 5) : w.cell? ⟨m, a * 5 + b, none⟩ = some (.bool (M a b)) := (h.mb.cell _).trans (grid_get Value.bool M a b ha hb)
theorem RepG.fd (h : RepG w g p q m f C H M F r) (a b : Nat) (ha : a < 5) (hb : b < 5) : w.cell? ⟨f, a * 5 + b, none⟩ = some (.bool (F a b)) := (h.fb.cell _).trans (grid_get Value.bool F a b ha hb)
end

set_option maxRecDepth 100000 in
set_option maxHeartbeats 2000000 in
theorem least_any (w : World) (g p q m f : Nat) (C : Nat → Nat → Int) (H : Nat → Nat → Nat → Int) (M F : Nat → Nat → Bool) (r : Nat) (R : RepG w g p q m f C H M F r) (I : Inv C H) (i j : Nat) (hi : i < 5) (hj : j < 5) :
    Calls Try.prog 24 #[.pointer (some ⟨g, 0, none⟩), .int .i64 i, .int .i64 j] w fun e w' => e = .returned (.tuple #[.int .i64 (bestP i (C i) (H i) j).1, .int .i64 (bestP i (C i) (H i) j).2]) ∧ Quiet w w' := by
  have i0 : (0 : Int) ≤ (i : Int) := by omega
  have i1 : (i : Int) < 5 := by omega
  have j0 : (0 : Int) ≤ (j : Int) := by omega
  have j1 : (j : Int) < 5 := by omega
  by_cases hij : i = j
  · subst hij
    have hb : Hid (bestP i (C i) (H i) i = (0, (i : Int))) := by show _ = _; simp [bestP]
    rw [unhide hb]
    have si : ((i : Int) == (i : Int)) = true := by simp
    clear R hb
    go_enter Try.func24, Try.ntmps24
    go_wp2
    go_ret2
    exact ⟨rfl, Chg.refl _ _⟩
  · have hb : Hid (bestP i (C i) (H i) j = downTo (C i) (fun b => H i b j) 5) := by show _ = _; rw [down_best]; simp [bestP, Ne.symm hij]
    rw [unhide hb]
    have si : ((i : Int) == (j : Int)) = false := by simp; omega
    have RH := hide R
    have IH := hide I
    clear R I hb
    go_enter Try.func24, Try.ntmps24
    go_wp2
    go_loopw [8, 9, 10] (fun u v k wr => ∃ n : Nat, n ≤ 5 ∧ k = .int .i64 (4 - (n : Int)) ∧ u = .int .i64 (downTo (C i) (fun b => H i b j) n).1 ∧ v = .int .i64 (downTo (C i) (fun b => H i b j) n).2 ∧ Quiet w wr) (fun _ _ k _ => (intOf k + 1).toNat)
    case atStart => exact ⟨0, by omega, rfl, rfl, rfl, Chg.refl _ _⟩
    case round =>
      obtain ⟨n, hn, rfl, rfl, rfl, qq⟩ := hrel
      have R2 := (unhide RH).quiet qq
      by_cases hlt : n < 5
      · obtain ⟨b, hbn⟩ : ∃ b : Nat, 4 - n = b := ⟨_, rfl⟩
        have hb5 : b < 5 := by omega
        have hbi : (4 : Int) - (n : Int) = (b : Int) := by omega
        rw [hbi]
        have b0 : (0 : Int) ≤ (b : Int) := by omega
        have b1 : (b : Int) < 5 := by omega
        obtain ⟨c0, c1, c2, c3, c4⟩ := R2.cells
        have cc := R2.c i b hi hb5
        have ch := R2.e i b hi hb5
        obtain ⟨o1, o2⟩ := (unhide IH).c i b hi hb5
        obtain ⟨o3, o4⟩ := (unhide IH).h i b j hi hb5 hj
        have es := ear_size (H i b)
        have hst : Hid (downTo (C i) (fun b => H i b j) (n + 1) = if 0 < C i b ∧ C i b + H i b j < 16 ∧ C i b + H i b j ≤ (downTo (C i) (fun b => H i b j) n).1 then (C i b + H i b j, (b : Int)) else downTo (C i) (fun b => H i b j) n) := by
          show _ = _
          rw [downTo, hbn]
        generalize downTo (C i) (fun b => H i b j) n = B at *
        obtain ⟨B1, B2⟩ := B
        simp only at hst
        have qH := hide qq
        have nH := hide (And.intro hlt hbi)
        have ix1 : (0 : Int) ≤ (i : Int) * 5 + (b : Int) := by omega
        have ix2 : (i : Int) * 5 + (b : Int) < 25 := by omega
        have wr1 : IntKind.i64.wrap ((i : Int) * 5) = (i : Int) * 5 := by rw [IntKind.wrap_i64]; omega
        have wr2 : IntKind.i64.wrap ((i : Int) * 5 + (b : Int)) = (i : Int) * 5 + (b : Int) := by rw [IntKind.wrap_i64]; omega
        have wr3 : IntKind.i64.wrap ((b : Int) - 1) = (b : Int) - 1 := by rw [IntKind.wrap_i64]; omega
        have tn : ((i : Int) * 5 + (b : Int)).toNat = i * 5 + b := by omega
        have hix := ear_index (H i b) j hj o3 o4
        generalize ecb : C i b = cb at *
        generalize H i b j = hv at *
        generalize ear (H i b) = er at *
        have w8 : IntKind.i64.wrap (48 + hv) = 48 + hv := by rw [IntKind.wrap_i64]; omega
        have w9 : IntKind.i64.wrap (cb + (48 + hv)) = cb + (48 + hv) := by rw [IntKind.wrap_i64]; omega
        have w10 : IntKind.i64.wrap (cb + (48 + hv) - 48) = cb + hv := by rw [IntKind.wrap_i64]; omega
        clear R2 qq hbn hbi hlt hn c2 c3 c4
        go_wp2
        go_quiet (fail)
        have R3 := ((unhide RH).quiet (unhide qH)).quiet ((Chg.refl (fun _ => False) wr).drewN nq)
        have qD := hide (Quiet.trans (unhide qH) ((Chg.refl (fun _ => False) wr).drewN nq))
        have d0 := R3.cells.1
        have dd := R3.c i b hi hb5
        rw [ecb] at dd
        obtain ⟨W3, hW3⟩ : ∃ W, wr.drewN nq = W := ⟨_, rfl⟩
        rw [hW3] at d0 dd qD ⊢
        clear R3 hW3 hix cc ch c0 c1 ecb
        by_cases hc : 0 < cb
        · have hc' : decide (0 < cb) = true := decide_eq_true hc
          by_cases ht : cb + hv < 16
          · by_cases hu : cb + hv ≤ B1
            · have uB : (cb + hv ≤ B1) = True := eq_true hu
              have hall := hide (And.intro hc (And.intro ht hu))
              clear hu
              go_wp2
              go_roundw
              case rel =>
                refine ⟨n + 1, by have := (unhide nH).1; omega, congrArg (Value.int .i64) (by have := (unhide nH).2; omega), ?_, ?_, unhide qD⟩
                · rw [unhide hst, if_pos (unhide hall)]
                · rw [unhide hst, if_pos (unhide hall)]
              case measure => (simp [intOf]; done)
            · have uB : (cb + hv ≤ B1) = False := eq_false hu
              have hall := hide (show ¬ (0 < cb ∧ cb + hv < 16 ∧ cb + hv ≤ B1) from fun h => hu h.2.2)
              clear hu
              go_wp2
              go_roundw
              case rel =>
                refine ⟨n + 1, by have := (unhide nH).1; omega, congrArg (Value.int .i64) (by have := (unhide nH).2; omega), ?_, ?_, unhide qD⟩
                · rw [unhide hst, if_neg (unhide hall)]
                · rw [unhide hst, if_neg (unhide hall)]
              case measure => (simp [intOf]; done)
          · have hall := hide (show ¬ (0 < cb ∧ cb + hv < 16 ∧ cb + hv ≤ B1) from fun h => ht h.2.1)
            have uB : (cb + hv < 16) = False := eq_false ht
            clear ht
            go_wp2
            go_roundw
            case rel =>
              refine ⟨n + 1, by have := (unhide nH).1; omega, congrArg (Value.int .i64) (by have := (unhide nH).2; omega), ?_, ?_, unhide qD⟩
              · rw [unhide hst, if_neg (unhide hall)]
              · rw [unhide hst, if_neg (unhide hall)]
            case measure => (simp [intOf]; done)
        · have hc' : decide (0 < cb) = false := decide_eq_false hc
          have hall := hide (show ¬ (0 < cb ∧ cb + hv < 16 ∧ cb + hv ≤ B1) from fun h => hc h.1)
          go_wp2
          go_roundw
          case rel =>
            refine ⟨n + 1, by have := (unhide nH).1; omega, congrArg (Value.int .i64) (by have := (unhide nH).2; omega), ?_, ?_, unhide qD⟩
            · rw [unhide hst, if_neg (unhide hall)]
            · rw [unhide hst, if_neg (unhide hall)]
          case measure => (simp [intOf]; done)
      · obtain rfl : n = 5 := by omega
        have hneg : (4 : Int) - ((5 : Nat) : Int) = -1 := by omega
        rw [hneg]
        have qH := hide qq
        clear R2 qq hneg
        go_wp2
        go_ret2
        exact ⟨rfl, unhide qH⟩
end Go.Proofs.Qxb6500364a
