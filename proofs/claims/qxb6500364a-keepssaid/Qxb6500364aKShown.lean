/-
  THE BOOK: Shown.
-/
import Derived.Test.Qxb6500364aKGhost
import Derived.Test.Qxb6500364aShowM
namespace Go.Proofs.Qxb6500364a
open Go.RowKit Go.Qx
set_option linter.unusedVariables false
set_option linter.unusedSimpArgs false

theorem gl_wrap (v : Int) (h1 : -1 ≤ v) (h2 : v ≤ 16) : IntKind.u8.wrap (48 + v) = ((gl v).toNat : Int) := by
  rw [gl_toNat v h1 h2, IntKind.wrap_u8]; omega

set_option maxRecDepth 100000 in
set_option maxHeartbeats 2000000 in
theorem shown_any (w : World) (g p q m f : Nat) (C : Nat → Nat → Int) (H : Nat → Nat → Nat → Int) (M F : Nat → Nat → Bool) (r : Nat) (R : RepG w g p q m f C H M F r) (I : Inv C H) :
    Calls Try.prog 12 #[.pointer (some ⟨g, 0, none⟩)] w fun e w' => e = .returned (.string (str (showP C H))) ∧ Quiet w w' := by
  have hroute : Hid (∀ W, Quiet w W → ∀ a d : Nat, a < 5 → d < 5 → Calls Try.prog 24 #[.pointer (some ⟨g, 0, none⟩), .int .i64 a, .int .i64 d] W fun e w' => e = .returned (.tuple #[.int .i64 (bestP a (C a) (H a) d).1, .int .i64 (bestP a (C a) (H a) d).2]) ∧ Quiet W w') :=
    fun W qq a d ha hd => least_any W g p q m f C H M F r (R.quiet qq) I a d ha hd
  have RH := hide R
  have IH := hide I
  clear R I
  go_enter Try.func12, Try.ntmps12
  go_wp2
  go_loopw [3, 4] (fun v k wr => ∃ i : Nat, i ≤ 25 ∧ k = .int .i64 i ∧ v = .string (str (pairsTo C H i)) ∧ Quiet w wr) (fun _ k _ => 26 - (intOf k).toNat)
  case atStart => exact ⟨0, by omega, rfl, rfl, Chg.refl _ _⟩
  case round =>
    obtain ⟨i, hi, rfl, rfl, qq⟩ := hrel
    by_cases hlt : i < 25
    · have i0 : (0 : Int) ≤ (i : Int) := by omega
      have i1 : (i : Int) < 25 := by omega
      obtain ⟨a, b, ha, hb, rfl⟩ : ∃ a b, a < 5 ∧ b < 5 ∧ i = a * 5 + b := ⟨i / 5, i % 5, by omega, by omega, by omega⟩
      have t1 : (((a * 5 + b : Nat)) : Int).tdiv 5 = (a : Int) := by rw [Int.tdiv_eq_ediv_of_nonneg (by omega)]; omega
      have t2 : (((a * 5 + b : Nat)) : Int).tmod 5 = (b : Int) := by rw [Int.tmod_eq_emod_of_nonneg (by omega)]; omega
      have ecast : ((a * 5 + b : Nat) : Int) = (a : Int) * 5 + (b : Int) := by omega
      rw [ecast] at t1 t2 i0 i1
      have hc1 := hide (unhide hroute _ qq a b ha hb)
      have rb := ((unhide IH).ok a ha).best a ha b hb
      have g1 : 0 ≤ (bestP a (C a) (H a) b).1 ∧ (bestP a (C a) (H a) b).1 ≤ 16 := rb.1
      have g2 : -1 ≤ (bestP a (C a) (H a) b).2 ∧ (bestP a (C a) (H a) b).2 ≤ 4 := rb.2
      have g3 := (unhide IH).c a b ha hb
      have z1 := gl_wrap (bestP a (C a) (H a) b).1 (by omega) g1.2
      have z2 := gl_wrap (bestP a (C a) (H a) b).2 g2.1 (by omega)
      have z3 := gl_wrap (C a b) (by omega) g3.2
      have y1 : IntKind.i64.wrap (48 + (bestP a (C a) (H a) b).1) = 48 + (bestP a (C a) (H a) b).1 := by rw [IntKind.wrap_i64]; omega
      have y2 : IntKind.i64.wrap (48 + (bestP a (C a) (H a) b).2) = 48 + (bestP a (C a) (H a) b).2 := by rw [IntKind.wrap_i64]; omega
      have y3 : IntKind.i64.wrap (48 + C a b) = 48 + C a b := by rw [IntKind.wrap_i64]; omega
      have hnext : str (pairsTo C H (a * 5 + b + 1)) = str (pairsTo C H (a * 5 + b)) ++ str [gl (bestP a (C a) (H a) b).1, gl (bestP a (C a) (H a) b).2, gl (C a b)] ++ ear (H a b) ++ str [59] := by
        rw [pairsTo, show (a * 5 + b) / 5 = a by omega, show (a * 5 + b) % 5 = b by omega, pairP_ear]
        unfold ear
        simp only [str_append, List.append_assoc]
      have hl := pairsTo_length C H (a * 5 + b)
      have es := ear_size (H a b)
      have hfacts : Hid (∀ W, Quiet w W → W.cell? ⟨g, 0, none⟩ = some (.slice (some ⟨p, 0, none⟩) 25 25) ∧ W.cell? ⟨g, 1, none⟩ = some (.slice (some ⟨q, 0, none⟩) 25 25) ∧ W.cell? ⟨p, a * 5 + b, none⟩ = some (.int .i64 (C a b)) ∧ W.cell? ⟨q, a * 5 + b, none⟩ = some (.string (ear (H a b)))) := by
        intro W q2
        have R2 := (unhide RH).quiet q2
        exact ⟨R2.cells.1, R2.cells.2.1, R2.c a b ha hb, R2.e a b ha hb⟩
      have hlts : Hid (g < w.heap.size ∧ q < w.heap.size ∧ p < w.heap.size) := ⟨(unhide RH).blk.lt, (unhide RH).hb.lt, (unhide RH).cb.lt⟩
      generalize gl (bestP a (C a) (H a) b).1 = P1 at *
      generalize gl (bestP a (C a) (H a) b).2 = P2 at *
      generalize gl (C a b) = P3 at *
      generalize (bestP a (C a) (H a) b).1 = D1 at *
      generalize (bestP a (C a) (H a) b).2 = D2 at *
      generalize C a b = D3 at *
      generalize ear (H a b) = er at *
      have sz : (str (pairsTo C H (a * 5 + b))).size ≤ 225 := by rw [str_size]; omega
      generalize str (pairsTo C H (a * 5 + b)) = T at *
      have nH := hide hnext
      have qH := hide qq
      have tn : ((a : Int) * 5 + (b : Int)).toNat = a * 5 + b := by omega
      clear rb g1 g2 g3 hnext hl qq
      rw [ecast]
      go_wp2_with fail
      refine (unhide hc1).mono ?_
      rintro e w2 ⟨rfl, q2⟩
      obtain ⟨c0, c1, c2, c3⟩ := unhide hfacts w2 (Quiet.trans (unhide qH) q2)
      have q2H := hide (Quiet.trans (unhide qH) q2)
      have hmq : g < w2.heap.size ∧ q < w2.heap.size ∧ p < w2.heap.size := ⟨Nat.lt_of_lt_of_le (unhide hlts).1 (unhide q2H).size, Nat.lt_of_lt_of_le (unhide hlts).2.1 (unhide q2H).size, Nat.lt_of_lt_of_le (unhide hlts).2.2 (unhide q2H).size⟩
      obtain ⟨hm1, hq1, hp1⟩ := hmq
      clear hc1 q2 qH
      have hcs : ∀ W' : World, W'.cell? ⟨w2.heap.size, 0, none⟩ = some (.int .u8 P1.toNat) → W'.cell? ⟨w2.heap.size, 1, none⟩ = some (.int .u8 P2.toNat) → W'.cell? ⟨w2.heap.size, 2, none⟩ = some (.int .u8 P3.toNat) → (convert 60 9 (.slice (some ⟨w2.heap.size, 0, none⟩) 3 3)).run Try.prog W' = .ok (.string (str [P1, P2, P3])) W' := by
        intro W' k0 k1 k2
        refine run_str_of_cells (P := Try.prog) W' 60 5 Try.underlying60 Try.underlying5 w2.heap.size 0 3 3 [P1, P2, P3] rfl ?_ 9 Try.underlying9
        intro k hk
        have : k = 0 ∨ k = 1 ∨ k = 2 := by omega
        rcases this with rfl | rfl | rfl
        · exact k0
        · exact k1
        · exact k2
      have s3 : (str [P1, P2, P3]).size = 3 := by rw [str_size]; rfl
      generalize str [P1, P2, P3] = S3 at *
      have nm := World.new_ne w2 ⟨g, 1, none⟩ c1
      have nm0 := World.new_ne w2 ⟨g, 0, none⟩ c0
      have nq := World.new_ne w2 ⟨q, a * 5 + b, none⟩ c3
      have np := World.new_ne w2 ⟨p, a * 5 + b, none⟩ c2
      go_wp2
      have ns1 : ¬ 9223372036854775807 < T.size + 3 := by omega
      have ns2 : ¬ 9223372036854775807 < T.size + 3 + 5 := by omega
      have ns3 : ¬ 9223372036854775807 < T.size + 3 + 5 + 1 := by omega
      go_region
      go_wp2
      go_roundw
      case rel => exact ⟨a * 5 + b + 1, by omega, by go_num, by rw [unhide nH]; rfl, Chg.drew (Chg.alloc (unhide q2H) _)⟩
      case measure => simp [intOf]; omega
    · have i1 : ¬ (i : Int) < 25 := by omega
      obtain rfl : i = 25 := by omega
      rw [pairsTo_all]
      have qH := hide qq
      clear qq
      go_wp2
      go_ret
      exact ⟨rfl, unhide qH⟩
end Go.Proofs.Qxb6500364a
