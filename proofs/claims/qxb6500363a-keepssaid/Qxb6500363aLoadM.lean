/-
  Load and Check of the model ring.
-/
import Derived.Test.Qxb6500363aLoad
import Derived.Test.Qxb6500363aModel2
namespace Go.Proofs.Qxb6500363a
open Go.RowKit Go.Qx
set_option linter.unusedSimpArgs false
set_option linter.unusedVariables false

def LDm (w wx : World) (m c : Nat) (k' : Int) (n : Nat) : Prop := ∃ c', w.heap.size ≤ c' ∧ RepM wx m c' k' (List.replicate n 0) ∧ Chg (ownM m c) w wx

theorem ldm {w : World} {m c : Nat} {k : Int} {xs : List Int} (R : RepM w m c k xs) (k' : Int) (n : Nat) :
    LDm w ((((w.setCell ⟨m, 0, none⟩ (.int .i64 k')).setCell ⟨m, 1, none⟩ (.slice (some ⟨w.heap.size, 0, none⟩) n n)).alloc (.cells (Array.replicate n (Value.int .i64 0)) 3))).drew m c k' n := by
  have hlt := R.blk.lt
  have e1 : Array.replicate n (Value.int .i64 0) = (ints (List.replicate n 0)).toArray := by simp [ints]
  rw [e1]
  refine ⟨w.heap.size, Nat.le_refl _, ⟨?_, (Blk.at_new (by simp [World.setCell])).drew, by omega⟩, ?_⟩
  · rw [List.length_replicate]
    exact (((R.blk.set 0 _).set 1 _).alloc _).drew
  · exact ((((Chg.refl _ _).setCell (.inl (.inl rfl)) _).setCell (.inl (.inl rfl)) _).alloc _).drew

def LPm (w w' : World) (m c : Nat) (K : Int) (X : List Int) : Prop := ∃ c', (c' = c ∨ w.heap.size ≤ c') ∧ RepM w' m c' K X

set_option maxRecDepth 100000 in
set_option maxHeartbeats 8000000 in
theorem loadM_any (w : World) (m c : Nat) (k : Int) (xs : List Int) (R : RepM w m c k xs) (k' : Int) (s : ByteArray) :
    Calls Try.prog 42 #[ptr m, .int .i64 k', .string s] w fun e w' => e = .returned (.int .i64 (fitP s.size k')) ∧ Chg (ownM m c) w w' ∧ LPm w w' m c (loadKX k xs k' s).1 (loadKX k xs k' s).2 := by
  have hft := fit_any w s.size k'
  by_cases he : fitP s.size k' = 0
  · have hE : Hid (loadKX k xs k' s = (k', loadX k' s.data.toList)) := by show _ = _; unfold loadKX; rw [if_pos he]
    obtain ⟨n2, n6, k1, k8⟩ := fitP_ok he
    rw [he] at hft ⊢
    have m1 := fun W => make27 W s.size n6
    obtain ⟨c0, c1⟩ := R.cells
    have f0 := R.blk.frozen 0
    have f1 := R.blk.frozen 1
    have hlt := R.blk.lt
    have nr0 : w.heap.size ≠ m := by omega
    have nr2 := Ne.symm nr0
    clear he
    unfold ptr at *
    go_enter Try.func42, Try.ntmps42
    go_wp2_with fail
    refine hft.mono ?_
    rintro e w1 ⟨rfl, rfl⟩
    go_wp2
    go_cut [] (fun wx => LDm w1 wx m c k' s.size)
    case first =>
      go_region_law (fail)
      all_goals
        go_wp2
        go_meet
        case rel => exact ldm R k' s.size
    case rest =>
      obtain ⟨c', hc, R5, ch5⟩ := hcut
      have hXl := loadX_length k' s
      have hget := fun j hj => loadX_get k' s j hj
      have hXlH := hide hXl
      have hgetH := hide hget
      clear hXl hget c0 c1 f0 f1
      generalize loadX k' s.data.toList = X at *
      have hp0 : part X 0 = List.replicate s.size 0 := by unfold part; rw [unhide hXlH]; simp
      rw [← hp0] at R5
      clear hp0
      have gk0 : ¬ k' = 0 := by omega
      have g0 : (k' == 0) = false := by rw [beq_eq_false_iff_ne]; omega
      have g9 : (k' == -1) = false := by rw [beq_eq_false_iff_ne]; omega
      go_wp2
      go_loopw [8] (fun i wr => ∃ j : Nat, j ≤ s.size ∧ i = .int .i64 j ∧ RepM wr m c' k' (part X j) ∧ Chg (ownM m c) w1 wr) (fun i _ => 7 - (intOf i).toNat)
      case atStart => exact ⟨0, Nat.zero_le _, rfl, R5, ch5⟩
      case round =>
        obtain ⟨j, hj, rfl, Rj, chj⟩ := hrel
        have i0 : (0 : Int) ≤ (j : Int) := by omega
        have hpl := part_length X j (by rw [unhide hXlH]; exact hj)
        rw [unhide hXlH] at hpl
        obtain ⟨c0, c1⟩ := Rj.cells
        rw [hpl] at c1
        by_cases hlt2 : j < s.size
        · have i1 : (j : Int) < (s.size : Int) := by omega
          have hx := Rj.x j (by rw [hpl]; exact hlt2)
          have fx := Rj.xb.frozen j
          have hps := part_set X j (by rw [unhide hXlH]; exact hlt2)
          have hgj := unhide hgetH j hlt2
          rw [hgj] at hps
          have hpsH := hide hps
          have nra := Rj.mc
          have nar := Ne.symm nra
          have tm : Hid ((s[j].toNat : Int).tmod k' = (s[j].toNat : Int) % k') := Int.tmod_eq_emod_of_nonneg (by omega)
          have wb : Hid (wrap64 (s[j].toNat : Int) = s[j].toNat) := by
            show _ = _
            have := s[j].toNat_lt
            unfold wrap64
            omega
          clear hps hgj hpl
          generalize (part X j).getD j 0 = xv at *
          go_wp2
          go_region_held3 (fun w' => w'.cell? ⟨m, 1, none⟩ = some (.slice (some ⟨c', 0, none⟩) s.size s.size)) (first | exact cell_set_ne c1 (.inl nra) | go_keep) (fail)
          rename_i hHeld
          clear hHeld
          go_wp2
          go_roundw
          case rel =>
            refine ⟨j + 1, by omega, by go_num, ?_, (chj.setCell (.inr (by dsimp only; omega)) _).drew⟩
            rw [← unhide hpsH]
            first
              | exact (Rj.setX j _).quiet ((Chg.refl _ _).drew)
              | (rw [unhide tm]; exact (Rj.setX j _).quiet ((Chg.refl _ _).drew))
              | (rw [unhide wb, unhide tm]; exact (Rj.setX j _).quiet ((Chg.refl _ _).drew))
              | (rw [unhide wb]; exact (Rj.setX j _).quiet ((Chg.refl _ _).drew))
          case measure => simp [intOf]; omega
        · have i1 : ¬ (j : Int) < (s.size : Int) := by omega
          have hpj : part X j = X := by unfold part; rw [unhide hXlH, show s.size - j = 0 by omega, List.take_of_length_le (by rw [unhide hXlH]; omega)]; simp
          rw [hpj] at Rj
          clear hpj hpl
          go_wp2
          go_ret
          rw [unhide hE]
          exact ⟨rfl, chj, c', .inr hc, Rj⟩
  · have hE : Hid (loadKX k xs k' s = (k, xs)) := by show _ = _; unfold loadKX; rw [if_neg he]
    have hb : (fitP s.size k' == 0) = false := by simpa using he
    clear he
    unfold ptr at *
    generalize fitP s.size k' = ft at *
    go_enter Try.func42, Try.ntmps42
    go_wp2_with fail
    refine hft.mono ?_
    rintro e w1 ⟨rfl, rfl⟩
    go_wp2
    go_ret
    rw [unhide hE]
    exact ⟨rfl, Chg.refl _ _, c, .inl rfl, R⟩
end Go.Proofs.Qxb6500363a
