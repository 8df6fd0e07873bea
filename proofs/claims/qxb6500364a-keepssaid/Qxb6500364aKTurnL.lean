/-
  THE BOOK: Turn, Link. (gen64turn.py)
-/
import Derived.Test.Qxb6500364aKTurn
namespace Go.Proofs.Qxb6500364a
open Go.RowKit Go.Qx
set_option linter.unusedVariables false
set_option linter.unusedSimpArgs false

set_option maxRecDepth 100000 in
set_option maxHeartbeats 4000000 in
theorem turn_link (w : World) (g p q m f : Nat) (C : Nat → Nat → Int) (H : Nat → Nat → Nat → Int) (M F : Nat → Nat → Bool) (r : Nat) (R : RepG w g p q m f C H M F r) (i j : Nat) (hi : i < 5) (hj : j < 5) (hij : i ≠ j) (c : Int) (hc : 1 ≤ c) (s t : ByteArray) (S0 : ByteArray) : Calls Try.prog 16 #[.pointer (some ⟨g, 0, none⟩), opv 1 i j c s t, .string S0] w (TPost w g p q m f (lk C i j (min c 16)) H (fun _ _ => false) F 0) := by
  have q0 := opW_quiet w 1 i j c s t
  have O := opW_op w 1 i j c s t
  obtain ⟨W0, hW0⟩ : ∃ W, opW w 1 i j c s t = W := ⟨_, rfl⟩
  rw [hW0] at q0 O
  have R0 := R.quiet q0
  have i0 : (0 : Int) ≤ (i : Int) := by omega
  have i1 : (i : Int) < 5 := by omega
  have j0 : (0 : Int) ≤ (j : Int) := by omega
  have j1 : (j : Int) < 5 := by omega
  have ix1 : (0 : Int) ≤ (i : Int) * 5 + (j : Int) := by omega
  have ix2 : (i : Int) * 5 + (j : Int) < 25 := by omega
  have wr1 : IntKind.i64.wrap ((i : Int) * 5) = (i : Int) * 5 := by rw [IntKind.wrap_i64]; omega
  have wr2 : IntKind.i64.wrap ((i : Int) * 5 + (j : Int)) = (i : Int) * 5 + (j : Int) := by rw [IntKind.wrap_i64]; omega
  have tn : ((i : Int) * 5 + (j : Int)).toNat = i * 5 + j := by omega
  have jx1 : (0 : Int) ≤ (j : Int) * 5 + (i : Int) := by omega
  have jx2 : (j : Int) * 5 + (i : Int) < 25 := by omega
  have wr3 : IntKind.i64.wrap ((j : Int) * 5) = (j : Int) * 5 := by rw [IntKind.wrap_i64]; omega
  have wr4 : IntKind.i64.wrap ((j : Int) * 5 + (i : Int)) = (j : Int) * 5 + (i : Int) := by rw [IntKind.wrap_i64]; omega
  have tn2 : ((j : Int) * 5 + (i : Int)).toNat = j * 5 + i := by omega
  have nij : i * 5 + j ≠ j * 5 + i := by omega
  have nji : j * 5 + i ≠ i * 5 + j := by omega
  have gp := R0.gp
  have gq := R0.gq
  have gm := R0.gm
  have gf := R0.gf
  have pq := R0.pq
  have pm := R0.pm
  have pf := R0.pf
  have qm := R0.qm
  have qf := R0.qf
  have mf := R0.mf
  have gp' := Ne.symm gp
  have gq' := Ne.symm gq
  have gm' := Ne.symm gm
  have gf' := Ne.symm gf
  have pq' := Ne.symm pq
  have pm' := Ne.symm pm
  have pf' := Ne.symm pf
  have qm' := Ne.symm qm
  have qf' := Ne.symm qf
  have mf' := Ne.symm mf
  have og : g < w.heap.size := R.lts _ (.inl rfl)
  have op : p < w.heap.size := R.lts _ (.inr (.inl rfl))
  have oq : q < w.heap.size := R.lts _ (.inr (.inr (.inl rfl)))
  have om : m < w.heap.size := R.lts _ (.inr (.inr (.inr (.inl rfl))))
  have of : f < w.heap.size := R.lts _ (.inr (.inr (.inr (.inr rfl))))
  have zg' : g ≠ w.heap.size := by omega
  have zp' : p ≠ w.heap.size := by omega
  have zq' : q ≠ w.heap.size := by omega
  have zm' : m ≠ w.heap.size := by omega
  have zf' : f ≠ w.heap.size := by omega
  have zg : w.heap.size ≠ g := by omega
  have zp : w.heap.size ≠ p := by omega
  have zq : w.heap.size ≠ q := by omega
  have zm : w.heap.size ≠ m := by omega
  have zf : w.heap.size ≠ f := by omega
  have o0 : W0.cell? ⟨w.heap.size, 0, none⟩ = some (.int .i64 1) := O.cell 0
  have o1 : W0.cell? ⟨w.heap.size, 1, none⟩ = some (.int .i64 i) := O.cell 1
  have o2 : W0.cell? ⟨w.heap.size, 2, none⟩ = some (.int .i64 j) := O.cell 2
  have o3 : W0.cell? ⟨w.heap.size, 3, none⟩ = some (.int .i64 c) := O.cell 3
  have q0H := hide q0
  have OH := hide O
  have R0H := hide R0
  unfold opW at hW0
  unfold opv TPost
  clear q0 O R0 R
  go_enter Try.func16, Try.ntmps16
  go_wp2
  go_quiet (fail)
  have q1 := hide ((Chg.refl (fun _ => False) W0).drewN nq)
  have R1 := (unhide R0H).quiet (unhide q1)
  have O1 := Quiet.blk (unhide q1) (unhide OH)
  have q01 := hide (Quiet.trans (unhide q0H) (unhide q1))
  obtain ⟨W1, hW1⟩ : ∃ W, W0.drewN nq = W := ⟨_, rfl⟩
  rw [hW1] at R1 O1 q01 ⊢
  clear q1 hW1 o0 o1 o2 o3 q0H OH R0H hW0
  have o0 : W1.cell? ⟨w.heap.size, 0, none⟩ = some (.int .i64 1) := O1.cell 0
  have o1 : W1.cell? ⟨w.heap.size, 1, none⟩ = some (.int .i64 i) := O1.cell 1
  have o2 : W1.cell? ⟨w.heap.size, 2, none⟩ = some (.int .i64 j) := O1.cell 2
  have o3 : W1.cell? ⟨w.heap.size, 3, none⟩ = some (.int .i64 c) := O1.cell 3
  obtain ⟨c0, c1, c2, c3, c4⟩ := R1.cells
  have R1H := hide R1
  have O1H := hide O1
  clear R1 O1
  have cc := (unhide R1H).c i j hi hj
  have cc2 := (unhide R1H).c j i hj hi
  have fc := (unhide R1H).cb.frozen (i * 5 + j)
  have fc2 := (unhide R1H).cb.frozen (j * 5 + i)
  have fg := (unhide R1H).blk.frozen 4
  have fin : Hid (∀ c' : Int, Chg (ownG g p q m f) w (((W1.setCell ⟨p, i * 5 + j, none⟩ (.int .i64 c')).setCell ⟨p, j * 5 + i, none⟩ (.int .i64 c')).setCell ⟨g, 4, none⟩ (.int .i64 0)) ∧ RepG (((W1.setCell ⟨p, i * 5 + j, none⟩ (.int .i64 c')).setCell ⟨p, j * 5 + i, none⟩ (.int .i64 c')).setCell ⟨g, 4, none⟩ (.int .i64 0)) g p q m f (lk C i j c') H M F 0) := by
    intro c'
    have h1 := ((((unhide R1H).setC i j hi hj c').setC j i hj hi c').setR 0)
    rw [two_lk C i j c' hij] at h1
    exact ⟨((((unhide q01).chg (ownG g p q m f)).trans (chgG _ p _ _ (.inr (.inl rfl)))).trans (chgG _ p _ _ (.inr (.inl rfl)))).trans (chgG _ g _ _ (.inl rfl)), h1⟩
  go_wp2
  go_region_held3 (fun W => W.cell? ⟨g, 0, none⟩ = some (.slice (some ⟨p, 0, none⟩) 25 25) ∧ W.cell? ⟨w.heap.size, 3, none⟩ = some (.int .i64 c)) ((repeat' apply And.intro) <;> (repeat' first | with_reducible assumption | with_reducible refine cell_drw ?_ | with_reducible refine cell_set_ne ?_ (by first | (left; assumption) | (right; decide) | (right; assumption)))) (fail)
  rename_i hHeld
  have o3' := hHeld.2
  have f1 := unhide fin c
  have q2 := hide ((Chg.refl (fun _ => False) (((W1.setCell ⟨p, i * 5 + j, none⟩ (.int .i64 c)).setCell ⟨p, j * 5 + i, none⟩ (.int .i64 c)).setCell ⟨g, 4, none⟩ (.int .i64 0))).drew)
  have R2 := f1.2.quiet (unhide q2)
  have C2 := f1.1.drew
  obtain ⟨W2, hW2⟩ : ∃ W, (((W1.setCell ⟨p, i * 5 + j, none⟩ (.int .i64 c)).setCell ⟨p, j * 5 + i, none⟩ (.int .i64 c)).setCell ⟨g, 4, none⟩ (.int .i64 0)).drew = W := ⟨_, rfl⟩
  rw [hW2] at o3' R2 C2 ⊢
  clear hHeld fin f1 q2 hW2 c0 c1 c2 c3 c4 cc cc2 fc fc2 fg o0 o1 o2 o3 R1H O1H q01
  obtain ⟨c0, c1, c2, c3, c4⟩ := R2.cells
  by_cases h16 : 16 < c
  · have hmin : Hid (min c 16 = 16) := by show _ = _; omega
    have cc := R2.c i j hi hj
    have cc2 := R2.c j i hj hi
    have fc := R2.cb.frozen (i * 5 + j)
    have fc2 := R2.cb.frozen (j * 5 + i)
    have fin2 : Hid (Chg (ownG g p q m f) w ((W2.setCell ⟨p, i * 5 + j, none⟩ (.int .i64 16)).setCell ⟨p, j * 5 + i, none⟩ (.int .i64 16)).drew ∧ RepG ((W2.setCell ⟨p, i * 5 + j, none⟩ (.int .i64 16)).setCell ⟨p, j * 5 + i, none⟩ (.int .i64 16)).drew g p q m f (lk C i j (min c 16)) H M F 0) := by
      rw [unhide hmin]
      have h1 := ((R2.setC i j hi hj 16).setC j i hj hi 16)
      rw [two_lk (lk C i j c) i j 16 hij, lk_lk] at h1
      exact ⟨(((C2.trans (chgG _ p _ _ (.inr (.inl rfl)))).trans (chgG _ p _ _ (.inr (.inl rfl))))).drew, h1.quiet ((Chg.refl _ _).drew)⟩
    clear R2 C2
    go_wp2
    go_region_held3 (fun W => W.cell? ⟨g, 0, none⟩ = some (.slice (some ⟨p, 0, none⟩) 25 25)) ((repeat' apply And.intro) <;> (repeat' first | with_reducible assumption | with_reducible refine cell_drw ?_ | with_reducible refine cell_set_ne ?_ (by first | (left; assumption) | (right; decide) | (right; assumption)))) (fail)
    rename_i hHeld
    clear hHeld
    have RL := fin2
    clear fin2 cc cc2 fc fc2 c0 c1 c2 c3 c4
    go_wp2
    go_loopw [11] (fun kv wr => ∃ k : Nat, k ≤ 25 ∧ kv = .int .i64 k ∧ Chg (ownG g p q m f) w wr ∧ RepG wr g p q m f (lk C i j (min c 16)) (H) (wipeTo k (M)) (F) (0)) (fun kv _ => 26 - (intOf kv).toNat)
    case atStart => exact ⟨0, by omega, rfl, (unhide RL).1, by rw [wipe_none]; exact (unhide RL).2⟩
    case round =>
      obtain ⟨k, hk, rfl, chk, Rk⟩ := hrel
      clear RL
      by_cases hlt : k < 25
      · have k0 : (0 : Int) ≤ (k : Int) := by omega
        have k1 : (k : Int) < 25 := by omega
        have c2 := Rk.cells.2.2.1
        have cm := Rk.mk' (k / 5) (k % 5) (by omega) (by omega)
        rw [show k / 5 * 5 + k % 5 = k by omega] at cm
        have fm := Rk.mb.frozen k
        have fin := hide (And.intro (chk.trans (chgG wr m k (.bool false) (.inr (.inr (.inr (.inl rfl)))))) (Rk.wipe hlt))
        generalize wipeTo k (M) (k / 5) (k % 5) = bb at *
        clear Rk chk
        go_wp2
        go_roundw
        case rel => exact ⟨k + 1, by omega, by go_num, (unhide fin).1, (unhide fin).2⟩
        case measure => simp [intOf]; omega
      · have k1 : ¬ (k : Int) < 25 := by omega
        obtain rfl : k = 25 := by omega
        have fin := hide (And.intro chk Rk.wiped)
        clear Rk chk
        go_wp2
        go_end0
        exact ⟨rfl, (unhide fin).1, (unhide fin).2⟩
  · have hmin : Hid (min c 16 = c) := by show _ = _; omega
    rw [← unhide hmin] at R2
    have RL := hide (And.intro C2 R2)
    clear R2 C2 hmin c0 c1 c2 c3 c4
    go_wp2
    go_loopw [11] (fun kv wr => ∃ k : Nat, k ≤ 25 ∧ kv = .int .i64 k ∧ Chg (ownG g p q m f) w wr ∧ RepG wr g p q m f (lk C i j (min c 16)) (H) (wipeTo k (M)) (F) (0)) (fun kv _ => 26 - (intOf kv).toNat)
    case atStart => exact ⟨0, by omega, rfl, (unhide RL).1, by rw [wipe_none]; exact (unhide RL).2⟩
    case round =>
      obtain ⟨k, hk, rfl, chk, Rk⟩ := hrel
      clear RL
      by_cases hlt : k < 25
      · have k0 : (0 : Int) ≤ (k : Int) := by omega
        have k1 : (k : Int) < 25 := by omega
        have c2 := Rk.cells.2.2.1
        have cm := Rk.mk' (k / 5) (k % 5) (by omega) (by omega)
        rw [show k / 5 * 5 + k % 5 = k by omega] at cm
        have fm := Rk.mb.frozen k
        have fin := hide (And.intro (chk.trans (chgG wr m k (.bool false) (.inr (.inr (.inr (.inl rfl)))))) (Rk.wipe hlt))
        generalize wipeTo k (M) (k / 5) (k % 5) = bb at *
        clear Rk chk
        go_wp2
        go_roundw
        case rel => exact ⟨k + 1, by omega, by go_num, (unhide fin).1, (unhide fin).2⟩
        case measure => simp [intOf]; omega
      · have k1 : ¬ (k : Int) < 25 := by omega
        obtain rfl : k = 25 := by omega
        have fin := hide (And.intro chk Rk.wiped)
        clear Rk chk
        go_wp2
        go_end0
        exact ⟨rfl, (unhide fin).1, (unhide fin).2⟩
end Go.Proofs.Qxb6500364a
