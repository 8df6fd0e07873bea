/-
  turn: the ghost's values follow the step.
-/
import Derived.Test.Qxb6500363aKOwed
namespace Go.Proofs.Qxb6500363a
open Go.RowKit Go.Qx
set_option linter.unusedVariables false
set_option linter.unusedSimpArgs false

/-- What turn leaves. -/
def TP (w : World) (g : Nat) (k' : Int) (xs' : List Int) (e : Ending) (w' : World) : Prop :=
  ∃ g' n' c', e = .returned (.tuple #[.slice (some ⟨g', 0, none⟩) n' c', .int .i64 k']) ∧ Chg (fun x => x = g) w w' ∧ Gv w' g' n' c' xs' ∧ (g' = g ∨ w.heap.size ≤ g')
theorem Gv.set {w : World} {g n cap : Nat} {xs : List Int} (h : Gv w g n cap xs) (i : Nat) (v : Int) : Gv (w.setCell ⟨g, i, none⟩ (.int .i64 v)) g n cap (xs.set i v) := by
  refine ⟨?_, by rw [List.length_set]; exact h.n, by rw [List.length_set]; exact h.c⟩
  have := h.b.set i (.int .i64 v)
  unfold ints at *
  rw [List.map_set]; exact this

set_option maxHeartbeats 1000000 in
theorem turn_none (w : World) (g n cap : Nat) (k : Int) (xs : List Int) (G : Gv w g n cap xs) (kk : Int) (h1 : (kk == 1) = false) (h2 : (kk == 2) = false) (h3 : (kk == 3) = false) (v : Int) (ok a b c : Int) (s t : ByteArray) :
    Calls Try.prog 19 #[.slice (some ⟨g, 0, none⟩) n cap, .int .i64 k, .int .i64 kk, .int .i64 v, opv ok a b c s t] w (TP w g k xs) := by
  have q := boxW_quiet w ok a b c s t
  have fin : Hid (TP w g k xs (.returned (.tuple #[.slice (some ⟨g, 0, none⟩) n cap, .int .i64 k])) (boxW w ok a b c s t)) := ⟨g, n, cap, rfl, Quiet.chg q _, G.quiet q, .inl rfl⟩
  unfold opv
  unfold boxW at *
  clear q G
  go_enter Try.func19, Try.ntmps19
  go_wp2
  go_ret2
  exact unhide fin

set_option maxHeartbeats 1000000 in
theorem turn_poke (w : World) (g n cap : Nat) (k : Int) (xs : List Int) (G : Gv w g n cap xs) (o : Ok k xs) (v : Nat) (hv : v < xs.length) (ok a b c : Int) (hb : In64 b) (s t : ByteArray) :
    Calls Try.prog 19 #[.slice (some ⟨g, 0, none⟩) n cap, .int .i64 k, .int .i64 2, .int .i64 v, opv ok a b c s t] w (TP w g k (xs.set v (normP b k))) := by
  have q := boxW_quiet w ok a b c s t
  have B := boxW_blk w ok a b c s t
  have G1 := G.quiet q
  have hlt := G.b.lt
  have fin : Hid (TP w g k (xs.set v (normP b k)) (.returned (.tuple #[.slice (some ⟨g, 0, none⟩) n cap, .int .i64 k])) ((boxW w ok a b c s t).setCell ⟨g, v, none⟩ (.int .i64 (normP b k)))) :=
    ⟨g, n, cap, rfl, (Quiet.chg q _).trans (chg1 _ _ _ _), G1.set v _, .inl rfl⟩
  have kp := o.kpos
  have k8 := o.k8
  have gv := G1.x v hv
  have gf := G1.b.frozen v
  have hn := G.n.symm
  have i0 : (0 : Int) ≤ (v : Int) := by omega
  have i1 : (v : Int) < (n : Int) := by omega
  have cb : _ = some (Value.int .i64 b) := B.cell 2
  have nm : Hid (normP b k = if b.tmod k < 0 then b.tmod k + k else b.tmod k) := by
    show _ = _
    unfold normP; rw [if_neg (by omega)]
  rw [unhide nm] at fin ⊢
  have h3 := Int.tmod_lt_of_pos b (show 0 < k by omega)
  have h4 := Int.lt_tmod_of_pos b (show 0 < k by omega)
  have g0 : (k == 0) = false := by rw [beq_eq_false_iff_ne]; omega
  have g1 : ¬ k = 0 := by omega
  have g9 : (k == -1) = false := by rw [beq_eq_false_iff_ne]; omega
  have tw : IntKind.i64.wrap (b.tmod k) = b.tmod k := by rw [IntKind.wrap_i64]; omega
  obtain ⟨b1, b2⟩ := hb
  generalize xs.getD v 0 = XV at *
  unfold opv
  obtain ⟨W0, hW0⟩ : ∃ W, boxW w ok a b c s t = W := ⟨_, rfl⟩
  rw [hW0] at gv gf cb fin
  unfold boxW at hW0
  clear q G B G1 o nm hv hn
  by_cases hneg : b.tmod k < 0
  · have tw2 : IntKind.i64.wrap (b.tmod k + k) = b.tmod k + k := by rw [IntKind.wrap_i64]; omega
    rw [if_pos hneg] at fin ⊢
    go_enter Try.func19, Try.ntmps19
    go_wp2
    go_ret2
    exact unhide fin
  · rw [if_neg hneg] at fin ⊢
    go_enter Try.func19, Try.ntmps19
    go_wp2
    go_ret2
    exact unhide fin

set_option maxHeartbeats 1000000 in
theorem turn_move (w : World) (g n cap : Nat) (k : Int) (xs : List Int) (G : Gv w g n cap xs) (o : Ok k xs) (v : Nat) (hv : v < xs.length) (ok a b c : Int) (s t : ByteArray) :
    Calls Try.prog 19 #[.slice (some ⟨g, 0, none⟩) n cap, .int .i64 k, .int .i64 3, .int .i64 v, opv ok a b c s t] w (TP w g k (moveX k xs v)) := by
  have q := boxW_quiet w ok a b c s t
  have G1 := G.quiet q
  have kp := o.kpos
  have k8 := o.k8
  have hn := G.n.symm
  by_cases h0 : v = 0
  · subst h0
    have gv := G1.x 0 hv
    have gf := G1.b.frozen 0
    have ov := o.get 0 hv
    have fin : Hid (TP w g k (moveX k xs 0) (.returned (.tuple #[.slice (some ⟨g, 0, none⟩) n cap, .int .i64 k])) ((boxW w ok a b c s t).setCell ⟨g, 0, none⟩ (.int .i64 ((xs.getD 0 0 + 1).tmod k)))) := by
      refine ⟨g, n, cap, rfl, (Quiet.chg q _).trans (chg1 _ _ _ _), ?_, .inl rfl⟩
      have := G1.set 0 ((xs.getD 0 0 + 1).tmod k)
      unfold moveX; rw [if_pos rfl]; exact this
    have i1 : (0 : Int) < (n : Int) := by omega
    generalize xs.getD 0 0 = X at *
    have g0 : (k == 0) = false := by rw [beq_eq_false_iff_ne]; omega
    have g1 : ¬ k = 0 := by omega
    have g9 : (k == -1) = false := by rw [beq_eq_false_iff_ne]; omega
    have h3 := Int.tmod_lt_of_pos (X + 1) (show 0 < k by omega)
    have h4 := Int.tmod_nonneg k (show 0 ≤ X + 1 by omega)
    have tw : IntKind.i64.wrap ((X + 1).tmod k) = (X + 1).tmod k := by rw [IntKind.wrap_i64]; omega
    have te : (X + 1).tmod k = (X + 1) % k := Int.tmod_eq_emod_of_nonneg (by omega)
    rw [te] at fin tw h3 h4
    unfold opv
    obtain ⟨W0, hW0⟩ : ∃ W, boxW w ok a b c s t = W := ⟨_, rfl⟩
    rw [hW0] at gv gf fin
    unfold boxW at hW0
    have teH := hide te
    clear q G G1 o hn hv te
    go_enter Try.func19, Try.ntmps19
    go_wp2
    go_ret2
    first | exact unhide fin | (rw [unhide teH]; exact unhide fin)
  · have gv := G1.x v hv
    have gu := G1.x (v - 1) (by omega)
    have gf := G1.b.frozen v
    have fin : Hid (TP w g k (moveX k xs v) (.returned (.tuple #[.slice (some ⟨g, 0, none⟩) n cap, .int .i64 k])) ((boxW w ok a b c s t).setCell ⟨g, v, none⟩ (.int .i64 (xs.getD (v - 1) 0)))) := by
      refine ⟨g, n, cap, rfl, (Quiet.chg q _).trans (chg1 _ _ _ _), ?_, .inl rfl⟩
      have := G1.set v (xs.getD (v - 1) 0)
      unfold moveX; rw [if_neg h0]; exact this
    have i0 : (0 : Int) ≤ (v : Int) := by omega
    have i1 : (v : Int) < (n : Int) := by omega
    have k1 : (0 : Int) ≤ (v : Int) - 1 := by omega
    have k2 : (v : Int) - 1 < (n : Int) := by omega
    have k3 : ((v : Int) - 1).toNat = v - 1 := by omega
    have k4 : (1 : Int) ≤ (v : Int) := by omega
    have v6 : (v : Int) ≤ 6 := by have := o.n6; omega
    have z0 : ((v : Int) == 0) = false := by rw [beq_eq_false_iff_ne]; omega
    have z1 : ¬ (v : Int) = 0 := by omega
    generalize xs.getD v 0 = XV at *
    generalize xs.getD (v - 1) 0 = XU at *
    unfold opv
    obtain ⟨W0, hW0⟩ : ∃ W, boxW w ok a b c s t = W := ⟨_, rfl⟩
    rw [hW0] at gv gu gf fin
    unfold boxW at hW0
    clear q G G1 o hn hv
    go_enter Try.func19, Try.ntmps19
    go_wp2
    go_ret2
    exact unhide fin

set_option maxHeartbeats 2000000 in
set_option maxRecDepth 100000 in
theorem turn_load (w : World) (g n cap : Nat) (k : Int) (xs : List Int) (G : Gv w g n cap xs) (v : Int) (ok a b c : Int) (s t : ByteArray) (hf : fitP s.size a = 0) :
    Calls Try.prog 19 #[.slice (some ⟨g, 0, none⟩) n cap, .int .i64 k, .int .i64 1, .int .i64 v, opv ok a b c s t] w (TP w g a (loadX a s.data.toList)) := by
  obtain ⟨n2, n6, k1, k8⟩ := fitP_ok hf
  have q := boxW_quiet w ok a b c s t
  have B := boxW_blk w ok a b c s t
  have hlt := G.b.lt
  have ca : _ = some (Value.int .i64 a) := B.cell 1
  have cs : _ = some (Value.string s) := B.cell 4
  have m1 := fun W => make27 W s.size n6
  have BH := hide B
  have qH := hide q
  have hX := hide (loadX_length a s)
  have hgetH := hide (fun j hj => loadX_get a s j hj)
  have gk0 : ¬ a = 0 := by omega
  have g0 : (a == 0) = false := by rw [beq_eq_false_iff_ne]; omega
  have g9 : (a == -1) = false := by rw [beq_eq_false_iff_ne]; omega
  generalize loadX a s.data.toList = X at *
  unfold opv
  obtain ⟨W0, hW0⟩ : ∃ W, boxW w ok a b c s t = W := ⟨_, rfl⟩
  rw [hW0] at ca cs BH qH
  unfold boxW at hW0
  have hsz : W0.heap.size = w.heap.size + 1 := by rw [← hW0]; simp
  clear hf q B G
  go_enter Try.func19, Try.ntmps19
  go_wp2
  go_region_held3 (fun W => W.cell? ⟨w.heap.size, 1, none⟩ = some (.int .i64 a) ∧ W.cell? ⟨w.heap.size, 4, none⟩ = some (.string s)) (go_keep) (fail)
  rename_i hHeld
  clear hHeld
  have B1 := hide ((unhide BH).alloc (.cells (Array.replicate s.size (Value.int .i64 0)) 3))
  have G1 : Gv (W0.alloc (.cells (Array.replicate s.size (Value.int .i64 0)) 3)).drew W0.heap.size s.size s.size (part X 0) := by
    have hx := unhide hX
    have e : ints (part X 0) = List.replicate s.size (Value.int .i64 0) := by unfold part ints; rw [hx]; simp
    refine ⟨?_, by rw [part_length _ _ (by omega), hx], by rw [part_length _ _ (by omega), hx]⟩
    rw [e]
    have hb := Blk.new W0 3 (List.replicate s.size (Value.int .i64 0))
    rw [show (List.replicate s.size (Value.int .i64 0)).toArray = Array.replicate s.size (Value.int .i64 0) by simp] at hb
    exact Quiet.blk ((Chg.refl (fun _ => False) _).drew) hb
  have C1 : Quiet w (W0.alloc (.cells (Array.replicate s.size (Value.int .i64 0)) 3)).drew := (Chg.alloc (unhide qH) _).drew
  have D1 : Blk (W0.alloc (.cells (Array.replicate s.size (Value.int .i64 0)) 3)).drew w.heap.size 34 [.int .i64 ok, .int .i64 a, .int .i64 b, .int .i64 c, .string s, .string t] := Quiet.blk ((Chg.refl (fun _ => False) _).drew) (unhide B1)
  clear B1 BH qH cs ca m1
  generalize (W0.alloc (.cells (Array.replicate s.size (Value.int .i64 0)) 3)).drew = W1 at *
  rw [hsz] at G1
  have hgb : Hid (w.heap.size + 1 = W0.heap.size) := hsz.symm
  have hszH := hide hsz
  clear hW0
  clear hsz
  obtain ⟨gn, hgn⟩ : ∃ gn, w.heap.size + 1 = gn := ⟨_, rfl⟩
  rw [hgn] at G1 ⊢
  have ngn : gn ≠ w.heap.size := by omega
  have lgn : w.heap.size ≤ gn := by omega
  clear hgn hgb hszH
  go_wp2
  go_loopw [12] (fun i wr => ∃ j : Nat, j ≤ s.size ∧ i = .int .i64 j ∧ Gv wr gn s.size s.size (part X j) ∧ Quiet w wr ∧ Blk wr w.heap.size 34 [.int .i64 ok, .int .i64 a, .int .i64 b, .int .i64 c, .string s, .string t]) (fun i _ => 7 - (intOf i).toNat)
  case atStart => exact ⟨0, Nat.zero_le _, rfl, G1, C1, D1⟩
  case round =>
    obtain ⟨j, hj, rfl, Gj, Cj, Dj⟩ := hrel
    have i0 : (0 : Int) ≤ (j : Int) := by omega
    have hpl := part_length X j (by rw [unhide hX]; exact hj)
    rw [unhide hX] at hpl
    have cs : _ = some (Value.string s) := Dj.cell 4
    by_cases hlt2 : j < s.size
    · have i1 : (j : Int) < (s.size : Int) := by omega
      have hx := Gj.x j (by rw [hpl]; exact hlt2)
      have fx := Gj.b.frozen j
      have hps := part_set X j (by rw [unhide hX]; exact hlt2)
      have hgj := unhide hgetH j hlt2
      rw [hgj] at hps
      have hpsH := hide hps
      have tm : Hid ((s[j].toNat : Int).tmod a = (s[j].toNat : Int) % a) := Int.tmod_eq_emod_of_nonneg (by omega)
      clear hps hgj hpl C1 D1 G1
      have GjH := hide Gj
      have DjH := hide Dj
      clear Gj Dj
      generalize (part X j).getD j 0 = xv at *
      have wb : Hid (wrap64 (s[j].toNat : Int) = s[j].toNat) := by
        show _ = _
        have := s[j].toNat_lt
        unfold wrap64
        omega
      go_wp2
      go_roundw
      case rel =>
        rw [unhide wb]
        have gs := (unhide GjH).set j ((s[j].toNat : Int).tmod a)
        rw [unhide hpsH] at gs
        exact ⟨j + 1, by omega, by go_num, gs, Cj.setCell (p := ⟨gn, j, none⟩) (.inr lgn) _, (unhide DjH).set_other (a := ⟨gn, j, none⟩) (Ne.symm ngn) _⟩
      case measure => simp [intOf]; omega
    · have i1 : ¬ (j : Int) < (s.size : Int) := by omega
      have hjn : Hid (j = s.size) := by show _ = _; omega
      have fin : Hid (TP w g a X (.returned (.tuple #[.slice (some ⟨gn, 0, none⟩) s.size s.size, .int .i64 a])) wr) := by
        refine ⟨gn, _, _, rfl, Quiet.chg Cj _, ?_, .inr lgn⟩
        have e : part X j = X := by
          unfold part; rw [unhide hjn, ← unhide hX, List.take_length]; simp
        rwa [e] at Gj
      clear Gj Dj Cj hpl cs C1 D1 G1
      go_wp2
      go_ret2
      exact unhide fin
end Go.Proofs.Qxb6500363a
