/-
  THE BOOK: Turn, Deliver. (gen64turn.py)
-/
import Derived.Test.Qxb6500364aKTurn
namespace Go.Proofs.Qxb6500364a
open Go.RowKit Go.Qx
set_option linter.unusedVariables false
set_option linter.unusedSimpArgs false

/-- Every live link is marked, of the first k. -/
def markedTo (C : Nat → Nat → Int) (M : Nat → Nat → Bool) (k : Nat) : Prop := ∀ n, n < k → 0 < C (n / 5) (n % 5) → M (n / 5) (n % 5) = true
/-- What a delivery leaves. -/
def DPost (w : World) (g p q m f : Nat) (C : Nat → Nat → Int) (H : Nat → Nat → Nat → Int) (M F : Nat → Nat → Bool) (r : Nat) (e : Ending) (w' : World) : Prop :=
  e = .returned (.tuple #[]) ∧ Chg (ownG g p q m f) w w' ∧ (RepG w' g p q m f C H M F r ∨ (markedTo C M 25 ∧ RepG w' g p q m f C H (fun _ _ => false) F (min (r + 1) 16)))
set_option maxRecDepth 100000 in
set_option maxHeartbeats 4000000 in
theorem turn_deliver (w : World) (g p q m f : Nat) (C : Nat → Nat → Int) (H : Nat → Nat → Nat → Int) (M F : Nat → Nat → Bool) (r : Nat) (R : RepG w g p q m f C H M F r) (i j : Nat) (hi : i < 5) (hj : j < 5) (hij : i ≠ j) (I : Inv C H) (hr : r ≤ 16) (c : Int) (s t : ByteArray) : Calls Try.prog 16 #[.pointer (some ⟨g, 0, none⟩), opv 3 i j c s t, .string (str (showP C H))] w (DPost w g p q m f C (upd H j (upd (H j) i (vecP C H i))) (upd M i (upd (M i) j true)) (upd F j (upd (F j) i true)) r) := by
  have hdist : Hid (∀ d : Nat, d < 5 → ∀ W, (Instr.index 9 (.string (str (showP C H))) (.int .i64 (((i : Int) * 5 + d) * 9))).run Try.prog W = .ok (.int .u8 (gl (vecP C H i d)).toNat) W) := by
    intro d hd W
    have h1 : 0 ≤ (bestP i (C i) (H i) d).1 ∧ (bestP i (C i) (H i) d).1 ≤ 16 := ((I.ok i hi).best i hi d hd).1
    have h2 := show_dist C H I i d hi hd W
    rw [← gl_toNat _ (by omega) h1.2] at h2
    exact h2
  have sz := show_size C H
  generalize str (showP C H) = S at *
  have hm := make60b
  generalize hL : (lay5 []).toArray = L0 at hm
  have hLH := hide hL
  clear hL
  have q0 := opW_quiet w 3 i j c s t
  have O := opW_op w 3 i j c s t
  obtain ⟨W0, hW0⟩ : ∃ W, opW w 3 i j c s t = W := ⟨_, rfl⟩
  rw [hW0] at q0 O
  have R0 := R.quiet q0
  have i0 : (0 : Int) ≤ (i : Int) := by omega
  have i1 : (i : Int) < 5 := by omega
  have j0 : (0 : Int) ≤ (j : Int) := by omega
  have j1 : (j : Int) < 5 := by omega
  have ix1 : (0 : Int) ≤ (i : Int) * 5 + (j : Int) := by omega
  have ix2 : (i : Int) * 5 + (j : Int) < 25 := by omega
  have wr1 : IntKind.i64.wrap ((i : Int) * 5) = (i : Int) * 5 := by rw [IntKind.wrap_i64]; omega
  have wr2 : IntKind.i64.wrap ((i : Int) * 5 + (j : Int)) = (i : Int) * 5 + (j : Int) := by rw [IntKind.wrap_i64]; omega
  have tn : ((i : Int) * 5 + (j : Int)).toNat = i * 5 + j := by omega
  have jx1 : (0 : Int) ≤ (j : Int) * 5 + (i : Int) := by omega
  have jx2 : (j : Int) * 5 + (i : Int) < 25 := by omega
  have wr3 : IntKind.i64.wrap ((j : Int) * 5) = (j : Int) * 5 := by rw [IntKind.wrap_i64]; omega
  have wr4 : IntKind.i64.wrap ((j : Int) * 5 + (i : Int)) = (j : Int) * 5 + (i : Int) := by rw [IntKind.wrap_i64]; omega
  have tn2 : ((j : Int) * 5 + (i : Int)).toNat = j * 5 + i := by omega
  have nij : i * 5 + j ≠ j * 5 + i := by omega
  have nji : j * 5 + i ≠ i * 5 + j := by omega
  have gp := R0.gp
  have gq := R0.gq
  have gm := R0.gm
  have gf := R0.gf
  have pq := R0.pq
  have pm := R0.pm
  have pf := R0.pf
  have qm := R0.qm
  have qf := R0.qf
  have mf := R0.mf
  have gp' := Ne.symm gp
  have gq' := Ne.symm gq
  have gm' := Ne.symm gm
  have gf' := Ne.symm gf
  have pq' := Ne.symm pq
  have pm' := Ne.symm pm
  have pf' := Ne.symm pf
  have qm' := Ne.symm qm
  have qf' := Ne.symm qf
  have mf' := Ne.symm mf
  have og : g < w.heap.size := R.lts _ (.inl rfl)
  have op : p < w.heap.size := R.lts _ (.inr (.inl rfl))
  have oq : q < w.heap.size := R.lts _ (.inr (.inr (.inl rfl)))
  have om : m < w.heap.size := R.lts _ (.inr (.inr (.inr (.inl rfl))))
  have of : f < w.heap.size := R.lts _ (.inr (.inr (.inr (.inr rfl))))
  have zg' : g ≠ w.heap.size := by omega
  have zp' : p ≠ w.heap.size := by omega
  have zq' : q ≠ w.heap.size := by omega
  have zm' : m ≠ w.heap.size := by omega
  have zf' : f ≠ w.heap.size := by omega
  have zg : w.heap.size ≠ g := by omega
  have zp : w.heap.size ≠ p := by omega
  have zq : w.heap.size ≠ q := by omega
  have zm : w.heap.size ≠ m := by omega
  have zf : w.heap.size ≠ f := by omega
  have o0 : W0.cell? ⟨w.heap.size, 0, none⟩ = some (.int .i64 3) := O.cell 0
  have o1 : W0.cell? ⟨w.heap.size, 1, none⟩ = some (.int .i64 i) := O.cell 1
  have o2 : W0.cell? ⟨w.heap.size, 2, none⟩ = some (.int .i64 j) := O.cell 2
  have o3 : W0.cell? ⟨w.heap.size, 3, none⟩ = some (.int .i64 c) := O.cell 3
  have q0H := hide q0
  have OH := hide O
  have R0H := hide R0
  unfold opW at hW0
  unfold opv DPost
  clear q0 O R0 R
  go_enter Try.func16, Try.ntmps16
  go_wp2
  go_quiet (fail)
  have q1 := hide ((Chg.refl (fun _ => False) W0).drewN nq)
  have R1 := (unhide R0H).quiet (unhide q1)
  have O1 := Quiet.blk (unhide q1) (unhide OH)
  have q01 := hide (Quiet.trans (unhide q0H) (unhide q1))
  obtain ⟨W1, hW1⟩ : ∃ W, W0.drewN nq = W := ⟨_, rfl⟩
  rw [hW1] at R1 O1 q01 ⊢
  clear q1 hW1 o0 o1 o2 o3 q0H OH R0H hW0
  have o0 : W1.cell? ⟨w.heap.size, 0, none⟩ = some (.int .i64 3) := O1.cell 0
  have o1 : W1.cell? ⟨w.heap.size, 1, none⟩ = some (.int .i64 i) := O1.cell 1
  have o2 : W1.cell? ⟨w.heap.size, 2, none⟩ = some (.int .i64 j) := O1.cell 2
  have o3 : W1.cell? ⟨w.heap.size, 3, none⟩ = some (.int .i64 c) := O1.cell 3
  obtain ⟨c0, c1, c2, c3, c4⟩ := R1.cells
  have R1H := hide R1
  have O1H := hide O1
  clear R1 O1
  have bV : Blk (W1.alloc (.cells L0 5)) W1.heap.size 5 (lay5 []) := by
    rw [← unhide hLH]
    exact Blk.new W1 5 (lay5 [])
  have q2 : Quiet W1 (W1.alloc (.cells L0 5)) := (Chg.refl _ _).alloc _
  have lW : w.heap.size < W1.heap.size := (unhide O1H).lt
  go_wp2
  have qA := hide q2
  have bVH := hide bV
  clear q2 bV c0 c1 c2 c3 c4 o0 o1 o2 o3
  obtain ⟨W2, hW2⟩ : ∃ W, W1.alloc (.cells L0 5) = W := ⟨_, rfl⟩
  rw [hW2] at qA bVH ⊢
  obtain ⟨V, hV⟩ : ∃ v, W1.heap.size = v := ⟨_, rfl⟩
  rw [hV] at bVH lW ⊢
  clear hW2
  have hVH := hide hV
  clear hV
  go_loopw [9] (fun kv wr => ∃ d : Nat, d ≤ 5 ∧ kv = .int .i64 d ∧ Quiet W1 wr ∧ Blk wr V 5 (lay5 (earTo (vecP C H i) d))) (fun kv _ => 6 - (intOf kv).toNat)
  case atStart => exact ⟨0, by omega, rfl, unhide qA, unhide bVH⟩
  case round =>
    obtain ⟨d, hd, rfl, qq, bb⟩ := hrel
    clear bVH qA
    by_cases hlt : d < 5
    · have d0 : (0 : Int) ≤ (d : Int) := by omega
      have d1 : (d : Int) < 5 := by omega
      have hix := unhide hdist d hlt
      have hlen : (earTo (vecP C H i) d).length = d := earTo_length _ d
      have o1 : wr.cell? ⟨w.heap.size, 1, none⟩ = some (.int .i64 i) := (Quiet.blk qq (unhide O1H)).cell 1
      have w5 : IntKind.i64.wrap ((i : Int) * 5 + (d : Int)) = (i : Int) * 5 + (d : Int) := by rw [IntKind.wrap_i64]; omega
      have w6 : IntKind.i64.wrap (((i : Int) * 5 + (d : Int)) * 9) = ((i : Int) * 5 + (d : Int)) * 9 := by rw [IntKind.wrap_i64]; omega
      have fin : (∃ u, wr.cell? ⟨V, d, none⟩ = some u) ∧ wr.frozen? ⟨V, d, none⟩ = false ∧ Quiet W1 (wr.setCell ⟨V, d, none⟩ (.int .u8 (gl (vecP C H i d)).toNat)) ∧ Blk (wr.setCell ⟨V, d, none⟩ (.int .u8 (gl (vecP C H i d)).toNat)) V 5 (lay5 (earTo (vecP C H i) (d + 1))) := by
        refine ⟨⟨_, (bb.cell d).trans (List.getElem?_eq_getElem (by unfold lay5; simp [hlen]; omega))⟩, bb.frozen d, qq.setCell (p := ⟨V, d, none⟩) (.inr (Nat.le_of_eq (unhide hVH))) _, ?_⟩
        have h1 := bb.set d (bv (gl (vecP C H i d)))
        rw [lay5_set _ _ d hlen hlt] at h1
        exact h1
      obtain ⟨⟨u, hu⟩, hf, y1, y2⟩ := fin
      generalize gl (vecP C H i d) = G at *
      have yH := hide (And.intro y1 y2)
      clear y1 y2 qq bb hlen
      go_wp2
      go_roundw
      case rel => exact ⟨d + 1, by omega, by go_num, (unhide yH).1, (unhide yH).2⟩
      case measure => simp [intOf]; omega
    · have d1 : ¬ (d : Int) < 5 := by omega
      obtain rfl : d = 5 := by omega
      have R2 := (unhide R1H).quiet qq
      obtain ⟨c0, c1, c2, c3, c4⟩ := R2.cells
      have ce := R2.e j i hj hi
      have fe := R2.hb.frozen (j * 5 + i)
      have cf := R2.fd j i hj hi
      have ff := R2.fb.frozen (j * 5 + i)
      have cm := R2.mk' i j hi hj
      have fm := R2.mb.frozen (i * 5 + j)
      have hcs : (convert 60 9 (.slice (some ⟨V, 0, none⟩) 5 5)).run Try.prog wr.drew = .ok (.string (ear (vecP C H i))) wr.drew := by
        refine run_str_of_cells (P := Try.prog) wr.drew 60 5 Try.underlying60 Try.underlying5 V 0 5 5 (earTo (vecP C H i) 5) (earTo_length _ 5) ?_ 9 Try.underlying9
        intro k hk
        rw [Nat.zero_add, bb.drew.cell k]
        unfold lay5
        rw [List.getElem?_append_left (by simp [earTo_length]; omega), List.getElem?_map]
      have fin : Hid (Chg (ownG g p q m f) w (((wr.setCell ⟨q, j * 5 + i, none⟩ (.string (ear (vecP C H i)))).setCell ⟨f, j * 5 + i, none⟩ (.bool true)).setCell ⟨m, i * 5 + j, none⟩ (.bool true)).drew ∧ RepG (((wr.setCell ⟨q, j * 5 + i, none⟩ (.string (ear (vecP C H i)))).setCell ⟨f, j * 5 + i, none⟩ (.bool true)).setCell ⟨m, i * 5 + j, none⟩ (.bool true)).drew g p q m f C (upd H j (upd (H j) i (vecP C H i))) (upd M i (upd (M i) j true)) (upd F j (upd (F j) i true)) r) := by
        have h1 := ((R2.setH j i hj hi (vecP C H i)).setF j i hj hi true).setM i j hi hj true
        exact ⟨((((Quiet.chg (Quiet.trans (unhide q01) qq) (ownG g p q m f)).trans (chgG _ q _ _ (.inr (.inr (.inl rfl))))).trans (chgG _ f _ _ (.inr (.inr (.inr (.inr rfl)))))).trans (chgG _ m _ _ (.inr (.inr (.inr (.inl rfl)))))).drew, h1.quiet ((Chg.refl _ _).drew)⟩
      generalize hev : ear (vecP C H i) = ev at *
      have hcs2 : ∀ W : World, W.cell? ⟨V, 0, none⟩ = some (bv (gl (vecP C H i 0))) → W.cell? ⟨V, 1, none⟩ = some (bv (gl (vecP C H i 1))) → W.cell? ⟨V, 2, none⟩ = some (bv (gl (vecP C H i 2))) → W.cell? ⟨V, 3, none⟩ = some (bv (gl (vecP C H i 3))) → W.cell? ⟨V, 4, none⟩ = some (bv (gl (vecP C H i 4))) → (convert 60 9 (.slice (some ⟨V, 0, none⟩) 5 5)).run Try.prog W = .ok (.string ev) W := by
        intro W k0 k1 k2 k3 k4
        rw [← hev]
        refine run_str_of_cells (P := Try.prog) W 60 5 Try.underlying60 Try.underlying5 V 0 5 5 (earTo (vecP C H i) 5) (earTo_length _ 5) ?_ 9 Try.underlying9
        intro k hk
        have : k = 0 ∨ k = 1 ∨ k = 2 ∨ k = 3 ∨ k = 4 := by omega
        rcases this with rfl | rfl | rfl | rfl | rfl
        · exact k0
        · exact k1
        · exact k2
        · exact k3
        · exact k4
      have v0 : wr.cell? ⟨V, 0, none⟩ = some (bv (gl (vecP C H i 0))) := bb.cell 0
      have v1 : wr.cell? ⟨V, 1, none⟩ = some (bv (gl (vecP C H i 1))) := bb.cell 1
      have v2 : wr.cell? ⟨V, 2, none⟩ = some (bv (gl (vecP C H i 2))) := bb.cell 2
      have v3 : wr.cell? ⟨V, 3, none⟩ = some (bv (gl (vecP C H i 3))) := bb.cell 3
      have v4 : wr.cell? ⟨V, 4, none⟩ = some (bv (gl (vecP C H i 4))) := bb.cell 4
      have Vq : V ≠ q := by omega
      have Vf : V ≠ f := by omega
      have Vm : V ≠ m := by omega
      have qV := Ne.symm Vq
      have fV := Ne.symm Vf
      have mV := Ne.symm Vm
      have hevH := hide hev
      clear R2 qq bb hev
      go_wp2
      go_region
      obtain ⟨C3, R3⟩ := unhide fin
      obtain ⟨W3, hW3⟩ : ∃ W, (((wr.setCell ⟨q, j * 5 + i, none⟩ (.string ev)).setCell ⟨f, j * 5 + i, none⟩ (.bool true)).setCell ⟨m, i * 5 + j, none⟩ (.bool true)).drew = W := ⟨_, rfl⟩
      rw [hW3] at C3 R3 ⊢
      have C3H := hide C3
      have R3H := hide R3
      clear C3 R3 fin hW3 hcs hcs2 v0 v1 v2 v3 v4 c0 c1 c2 c3 c4 ce fe cf ff cm fm hevH
      go_wp2
      go_loopw [10] (fun kv wr2 => ∃ n : Nat, n ≤ 25 ∧ kv = .int .i64 n ∧ markedTo C (upd M i (upd (M i) j true)) n ∧ wr2 = W3) (fun kv _ => 26 - (intOf kv).toNat)
      case atStart => exact ⟨0, by omega, rfl, fun n h => by omega, rfl⟩
      case round =>
        obtain ⟨n, hn, rfl, hmk, hwr⟩ := hrel
        replace hwr := hwr.symm
        subst hwr

        have hmkH := hide hmk
        clear hmk
        obtain ⟨c0, c1, c2, c3, c4⟩ := (unhide R3H).cells
        by_cases hlt : n < 25
        · have n0 : (0 : Int) ≤ (n : Int) := by omega
          have n1 : (n : Int) < 25 := by omega
          have cc := (unhide R3H).c (n / 5) (n % 5) (by omega) (by omega)
          have cm := (unhide R3H).mk' (n / 5) (n % 5) (by omega) (by omega)
          rw [show n / 5 * 5 + n % 5 = n by omega] at cc cm
          have hnx : Hid ((0 < C (n / 5) (n % 5) → (upd M i (upd (M i) j true)) (n / 5) (n % 5) = true) → markedTo C (upd M i (upd (M i) j true)) (n + 1)) := by
            intro h x hx
            by_cases e : x = n
            · rw [e]; exact h
            · exact unhide hmkH x (by omega)
          by_cases hc : 0 < C (n / 5) (n % 5)
          · cases hM : (upd M i (upd (M i) j true)) (n / 5) (n % 5)
            · rw [hM] at cm
              generalize C (n / 5) (n % 5) = cv at *
              clear hnx hM
              go_wp2
              (try simp only [Exit.inBlock, Exit.then])
              refine bodyPost_ret (results_none rfl _ _ _) rfl ?_
              exact ⟨rfl, unhide C3H, .inl (unhide R3H)⟩
            · rw [hM] at cm
              have hm2 := hide (unhide hnx (fun _ => hM))
              generalize C (n / 5) (n % 5) = cv at *
              clear hnx hM
              go_wp2
              go_roundw
              case rel => exact ⟨n + 1, by omega, by go_num, unhide hm2, by first | rfl | trivial⟩
              case measure => simp [intOf]; omega
          · have hm2 := hide (unhide hnx (fun h => absurd h hc))
            have hcF : (0 < C (n / 5) (n % 5)) = False := eq_false hc
            generalize C (n / 5) (n % 5) = cv at *
            clear hnx cm
            go_wp2
            go_roundw
            case rel => exact ⟨n + 1, by omega, by go_num, unhide hm2, by first | rfl | trivial⟩
            case measure => simp [intOf]; omega
        · have n1 : ¬ (n : Int) < 25 := by omega
          obtain rfl : n = 25 := by omega
          have fg := (unhide R3H).blk.frozen 4
          by_cases h16 : r < 16
          · have rw1 : IntKind.i64.wrap ((r : Int) + 1) = (r : Int) + 1 := by rw [IntKind.wrap_i64]; omega
            have r0 : (r : Int) < 16 := by omega
            have RL : Hid (Chg (ownG g p q m f) w (W3.setCell ⟨g, 4, none⟩ (.int .i64 ((r : Int) + 1))) ∧ RepG (W3.setCell ⟨g, 4, none⟩ (.int .i64 ((r : Int) + 1))) g p q m f C (upd H j (upd (H j) i (vecP C H i))) (upd M i (upd (M i) j true)) (upd F j (upd (F j) i true)) (min (r + 1) 16)) := by
              have e : (((min (r + 1) 16 : Nat)) : Int) = (r : Int) + 1 := by omega
              have h1 := (unhide R3H).setR (min (r + 1) 16)
              rw [e] at h1
              exact ⟨(unhide C3H).trans (chgG _ g _ _ (.inl rfl)), h1⟩
            clear C3H R3H
            go_wp2
            go_loopw [11] (fun kv wr => ∃ k : Nat, k ≤ 25 ∧ kv = .int .i64 k ∧ Chg (ownG g p q m f) w wr ∧ RepG wr g p q m f (C) (upd H j (upd (H j) i (vecP C H i))) (wipeTo k (upd M i (upd (M i) j true))) (upd F j (upd (F j) i true)) (min (r + 1) 16)) (fun kv _ => 26 - (intOf kv).toNat)
            case atStart => exact ⟨0, by omega, rfl, (unhide RL).1, by rw [wipe_none]; exact (unhide RL).2⟩
            case round =>
              obtain ⟨k, hk, rfl, chk, Rk⟩ := hrel
              clear RL
              by_cases hlt : k < 25
              · have k0 : (0 : Int) ≤ (k : Int) := by omega
                have k1 : (k : Int) < 25 := by omega
                have c2 := Rk.cells.2.2.1
                have cm := Rk.mk' (k / 5) (k % 5) (by omega) (by omega)
                rw [show k / 5 * 5 + k % 5 = k by omega] at cm
                have fm := Rk.mb.frozen k
                have fin := hide (And.intro (chk.trans (chgG wr m k (.bool false) (.inr (.inr (.inr (.inl rfl)))))) (Rk.wipe hlt))
                generalize wipeTo k (upd M i (upd (M i) j true)) (k / 5) (k % 5) = bb at *
                clear Rk chk
                go_wp2
                go_roundw
                case rel => exact ⟨k + 1, by omega, by go_num, (unhide fin).1, (unhide fin).2⟩
                case measure => simp [intOf]; omega
              · have k1 : ¬ (k : Int) < 25 := by omega
                obtain rfl : k = 25 := by omega
                have fin := hide (And.intro chk Rk.wiped)
                clear Rk chk
                go_wp2
                go_end0
                exact ⟨rfl, (unhide fin).1, .inr ⟨unhide hmkH, (unhide fin).2⟩⟩
          · have r0 : ¬ (r : Int) < 16 := by omega
            have RL : Hid (Chg (ownG g p q m f) w W3 ∧ RepG W3 g p q m f C (upd H j (upd (H j) i (vecP C H i))) (upd M i (upd (M i) j true)) (upd F j (upd (F j) i true)) (min (r + 1) 16)) := by
              rw [show min (r + 1) 16 = r by omega]
              exact ⟨unhide C3H, unhide R3H⟩
            clear C3H R3H
            go_wp2
            go_loopw [11] (fun kv wr => ∃ k : Nat, k ≤ 25 ∧ kv = .int .i64 k ∧ Chg (ownG g p q m f) w wr ∧ RepG wr g p q m f (C) (upd H j (upd (H j) i (vecP C H i))) (wipeTo k (upd M i (upd (M i) j true))) (upd F j (upd (F j) i true)) (min (r + 1) 16)) (fun kv _ => 26 - (intOf kv).toNat)
            case atStart => exact ⟨0, by omega, rfl, (unhide RL).1, by rw [wipe_none]; exact (unhide RL).2⟩
            case round =>
              obtain ⟨k, hk, rfl, chk, Rk⟩ := hrel
              clear RL
              by_cases hlt : k < 25
              · have k0 : (0 : Int) ≤ (k : Int) := by omega
                have k1 : (k : Int) < 25 := by omega
                have c2 := Rk.cells.2.2.1
                have cm := Rk.mk' (k / 5) (k % 5) (by omega) (by omega)
                rw [show k / 5 * 5 + k % 5 = k by omega] at cm
                have fm := Rk.mb.frozen k
                have fin := hide (And.intro (chk.trans (chgG wr m k (.bool false) (.inr (.inr (.inr (.inl rfl)))))) (Rk.wipe hlt))
                generalize wipeTo k (upd M i (upd (M i) j true)) (k / 5) (k % 5) = bb at *
                clear Rk chk
                go_wp2
                go_roundw
                case rel => exact ⟨k + 1, by omega, by go_num, (unhide fin).1, (unhide fin).2⟩
                case measure => simp [intOf]; omega
              · have k1 : ¬ (k : Int) < 25 := by omega
                obtain rfl : k = 25 := by omega
                have fin := hide (And.intro chk Rk.wiped)
                clear Rk chk
                go_wp2
                go_end0
                exact ⟨rfl, (unhide fin).1, .inr ⟨unhide hmkH, (unhide fin).2⟩⟩

end Go.Proofs.Qxb6500364a
