/-
  New and Load, of both rings.
-/
import Derived.Test.Qxb6500363aMove
import Derived.Laws.MakeOwn
import Derived.Deep.CutBlock
import Derived.Deep.CutRange
import Derived.Deep.DeepCutAuto
namespace Go.Qx
open Go.RowKit
theorem Blk.at_new {W : World} {t : TypeId} {cs : List Value} {b : Nat} (hb : W.heap.size = b) : Blk (W.alloc (.cells cs.toArray t)) b t cs := by
  rw [← hb]; exact Blk.new W t cs
end Go.Qx

namespace Go.Proofs.Qxb6500363a
open Go.RowKit Go.Qx
set_option linter.unusedSimpArgs false
set_option linter.unusedVariables false

theorem info3 : (Try.prog.info? 3).map (fun i => (i.zero, i.size, i.bytes)) = some (some (.int .i64 0), 1, 8) := by kernel_rfl
theorem info4 : (Try.prog.info? 4).map (fun i => (i.zero, i.size, i.bytes)) = some (some (.bool false), 1, 1) := by kernel_rfl

theorem madeI (n : Nat) (h : n ≤ 6) : madeCells (Value.int .i64 0).cells (n * 1) = (List.replicate n (Value.int .i64 0)).toArray := by
  match n, h with
  | 0, _ => show _ = _; kernel_rfl
  | 1, _ => show _ = _; kernel_rfl
  | 2, _ => show _ = _; kernel_rfl
  | 3, _ => show _ = _; kernel_rfl
  | 4, _ => show _ = _; kernel_rfl
  | 5, _ => show _ = _; kernel_rfl
  | 6, _ => show _ = _; kernel_rfl

theorem madeB (n : Nat) (h : n ≤ 6) : madeCells (Value.bool false).cells (n * 1) = (List.replicate n (Value.bool false)).toArray := by
  match n, h with
  | 0, _ => show _ = _; kernel_rfl
  | 1, _ => show _ = _; kernel_rfl
  | 2, _ => show _ = _; kernel_rfl
  | 3, _ => show _ = _; kernel_rfl
  | 4, _ => show _ = _; kernel_rfl
  | 5, _ => show _ = _; kernel_rfl
  | 6, _ => show _ = _; kernel_rfl

theorem make27 (W : World) (n : Nat) (h : n ≤ 6) : (Instr.makeSlice 27 (.int .i64 n) (.int .i64 n)).run Try.prog W = .ok (.slice (some ⟨W.heap.size, 0, none⟩) n n) (W.alloc (.cells (List.replicate n (Value.int .i64 0)).toArray 3)) := by
  obtain ⟨i, hi, hz0, hz1, hz2⟩ := info_parts info3
  have := run_make (P := Try.prog) W 27 3 i _ Try.underlying27 hi hz0 .i64 .i64 n n (by omega) (by omega) (by rw [hz2]; omega) (by omega)
  rw [hz1] at this
  simp only [Int.toNat_natCast] at this
  rw [this, madeI n h]

theorem make49 (W : World) (n : Nat) (h : n ≤ 6) : (Instr.makeSlice 49 (.int .i64 n) (.int .i64 n)).run Try.prog W = .ok (.slice (some ⟨W.heap.size, 0, none⟩) n n) (W.alloc (.cells (List.replicate n (Value.bool false)).toArray 4)) := by
  obtain ⟨i, hi, hz0, hz1, hz2⟩ := info_parts info4
  have := run_make (P := Try.prog) W 49 4 i _ Try.underlying49 hi hz0 .i64 .i64 n n (by omega) (by omega) (by rw [hz2]; omega) (by omega)
  rw [hz1] at this
  simp only [Int.toNat_natCast] at this
  rw [this, madeB n h]

set_option maxRecDepth 100000 in
set_option maxHeartbeats 1000000 in
theorem newR_any (w : World) : Calls Try.prog 9 #[] w fun e w' => ∃ r a b, e = .returned (ptr r) ∧ Quiet w w' ∧ (∀ k, ownR r a b k → w.heap.size ≤ k) ∧ RepR w' r a b 2 [0, 0] (hots [0, 0]) := by
  have m1 := fun W => make27 W 2 (by omega)
  have m2 := fun W => make49 W 2 (by omega)
  simp only [List.replicate, show ((2 : Nat) : Int) = 2 from rfl] at m1 m2
  go_enter Try.func9, Try.ntmps9
  go_wp2
  go_region_law (fail)
  all_goals
    go_wp2
    go_ret
  · refine ⟨w.heap.size + 1 + 1, w.heap.size, w.heap.size + 1, rfl, ((((Chg.refl _ _).alloc _).alloc _).alloc _).drew, ?_, (Blk.at_new (by simp)).drew, (((Blk.new _ _ [.int .i64 0, .int .i64 0]).alloc _).alloc _).drew, ((Blk.at_new (cs := [.bool true, .bool false]) (by simp)).alloc _).drew, by omega, by omega, by omega, rfl⟩
    rintro k (rfl | rfl | rfl) <;> omega
  · refine ⟨w.heap.size + 1 + 1, w.heap.size + 1, w.heap.size, rfl, ((((Chg.refl _ _).alloc _).alloc _).alloc _).drew, ?_, (Blk.at_new (by simp)).drew, ((Blk.at_new (cs := [.int .i64 0, .int .i64 0]) (by simp)).alloc _).drew, (((Blk.new _ _ [.bool true, .bool false]).alloc _).alloc _).drew, by omega, by omega, by omega, rfl⟩
    rintro k (rfl | rfl | rfl) <;> omega

set_option maxRecDepth 100000 in
set_option maxHeartbeats 1000000 in
theorem newM_any (w : World) : Calls Try.prog 34 #[] w fun e w' => ∃ m c, e = .returned (ptr m) ∧ Quiet w w' ∧ (∀ k, ownM m c k → w.heap.size ≤ k) ∧ RepM w' m c 2 [0, 0] := by
  have m1 := fun W => make27 W 2 (by omega)
  simp only [List.replicate, show ((2 : Nat) : Int) = 2 from rfl] at m1
  go_enter Try.func34, Try.ntmps34
  go_wp2
  go_ret
  refine ⟨w.heap.size + 1, w.heap.size, rfl, ((Chg.refl _ _).alloc _).alloc _, ?_, Blk.at_new (by simp), (Blk.new _ _ [.int .i64 0, .int .i64 0]).alloc _, by omega⟩
  rintro k (rfl | rfl) <;> omega

/-- The ring behind a Load. -/
def loadKX (k : Int) (xs : List Int) (k' : Int) (s : ByteArray) : Int × List Int := if fitP s.size k' = 0 then (k', loadX k' s.data.toList) else (k, xs)

theorem fitP_ok {n : Nat} {k : Int} (h : fitP n k = 0) : 2 ≤ n ∧ n ≤ 6 ∧ (n : Int) ≤ k ∧ k ≤ 8 := by
  unfold fitP at h
  split at h
  · cases h
  · split at h
    · cases h
    · omega

/-- The values while they are laid down. -/
def part (X : List Int) (j : Nat) : List Int := X.take j ++ List.replicate (X.length - j) 0

theorem part_length (X : List Int) (j : Nat) (hj : j ≤ X.length) : (part X j).length = X.length := by unfold part; simp; omega
theorem part_set (X : List Int) (j : Nat) (hj : j < X.length) : (part X j).set j (X.getD j 0) = part X (j + 1) := by
  unfold part
  have hv : X.getD j 0 = X[j] := by simp [List.getD_eq_getElem?_getD, hj]
  have h1 := List.take_succ_eq_append_getElem hj
  rw [List.set_append_right _ _ (by simp; omega), List.length_take, Nat.min_eq_left (by omega), Nat.sub_self, show X.length - j = (X.length - (j + 1)) + 1 by omega, List.replicate_succ, List.set_cons_zero, hv, h1, List.append_assoc]
  rfl

def partH (H : List Bool) (j : Nat) : List Bool := H.take j ++ List.replicate (H.length - j) false
theorem partH_set (H : List Bool) (j : Nat) (hj : j < H.length) (h : Bool) (hh : H[j]? = some h) : (partH H j).set j h = partH H (j + 1) := by
  unfold partH
  have he : H[j] = h := by rw [List.getElem?_eq_getElem hj] at hh; exact Option.some.inj hh
  rw [List.set_append_right _ _ (by simp; omega), List.length_take, Nat.min_eq_left (by omega), Nat.sub_self, show H.length - j = (H.length - (j + 1)) + 1 by omega, List.replicate_succ, List.set_cons_zero, List.take_succ_eq_append_getElem hj, he]
  simp

theorem cnt_none (n : Nat) : cnt (List.replicate n false) = 0 := by
  induction n with
  | zero => rfl
  | succ n ih => simp [List.replicate_succ, cnt, bit, ih]
theorem wsum_none (N n : Nat) : ∀ o, wsum N (List.replicate n false) o = 0 := by
  induction n with
  | zero => intro o; rfl
  | succ n ih => intro o; simp [List.replicate_succ, wsum, bit, ih]

theorem loadX_get (k : Int) (s : ByteArray) (j : Nat) (hj : j < s.size) : (loadX k s.data.toList).getD j 0 = (s[j].toNat : Int).tmod k := by
  have : j < s.data.toList.length := by simpa using hj
  unfold loadX
  simp [List.getD_eq_getElem?_getD, hj]
  rfl

/-- The ring laid anew, its values and flags at nothing. -/
def LD (w wx : World) (r a b : Nat) (k' : Int) (n : Nat) : Prop := ∃ a' b', w.heap.size ≤ a' ∧ w.heap.size ≤ b' ∧ RepR wx r a' b' k' (List.replicate n 0) (List.replicate n false) ∧ Chg (ownR r a b) w wx

theorem ld1 {w : World} {r a b : Nat} {k : Int} {xs : List Int} {hs : List Bool} (R : RepR w r a b k xs hs) (k' : Int) (n : Nat) :
    LD w (((((((w.setCell ⟨r, 0, none⟩ (.int .i64 k')).setCell ⟨r, 1, none⟩ (.slice (some ⟨w.heap.size, 0, none⟩) n n)).setCell ⟨r, 2, none⟩ (.slice (some ⟨w.heap.size + 1, 0, none⟩) n n)).setCell ⟨r, 3, none⟩ (.int .i64 0)).setCell ⟨r, 4, none⟩ (.int .i64 0)).alloc (.cells (Array.replicate n (Value.int .i64 0)) 3)).alloc (.cells (Array.replicate n (Value.bool false)) 4)).drew r a b k' n := by
  have hlt := R.blk.lt
  have e1 : Array.replicate n (Value.int .i64 0) = (ints (List.replicate n 0)).toArray := by simp [ints]
  have e2 : Array.replicate n (Value.bool false) = (bools (List.replicate n false)).toArray := by simp [bools]
  rw [e1, e2]
  refine ⟨w.heap.size, w.heap.size + 1, Nat.le_refl _, by omega, ⟨?_, ((Blk.at_new (by simp [World.setCell])).alloc _).drew, (Blk.at_new (by simp [World.setCell])).drew, by omega, by omega, by omega, by simp⟩, ?_⟩
  · rw [List.length_replicate, cnt_none, wsum_none]
    exact (((((((R.blk.set 0 _).set 1 _).set 2 _).set 3 _).set 4 _).alloc _).alloc _).drew
  · exact (((((((((Chg.refl _ _).setCell (.inl (.inl rfl)) _).setCell (.inl (.inl rfl)) _).setCell (.inl (.inl rfl)) _).setCell (.inl (.inl rfl)) _).setCell (.inl (.inl rfl)) _).alloc _).alloc _).drew)

theorem ld2 {w : World} {r a b : Nat} {k : Int} {xs : List Int} {hs : List Bool} (R : RepR w r a b k xs hs) (k' : Int) (n : Nat) :
    LD w (((((((w.setCell ⟨r, 0, none⟩ (.int .i64 k')).setCell ⟨r, 1, none⟩ (.slice (some ⟨w.heap.size + 1, 0, none⟩) n n)).setCell ⟨r, 2, none⟩ (.slice (some ⟨w.heap.size, 0, none⟩) n n)).setCell ⟨r, 3, none⟩ (.int .i64 0)).setCell ⟨r, 4, none⟩ (.int .i64 0)).alloc (.cells (Array.replicate n (Value.bool false)) 4)).alloc (.cells (Array.replicate n (Value.int .i64 0)) 3)).drew r a b k' n := by
  have hlt := R.blk.lt
  have e1 : Array.replicate n (Value.int .i64 0) = (ints (List.replicate n 0)).toArray := by simp [ints]
  have e2 : Array.replicate n (Value.bool false) = (bools (List.replicate n false)).toArray := by simp [bools]
  rw [e1, e2]
  refine ⟨w.heap.size + 1, w.heap.size, by omega, Nat.le_refl _, ⟨?_, (Blk.at_new (by simp [World.setCell])).drew, ((Blk.at_new (by simp [World.setCell])).alloc _).drew, by omega, by omega, by omega, by simp⟩, ?_⟩
  · rw [List.length_replicate, cnt_none, wsum_none]
    exact (((((((R.blk.set 0 _).set 1 _).set 2 _).set 3 _).set 4 _).alloc _).alloc _).drew
  · exact (((((((((Chg.refl _ _).setCell (.inl (.inl rfl)) _).setCell (.inl (.inl rfl)) _).setCell (.inl (.inl rfl)) _).setCell (.inl (.inl rfl)) _).setCell (.inl (.inl rfl)) _).alloc _).alloc _).drew)

theorem loadX_length (k : Int) (s : ByteArray) : (loadX k s.data.toList).length = s.size := by simp [loadX]

/-- The ring behind a step, on its old rows or on new ones. -/
def LP (w w' : World) (r a b : Nat) (K : Int) (X : List Int) : Prop := ∃ a' b', (a' = a ∨ w.heap.size ≤ a') ∧ (b' = b ∨ w.heap.size ≤ b') ∧ RepR w' r a' b' K X (hots X)

set_option maxRecDepth 100000 in
set_option maxHeartbeats 8000000 in
theorem loadR_any (w : World) (r a b : Nat) (k : Int) (xs : List Int) (R : RepR w r a b k xs (hots xs)) (k' : Int) (s : ByteArray) :
    Calls Try.prog 30 #[ptr r, .int .i64 k', .string s] w fun e w' => e = .returned (.int .i64 (fitP s.size k')) ∧ Chg (ownR r a b) w w' ∧ LP w w' r a b (loadKX k xs k' s).1 (loadKX k xs k' s).2 := by
  have hft := fit_any w s.size k'
  by_cases he : fitP s.size k' = 0
  · have hE : Hid (loadKX k xs k' s = (k', loadX k' s.data.toList)) := by show _ = _; unfold loadKX; rw [if_pos he]
    obtain ⟨n2, n6, k1, k8⟩ := fitP_ok he
    rw [he] at hft ⊢
    have m1 := fun W => make27 W s.size n6
    have m2 := fun W => make49 W s.size n6
    obtain ⟨c0, c1, c2, c3, c4⟩ := R.cells
    have f0 := R.blk.frozen 0
    have f1 := R.blk.frozen 1
    have f2 := R.blk.frozen 2
    have f3 := R.blk.frozen 3
    have f4 := R.blk.frozen 4
    have hlt := R.blk.lt
    have nr0 : w.heap.size ≠ r := by omega
    have nr1 : w.heap.size + 1 ≠ r := by omega
    have nr2 := Ne.symm nr0
    have nr3 := Ne.symm nr1
    clear he
    unfold ptr at *
    go_enter Try.func30, Try.ntmps30
    go_wp2_with fail
    refine hft.mono ?_
    rintro e w1 ⟨rfl, rfl⟩
    go_wp2
    go_cut [] (fun wx => LD w1 wx r a b k' s.size)
    case first =>
      go_region_law (fail)
      all_goals
        go_wp2
        go_meet
        case rel => first | with_reducible exact ld1 R k' s.size | with_reducible exact ld2 R k' s.size
    case rest =>
      obtain ⟨a', b', ha, hb, R5, ch5⟩ := hcut
      have hXl := loadX_length k' s
      have hget := fun j hj => loadX_get k' s j hj
      have hXlH := hide hXl
      have hgetH := hide hget
      clear hXl hget c0 c1 c2 c3 c4 f0 f1 f2 f3 f4
      generalize loadX k' s.data.toList = X at *
      have hp0 : part X 0 = List.replicate s.size 0 := by unfold part; rw [unhide hXlH]; simp
      rw [← hp0] at R5
      clear hp0
      have gk0 : ¬ k' = 0 := by omega
      have g0 : (k' == 0) = false := by rw [beq_eq_false_iff_ne]; omega
      have g9 : (k' == -1) = false := by rw [beq_eq_false_iff_ne]; omega
      go_wp2
      go_loopw [41] (fun i wr => ∃ j : Nat, j ≤ s.size ∧ i = .int .i64 j ∧ RepR wr r a' b' k' (part X j) (List.replicate s.size false) ∧ Chg (ownR r a b) w1 wr) (fun i _ => 7 - (intOf i).toNat)
      case atStart => exact ⟨0, Nat.zero_le _, rfl, R5, ch5⟩
      case round =>
        obtain ⟨j, hj, rfl, Rj, chj⟩ := hrel
        have i0 : (0 : Int) ≤ (j : Int) := by omega
        have hpl := part_length X j (by rw [unhide hXlH]; exact hj)
        rw [unhide hXlH] at hpl
        obtain ⟨c0, c1, c2, c3, c4⟩ := Rj.cells
        rw [hpl] at c1
        by_cases hlt2 : j < s.size
        · have i1 : (j : Int) < (s.size : Int) := by omega
          have hx := Rj.x j (by rw [hpl]; exact hlt2)
          have fx := Rj.xb.frozen j
          have hps := part_set X j (by rw [unhide hXlH]; exact hlt2)
          have hgj := unhide hgetH j hlt2
          rw [hgj] at hps
          have hpsH := hide hps
          have nra := Rj.ra
          have nar := Ne.symm nra
          have tm : Hid ((s[j].toNat : Int).tmod k' = (s[j].toNat : Int) % k') := Int.tmod_eq_emod_of_nonneg (by omega)
          have wb : Hid (wrap64 (s[j].toNat : Int) = s[j].toNat) := by
            show _ = _
            have := s[j].toNat_lt
            unfold wrap64
            omega
          clear hps hgj hpl
          generalize (part X j).getD j 0 = xv at *
          go_wp2
          go_region_held3 (fun w' => w'.cell? ⟨r, 1, none⟩ = some (.slice (some ⟨a', 0, none⟩) s.size s.size)) (first | exact cell_set_ne c1 (.inl nra) | go_keep) (fail)
          rename_i hHeld
          clear hHeld
          go_wp2
          go_roundw
          case rel =>
            refine ⟨j + 1, by omega, by go_num, ?_, (chj.setCell (.inr (by dsimp only; omega)) _).drew⟩
            rw [← unhide hpsH]
            first
              | exact (Rj.setX j _).quiet ((Chg.refl _ _).drew)
              | (rw [unhide wb, unhide tm]; exact (Rj.setX j _).quiet ((Chg.refl _ _).drew))
              | (rw [unhide wb]; exact (Rj.setX j _).quiet ((Chg.refl _ _).drew))
          case measure => simp [intOf]; omega
        · have i1 : ¬ (j : Int) < (s.size : Int) := by omega
          have hpj : part X j = X := by unfold part; rw [unhide hXlH, show s.size - j = 0 by omega, List.take_of_length_le (by rw [unhide hXlH]; omega)]; simp
          rw [hpj] at Rj
          clear hpj hpl
          have hphl : Hid ((hots X).length = s.size) := (hots_length X).trans (unhide hXlH)
          have hph0 : partH (hots X) 0 = List.replicate s.size false := by unfold partH; rw [unhide hphl]; simp
          rw [← hph0] at Rj
          clear hph0 c0 c1 c2 c3 c4
          go_wp2
          go_loopw [58] (fun i wr => ∃ j : Nat, j ≤ s.size ∧ i = .int .i64 j ∧ RepR wr r a' b' k' X (partH (hots X) j) ∧ Chg (ownR r a b) w1 wr) (fun i _ => 7 - (intOf i).toNat)
          case atStart => exact ⟨0, Nat.zero_le _, rfl, Rj, chj⟩
          case round =>
            clear Rj chj i0 i1
            obtain ⟨j, hj, rfl, Rj, chj⟩ := hrel
            have i0 : (0 : Int) ≤ (j : Int) := by omega
            by_cases hlt2 : j < s.size
            · have i1 : (j : Int) < (s.size : Int) := by omega
              have hjX : j < X.length := by rw [unhide hXlH]; exact hlt2
              have ht := touch_any _ r a' b' k' X _ Rj (by rw [unhide hXlH]; exact n6) j hjX
              rw [partH_set (hots X) j (by rw [unhide hphl]; exact hlt2) (priv X j) (hots_get X j hjX)] at ht
              unfold ptr at ht
              have htH := hide ht
              clear ht
              go_wp2_with fail
              refine (unhide htH).mono ?_
              rintro e w2 ⟨rfl, ch2, R2⟩
              go_wp2
              go_roundw
              case rel =>
                refine ⟨j + 1, by omega, by go_num, R2, Chg.trans' chj ch2 ?_⟩
                rintro i hi (h | h | h)
                · exact .inl h
                · omega
                · omega
              case measure => simp [intOf]; omega
            · have i1 : ¬ (j : Int) < (s.size : Int) := by omega
              have hpj : partH (hots X) j = hots X := by unfold partH; rw [unhide hphl, show s.size - j = 0 by omega, List.take_of_length_le (by rw [unhide hphl]; omega)]; simp
              rw [hpj] at Rj
              clear hpj
              go_wp2
              go_ret
              rw [unhide hE]
              exact ⟨rfl, chj, a', b', .inr ha, .inr hb, Rj⟩
  · have hE : Hid (loadKX k xs k' s = (k, xs)) := by show _ = _; unfold loadKX; rw [if_neg he]
    have hb : (fitP s.size k' == 0) = false := by simpa using he
    clear he
    unfold ptr at *
    generalize fitP s.size k' = ft at *
    go_enter Try.func30, Try.ntmps30
    go_wp2_with fail
    refine hft.mono ?_
    rintro e w1 ⟨rfl, rfl⟩
    go_wp2
    go_ret
    rw [unhide hE]
    exact ⟨rfl, Chg.refl _ _, a, b, .inl rfl, .inl rfl, R⟩
end Go.Proofs.Qxb6500363a
