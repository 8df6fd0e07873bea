/-
  The law's own record: toss, level, span.
-/
import Derived.Test.Qxb6500361aWalk
namespace Go.Proofs.Qxb6500361a
open Go.RowKit Go.Qx
set_option linter.unusedSimpArgs false
set_option linter.unusedVariables false

theorem toss_drop : ∀ (k : Nat) (l : List UInt8), (toss k l).2 = l.drop (l.length - (toss k l).2.length)
  | 0, l => by simp [toss]
  | _ + 1, [] => by simp [toss]
  | k + 1, c :: l => by
    have ih := toss_drop k l
    have hb := (toss_bounds k l).2.2
    unfold toss
    split
    · simp only [List.length_cons]
      rw [show l.length + 1 - (toss k l).2.length = (l.length - (toss k l).2.length) + 1 by omega, List.drop_succ_cons]
      exact ih
    · simp

theorem toss_nil (k : Nat) : toss k [] = (1, []) := by cases k <;> rfl

theorem toss_any (w : World) (p : ByteArray) (hp : p.size ≤ 32) : Calls Try.prog 40 #[.string p] w fun e w' =>
    e = .returned (.tuple #[.int .i64 (toss 7 p.data.toList).1, .int .i64 (p.size - (toss 7 p.data.toList).2.length : Nat)]) ∧ w' = w := by
  have hp' : (p.size : Int) ≤ 32 := by omega
  go_enter Try.func40, Try.ntmps40
  go_wp2
  go_loopg [4] 8 (fun g u wr => ∃ k : Nat, k ≤ 7 ∧ k ≤ p.size ∧ g = 8 - k ∧ u = .int .i64 k ∧ wr = w ∧ toss 7 p.data.toList = ((toss (7 - k) (p.data.toList.drop k)).1 + k, (toss (7 - k) (p.data.toList.drop k)).2))
  case atStart => exact ⟨0, by omega, by omega, rfl, rfl, rfl, by simp⟩
  case round =>
    obtain ⟨k, hk, hkp, hg, rfl, rfl, ht⟩ := hrel
    have htH := hide ht
    have hgH := hide hg
    clear ht hg
    by_cases h1 : k < p.size
    · have g1 : (k : Int) < (p.size : Int) := by omega
      have hdrop : p.data.toList.drop k = p[k] :: p.data.toList.drop (k + 1) := by
        rw [List.drop_eq_getElem_cons (by simpa using h1)]; rfl
      by_cases h2 : k < 7
      · have g2 : (k : Int) < 7 := by omega
        obtain ⟨m, hm⟩ : ∃ m, 7 - k = m + 1 := ⟨6 - k, by omega⟩
        have e1 : (k : Int) + 1 - 1 = k := by omega
        have i0 : (0 : Int) ≤ (k : Int) := by omega
        have ht := unhide htH
        rw [hm, hdrop] at ht
        by_cases hc : p[k] = 72
        · have hT : ((p[k].toNat : Int) == 72) = true := by rw [hc]; rfl
          simp only [toss, hc, if_true] at ht
          have htH2 := hide ht
          have hmH := hide hm
          clear ht hm hdrop hc
          go_wp2
          go_roundg (8 - (k + 1))
          case measure => have := unhide hgH; omega
          case rel =>
            refine ⟨k + 1, by omega, by omega, rfl, by go_num, rfl, ?_⟩
            rw [unhide htH2, show 7 - (k + 1) = m by have := unhide hmH; omega]
            simp; omega
        · have hT : ((p[k].toNat : Int) == 72) = false := by
            rw [beq_eq_false_iff_ne]
            intro h
            apply hc
            rw [← UInt8.toNat_inj]
            simpa using (by omega : p[k].toNat = 72)
          simp only [toss, hc, if_false] at ht
          have htH2 := hide ht
          clear ht hm hdrop hc
          go_wp2
          go_ret2
          rw [unhide htH2]
          simp only [List.length_drop, Array.length_toList]
          refine ⟨?_, trivial⟩
          have e2 : p.size - (p.data.size - (k + 1)) = k + 1 := by have : p.data.size = p.size := rfl; omega
          rw [e2]
          go_num
      · have g2 : ¬ (k : Int) < 7 := by omega
        clear hdrop
        go_wp2
        go_ret2
        rw [unhide htH, show 7 - k = 0 by omega]
        simp only [toss, List.length_drop, Array.length_toList]
        refine ⟨?_, trivial⟩
        have e2 : p.size - (p.data.size - k) = k := by have : p.data.size = p.size := rfl; omega
        rw [e2]
        go_num
    · have g1 : ¬ (k : Int) < (p.size : Int) := by omega
      have hk2 : k = p.size := by omega
      go_wp2
      go_ret2
      rw [unhide htH, List.drop_eq_nil_of_le (by simpa using Nat.le_of_not_lt h1)]
      rw [toss_nil]
      refine ⟨?_, rfl⟩
      simp only [List.length_nil, Nat.sub_zero]
      rw [← hk2]
      go_num

def kCells (ts : List K3) : List Value := ts.map fun t => .int .i64 t.1
def hCells (ts : List K3) : List Value := ts.map fun t => .int .i64 (t.2.2 : Nat)
def vCells (ts : List K3) : List Value := ts.map fun t => .string t.2.1

/-- The ghost in memory: g: its block; a, b, v: the arrays of the keys, the heights, the values. -/
structure Gh (w : World) (g a b v : Nat) (ts : List K3) (p : ByteArray) : Prop where
  blk : Blk w g 42 [.slice (some ⟨a, 0, none⟩) ts.length 12, .slice (some ⟨b, 0, none⟩) ts.length 12, .slice (some ⟨v, 0, none⟩) ts.length 12, .string p]
  ks : ∃ sp, (kCells ts ++ sp).length = 12 ∧ Blk w a 3 (kCells ts ++ sp)
  hs : ∃ sp, (hCells ts ++ sp).length = 12 ∧ Blk w b 3 (hCells ts ++ sp)
  vs : ∃ sp, (vCells ts ++ sp).length = 12 ∧ Blk w v 9 (vCells ts ++ sp)
  nes : g ≠ a ∧ g ≠ b ∧ g ≠ v ∧ a ≠ b ∧ a ≠ v ∧ b ≠ v

def gown (g a b v x : Nat) : Prop := x = g ∨ x = a ∨ x = b ∨ x = v

theorem Gh.of_chg {S : Nat → Prop} {w w' : World} {g a b v : Nat} {ts : List K3} {p : ByteArray} (h : Gh w g a b v ts p) (hc : Chg S w w') (hS : ∀ x, gown g a b v x → ¬ S x) : Gh w' g a b v ts p where
  blk := hc.blk h.blk (hS g (.inl rfl))
  ks := let ⟨sp, h1, h2⟩ := h.ks; ⟨sp, h1, hc.blk h2 (hS a (.inr (.inl rfl)))⟩
  hs := let ⟨sp, h1, h2⟩ := h.hs; ⟨sp, h1, hc.blk h2 (hS b (.inr (.inr (.inl rfl))))⟩
  vs := let ⟨sp, h1, h2⟩ := h.vs; ⟨sp, h1, hc.blk h2 (hS v (.inr (.inr (.inr rfl))))⟩
  nes := h.nes

theorem Gh.quiet {w w' : World} {g a b v : Nat} {ts : List K3} {p : ByteArray} (h : Gh w g a b v ts p) (hc : Quiet w w') : Gh w' g a b v ts p := h.of_chg hc (fun _ _ => id)

theorem Gh.len {w : World} {g a b v : Nat} {ts : List K3} {p : ByteArray} (h : Gh w g a b v ts p) : ts.length ≤ 12 := by
  obtain ⟨sp, h1, _⟩ := h.ks
  simp [kCells] at h1; omega

theorem Gh.get {w : World} {g a b v : Nat} {ts : List K3} {p : ByteArray} (h : Gh w g a b v ts p) (j : Nat) (t : K3) (ht : ts[j]? = some t) :
    w.cell? ⟨a, j, none⟩ = some (.int .i64 t.1) ∧ w.cell? ⟨b, j, none⟩ = some (.int .i64 (t.2.2 : Nat)) ∧ w.cell? ⟨v, j, none⟩ = some (.string t.2.1) := by
  have hj : j < ts.length := (List.getElem?_eq_some_iff.1 ht).1
  obtain ⟨s1, _, h1⟩ := h.ks
  obtain ⟨s2, _, h2⟩ := h.hs
  obtain ⟨s3, _, h3⟩ := h.vs
  refine ⟨?_, ?_, ?_⟩
  · rw [h1.cell, List.getElem?_append_left (by simpa [kCells] using hj)]; simp [kCells, ht]
  · rw [h2.cell, List.getElem?_append_left (by simpa [hCells] using hj)]; simp [hCells, ht]
  · rw [h3.cell, List.getElem?_append_left (by simpa [vCells] using hj)]; simp [vCells, ht]

/-- What every key of the ghost is. -/
def Fit (ts : List K3) : Prop := ∀ t ∈ ts, (-9223372036854775808 ≤ t.1 ∧ t.1 ≤ 9223372036854775807) ∧ t.2.1.size ≤ 8 ∧ t.2.2 ≤ 8

def levelT (l : Nat) (ts : List K3) : ByteArray := ts.foldl (fun s d => if l < d.2.2 then s ++ str (itoa d.1) ++ ⟨#[44]⟩ else s) ⟨#[]⟩

theorem levelT_snoc (l : Nat) (ts : List K3) (t : K3) : levelT l (ts ++ [t]) = if l < t.2.2 then levelT l ts ++ str (itoa t.1) ++ ⟨#[44]⟩ else levelT l ts := by
  simp [levelT]

theorem levelT_kvh (l : Nat) (nds : List Nd) : levelT l (kvh nds) = levelStr l nds := by
  unfold levelT levelStr kvh; rw [List.foldl_map]

set_option maxHeartbeats 1000000 in
theorem glevel_any (w : World) (g a b v : Nat) (ts : List K3) (p : ByteArray) (r : Gh w g a b v ts p) (hf : Fit ts) (l : Nat) (hl8 : l < 8) :
    Calls Try.prog 42 #[ptr g, .int .i64 l] w fun e w' => e = .returned (.string (levelT l ts)) ∧ Quiet w w' := by
  have hl := r.len
  have cg := r.blk.cell 0
  simp only [List.getElem?_cons_zero] at cg
  unfold ptr
  generalize hN : ts.length = N at cg hl
  have hNH := hide hN
  clear hN
  go_enter Try.func42, Try.ntmps42
  go_wp2
  go_loopw [5, 6, 7, 13] (fun s x y i wr => ∃ j : Nat, j ≤ N ∧ i = .int .i64 j ∧ s = .string (levelT l (ts.take j)) ∧ (levelT l (ts.take j)).size ≤ 21 * j ∧ Quiet w wr) (fun _ _ _ i _ => 12 - (intOf i).toNat)
  case atStart => exact ⟨0, Nat.zero_le _, rfl, rfl, Nat.le_refl _, Chg.refl _ _⟩
  case round =>
    obtain ⟨j, hj, rfl, rfl, hsz, hq⟩ := hrel
    have r1 := r.quiet hq
    have hNN := unhide hNH
    by_cases hlt : j < N
    · have hjl : j < ts.length := by omega
      have hc := r1.get j ts[j] (List.getElem?_eq_getElem hjl)
      have hk := hf ts[j] (List.getElem_mem hjl)
      have htk : ts.take (j + 1) = ts.take j ++ [ts[j]] := List.take_succ_eq_append_getElem hjl
      have hsn := levelT_snoc l (ts.take j) ts[j]
      rw [← htk] at hsn
      have cg1 := r1.blk.cell 0
      have cg2 := r1.blk.cell 1
      simp only [List.getElem?_cons_zero, List.getElem?_cons_succ] at cg1 cg2
      rw [hNN] at cg1 cg2
      generalize hp : ts[j] = t at *
      obtain ⟨tk, tv, th⟩ := t
      simp only at hc hk hsn
      clear htk hp hNN
      obtain ⟨hc1, hc2, hc3⟩ := hc
      have hil := itoa_length tk
      have i1 : (0 : Int) ≤ (j : Int) := by omega
      have i2 : (j : Int) < (N : Int) := by omega
      generalize hA : levelT l (ts.take j) = A at *
      have hAH := hide hA
      clear hA
      by_cases hin : l < th
      · have hin1 : (l : Int) < (th : Int) := by omega
        rw [if_pos hin] at hsn
        have hsnH := hide hsn
        clear hsn
        go_wp2_with fail
        refine (itoa_any tk _ hk.1.1 hk.1.2).mono ?_
        rintro e w2 ⟨rfl, hq2⟩
        have hz1 : ¬ 9223372036854775807 < A.size + (str (itoa tk)).size := by rw [str_size]; omega
        have hz2 : ¬ 9223372036854775807 < A.size + (str (itoa tk)).size + 1 := by rw [str_size]; omega
        go_wp2
        go_roundw
        case rel =>
          refine ⟨j + 1, by omega, by go_num, by rw [unhide hsnH], ?_, Quiet.trans hq hq2⟩
          rw [unhide hsnH, ByteArray.size_append, ByteArray.size_append, str_size]
          show A.size + (itoa tk).length + 1 ≤ _
          omega
        case measure => simp [intOf]; omega
      · have hin1 : (th : Int) ≤ (l : Int) := by omega
        rw [if_neg hin] at hsn
        have hsnH := hide hsn
        clear hsn
        go_wp2
        go_roundw
        case rel => exact ⟨j + 1, by omega, by go_num, by rw [unhide hsnH], by rw [unhide hsnH]; omega, hq⟩
        case measure => simp [intOf]; omega
    · have hjN : (N : Int) ≤ (j : Int) := by omega
      have e1 : ts.take j = ts := List.take_of_length_le (by omega)
      rw [e1] at hsz ⊢
      have hsz2 := hide hsz
      clear hsz hNN e1
      go_wp2
      go_ret
      exact ⟨rfl, hq⟩

set_option maxHeartbeats 1000000 in
theorem gspan_any (w : World) (g a b v : Nat) (ts : List K3) (p : ByteArray) (lo hi : Int) (r : Gh w g a b v ts p) (hf : Fit ts) :
    Calls Try.prog 41 #[ptr g, .int .i64 lo, .int .i64 hi] w fun e w' => e = .returned (.tuple #[.string (mpairs (mrng lo hi (kv ts))), .int .i64 (mrng lo hi (kv ts)).length]) ∧ Quiet w w' := by
  have hl := r.len
  have cg := r.blk.cell 0
  simp only [List.getElem?_cons_zero] at cg
  unfold ptr
  have hkl : (kv ts).length = ts.length := kv_length ts
  generalize hN : ts.length = N at cg hl hkl
  have hNH := hide hN
  have hklH := hide hkl
  clear hN hkl
  go_enter Try.func41, Try.ntmps41
  go_wp2
  go_loopw [8, 9, 10, 11, 17] (fun t n x y i wr => ∃ j : Nat, j ≤ N ∧ i = .int .i64 j ∧ t = .string (mpairs (mrng lo hi ((kv ts).take j))) ∧ (mpairs (mrng lo hi ((kv ts).take j))).size ≤ 51 * j ∧ n = .int .i64 (mrng lo hi ((kv ts).take j)).length ∧ Quiet w wr) (fun _ _ _ _ i _ => 12 - (intOf i).toNat)
  case atStart => exact ⟨0, Nat.zero_le _, rfl, rfl, Nat.le_refl _, rfl, Chg.refl _ _⟩
  case round =>
    obtain ⟨j, hj, rfl, rfl, hsz, rfl, hq⟩ := hrel
    have r1 := r.quiet hq
    have hNN := unhide hNH
    have hkk := unhide hklH
    by_cases hlt : j < N
    · have hjl : j < ts.length := by omega
      have hc := r1.get j ts[j] (List.getElem?_eq_getElem hjl)
      have hk := hf ts[j] (List.getElem_mem hjl)
      have htk : (kv ts).take (j + 1) = (kv ts).take j ++ [(ts[j].1, ts[j].2.1)] := by
        rw [List.take_succ_eq_append_getElem (by omega)]; simp [kv]
      have hrl := mrng_len lo hi ((kv ts).take j)
      have htl : ((kv ts).take j).length ≤ j := List.length_take_le _ _
      have cg1 := r1.blk.cell 0
      have cg2 := r1.blk.cell 2
      simp only [List.getElem?_cons_zero, List.getElem?_cons_succ] at cg1 cg2
      rw [hNN] at cg1 cg2
      have hps := pairStr_size ts[j].1 ts[j].2.1 hk.2.1
      generalize hp : ts[j] = t at *
      obtain ⟨pk, pv, th⟩ := t
      simp only at hc hk hps htk
      obtain ⟨hc1, hc2, hc3⟩ := hc
      have htkH := hide htk
      clear htk hp hNN hkk
      have i1 : (0 : Int) ≤ (j : Int) := by omega
      have i2 : (j : Int) < (N : Int) := by omega
      generalize hA : mpairs (mrng lo hi ((kv ts).take j)) = A at *
      have hAH := hide hA
      clear hA
      by_cases hin : lo ≤ pk ∧ pk ≤ hi
      · obtain ⟨hin1, hin2⟩ := hin
        go_wp2_with fail
        refine (pair_any pk pv _ hk.1.1 hk.1.2 hk.2.1).mono ?_
        rintro e w2 ⟨rfl, hq2⟩
        go_wp2
        go_roundw
        case rel =>
          have e1 : mrng lo hi ((kv ts).take (j + 1)) = mrng lo hi ((kv ts).take j) ++ [(pk, pv)] := by
            rw [unhide htkH, mrng_snoc, if_pos ⟨hin1, hin2⟩]
          refine ⟨j + 1, by omega, by go_num, ?_, ?_, ?_, Quiet.trans hq hq2⟩
          · rw [e1, mpairs_snoc, unhide hAH]
          · rw [e1, mpairs_snoc, unhide hAH, ByteArray.size_append]; simp only; omega
          · rw [e1]; simp
        case measure => simp [intOf]; omega
      · have e1 : mrng lo hi ((kv ts).take (j + 1)) = mrng lo hi ((kv ts).take j) := by
          rw [unhide htkH, mrng_snoc, if_neg hin]
        have e1H := hide e1
        clear e1
        by_cases hin1 : lo ≤ pk
        · have hin2 : hi < pk := by omega
          clear hin
          go_wp2
          go_roundw
          case rel => exact ⟨j + 1, by omega, by go_num, by rw [unhide e1H, unhide hAH], by rw [unhide e1H, unhide hAH]; omega, by rw [unhide e1H], hq⟩
          case measure => simp [intOf]; omega
        · have hin3 : pk < lo := by omega
          clear hin hin1
          go_wp2
          go_roundw
          case rel => exact ⟨j + 1, by omega, by go_num, by rw [unhide e1H, unhide hAH], by rw [unhide e1H, unhide hAH]; omega, by rw [unhide e1H], hq⟩
          case measure => simp [intOf]; omega
    · have hjN : (N : Int) ≤ (j : Int) := by omega
      have e1 : (kv ts).take j = kv ts := List.take_of_length_le (by omega)
      rw [e1] at hsz ⊢
      clear hsz hNN e1 hkk
      go_wp2
      go_ret2
      exact ⟨rfl, hq⟩
end Go.Proofs.Qxb6500361a
