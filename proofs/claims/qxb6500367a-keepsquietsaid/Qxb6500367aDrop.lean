/-
  The node's queue: drop.
-/
import Derived.Test.Qxb6500367aSmallFns
import Derived.Deep.RegionLaw
import Derived.Laws.Cover4
import Derived.OwnWalk
namespace Go
/-- copy(d, s) of elements of 'size' cells, as one step of a region that draws its order. -/
theorem run_copy_wide {P : Program} (w : World) (dT sT ty elem : TypeId) (b o dLen dCap : Nat) (a : Addr) (sLen sCap size : Nat) (cs : List Value)
    (hu : P.underlying dT = some (.slice elem)) (hs : (P.info? elem).map (·.size) = some size) (n : Nat) (hmin : Nat.min sLen dLen = n) (hn : cs.length = n * size)
    (hsrc : ∀ j v, cs[j]? = some v → w.cell? (a.add j) = some v) (hc : ∀ j, j < cs.length → (w.cell? ⟨b, o + j, none⟩).isSome = true) (hf : ∀ j, j < cs.length → w.frozen? ⟨b, o + j, none⟩ = false) (h1 : ∀ v ∈ cs, v.oneCell' = true) :
    (Builtin.copy_ #[dT, sT] ty #[.slice (some ⟨b, o, none⟩) dLen dCap, .slice (some a) sLen sCap]).run P w = .ok (goInt n) (w.setCells b o cs) := by
  have hl := run_loadCells_list (P := P) w a cs hsrc
  have hst := run_storeCells_cells (P := P) b o cs 0 w (by simpa using hc) (by simpa using hf) h1
  cases hq : P.info? elem with
  | none => simp [hq] at hs
  | some i =>
    have hi : i.size = size := by simpa [hq] using hs
    rw [hn] at hl
    simp [Builtin.copy_, run_underlying hu, Builtin.lenOf, Builtin.firstCells, sizeOf, typeInfo, hq, hi, hmin, hl, hst]

end Go

namespace Go.Proofs.Qxb6500367a
open Go.RowKit Go.Qx
set_option linter.unusedSimpArgs false
set_option linter.unusedVariables false

theorem dropP_none : ∀ (q : List (Int × Int)) (j : Int), hasP q j = false → dropP q j = q
  | [], _, _ => rfl
  | s :: r, j, h => by
    unfold hasP at h
    unfold dropP
    split at h
    · cases h
    · rename_i hne; rw [if_neg hne, dropP_none r j h]

theorem over_drop (q : List (Int × Int)) (k : Nat) (hk : k < q.length) (sp : List Value) : ∃ sp2, over (qCells q ++ sp) (k * 2) (qCells (q.drop (k + 1))) = qCells (q.take k ++ q.drop (k + 1)) ++ sp2 ∧ (qCells (q.take k ++ q.drop (k + 1)) ++ sp2).length = (qCells q ++ sp).length := by
  have hpl : (qCells (q.take k)).length = k * 2 := by rw [qCells_length, List.length_take, Nat.min_eq_left (by omega)]
  have hsplit : qCells q = qCells (q.take k) ++ qCells (q.drop k) := by rw [← qCells_append, List.take_append_drop]
  have hml : (qCells (q.drop (k + 1))).length ≤ (qCells (q.drop k) ++ sp).length := by
    rw [List.length_append, qCells_length, qCells_length, List.length_drop, List.length_drop]; omega
  refine ⟨(qCells (q.drop k) ++ sp).drop (qCells (q.drop (k + 1))).length, ?_, ?_⟩
  · have := over_mid (qCells (q.drop (k + 1))) (qCells (q.take k)) ((qCells (q.drop k) ++ sp).take (qCells (q.drop (k + 1))).length) ((qCells (q.drop k) ++ sp).drop (qCells (q.drop (k + 1))).length) (by rw [List.length_take]; omega)
    rw [List.append_assoc, List.take_append_drop, hpl] at this
    rw [hsplit, List.append_assoc, this, qCells_append]
  · rw [qCells_append]
    conv => rhs; rw [hsplit]
    simp only [List.length_append, List.length_drop] at hml ⊢
    omega

theorem src_drop {w : World} {a : Nat} {q : List (Int × Int)} {sp : List Value} (h : Blk w a 91 (qCells q ++ sp)) (k : Nat) (hk : k ≤ q.length) : ∀ j v, (qCells (q.drop k))[j]? = some v → w.cell? ((⟨a, k * 2, none⟩ : Addr).add j) = some v := by
  intro j v hv
  rw [Addr.add_lit, h.cell]
  have hsplit : qCells q = qCells (q.take k) ++ qCells (q.drop k) := by rw [← qCells_append, List.take_append_drop]
  have hpl : (qCells (q.take k)).length = k * 2 := by rw [qCells_length, List.length_take, Nat.min_eq_left hk]
  rw [hsplit, List.append_assoc, List.getElem?_append_right (by omega), hpl]
  rw [show k * 2 + j - k * 2 = j by omega, List.getElem?_append_left (List.getElem?_eq_some_iff.1 hv).1]
  exact hv

theorem qCells_one : ∀ (q : List (Int × Int)), ∀ v ∈ qCells q, v.oneCell' = true
  | [], v, h => by simp [qCells] at h
  | s :: r, v, h => by
    simp only [qCells, List.mem_cons] at h
    rcases h with rfl | rfl | h
    · rfl
    · rfl
    · exact qCells_one r v h

theorem size91 : (Try.prog.info? 91).map (·.size) = some 2 := by kernel_rfl

set_option maxRecDepth 100000 in
set_option maxHeartbeats 2000000 in
theorem drop_any (w : World) (x a b : Nat) (s : Nd) (r : Rep w x a b s) (j : Int) :
    Calls Try.prog 52 #[ptr x, .int .i64 j] w fun e w' => e = .returned (.bool (hasP s.q j)) ∧ Chg (own x a b) w w' ∧ Rep w' x a b { s with q := dropP s.q j } := by
  obtain ⟨_, _, _, _, _, c5, _, _⟩ := r.cells
  have f5 := r.blk.frozen 5
  have h4 := r.n4
  have hl := r.ql
  unfold ptr
  generalize hN : s.q.length = N at c5 hl
  have hNH := hide hN
  clear hN
  go_enter Try.func52, Try.ntmps52
  go_wp2
  go_loopw [11] (fun i wr => ∃ k : Nat, k ≤ N ∧ i = .int .i64 k ∧ hasP (s.q.drop k) j = hasP s.q j ∧ dropP s.q j = s.q.take k ++ dropP (s.q.drop k) j ∧ wr = w) (fun i _ => 5 - (intOf i).toNat)
  case atStart => exact ⟨0, Nat.zero_le _, rfl, rfl, rfl, rfl⟩
  case round =>
    obtain ⟨k, hk, rfl, hh, hd, rfl⟩ := hrel
    have hNN := unhide hNH
    have hhH := hide hh
    have hdH := hide hd
    clear hh hd
    have i1 : (0 : Int) ≤ (k : Int) := by omega
    by_cases hlt : k < N
    · have hkl : k < s.q.length := by omega
      have i2 : (k : Int) < (N : Int) := by omega
      have hdr : s.q.drop k = s.q[k] :: s.q.drop (k + 1) := List.drop_eq_getElem_cons hkl
      have htk : s.q.take (k + 1) = s.q.take k ++ [s.q[k]] := List.take_succ_eq_append_getElem hkl
      have hg := r.get k s.q[k] (List.getElem?_eq_getElem hkl)
      have hh := unhide hhH
      have hd := unhide hdH
      rw [hdr] at hh hd
      generalize s.q[k] = u at *
      obtain ⟨ut, ui⟩ := u
      obtain ⟨g1, g2⟩ := hg
      simp only [hasP, dropP] at hh hd g1 g2
      by_cases he : ui = j
      · subst he
        rw [if_pos rfl] at hh hd
        have b1 : (ui == ui) = true := by simp
        have hh2 := hide hh
        have hd2 := hide hd
        have htH := hide htk
        have hdrH := hide hdr
        clear hh hd hNN htk hdr
        obtain ⟨sp, ba, hbl⟩ := r.row
        obtain ⟨sp2, hsp2, hsp2b⟩ := over_drop s.q k hkl sp
        have hsp2H := hide hsp2
        have hsp2bH := hide hsp2b
        clear hsp2 hsp2b
        by_cases hcap : s.n = k + 1
        · obtain ⟨rfl⟩ : N = k + 1 := by omega
          rw [hcap] at c5
          have hcapH := hide hcap
          clear hcap
          have w1 : IntKind.i64.wrap ((k : Int) + 1) = (k : Int) + 1 := by rw [IntKind.wrap_i64]; omega
          have w2 : IntKind.i64.wrap (k : Int) = (k : Int) := by rw [IntKind.wrap_i64]; omega
          have w3 : IntKind.i64.wrap ((k : Int) + 1 - 1) = (k : Int) := by rw [IntKind.wrap_i64]; omega
          have i3 : (0 : Int) ≤ (k : Int) + 1 := by omega
          have i4 : (k : Int) ≤ (k : Int) + 1 := by omega
          have e9 : k + 1 - k = 1 := by omega
          have hcp := run_copy_wide (P := Try.prog) wr.drew 69 69 3 91 a (k * 2) 1 1 ⟨a, 0, none⟩ 0 0 2 [] Try.underlying69 size91 0 (by simp) rfl
            (by simp) (by simp) (by simp) (by simp)
          simp only [World.setCells] at hcp
          go_wp2
          go_region_law (fail)
          all_goals
            have hV : Chg (fun k => k = a) wr (wr.drew) := (Chg.refl _ _).drew
            have bxV : Blk (wr.drew) x 72 (nodeCells s a b) := hV.blk r.blk (Ne.symm r.na)
            have bbV : Blk (wr.drew) b 4 (s.got.map Value.bool) := hV.blk r.gb (Ne.symm r.nab)
            have baV : Blk (wr.drew) a 91 (qCells (s.q.take k ++ s.q.drop (k + 1)) ++ sp2) := by rw [← unhide hsp2H, List.drop_eq_nil_of_le (by have := unhide hNH; omega)]; exact ba.drew
            generalize wr.drew = V at hV bxV bbV baV ⊢
            have v5 := bxV.cell 5
            have fv5 := bxV.frozen 5
            simp [nodeCells] at v5
            rw [unhide hNH] at v5
            rw [unhide hcapH] at v5
            clear hcp
            go_wp2
            go_region_law (fail)
            all_goals
              go_wp2
              go_ret
              refine ⟨by rw [← unhide hh2]; rfl, ?_, ?_⟩
              · exact ((hV.mono (fun _ _ h => .inr (.inl h))).setCell (.inl (.inl rfl)) _).drew
              · have hql : (s.q.take k ++ s.q.drop (k + 1)).length = k := by
                  have := unhide hNH
                  simp; omega
                refine ⟨?_, ⟨sp2, ?_, ?_⟩, ?_, r.na, r.nb, r.nab, r.n1, r.n4, r.il, ?_, r.gl⟩
                · simp only [nodeCells, unhide hd2, hql]
                  have := (bxV.set 5 (.slice (some ⟨a, 0, none⟩) k (k + 1))).drew
                  simp only [nodeCells, unhide hcapH] at this ⊢
                  exact this
                · simp only [unhide hd2]
                  exact (baV.set_other (a := ⟨x, 5, none⟩) r.na _).drew
                · simp only [unhide hd2]
                  rw [unhide hsp2bH]; exact hbl
                · exact (bbV.set_other (a := ⟨x, 5, none⟩) r.nb _).drew
                · simp only [unhide hd2, hql]; omega
        · have i3 : (k : Int) + 1 ≤ (N : Int) := by omega
          have i4 : (0 : Int) ≤ (k : Int) + 1 := by omega
          have w1 : IntKind.i64.wrap ((k : Int) + 1) = (k : Int) + 1 := by rw [IntKind.wrap_i64]; omega
          have i5 : (k : Int) ≤ (N : Int) := by omega
          have n1 : ¬ s.n = k := by omega
          have hmin : Nat.min (N - (k + 1)) (N - k) = N - (k + 1) := Nat.min_eq_left (by omega)
          have hlen : (qCells (s.q.drop (k + 1))).length = (N - (k + 1)) * 2 := by rw [qCells_length, List.length_drop, unhide hNH]
          have hspare : ∀ j, j < (qCells (s.q.drop (k + 1))).length → (wr.drew.cell? ⟨a, k * 2 + j, none⟩).isSome = true := by
            intro j hj
            have h1 := ba.drew.cell (k * 2 + j)
            have h2 := qCells_length s.q
            rw [unhide hNH] at h2
            rw [h1, List.getElem?_eq_getElem (by rw [List.length_append]; omega)]; rfl
          have hcp := run_copy_wide (P := Try.prog) wr.drew 69 69 3 91 a (k * 2) (N - k) (s.n - k) ⟨a, (k + 1) * 2, none⟩ (N - (k + 1)) (s.n - (k + 1)) 2 (qCells (s.q.drop (k + 1))) Try.underlying69 size91 (N - (k + 1)) hmin hlen
            (src_drop ba.drew (k + 1) hkl) hspare (fun j _ => ba.drew.frozen _) (qCells_one _)
          clear hmin hlen hspare
          go_wp2
          go_region_law (fail)
          all_goals
            have hV : Chg (fun k => k = a) wr (wr.drew.setCells a (k * 2) (qCells (List.drop (k + 1) s.q))) := Chg.setCells (S := fun k => k = a) (.inl rfl) _ _ (Chg.refl _ _).drew
            have bxV : Blk (wr.drew.setCells a (k * 2) (qCells (List.drop (k + 1) s.q))) x 72 (nodeCells s a b) := hV.blk r.blk (Ne.symm r.na)
            have bbV : Blk (wr.drew.setCells a (k * 2) (qCells (List.drop (k + 1) s.q))) b 4 (s.got.map Value.bool) := hV.blk r.gb (Ne.symm r.nab)
            have baV : Blk (wr.drew.setCells a (k * 2) (qCells (List.drop (k + 1) s.q))) a 91 (qCells (s.q.take k ++ s.q.drop (k + 1)) ++ sp2) := by rw [← unhide hsp2H]; exact ba.drew.setCells _ _
            generalize wr.drew.setCells a (k * 2) (qCells (List.drop (k + 1) s.q)) = V at hV bxV bbV baV ⊢
            have v5 := bxV.cell 5
            have fv5 := bxV.frozen 5
            simp [nodeCells] at v5
            rw [unhide hNH] at v5
            have i9 : (1 : Int) ≤ (N : Int) := by omega
            have i6 : (N : Int) - 1 ≤ (N : Int) := by omega
            have i7 : (0 : Int) ≤ (N : Int) - 1 := by omega
            have i8 : (N : Int) - 1 ≤ (s.n : Int) := by omega
            have w2 : IntKind.i64.wrap ((N : Int) - 1) = (N : Int) - 1 := by rw [IntKind.wrap_i64]; omega
            clear hcp
            go_wp2
            go_region_law (fail)
            all_goals
              go_wp2
              go_ret
              refine ⟨by rw [← unhide hh2]; rfl, ?_, ?_⟩
              · exact ((hV.mono (fun _ _ h => .inr (.inl h))).setCell (.inl (.inl rfl)) _).drew
              · have hql : (s.q.take k ++ s.q.drop (k + 1)).length = (N - 1) := by
                  have := unhide hNH
                  simp; omega
                refine ⟨?_, ⟨sp2, ?_, ?_⟩, ?_, r.na, r.nb, r.nab, r.n1, r.n4, r.il, ?_, r.gl⟩
                · simp only [nodeCells, unhide hd2, hql]
                  have := (bxV.set 5 (.slice (some ⟨a, 0, none⟩) (N - 1) s.n)).drew
                  skip
                  exact this
                · simp only [unhide hd2]
                  exact (baV.set_other (a := ⟨x, 5, none⟩) r.na _).drew
                · simp only [unhide hd2]
                  rw [unhide hsp2bH]; exact hbl
                · exact (bbV.set_other (a := ⟨x, 5, none⟩) r.nb _).drew
                · simp only [unhide hd2, hql]; omega
      · rw [if_neg he] at hh hd
        have b1 : (ui == j) = false := by simpa using he
        have hh2 := hide hh
        have hd2 := hide hd
        have htH := hide htk
        clear hh hd he hNN htk hdr
        go_wp2
        go_roundw
        case rel => exact ⟨k + 1, by omega, by go_num, unhide hh2, by rw [unhide hd2, unhide htH]; simp⟩
        case measure => simp [intOf]; omega
    · have i2 : ¬ (k : Int) < (N : Int) := by omega
      have e1 : s.q.drop k = [] := List.drop_eq_nil_of_le (by omega)
      have hh := unhide hhH
      rw [e1] at hh
      simp only [hasP] at hh
      have hdn := dropP_none s.q j hh.symm
      have hhX := hide hh
      have hdnX := hide hdn
      clear hh hNN e1 hdn
      go_wp2
      go_ret
      rw [unhide hdnX, ← unhide hhX]
      exact ⟨rfl, Chg.refl _ _, r⟩
end Go.Proofs.Qxb6500367a
