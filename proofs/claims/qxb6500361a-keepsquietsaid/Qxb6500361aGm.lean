/-
  The ghost while its three rows are being turned one after the other.
-/
import Derived.Test.Qxb6500361aCells
import Derived.Test.Qxb6500361aGhost
namespace Go.Proofs.Qxb6500361a
open Go.RowKit Go.Qx
set_option linter.unusedVariables false

structure Gm (w : World) (g a b v : Nat) (kc hc vc : List Value) (p : ByteArray) : Prop where
  blk : Blk w g 42 [.slice (some ⟨a, 0, none⟩) kc.length 12, .slice (some ⟨b, 0, none⟩) hc.length 12, .slice (some ⟨v, 0, none⟩) vc.length 12, .string p]
  ks : ∃ sp, (kc ++ sp).length = 12 ∧ Blk w a 3 (kc ++ sp)
  hs : ∃ sp, (hc ++ sp).length = 12 ∧ Blk w b 3 (hc ++ sp)
  vs : ∃ sp, (vc ++ sp).length = 12 ∧ Blk w v 9 (vc ++ sp)
  nes : g ≠ a ∧ g ≠ b ∧ g ≠ v ∧ a ≠ b ∧ a ≠ v ∧ b ≠ v

theorem Gh.gm {w : World} {g a b v : Nat} {ts : List K3} {p : ByteArray} (h : Gh w g a b v ts p) : Gm w g a b v (kCells ts) (hCells ts) (vCells ts) p :=
  ⟨by have := h.blk; simpa [kCells, hCells, vCells] using this, h.ks, h.hs, h.vs, h.nes⟩

theorem Gm.gh {w : World} {g a b v : Nat} {ts : List K3} {p : ByteArray} {kc hc vc : List Value} (h : Gm w g a b v kc hc vc p) (hk : kc = kCells ts) (hh : hc = hCells ts) (hv : vc = vCells ts) : Gh w g a b v ts p := by
  subst hk hh hv
  exact ⟨by have := h.blk; simpa [kCells, hCells, vCells] using this, h.ks, h.hs, h.vs, h.nes⟩

theorem Gm.quiet {w w' : World} {g a b v : Nat} {kc hc vc : List Value} {p : ByteArray} (h : Gm w g a b v kc hc vc p) (q : Quiet w w') : Gm w' g a b v kc hc vc p :=
  ⟨q.blk h.blk, let ⟨sp, h1, h2⟩ := h.ks; ⟨sp, h1, q.blk h2⟩, let ⟨sp, h1, h2⟩ := h.hs; ⟨sp, h1, q.blk h2⟩, let ⟨sp, h1, h2⟩ := h.vs; ⟨sp, h1, q.blk h2⟩, h.nes⟩

/-- The first row turned. -/
theorem Gm.setK {w w' : World} {g a b v : Nat} {kc hc vc kc' : List Value} {p : ByteArray} (h : Gm w g a b v kc hc vc p) (c : Chg (fun k => k = g ∨ k = a) w w')
    (hb : Blk w' g 42 [.slice (some ⟨a, 0, none⟩) kc'.length 12, .slice (some ⟨b, 0, none⟩) hc.length 12, .slice (some ⟨v, 0, none⟩) vc.length 12, .string p]) (hk : ∃ sp, (kc' ++ sp).length = 12 ∧ Blk w' a 3 (kc' ++ sp)) : Gm w' g a b v kc' hc vc p := by
  obtain ⟨n1, n2, n3, n4, n5, n6⟩ := h.nes
  obtain ⟨s2, h1, h2⟩ := h.hs
  obtain ⟨s3, h3, h4⟩ := h.vs
  exact ⟨hb, hk, ⟨s2, h1, c.blk h2 (by rintro (h | h); exact n2 h.symm; exact n4 h.symm)⟩, ⟨s3, h3, c.blk h4 (by rintro (h | h); exact n3 h.symm; exact n5 h.symm)⟩, h.nes⟩

theorem Gm.setH {w w' : World} {g a b v : Nat} {kc hc vc hc' : List Value} {p : ByteArray} (h : Gm w g a b v kc hc vc p) (c : Chg (fun k => k = g ∨ k = b) w w')
    (hb : Blk w' g 42 [.slice (some ⟨a, 0, none⟩) kc.length 12, .slice (some ⟨b, 0, none⟩) hc'.length 12, .slice (some ⟨v, 0, none⟩) vc.length 12, .string p]) (hk : ∃ sp, (hc' ++ sp).length = 12 ∧ Blk w' b 3 (hc' ++ sp)) : Gm w' g a b v kc hc' vc p := by
  obtain ⟨n1, n2, n3, n4, n5, n6⟩ := h.nes
  obtain ⟨s2, h1, h2⟩ := h.ks
  obtain ⟨s3, h3, h4⟩ := h.vs
  exact ⟨hb, ⟨s2, h1, c.blk h2 (by rintro (h | h); exact n1 h.symm; exact n4 h)⟩, hk, ⟨s3, h3, c.blk h4 (by rintro (h | h); exact n3 h.symm; exact n6 h.symm)⟩, h.nes⟩

theorem Gm.setV {w w' : World} {g a b v : Nat} {kc hc vc vc' : List Value} {p : ByteArray} (h : Gm w g a b v kc hc vc p) (c : Chg (fun k => k = g ∨ k = v) w w')
    (hb : Blk w' g 42 [.slice (some ⟨a, 0, none⟩) kc.length 12, .slice (some ⟨b, 0, none⟩) hc.length 12, .slice (some ⟨v, 0, none⟩) vc'.length 12, .string p]) (hk : ∃ sp, (vc' ++ sp).length = 12 ∧ Blk w' v 9 (vc' ++ sp)) : Gm w' g a b v kc hc vc' p := by
  obtain ⟨n1, n2, n3, n4, n5, n6⟩ := h.nes
  obtain ⟨s2, h1, h2⟩ := h.ks
  obtain ⟨s3, h3, h4⟩ := h.hs
  exact ⟨hb, ⟨s2, h1, c.blk h2 (by rintro (h | h); exact n1 h.symm; exact n5 h)⟩, ⟨s3, h3, c.blk h4 (by rintro (h | h); exact n2 h.symm; exact n6 h)⟩, hk, h.nes⟩

theorem over_erase (cs sp : List Value) (i : Nat) (hi : i < cs.length) : ∃ sp', over (cs ++ sp) i (cs.drop (i + 1)) = cs.eraseIdx i ++ sp' ∧ (cs.eraseIdx i ++ sp').length = (cs ++ sp).length := by
  have hc : cs.eraseIdx i = cs.take i ++ cs.drop (i + 1) := List.eraseIdx_eq_take_drop_succ ..
  refine ⟨(cs.drop i ++ sp).drop (cs.drop (i + 1)).length, ?_, ?_⟩
  · have := over_mid (cs.drop (i + 1)) (cs.take i) ((cs.drop i ++ sp).take (cs.drop (i + 1)).length) ((cs.drop i ++ sp).drop (cs.drop (i + 1)).length) (by simp; omega)
    rw [List.append_assoc, List.take_append_drop, List.length_take, Nat.min_eq_left (by omega), ← List.append_assoc, List.take_append_drop] at this
    rw [this, hc]
  · rw [hc]; simp; omega

theorem over_insert (cs sp : List Value) (x : Value) (i : Nat) (hi : i ≤ cs.length) (hsp : 0 < sp.length) : ∃ sp', over (cs ++ sp) i (x :: cs.drop i) = (cs.take i ++ x :: cs.drop i) ++ sp' ∧ ((cs.take i ++ x :: cs.drop i) ++ sp').length = (cs ++ sp).length := by
  match sp, hsp with
  | y :: sp', _ =>
    refine ⟨sp', ?_, by simp; omega⟩
    have := over_mid (x :: cs.drop i) (cs.take i) (cs.drop i ++ [y]) sp' (by simp)
    rw [List.length_take, Nat.min_eq_left hi] at this
    rw [← this]
    congr 1
    rw [← List.append_assoc, List.take_append_drop]; simp

/-- All that the append of a tail of its own row wants. -/
theorem tail_side {w : World} {X : Nat} {t : TypeId} {cs sp : List Value} (h : Blk w X t (cs ++ sp)) (h12 : (cs ++ sp).length = 12) (i j : Nat) (hj : j ≤ cs.length) :
    Hid (∀ k u, (cs.drop j)[k]? = some u → w.cell? ((⟨X, j, none⟩ : Addr).add k) = some u) := by
  intro k u hu
  rw [Addr.add_lit, h.cell]
  rw [List.getElem?_drop] at hu
  rw [List.getElem?_append_left (List.getElem?_eq_some_iff.1 hu).1]
  exact hu

theorem spare_side {w : World} {X : Nat} {t : TypeId} {cs : List Value} (h : Blk w X t cs) (h12 : cs.length = 12) (o m : Nat) (hm : o + m ≤ 12) (news : List Value) (hn : news.length = m) :
    Hid (∀ j, j < news.length → (w.cell? ⟨X, 0 + o * 1 + j, none⟩).isSome = true ∧ w.frozen? ⟨X, 0 + o * 1 + j, none⟩ = false) := by
  intro j hj
  refine ⟨?_, h.frozen _⟩
  rw [h.cell, List.getElem?_eq_getElem (by omega)]; rfl

def One (cs : List Value) : Prop := ∀ u ∈ cs, u.oneCell' = true

theorem one_k (ts : List K3) : One (kCells ts) := by intro u hu; simp [kCells] at hu; obtain ⟨_, _, _, _, rfl⟩ := hu; rfl
theorem one_h (ts : List K3) : One (hCells ts) := by intro u hu; simp [hCells] at hu; obtain ⟨_, _, _, _, rfl⟩ := hu; rfl
theorem one_v (ts : List K3) : One (vCells ts) := by intro u hu; simp [vCells] at hu; obtain ⟨_, _, _, _, rfl⟩ := hu; rfl
theorem One.drop {cs : List Value} (h : One cs) (i : Nat) : One (cs.drop i) := fun u hu => h u (List.mem_of_mem_drop hu)
end Go.Proofs.Qxb6500361a
