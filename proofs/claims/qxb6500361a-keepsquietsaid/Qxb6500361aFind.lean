/-
  (*List).find: the path and the first node at or above k.
-/
import Derived.Test.Qxb6500361aProg
import Derived.Test.Qxb6500361aPlain
import Derived.KernelRfl
namespace Go.Proofs.Qxb6500361a
open Go.RowKit Go.Qx
set_option linter.unusedSimpArgs false
set_option linter.unusedVariables false

/-- The path as the cells of an array. -/
def pathCells (hd : Nat) (pre : List Nd) : List Value := (List.range 8).map fun i => ptr (pathA hd i pre)

/-- The path while level i - 1 is next: the levels from i on are laid, the rest holds the head. -/
def pathTo (hd i : Nat) (pre : List Nd) : List Value := (List.range 8).map fun j => if i ≤ j then ptr (pathA hd j pre) else ptr hd

theorem pathTo_length (hd i : Nat) (pre : List Nd) : (pathTo hd i pre).length = 8 := by simp [pathTo]

theorem pathTo_set (hd i : Nat) (pre : List Nd) (hi : i < 8) : (pathTo hd (i + 1) pre).set i (ptr (pathA hd i pre)) = pathTo hd i pre := by
  apply List.ext_getElem?
  intro j
  rw [List.getElem?_set]
  unfold pathTo
  by_cases hj : j < 8
  · by_cases hij : i = j
    · subst hij; simp [hj]
    · simp [hij, hj]
      by_cases h : i ≤ j
      · simp [h, show i + 1 ≤ j by omega]
      · simp [h, show ¬ i + 1 ≤ j by omega]
  · simp [hj]; omega

theorem pathTo_zero (hd : Nat) (pre : List Nd) : pathTo hd 0 pre = pathCells hd pre := by simp [pathTo, pathCells]

theorem pathTo_top (hd top : Nat) (pre : List Nd) (h : ∀ d ∈ pre, d.h ≤ top) : pathTo hd top pre = List.replicate 8 (ptr hd) := by
  apply List.ext_getElem?
  intro j
  unfold pathTo
  rw [List.getElem?_replicate]
  by_cases hj : j < 8
  · simp [hj]
    intro h'
    have := pathA_cur hd j [] pre (by simp) (fun d hd => Nat.le_trans (h d hd) h')
    simp at this
    rw [this]; rfl
  · simp [hj]

set_option maxHeartbeats 1000000 in
theorem find_any (w : World) (c l hd pth : Nat) (s : ByteArray) (pre suf : List Nd) (top : Nat) (k : Int) (ls : List Value) (r : Rep w c l hd s (pre ++ suf) top)
    (hpre : ∀ d ∈ pre, d.key < k) (hsuf : ∀ d ∈ suf, k ≤ d.key) (hp : Blk w pth 51 ls) (hls : ls.length = 8)
    (hpl : pth ≠ l) (hph : pth ≠ hd) (hpc : pth ≠ c) (hpn : ∀ d ∈ pre ++ suf, d.addr ≠ pth) :
    Calls Try.prog 25 #[ptr l, .int .i64 k, ptr pth] w fun e w' => e = .returned (nxt 0 suf) ∧ Chg (· = pth) w w' ∧ Blk w' pth 51 (pathCells hd pre) := by
  unfold ptr
  have ht8 := r.top8
  have ht1 := r.top1
  go_enter Try.func25, Try.ntmps25
  go_wp2
  go_loopw [11] (fun i wr => ∃ j : Nat, j ≤ 8 ∧ i = .int .i64 j ∧ Chg (· = pth) w wr ∧ Blk wr pth 51 (List.replicate j (ptr hd) ++ ls.drop j)) (fun i _ => (8 - intOf i).toNat)
  case atStart => exact ⟨0, by omega, rfl, Chg.refl _ _, by simpa using hp⟩
  case round =>
    obtain ⟨j, hj, rfl, hch, hpb⟩ := hrel
    have hr : Rep wr c l hd s (pre ++ suf) top := r.of_chg hch (Ne.symm hpc) (Ne.symm hpl) (Ne.symm hph) hpn
    have hc := hpb.cell
    have hf := hpb.frozen
    have c0 := hr.list.cell 1
    have c2 := hr.list.cell 2
    simp [ptr] at c0 c2
    by_cases hlt : j < 8
    · have i1 : (0 : Int) ≤ (j : Int) := by omega
      have i2 : (j : Int) < 8 := by omega
      obtain ⟨x, hx⟩ : ∃ x, (List.replicate j (ptr hd) ++ ls.drop j)[j]? = some x := by
        rw [List.getElem?_append_right (by simp)]
        simp
        exact ⟨_, List.getElem?_eq_getElem (by omega)⟩
      go_wp2
      go_region_held3 (fun w' => w'.cell? ⟨l, 1, none⟩ = some (.pointer (some ⟨hd, 0, none⟩))) (go_keep) (fail)
      go_wp2
      go_roundw
      case rel =>
        refine ⟨j + 1, by omega, by go_num, (hch.drew).setCell (.inl rfl) _, ?_⟩
        have := (hpb.drew).set j (ptr hd)
        rw [set_rep_drop _ _ _ (by omega)] at this
        exact this
      case measure => simp [intOf]; omega
    · have hj8 : 8 ≤ j := by omega
      clear hlt
      go_wp2
      go_loopw [8, 9] (fun p i wr2 => ∃ (t : Nat) (a b : List Nd), t ≤ top ∧ pre = a ++ b ∧ p = .pointer (some ⟨cur hd a, 0, none⟩) ∧ i = .int .i64 ((t : Int) - 1) ∧ (∀ d, a.getLast? = some d → t < d.h) ∧ (∀ d ∈ b, d.h ≤ t) ∧ Chg (· = pth) w wr2 ∧ Blk wr2 pth 51 (pathTo hd t pre)) (fun _ i _ => (intOf i + 1).toNat)
      case atStart =>
        refine ⟨top, [], pre, Nat.le_refl _, rfl, rfl, rfl, by simp, fun d hd => (r.high d (by simp [hd])).2, hch, ?_⟩
        rw [pathTo_top hd top pre (fun d hd => (r.high d (by simp [hd])).2)]
        have hj9 : j = 8 := by omega
        subst hj9
        have e : ls.drop 8 = [] := List.drop_eq_nil_of_le (by omega)
        rw [e, List.append_nil] at hpb
        exact hpb
      case round =>
        clear hpb hc hf c0 c2 hr hch
        obtain ⟨t, a, b, ht, hab, rfl, rfl, ha, hb, hch, hpb⟩ := hrel
        have hr : Rep wr c l hd s (pre ++ suf) top := r.of_chg hch (Ne.symm hpc) (Ne.symm hpl) (Ne.symm hph) hpn
        cases t with
        | zero =>
          have hb0 : b = [] := by
            cases b with
            | nil => rfl
            | cons d b =>
              have := hb d (by simp)
              have := (r.high d (by rw [hab]; simp)).1
              omega
          subst hb0
          simp only [List.append_nil] at hab
          subst hab
          have c0 := hr.next pre suf rfl 0 (by omega) ha
          go_wp2
          go_ret
          exact ⟨rfl, hch, by rw [← pathTo_zero]; exact hpb⟩
        | succ t =>
          have e0 : ((t + 1 : Nat) : Int) - 1 = (t : Int) := by omega
          rw [e0]
          have i1 : (0 : Int) ≤ (t : Int) := by omega
          have i2 : (t : Int) < 8 := by omega
          go_wp2
          go_loopg [8] b.length (fun n p wr' => ∃ a b : List Nd, n = b.length ∧ pre = a ++ b ∧ p = .pointer (some ⟨cur hd a, 0, none⟩) ∧ (∀ d, a.getLast? = some d → t < d.h) ∧ wr' = wr)
          case atStart => exact ⟨a, b, rfl, hab, rfl, fun d h => by have := ha d h; omega, rfl⟩
          case round =>
            clear hab ha hb
            obtain ⟨a, b, rfl, hab, rfl, ha, rfl⟩ := hrel
            have c0 := hr.next a (b ++ suf) (by rw [hab]; simp) t (by omega) ha
            rcases first_in t b with hb | ⟨b1, d, b2, rfl, hb1, hd'⟩
            · rw [nxt_none t b suf hb] at c0
              have hpa : pathA hd t pre = cur hd a := by rw [hab]; exact pathA_cur hd t a b ha hb
              have hset := pathTo_set hd t pre (by omega)
              rw [hpa] at hset
              have hc := hpb.cell
              have hf := hpb.frozen
              obtain ⟨x, hx⟩ : ∃ x, (pathTo hd (t + 1) pre)[t]? = some x := ⟨_, List.getElem?_eq_getElem (by rw [pathTo_length]; omega)⟩
              have habH := hide hab
              clear hab
              have hsetH := hide hset
              have hpaH := hide hpa
              clear hset hpa
              have hn : nxt t suf = .pointer none ∨ ∃ d ∈ suf, nxt t suf = .pointer (some ⟨d.addr, 0, none⟩) := by
                rcases first_in t suf with hs | ⟨b1, d, b2, rfl, hb1, hd'⟩
                · left; have := nxt_none t suf [] hs; simp at this; rw [this]; rfl
                · right; exact ⟨d, by simp, nxt_some t b1 d b2 hb1 hd'⟩
              rcases hn with hn | ⟨d, hds, hn⟩
              · rw [hn] at c0
                clear hn
                go_wp2
                go_roundw
                case rel =>
                  refine ⟨t, a, b, by omega, unhide habH, rfl, rfl, ha, hb, hch.setCell (.inl rfl) _, ?_⟩
                  rw [← unhide hsetH]
                  exact hpb.set t _
                case measure => simp [intOf]
              · rw [hn] at c0
                clear hn
                have ck := hr.key_at (d := d) (by simp [hds])
                have hk := hsuf d hds
                go_wp2
                go_roundw
                case rel =>
                  refine ⟨t, a, b, by omega, unhide habH, rfl, rfl, ha, hb, hch.setCell (.inl rfl) _, ?_⟩
                  rw [← unhide hsetH]
                  exact hpb.set t _
                case measure => simp [intOf]
            · rw [List.append_assoc, List.cons_append, nxt_some t b1 d (b2 ++ suf) hb1 hd'] at c0
              have hmem : d ∈ pre := by rw [hab]; simp
              have ck := hr.key_at (d := d) (by simp [hmem])
              have hk := hpre d hmem
              unfold ptr at c0
              have habH := hide hab
              clear hab
              go_wp2
              go_roundg b2.length
              case measure => simp; omega
              case rel =>
                refine ⟨a ++ b1 ++ [d], b2, rfl, by rw [unhide habH]; simp, ?_, ?_, rfl⟩
                · rw [cur_snoc]
                · intro x hx
                  simp at hx
                  subst hx; exact hd'

theorem Rep.addr_lt {w : World} {c l hd : Nat} {s : ByteArray} {nds : List Nd} {top : Nat} (r : Rep w c l hd s nds top) {d : Nd} (h : d ∈ nds) : d.addr < w.heap.size := by
  obtain ⟨a, b, e⟩ := List.append_of_mem h
  exact (r.node a d b e).lt

/-- find over a path that the caller has just laid. -/
theorem find_fresh (w : World) (c l hd : Nat) (s : ByteArray) (pre suf : List Nd) (top : Nat) (k : Int) (r : Rep w c l hd s (pre ++ suf) top)
    (hpre : ∀ d ∈ pre, d.key < k) (hsuf : ∀ d ∈ suf, k ≤ d.key) :
    Calls Try.prog 25 #[.pointer (some ⟨l, 0, none⟩), .int .i64 k, .pointer (some ⟨w.heap.size, 0, none⟩)]
      (w.alloc (.cells #[.pointer none, .pointer none, .pointer none, .pointer none, .pointer none, .pointer none, .pointer none, .pointer none] 51))
      fun e w' => e = .returned (nxt 0 suf) ∧ Quiet w w' ∧ w.heap.size < w'.heap.size ∧ Blk w' w.heap.size 51 (pathCells hd pre) := by
  have q0 : Quiet w (w.alloc (.cells #[.pointer none, .pointer none, .pointer none, .pointer none, .pointer none, .pointer none, .pointer none, .pointer none] 51)) := (Chg.refl _ _).alloc _
  have r' := r.quiet q0
  have hb : Blk (w.alloc (.cells #[.pointer none, .pointer none, .pointer none, .pointer none, .pointer none, .pointer none, .pointer none, .pointer none] 51)) w.heap.size 51 (List.replicate 8 (.pointer none)) := Blk.new w 51 _
  have h1 := r.list.lt
  have h2 := r.head.lt
  have h3 := r.coin.lt
  refine (find_any _ c l hd w.heap.size s pre suf top k _ r' hpre hsuf hb rfl (by omega) (by omega) (by omega) (fun d hd => by have := r.addr_lt hd; omega)).mono ?_
  rintro e w' ⟨rfl, hc, hp⟩
  exact ⟨rfl, Chg.trans' q0 hc (fun i hi h => by omega), hp.lt, hp⟩

end Go.Proofs.Qxb6500361a
