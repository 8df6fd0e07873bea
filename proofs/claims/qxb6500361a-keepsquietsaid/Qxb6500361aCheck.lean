/-
  Check of the real list: it answers true.
-/
import Derived.Test.Qxb6500361aGet
namespace Go.Proofs.Qxb6500361a
open Go.RowKit Go.Qx
set_option linter.unusedSimpArgs false
set_option linter.unusedVariables false

/-- The first node in level i, as an address. -/
def np (i : Nat) (l : List Nd) : Option Addr := (l.find? fun d => decide (i < d.h)).map fun d => ⟨d.addr, 0, none⟩

theorem nxt_np (i : Nat) (l : List Nd) : nxt i l = .pointer (np i l) := by
  unfold nxt np
  cases l.find? fun d => decide (i < d.h) <;> rfl

def eight (f : Nat → Option Addr) : List Value := [.pointer (f 0), .pointer (f 1), .pointer (f 2), .pointer (f 3), .pointer (f 4), .pointer (f 5), .pointer (f 6), .pointer (f 7)]

theorem eight_eq (f : Nat → Option Addr) : eight f = (List.range 8).map fun x => .pointer (f x) := rfl

theorem eight_get (f : Nat → Option Addr) (j : Nat) (h : j < 8) : (eight f)[j]? = some (.pointer (f j)) := by
  rw [eight_eq]; simp [h]

theorem eight_set (f g : Nat → Option Addr) (j : Nat) (h : j < 8) (p : Option Addr) (hj : g j = p) (ho : ∀ x, x ≠ j → f x = g x) : (eight f).set j (.pointer p) = eight g := by
  rw [eight_eq, eight_eq]
  apply List.ext_getElem?
  intro x
  rw [List.getElem?_set]
  by_cases hx : x < 8
  · by_cases hjx : j = x
    · subst hjx; simp [hx, hj]
    · simp [hjx, hx, ho x (Ne.symm hjx)]
  · simp [hx]; omega

theorem headCells_np (l : List Nd) : headCells l = .int .i64 0 :: .string ⟨#[]⟩ :: .int .i64 0 :: eight fun x => np x l := by
  unfold headCells; rw [eight_eq]; simp only [nxt_np]

def npd (d : Nd) (suf : List Nd) (x : Nat) : Option Addr := if x < d.h then np x suf else none

theorem cellsOf_np (d : Nd) (l : List Nd) : cellsOf d l = .int .i64 d.key :: .string d.val :: .int .i64 d.h :: eight (npd d l) := by
  unfold cellsOf; rw [eight_eq]
  congr 3
  apply List.map_congr_left
  intro x _
  unfold npd
  by_cases h : x < d.h <;> simp [h, nxt_np]

theorem np_cons_in (x : Nat) (d : Nd) (l : List Nd) (h : x < d.h) : np x (d :: l) = some ⟨d.addr, 0, none⟩ := by
  unfold np; rw [List.find?_cons_of_pos (by simpa using h)]; rfl

theorem np_cons_out (x : Nat) (d : Nd) (l : List Nd) (h : d.h ≤ x) : np x (d :: l) = np x l := by
  unfold np; rw [List.find?_cons_of_neg (by simpa using h)]

theorem cells_cell {w : World} {b : Nat} {x y z : Value} {f : Nat → Option Addr} (h : Blk w b 53 (x :: y :: z :: eight f)) (j : Nat) (hj : j < 8) : w.cell? ⟨b, 3 + j, none⟩ = some (.pointer (f j)) := by
  rw [h.cell, show 3 + j = j + 1 + 1 + 1 by omega]
  simp only [List.getElem?_cons_succ]
  exact eight_get f j hj

def lastP (a : List Nd) : Option Addr := a.getLast?.map fun d => ⟨d.addr, 0, none⟩

/-- The due nodes while the levels below j are passed. -/
def dueAt (d : Nd) (b : List Nd) (j x : Nat) : Option Addr := if x < j then np x b else np x (d :: b)

theorem nil_eight (w : World) : (binOp .eql 51 (.agg #[.pointer none, .pointer none, .pointer none, .pointer none, .pointer none, .pointer none, .pointer none, .pointer none]) (.agg #[.pointer none, .pointer none, .pointer none, .pointer none, .pointer none, .pointer none, .pointer none, .pointer none])).run Try.prog w = .ok (.bool true) w := by kernel_rfl

set_option maxHeartbeats 2000000 in
set_option maxRecDepth 100000 in
theorem check_any (w : World) (c l hd : Nat) (s : ByteArray) (nds : List Nd) (top : Nat) (r : Rep w c l hd s nds top) :
    Calls Try.prog 39 #[ptr l] w fun e w' => e = .returned (.bool true) ∧ Quiet w w' := by
  have ht1 := r.top1
  have ht8 := r.top8
  have hlen := r.len
  have cl := r.list.cell
  simp only [ptr] at cl
  have hh := r.head
  rw [headCells_np] at hh
  have ch := hh.cell
  unfold eight at ch
  generalize hN : nds.length = N at cl hlen
  have hNH := hide hN
  clear hN
  unfold ptr
  go_enter Try.func39, Try.ntmps39
  go_wp2
  clear cl ch hh
  go_loopg [4, 56] nds.length (fun g last i wr => ∃ a b : List Nd, nds = a ++ b ∧ b.length = g ∧ i = .int .i64 a.length ∧ last = .pointer (lastP a) ∧ Quiet w wr ∧ Blk wr w.heap.size 51 (eight fun x => np x b))
  case atStart =>
    refine ⟨[], nds, rfl, rfl, rfl, rfl, (Chg.refl _ _).alloc _, Blk.new w 51 (eight fun x => np x nds)⟩
  case round =>
    obtain ⟨a, b, hab, hbg, rfl, rfl, hq, hdue⟩ := hrel
    have r1 := r.quiet hq
    have cl := r1.list.cell
    rw [unhide hNH] at cl
    simp only [ptr] at cl
    have habH := hide hab
    have hNH2 := unhide hNH
    have hal : a.length + b.length = N := by rw [← hNH2, hab]; simp
    clear hab hNH2
    have hbgH := hide hbg
    clear hbg
    have hi13 : (a.length : Int) < 13 := by omega
    have hdc := hdue.cell
    cases b with
    | nil =>
      have hE : (eight fun x => np x []) = [.pointer none, .pointer none, .pointer none, .pointer none, .pointer none, .pointer none, .pointer none, .pointer none] := rfl
      rw [hE] at hdc
      have hseen : ((a.length : Int) == (N : Int)) = true := by rw [beq_iff_eq]; simp at hal; omega
      have hal0 : a.length = N := by simpa using hal
      clear hal
      have hne := nil_eight
      by_cases htop : top = 1
      · have ht : ((top : Int) == 1) = true := by rw [beq_iff_eq]; omega
        go_wp2
        go_big_quiet (fail)
        go_wp2
        go_ret
        exact ⟨rfl, hq.drewN _⟩
      · obtain ⟨q, hq1⟩ : ∃ q, top = q + 1 := ⟨top - 1, by omega⟩
        subst hq1
        have hq8 : q < 8 := by omega
        have hx : ∃ ad, np q nds = some ad := by
          rcases r.tight with h | ⟨x, hx, h⟩
          · omega
          · unfold np
            cases hf : nds.find? fun d => decide (q < d.h) with
            | none =>
              rw [List.find?_eq_none] at hf
              have := hf x hx
              simp at this; omega
            | some y => exact ⟨_, rfl⟩
        obtain ⟨ad, had⟩ := hx
        have hh1 := r1.head
        rw [headCells_np] at hh1
        have cq := cells_cell hh1 q hq8
        rw [had] at cq
        clear had
        have e0 : ((q + 1 : Nat) : Int) = (q : Int) + 1 := by omega
        rw [e0] at cl
        clear e0
        have ht : (((q : Int) + 1) == 1) = false := by rw [beq_eq_false_iff_ne]; omega
        have i5 : (0 : Int) ≤ (q : Int) := by omega
        have i6 : (q : Int) < 8 := by omega
        have e1 : (q : Int) + 1 - 1 = (q : Int) := by omega
        go_wp2
        go_big_quiet (fail)
        go_wp2
        go_ret
        exact ⟨rfl, hq.drewN _⟩
    | cons d b =>
      have hmem : d ∈ nds := by rw [unhide habH]; simp
      have hdh := r.high d hmem
      have hdv := r.vals d hmem
      have hb := r1.node a d b (unhide habH)
      rw [cellsOf_np] at hb
      have cd0 := hb.cell 0
      have cd1 := hb.cell 1
      have cd2 := hb.cell 2
      simp only [List.getElem?_cons_succ, List.getElem?_cons_zero] at cd0 cd1 cd2
      have ct := cl 2
      simp only [List.getElem?_cons_succ, List.getElem?_cons_zero] at ct
      clear cl
      have hd0 : np 0 (d :: b) = some ⟨d.addr, 0, none⟩ := np_cons_in 0 d b hdh.1
      have c0 := hdc 0
      rw [eight_get _ 0 (by omega), hd0] at c0
      clear hd0 hdc
      have g1 : decide ((d.h : Int) < 1) = false := by simp; omega
      have g2 : decide ((top : Int) < (d.h : Int)) = false := by simp; omega
      have g4 : decide (top < d.h) = false := by simp; omega
      have g3 : decide ((8 : Int) < (d.val.size : Int)) = false := by simp; omega
      have hlast : lastP a = none ∨ ∃ e : Nd, lastP a = some ⟨e.addr, 0, none⟩ ∧ decide (d.key ≤ e.key) = false ∧ wr.cell? ⟨e.addr, 0, none⟩ = some (.int .i64 e.key) := by
        rcases List.eq_nil_or_concat a with rfl | ⟨a', e, rfl⟩
        · exact .inl rfl
        · right
          rw [List.concat_eq_append] at *
          have hab := unhide habH
          refine ⟨e, by simp [lastP], ?_, (r1.key_at (d := e) (by rw [hab]; simp)).1⟩
          have hs := r.sorted
          rw [hab] at hs
          have := (List.pairwise_append.1 hs).2.2 e (by simp) d (by simp)
          simp; omega
      clear hal hdv hdh hmem
      rcases hlast with hl | ⟨e, hl, hk, ce⟩
      all_goals
        rw [hl]
        clear hl
        go_wp2
        go_big_quiet (fail)
        have cb := hb.cell
        unfold eight at cb
        go_wp2
        clear cb g1 g2 g3 g4 c0 ct cd1
        have hq0 : Quiet w (wr.drewN nq) := hq.drewN _
        have hdue0 := hdue.drewN nq
        go_loopg [140] 8 (fun g i wr2 => ∃ j : Nat, j ≤ 8 ∧ g = 8 - j ∧ i = .int .i64 j ∧ Quiet w wr2 ∧ Blk wr2 w.heap.size 51 (eight (dueAt d b j)))
        case atStart => exact ⟨0, by omega, rfl, rfl, hq0, hdue0⟩
        case round =>
          clear cd0 cd2 hdue hb hq0 hdue0
          obtain ⟨j, hj, rfl, rfl, hq2, hdue⟩ := hrel
          have r2 := r.quiet hq2
          have hb := r2.node a d b (unhide habH)
          rw [cellsOf_np] at hb
          have cd2 := hb.cell 2
          simp only [List.getElem?_cons_succ, List.getElem?_cons_zero] at cd2
          have hdh := r.high d (by rw [unhide habH]; simp)
          by_cases hj8 : j < 8
          · have i1 : (0 : Int) ≤ (j : Int) := by omega
            have i2 : (j : Int) < 8 := by omega
            have hidx := fun W => run_index_agg (P := Try.prog) W 51 50 8 Try.underlying51 Try.sizeOf50 Try.isAgg50 (eight (npd d b)).toArray j hj8 _ (by rw [List.getElem?_toArray]; exact eight_get _ j hj8)
            unfold eight at hidx
            by_cases hjd : j < d.h
            · have g1 : decide (j < d.h) = true := by simpa using hjd
              have cj := hdue.cell j
              rw [eight_get _ j hj8] at cj
              have fj := hdue.frozen j
              rw [show dueAt d b j j = some ⟨d.addr, 0, none⟩ by simp [dueAt, np_cons_in j d b hjd]] at cj
              rw [show npd d b j = np j b by simp [npd, hjd]] at hidx
              have he := run_eql_ptr (P := Try.prog) (w := wr) 50 53 10 Try.underlying50 Try.sizeOf53 hb hb 0 0
              simp only [and_self, decide_true] at he
              go_wp2
              go_roundg (8 - (j + 1))
              case measure => omega
              case rel =>
                refine ⟨j + 1, by omega, rfl, by go_num, hq2.setCell (.inr (Nat.le_refl _)) _, ?_⟩
                have := hdue.set j (.pointer (np j b))
                rw [eight_set _ (dueAt d b (j + 1)) j hj8 _ (by simp [dueAt]) (fun x hx => by unfold dueAt; by_cases h : x < j; simp [h, show x < j + 1 by omega]; simp [h, show ¬ x < j + 1 by omega])] at this
                exact this
            · have g1 : decide (j < d.h) = false := by simpa using hjd
              rw [show npd d b j = none by simp [npd, hjd]] at hidx
              go_wp2
              go_roundg (8 - (j + 1))
              case measure => omega
              case rel =>
                refine ⟨j + 1, by omega, rfl, by go_num, hq2, ?_⟩
                have e : dueAt d b (j + 1) = dueAt d b j := by
                  funext x
                  unfold dueAt
                  by_cases h : x < j
                  · simp [h, show x < j + 1 by omega]
                  · by_cases h' : x = j
                    · subst h'; simp [np_cons_out x d b (by omega)]
                    · simp [h, show ¬ x < j + 1 by omega]
                rw [e]; exact hdue
          · have hj9 : j = 8 := by omega
            have i3 : (8 : Int) ≤ (j : Int) := by omega
            have hE : eight (dueAt d b j) = eight fun x => np x b := by subst hj9; rfl
            rw [hE] at hdue
            clear hE hj9
            go_wp2
            go_roundg b.length
            case measure => rw [← unhide hbgH]; simp
            case rel =>
              exact ⟨a ++ [d], b, by rw [unhide habH]; simp, rfl, by simp, by simp [lastP], hq2, hdue⟩
end Go.Proofs.Qxb6500361a
