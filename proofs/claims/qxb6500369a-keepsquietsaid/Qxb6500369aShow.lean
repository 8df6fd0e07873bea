/-
  NodeText, Show on both sides.
-/
import Derived.Test.Qxb6500369aNode
namespace Go.Proofs.Qxb6500369a
open Go.RowKit Go.Qx
set_option linter.unusedSimpArgs false
set_option linter.unusedVariables false

def In64 (v : Int) : Prop := -9223372036854775808 ≤ v ∧ v ≤ 9223372036854775807

structure In5 (c : N5) : Prop where
  id : In64 c.id
  st : In64 c.st
  lead : In64 c.lead
  reach : In64 c.reach
  got : In64 c.got

def textP (c : N5) : List UInt8 := itoa c.id ++ [58] ++ itoa c.st ++ [58] ++ itoa c.lead ++ [58] ++ itoa c.reach ++ [58] ++ itoa c.got

theorem textP_length (c : N5) : (textP c).length ≤ 104 := by
  have h1 := itoa_length c.id
  have h2 := itoa_length c.st
  have h3 := itoa_length c.lead
  have h4 := itoa_length c.reach
  have h5 := itoa_length c.got
  simp [textP]; omega

set_option maxRecDepth 100000 in
set_option maxHeartbeats 2000000 in
theorem nodeText_any (w : World) (c : N5) (h : In5 c) : Calls Try.prog 11 #[mcV c] w fun e w' => e = .returned (.string (str (textP c))) ∧ Quiet w w' := by
  have h1 := itoa_length c.id
  have h2 := itoa_length c.st
  have h3 := itoa_length c.lead
  have h4 := itoa_length c.reach
  have h5 := itoa_length c.got
  have bb := Blk.new w 28 (mc c)
  have q0 : Quiet w (w.alloc (.cells #[.int .i64 c.id, .int .i64 c.st, .int .i64 c.lead, .int .i64 c.reach, .int .i64 c.got] 28)) := (Chg.refl _ _).alloc _
  unfold mcV
  go_enter Try.func11, Try.ntmps11
  go_wp2_with fail
  refine (itoa_any c.id _ h.id.1 h.id.2).mono ?_
  rintro e w1 ⟨rfl, q1⟩
  have b1 := q1.blk bb
  have d1 := b1.cell 1
  simp [mc] at d1
  go_wp2_with fail
  refine (itoa_any c.st _ h.st.1 h.st.2).mono ?_
  rintro e w2 ⟨rfl, q2⟩
  have b2 := q2.blk b1
  have d2 := b2.cell 2
  simp [mc] at d2
  go_wp2_with fail
  refine (itoa_any c.lead _ h.lead.1 h.lead.2).mono ?_
  rintro e w3 ⟨rfl, q3⟩
  have b3 := q3.blk b2
  have d3 := b3.cell 3
  simp [mc] at d3
  go_wp2_with fail
  refine (itoa_any c.reach _ h.reach.1 h.reach.2).mono ?_
  rintro e w4 ⟨rfl, q4⟩
  have b4 := q4.blk b3
  have d4 := b4.cell 4
  simp [mc] at d4
  go_wp2_with fail
  refine (itoa_any c.got _ h.got.1 h.got.2).mono ?_
  rintro e w5 ⟨rfl, q5⟩
  have qq : Quiet w w5 := Quiet.trans q0 (Quiet.trans q1 (Quiet.trans q2 (Quiet.trans q3 (Quiet.trans q4 q5))))
  have hqH := hide qq
  have hT : Hid (str (textP c) = str (itoa c.id) ++ ⟨#[58]⟩ ++ str (itoa c.st) ++ ⟨#[58]⟩ ++ str (itoa c.lead) ++ ⟨#[58]⟩ ++ str (itoa c.reach) ++ ⟨#[58]⟩ ++ str (itoa c.got)) := by
    show _ = _
    rw [show (⟨#[58]⟩ : ByteArray) = str [58] from rfl]
    simp only [str_append, textP]
  have z1 : (str (itoa c.id)).size ≤ 20 := by rw [str_size]; omega
  have z2 : (str (itoa c.st)).size ≤ 20 := by rw [str_size]; omega
  have z3 : (str (itoa c.lead)).size ≤ 20 := by rw [str_size]; omega
  have z4 : (str (itoa c.reach)).size ≤ 20 := by rw [str_size]; omega
  have z5' : (str (itoa c.got)).size ≤ 20 := by rw [str_size]; omega
  clear q1 q2 q3 q4 q5 qq q0 bb b1 b2 b3 b4 d1 d2 d3 d4 h1 h2 h3 h4 h5
  generalize str (itoa c.id) = s1 at *
  generalize str (itoa c.st) = s2 at *
  generalize str (itoa c.lead) = s3 at *
  generalize str (itoa c.reach) = s4 at *
  generalize str (itoa c.got) = s5 at *
  go_wp2
  go_ret
  rw [unhide hT]
  exact ⟨rfl, unhide hqH⟩

/-- Show's text of the first k nodes. -/
def showTo (mode : Int) (ns : List N5) (k : Nat) : List UInt8 := (ns.take k).foldl (fun l c => l ++ [124] ++ textP c) (itoa mode)
def showP (mode : Int) (ns : List N5) : List UInt8 := showTo mode ns ns.length

theorem showTo_succ (mode : Int) (ns : List N5) (k : Nat) (hk : k < ns.length) : showTo mode ns (k + 1) = showTo mode ns k ++ [124] ++ textP ns[k] := by
  unfold showTo
  rw [List.take_succ_eq_append_getElem hk, List.foldl_append]; rfl

set_option maxRecDepth 100000 in
set_option maxHeartbeats 2000000 in
theorem mshow_any (w : World) (x : Nat) (v : Value) (mode : Int) (ns : List N5) (r : RepM w x v mode ns) (h8 : ns.length ≤ 8) (hm : In64 mode) (hin : ∀ c ∈ ns, In5 c) : Calls Try.prog 33 #[ptr x] w fun e w' => e = .returned (.string (str (showP mode ns))) ∧ Quiet w w' := by
  obtain ⟨ao, cap, rfl⟩ := r.row.shape
  have c0 := r.blk.cell 0
  simp at c0
  unfold ptr
  have hil := itoa_length mode
  go_enter Try.func33, Try.ntmps33
  go_wp2_with fail
  refine (itoa_any mode _ hm.1 hm.2).mono ?_
  rintro e w1 ⟨rfl, q1⟩
  go_wp2
  go_loopw [3, 4] (fun s i wr => ∃ j : Nat, j ≤ ns.length ∧ i = .int .i64 j ∧ s = .string (str (showTo mode ns j)) ∧ (showTo mode ns j).length ≤ 20 + j * 105 ∧ Quiet w wr) (fun _ i _ => 9 - (intOf i).toNat)
  case atStart => exact ⟨0, Nat.zero_le _, rfl, rfl, by simpa [showTo] using hil, q1⟩
  case round =>
    obtain ⟨j, hj, rfl, rfl, hl, hq⟩ := hrel
    have rj := r.quiet hq
    have x1 := rj.blk.cell 1
    simp at x1
    have k0 : (0 : Int) ≤ (j : Int) := by omega
    by_cases hlt : j < ns.length
    · have k1 : (j : Int) < (ns.length : Int) := by omega
      have hst := showTo_succ mode ns j hlt
      obtain ⟨g, cap', hv, a0, a1, a2, a3, a4⟩ := flat_row (List.getElem?_eq_getElem hlt) rj.row
      cases hv
      have hic := hin ns[j] (List.getElem_mem hlt)
      have htl := textP_length ns[j]
      generalize ns[j] = c at *
      have hstH := hide hst
      clear hst
      have hnt := fun V => nodeText_any V c hic
      unfold mcV at hnt
      go_wp2_with fail
      refine (hnt _).mono ?_
      rintro e w2 ⟨rfl, q2⟩
      have hT : Hid (str (showTo mode ns (j + 1)) = str (showTo mode ns j) ++ ⟨#[124]⟩ ++ str (textP c)) := by
        show _ = _
        rw [show (⟨#[124]⟩ : ByteArray) = str [124] from rfl, unhide hstH]
        simp only [str_append]
      have hl2 : Hid ((showTo mode ns (j + 1)).length ≤ 20 + (j + 1) * 105) := by
        show _ ≤ _
        rw [unhide hstH]; simp; omega
      have z1 : (str (showTo mode ns j)).size ≤ 2000 := by rw [str_size]; omega
      have z2 : (str (textP c)).size ≤ 2000 := by rw [str_size]; omega
      clear hl htl hnt a0 a1 a2 a3 a4
      generalize str (showTo mode ns j) = s1 at *
      generalize str (textP c) = s2 at *
      go_wp2
      go_roundw
      case rel => exact ⟨j + 1, by omega, by go_num, by rw [unhide hT], unhide hl2, Quiet.trans hq q2⟩
      case measure => simp [intOf]; omega
    · have k1 : ¬ (j : Int) < (ns.length : Int) := by omega
      have hjn : Hid (j = ns.length) := by show _ = _; omega
      go_wp2
      go_ret
      refine ⟨?_, hq⟩
      rw [show showP mode ns = showTo mode ns j by unfold showP; rw [← unhide hjn]]
      rfl

set_option maxRecDepth 100000 in
set_option maxHeartbeats 2000000 in
theorem show_any (w : World) (x a b : Nat) (mode : Int) (ns : List N5) (ord : List Int) (r : Rep w x a b mode ns ord) (hst : ∀ c ∈ ns, (c.st = 0 ∨ c.st = 1 ∨ c.st = 2) ∧ (c.got = 0 ∨ c.got = 1)) (hm : In64 mode) (hin : ∀ c ∈ ns, In5 c) : Calls Try.prog 30 #[ptr x] w fun e w' => e = .returned (.string (str (showP mode ns))) ∧ Quiet w w' := by
  have h8 := r.n8
  have c0 := r.blk.cell 0
  have c1 := r.blk.cell 1
  simp at c0 c1
  unfold ptr
  have hil := itoa_length mode
  go_enter Try.func30, Try.ntmps30
  go_wp2_with fail
  refine (itoa_any mode _ hm.1 hm.2).mono ?_
  rintro e w1 ⟨rfl, q1⟩
  have d1 := Quiet.cell q1 c1
  go_wp2
  go_loopw [3, 15] (fun s i wr => ∃ j : Nat, j ≤ ns.length ∧ i = .int .i64 j ∧ s = .string (str (showTo mode ns j)) ∧ (showTo mode ns j).length ≤ 20 + j * 105 ∧ Quiet w wr) (fun _ i _ => 9 - (intOf i).toNat)
  case atStart => exact ⟨0, Nat.zero_le _, rfl, rfl, by simpa [showTo] using hil, q1⟩
  case round =>
    obtain ⟨j, hj, rfl, rfl, hl, hq⟩ := hrel
    have rj := r.quiet hq
    have x2 := rj.blk.cell 2
    simp at x2
    have k0 : (0 : Int) ≤ (j : Int) := by omega
    by_cases hlt : j < ns.length
    · have k1 : (j : Int) < (ns.length : Int) := by omega
      have k2 : (j : Int) < 8 := by omega
      have hst2 := showTo_succ mode ns j hlt
      obtain ⟨a0, a1, a2, a3⟩ := cellR_of rj.cb (List.getElem?_eq_getElem hlt)
      have hic := hin ns[j] (List.getElem_mem hlt)
      obtain ⟨s1, s2⟩ := hst ns[j] (List.getElem_mem hlt)
      have htl := textP_length ns[j]
      generalize ns[j] = c at *
      have hstH := hide hst2
      clear hst2
      have hun := fun V => unpack_any V c s1 s2
      have hnt := fun V => nodeText_any V c hic
      unfold rcV mcV at hun
      unfold mcV at hnt
      go_wp2_with fail
      refine (hun _).mono ?_
      rintro e w2 ⟨rfl, q2⟩
      go_wp2_with fail
      refine (hnt _).mono ?_
      rintro e w3 ⟨rfl, q3⟩
      have qq : Hid (Quiet w w3) := Quiet.trans hq (Quiet.trans q2 (Quiet.trans ((Chg.refl _ _).alloc _) q3))
      have hT : Hid (str (showTo mode ns (j + 1)) = str (showTo mode ns j) ++ (⟨#[124]⟩ ++ str (textP c))) := by
        show _ = _
        rw [show (⟨#[124]⟩ : ByteArray) = str [124] from rfl, unhide hstH]
        simp only [str_append, List.append_assoc]
      have hl2 : Hid ((showTo mode ns (j + 1)).length ≤ 20 + (j + 1) * 105) := by
        show _ ≤ _
        rw [unhide hstH]; simp; omega
      have z1 : (str (showTo mode ns j)).size ≤ 2000 := by rw [str_size]; omega
      have z2 : (str (textP c)).size ≤ 2000 := by rw [str_size]; omega
      clear hl htl hnt hun a0 a1 a2 a3 q2 q3 x2
      generalize str (showTo mode ns j) = s1 at *
      generalize str (textP c) = s2 at *
      go_wp2
      go_roundw
      case rel => exact ⟨j + 1, by omega, by go_num, by rw [unhide hT], unhide hl2, unhide qq⟩
      case measure => simp [intOf]; omega
    · have k1 : ¬ (j : Int) < (ns.length : Int) := by omega
      have hjn : Hid (j = ns.length) := by show _ = _; omega
      go_wp2
      go_ret
      refine ⟨?_, hq⟩
      rw [show showP mode ns = showTo mode ns j by unfold showP; rw [← unhide hjn]]
      rfl
end Go.Proofs.Qxb6500369a
