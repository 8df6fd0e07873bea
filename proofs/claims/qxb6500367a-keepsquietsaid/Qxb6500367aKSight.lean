/-
  367 Keeps: Sight, Blank.
-/
import Derived.Test.Qxb6500367aKSt
import Derived.Test.Qxb6500367aKShw
import Derived.Test.Qxb6500367aShow
namespace Go.Proofs.Qxb6500367a
open Go.RowKit Go.Qx
set_option linter.unusedSimpArgs false
set_option linter.unusedVariables false

theorem fold_len {α : Type} (f : α → Int) : ∀ (l : List α) (b : List UInt8), (l.foldl (fun s j => field s (f j)) b).length ≤ b.length + 21 * l.length
  | [], b => by simp
  | x :: l, b => by
    have h := fold_len f l (field b (f x))
    have h2 := field_length b (f x)
    rw [List.foldl_cons, List.length_cons]; omega
theorem show_len (s : Nd) (h4 : s.n ≤ 4) : (showP s).length ≤ 200 := by
  have h := fold_len (fun j : Nat => heldP s.q j) (List.range s.n) (field (field (field (field (field [] s.id) s.clock) s.phase) (bitsP s.got 0)) (headP s.q))
  have l1 := field_length [] s.id
  have l2 := field_length (field [] s.id) s.clock
  have l3 := field_length (field (field [] s.id) s.clock) s.phase
  have l4 := field_length (field (field (field [] s.id) s.clock) s.phase) (bitsP s.got 0)
  have l5 := field_length (field (field (field (field [] s.id) s.clock) s.phase) (bitsP s.got 0)) (headP s.q)
  rw [List.length_range] at h
  simp only [List.length_nil] at l1
  unfold showP
  omega

def sightP (S : Nat → Nd) (skip : Nat) : Nat → List UInt8
  | 0 => []
  | k + 1 => if k = skip then sightP S skip k else sightP S skip k ++ showP (S k) ++ [124]
theorem sight_up (S : Nat → Nd) (i : Nat) (s' : Nd) : ∀ k, sightP (upS S i s') i k = sightP S i k
  | 0 => rfl
  | k + 1 => by
    rw [sightP, sightP, sight_up S i s' k]
    by_cases e : k = i
    · rw [if_pos e, if_pos e]
    · rw [if_neg e, if_neg e, upS_ne e]

set_option maxHeartbeats 8000000 in
set_option maxRecDepth 100000 in
theorem sight_any (B : Nat) (w : World) (g : Nat) (vX vW vG : Value) (n : Nat) (P : Nat → Nat × Nat × Nat) (G S : Nat → Nd) (W : List M4) (K : KS B w g vX vW vG n P G S W) (h4 : n ≤ 4) (hS : ∀ j, j < n → Shows (S j)) (i : Nat) :
    Calls Try.prog 44 #[ptr g, .int .i64 i] w fun e w' => e = .returned (.string (str (sightP S i n))) ∧ Quiet w w' := by
  have hn4 : ∀ j, j < n → (S j).n ≤ 4 := fun j hj => (K.rep j hj).n4
  obtain ⟨ax, cx, rfl⟩ := K.gr.rX.shape
  have KH := hide K
  have hSH := hide hS
  have hn4H := hide hn4
  clear K hS hn4
  unfold ptr
  go_enter Try.func44, Try.ntmps44
  go_wp2
  go_loopw [5, 6] (fun v j wr => ∃ k : Nat, k ≤ n ∧ j = .int .i64 k ∧ v = .string (str (sightP S i k)) ∧ (sightP S i k).length ≤ k * 201 ∧ Quiet w wr) (fun _ j _ => 5 - (intOf j).toNat)
  case atStart => exact ⟨0, Nat.zero_le _, rfl, rfl, by simp [sightP], Quiet.refl _⟩
  case round =>
    obtain ⟨k, hk, rfl, rfl, hlk, qk⟩ := hrel
    have Kr := (unhide KH).quiet qk
    have c0 : wr.cell? ⟨g, 0, none⟩ = some (.slice ax n cx) := Kr.gr.blk.cell 0
    have hgl := Kr.gr.blk.lt
    have qkH := hide qk
    clear qk
    have i0 : (0 : Int) ≤ (k : Int) := by omega
    by_cases hlt : k < n
    · have i1 : (k : Int) < (n : Int) := by omega
      have wj : IntKind.i64.wrap ((k : Int) + 1) = (k : Int) + 1 := by rw [IntKind.wrap_i64]; omega
      by_cases e : k = i
      · have b1 : ((k : Int) == (i : Int)) = true := by simp; omega
        have b2 : ((k : Int) != (i : Int)) = false := by rw [bne, b1]; rfl
        have hnx : Hid (sightP S i (k + 1) = sightP S i k) := by show _ = _; rw [sightP, if_pos e]
        clear e Kr
        go_wp2
        go_roundw
        case rel => exact ⟨k + 1, by omega, by go_num, by rw [unhide hnx], by rw [unhide hnx]; omega, unhide qkH⟩
        case measure => simp [intOf]; omega
      · have b1 : ((k : Int) == (i : Int)) = false := by simp; omega
        have b2 : ((k : Int) != (i : Int)) = true := by rw [bne, b1]; rfl
        have hnx : Hid (sightP S i (k + 1) = sightP S i k ++ showP (S k) ++ [124]) := by show _ = _; rw [sightP, if_neg e]
        obtain ⟨xb, cx', hv, x0⟩ := Kr.ptrAt hlt
        cases hv
        have hsh := show_any wr _ _ _ _ (Kr.rep k hlt) (unhide hSH k hlt)
        have hsl := show_len (S k) (unhide hn4H k hlt)
        have hshH := hide hsh
        unfold ptr at x0 hshH
        clear e Kr hsh
        generalize (P k).1 = x at *
        generalize showP (S k) = L at *
        have hz1 : ¬ 9223372036854775807 < (str (sightP S i k)).size + (str L).size := by rw [str_size, str_size]; omega
        have hz2 : ¬ 9223372036854775807 < (str (sightP S i k)).size + (str L).size + 1 := by rw [str_size, str_size]; omega
        go_wp2_with fail
        refine (unhide hshH).mono ?_
        clear hshH
        rintro e w1 ⟨rfl, q1⟩
        have q2 := hide (Quiet.trans (unhide qkH) q1)
        clear q1 c0 x0
        go_wp2
        go_roundw
        case rel =>
          refine ⟨k + 1, by omega, by go_num, ?_, ?_, unhide q2⟩
          · rw [unhide hnx, ← str_append, ← str_append]; rfl
          · rw [unhide hnx, List.length_append, List.length_append]
            simp only [List.length_singleton]; omega
        case measure => simp [intOf]; omega
    · have i1 : ¬ (k : Int) < (n : Int) := by omega
      have hkn : Hid (k = n) := by show _ = _; omega
      clear Kr
      go_wp2
      go_ret
      exact ⟨by rw [← unhide hkn]; rfl, unhide qkH⟩

def blankTo (l : List UInt8) : Nat → List UInt8
  | 0 => l
  | k + 1 => blankTo l k ++ [48, 32]
theorem blank_len (l : List UInt8) : ∀ k, (blankTo l k).length = l.length + 2 * k
  | 0 => rfl
  | k + 1 => by rw [blankTo, List.length_append, blank_len l k]; simp; omega
theorem blank_show (n id : Nat) : showP (newP n id) = blankTo (field [] id ++ [48, 32, 48, 32, 48, 32, 45, 49, 32]) n := by
  have hb : ∀ k j, bitsP (List.replicate k false) j = 0 := fun k => by
    induction k with
    | zero => intro j; rfl
    | succ k ih => intro j; rw [List.replicate_succ, bitsP, ih]; rfl
  have h0 : field (field (field (field (field [] id) 0) 0) 0) (-1) = field [] id ++ [48, 32, 48, 32, 48, 32, 45, 49, 32] := by
    generalize field [] (id : Int) = f
    have e1 : itoa 0 = [48] := rfl
    have e2 : itoa (-1) = [45, 49] := by decide +kernel
    simp [field, e1, e2]
  have h1 : showP (newP n id) = (List.range n).foldl (fun l (j : Nat) => field l 0) (field (field (field (field (field [] id) 0) 0) 0) (-1)) := by
    unfold showP newP
    rw [hb]
    rfl
  rw [h1, h0]
  generalize field [] (id : Int) ++ [48, 32, 48, 32, 48, 32, 45, 49, 32] = f
  induction n with
  | zero => rfl
  | succ k ih =>
    rw [List.range_succ, List.foldl_append]
    have ih' := ih (by
      unfold showP newP
      rw [hb]
      exact congrArg _ rfl)
    rw [ih']
    show field _ 0 = _
    rw [blankTo, field]
    have e1 : itoa 0 = [48] := rfl
    rw [e1]; simp

set_option maxHeartbeats 8000000 in
set_option maxRecDepth 100000 in
theorem blank_any (w : World) (n id : Nat) (h4 : n ≤ 4) (hid : id < n) :
    Calls Try.prog 42 #[.int .i64 n, .int .i64 id] w fun e w' => e = .returned (.string (str (showP (newP n id)))) ∧ Quiet w w' := by
  rw [blank_show]
  have hl := field_length [] (id : Int)
  have hF1 := field_any w [] (id : Int) (by simp) (by omega) (by omega)
  have hnil : (str []) = ⟨#[]⟩ := rfl
  rw [hnil] at hF1
  clear hnil
  have hF := hide hF1
  clear hF1
  simp only [List.length_nil] at hl
  generalize field [] (id : Int) = f at *
  have hz1 : ¬ 9223372036854775807 < (str f).size + 9 := by rw [str_size]; omega
  go_enter Try.func42, Try.ntmps42
  go_wp2_with fail
  refine (unhide hF).mono ?_
  clear hF
  rintro e w1 ⟨rfl, q1⟩
  have Q1 := hide q1
  clear q1
  go_wp2
  have hfl : (f ++ [48, 32, 48, 32, 48, 32, 45, 49, 32]).length ≤ 40 := by simp; omega
  have hst : Hid (str f ++ ⟨#[48, 32, 48, 32, 48, 32, 45, 49, 32]⟩ = str (blankTo (f ++ [48, 32, 48, 32, 48, 32, 45, 49, 32]) 0)) := by
    show _ = _
    rw [blankTo, ← str_append]; rfl
  generalize hFe : f ++ [48, 32, 48, 32, 48, 32, 45, 49, 32] = F at *
  have hFH := hide hFe
  clear hFe
  clear hz1
  go_loopw [5, 6] (fun v j wr => ∃ k : Nat, k ≤ n ∧ j = .int .i64 k ∧ v = .string (str (blankTo F k)) ∧ wr = w1) (fun _ j _ => 5 - (intOf j).toNat)
  case atStart => exact ⟨0, Nat.zero_le _, rfl, by first | rw [unhide hst] | (congr 1; exact unhide hst), rfl⟩
  case round =>
    obtain ⟨k, hk, rfl, rfl, rfl⟩ := hrel
    have i0 : (0 : Int) ≤ (k : Int) := by omega
    have hbl := blank_len F k
    by_cases hlt : k < n
    · have i1 : (k : Int) < (n : Int) := by omega
      have i2 : (k : Int) < 4 := by omega
      have wj : IntKind.i64.wrap ((k : Int) + 1) = (k : Int) + 1 := by rw [IntKind.wrap_i64]; omega
      have hz1 : ¬ 9223372036854775807 < (str (blankTo F k)).size + 2 := by rw [str_size]; omega
      have hnx : Hid (str (blankTo F k) ++ ⟨#[48, 32]⟩ = str (blankTo F (k + 1))) := by
        show _ = _
        rw [blankTo, ← str_append]; rfl
      clear hbl
      go_wp2
      go_roundw
      case rel => exact ⟨k + 1, by omega, by go_num, by rw [unhide hnx]; exact ⟨rfl, trivial⟩⟩
      case measure => simp [intOf]; omega
    · have i1 : ¬ (k : Int) < (n : Int) := by omega
      have hkn : Hid (k = n) := by show _ = _; omega
      clear hbl
      by_cases i2 : (k : Int) < 4
      · go_wp2
        go_ret
        exact ⟨by rw [unhide hFH, ← unhide hkn]; rfl, unhide Q1⟩
      · go_wp2
        go_ret
        exact ⟨by rw [unhide hFH, ← unhide hkn]; rfl, unhide Q1⟩
end Go.Proofs.Qxb6500367a
