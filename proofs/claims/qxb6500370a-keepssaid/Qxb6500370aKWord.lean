/-
  A WORD'S PRINTED FORM, CUT: its five letters' forms.
-/
import Derived.Test.Qxb6500370aKJudge
namespace Go.Proofs.Qxb6500370a
open Go.RowKit Go.Qx Go.Qx.Mk
set_option linter.unusedVariables false
set_option linter.unusedSimpArgs false

/-- A folded letter. -/
def Lett (x : Int) : Prop := fold x = x ∧ 97 ≤ x
theorem lett_cases {x : Int} (h : Lett x) : (97 ≤ x ∧ x ≤ 122) ∨ (945 ≤ x ∧ x ≤ 969) ∨ (12353 ≤ x ∧ x ≤ 12438) ∨ (66600 ≤ x ∧ x ≤ 66639) := by
  obtain ⟨h1, h2⟩ := h
  unfold fold at h1
  repeat' split at h1
  all_goals omega
theorem lett_of {x : Int} (h : (97 ≤ x ∧ x ≤ 122) ∨ (945 ≤ x ∧ x ≤ 969) ∨ (12353 ≤ x ∧ x ≤ 12438) ∨ (66600 ≤ x ∧ x ≤ 66639)) : Lett x := by
  refine ⟨?_, by omega⟩
  unfold fold
  repeat' split
  all_goals omega
theorem lett_fold {r : Int} (h : ¬ fold r < 0) : Lett (fold r) := by
  apply lett_of
  unfold fold at *
  repeat' split
  all_goals first | omega | (exfalso; revert h; repeat' split) <;> omega
def encL (x : Int) : List UInt8 := (Utf8.encode x).data.toList
theorem encL_def (x : Int) : encL x = (Utf8.encode x).data.toList := rfl
/-- The form of a letter. -/
theorem encL_cases {x : Int} (h : Lett x) : ∃ c : Nat, x = c ∧ ((97 ≤ c ∧ c ≤ 122 ∧ encL x = [UInt8.ofNat c]) ∨ (945 ≤ c ∧ c ≤ 969 ∧ encL x = [UInt8.ofNat (192 + c / 64), UInt8.ofNat (128 + c % 64)]) ∨ (12353 ≤ c ∧ c ≤ 12438 ∧ encL x = [UInt8.ofNat (224 + c / 4096), UInt8.ofNat (128 + c / 64 % 64), UInt8.ofNat (128 + c % 64)]) ∨ (66600 ≤ c ∧ c ≤ 66639 ∧ encL x = [UInt8.ofNat (240 + c / 262144), UInt8.ofNat (128 + c / 4096 % 64), UInt8.ofNat (128 + c / 64 % 64), UInt8.ofNat (128 + c % 64)])) := by
  have hc := lett_cases h
  obtain ⟨c, rfl⟩ : ∃ c : Nat, x = c := ⟨x.toNat, by omega⟩
  refine ⟨c, rfl, ?_⟩
  rw [encL_def]
  rcases hc with hc | hc | hc | hc
  · have h1 := enc1 c (by omega)
    left; rw [h1]; refine ⟨by omega, by omega, ?_⟩; rfl
  · have h1 := enc2 c (by omega) (by omega)
    right; left; rw [h1]; refine ⟨by omega, by omega, ?_⟩; rfl
  · have h1 := enc3 c (by omega) (by omega) (by omega)
    right; right; left; rw [h1]; refine ⟨by omega, by omega, ?_⟩; rfl
  · have h1 := enc4 c (by omega) (by omega)
    right; right; right; rw [h1]; refine ⟨by omega, by omega, ?_⟩; rfl
theorem ofNat_inj {a b : Nat} (ha : a < 256) (hb : b < 256) (h : UInt8.ofNat a = UInt8.ofNat b) : a = b := by
  have := congrArg UInt8.toNat h
  rwa [UInt8.toNat_ofNat_of_lt' ha, UInt8.toNat_ofNat_of_lt' hb] at this
theorem encL_inj {x y : Int} (hx : Lett x) (hy : Lett y) (h : encL x = encL y) : x = y := by
  obtain ⟨a, rfl, ha⟩ := encL_cases hx
  obtain ⟨b, rfl, hb⟩ := encL_cases hy
  rcases ha with ⟨a1, a2, ea⟩ | ⟨a1, a2, ea⟩ | ⟨a1, a2, ea⟩ | ⟨a1, a2, ea⟩ <;> rcases hb with ⟨b1, b2, eb⟩ | ⟨b1, b2, eb⟩ | ⟨b1, b2, eb⟩ | ⟨b1, b2, eb⟩ <;> rw [ea, eb] at h
  all_goals first | (exfalso; simpa using congrArg List.length h) | skip
  all_goals
    simp only [List.cons.injEq, and_true] at h
  · have h1 := ofNat_inj (by omega) (by omega) h
    omega
  · obtain ⟨h1, h2⟩ := h
    have h1 := ofNat_inj (by omega) (by omega) h1
    have h2 := ofNat_inj (by omega) (by omega) h2
    omega
  · obtain ⟨h1, h2, h3⟩ := h
    have h1 := ofNat_inj (by omega) (by omega) h1
    have h2 := ofNat_inj (by omega) (by omega) h2
    have h3 := ofNat_inj (by omega) (by omega) h3
    omega
  · obtain ⟨h1, h2, h3, h4⟩ := h
    have h1 := ofNat_inj (by omega) (by omega) h1
    have h2 := ofNat_inj (by omega) (by omega) h2
    have h3 := ofNat_inj (by omega) (by omega) h3
    have h4 := ofNat_inj (by omega) (by omega) h4
    omega

/-! ### Chunks. -/
/-- A chunk: its first byte says its length. -/
def Chunk (c : List UInt8) : Prop := ∃ b r, c = b :: r ∧ widC b.toNat = c.length
theorem chunk_enc {x : Int} (h : Lett x) : Chunk (encL x) := by
  obtain ⟨c, rfl, hc⟩ := encL_cases h
  rcases hc with ⟨a1, a2, ea⟩ | ⟨a1, a2, ea⟩ | ⟨a1, a2, ea⟩ | ⟨a1, a2, ea⟩
  all_goals
    rw [ea]
    refine ⟨_, _, rfl, ?_⟩
    rw [UInt8.toNat_ofNat_of_lt' (by show _ < 256; omega)]
    unfold widC
    simp only [List.length_cons, List.length_nil]
    repeat' split
    all_goals omega
theorem byt_str (L : List UInt8) (i : Nat) (h : i < L.length) : byt (str L) i = (L[i]).toNat := by
  unfold byt
  have e : (str L).get! i = L[i] := by
    show (L.toArray)[i]! = _
    rw [getElem!_pos L.toArray i (by simpa using h)]
    simp
  rw [e]
theorem str_extract (L : List UInt8) (i j : Nat) : (str L).extract i j = str ((L.drop i).take (j - i)) := by
  apply ByteArray.ext
  rw [ByteArray.data_extract]
  show L.toArray.extract i j = ((L.drop i).take (j - i)).toArray
  simp
/-- A text of chunks, cut. -/
theorem cut_chunks (cs : List (List UInt8)) (hc : ∀ c ∈ cs, Chunk c) : ∀ p, p ≤ cs.length → cutTo (str cs.flatten) p = (cs.take p).flatten.length
  | 0, _ => rfl
  | p + 1, hp => by
    have ih := cut_chunks cs hc p (by omega)
    have hlt : p < cs.length := by omega
    obtain ⟨b, r, hbr, hw⟩ := hc _ (List.getElem_mem hlt)
    have hsplit : cs.flatten = (cs.take p).flatten ++ (cs[p] ++ (cs.drop (p + 1)).flatten) := by
      conv => lhs; rw [← List.take_append_drop p cs, List.flatten_append, List.drop_eq_getElem_cons hlt, List.flatten_cons]
    rw [cutTo, ih]
    have hb : byt (str cs.flatten) (cs.take p).flatten.length = b.toNat := by
      rw [byt_str _ _ (by rw [hsplit, hbr]; simp)]
      congr 1
      simp only [hsplit, hbr]
      rw [List.getElem_append_right (by omega)]
      simp
    rw [hb, hw, List.take_add_one, List.getElem?_eq_getElem hlt, List.flatten_append, List.length_append]
    show _ = _ + [cs[p]].flatten.length
    rw [show [cs[p]].flatten = cs[p] by simp]
theorem piece_chunks (cs : List (List UInt8)) (hc : ∀ c ∈ cs, Chunk c) (p : Nat) (hp : p < cs.length) : piece (str cs.flatten) p = str cs[p] := by
  unfold piece
  rw [cut_chunks cs hc p (by omega), cut_chunks cs hc (p + 1) (by omega), str_extract]
  congr 1
  have hsplit : cs.flatten = (cs.take p).flatten ++ (cs[p] ++ (cs.drop (p + 1)).flatten) := by
    conv => lhs; rw [← List.take_append_drop p cs, List.flatten_append, List.drop_eq_getElem_cons hp, List.flatten_cons]
  have hl : (cs.take (p + 1)).flatten.length = (cs.take p).flatten.length + cs[p].length := by
    rw [List.take_add_one, List.getElem?_eq_getElem hp, List.flatten_append, List.length_append]
    show _ + [cs[p]].flatten.length = _
    rw [show [cs[p]].flatten = cs[p] by simp]
  rw [hl, Nat.add_sub_cancel_left]
  conv => lhs; rw [hsplit]
  rw [List.drop_left, List.take_left]
theorem fine_chunks (cs : List (List UInt8)) (hc : ∀ c ∈ cs, Chunk c) : Fine (str cs.flatten) cs.length ∧ cutTo (str cs.flatten) cs.length = (str cs.flatten).size := by
  have hend : cutTo (str cs.flatten) cs.length = (str cs.flatten).size := by
    rw [cut_chunks cs hc _ (Nat.le_refl _), List.take_length, str_size]
  have mono : ∀ p, p ≤ cs.length → cutTo (str cs.flatten) p ≤ (str cs.flatten).size := fun p hp => by
    rw [cut_chunks cs hc p hp, str_size]
    conv => rhs; rw [← List.take_append_drop p cs, List.flatten_append, List.length_append]
    omega
  refine ⟨fun q hq => ⟨?_, mono _ (by omega)⟩, hend⟩
  have h1 := mono (q + 1) (by omega)
  have h2 : cutTo (str cs.flatten) (q + 1) = cutTo (str cs.flatten) q + widC (byt (str cs.flatten) (cutTo (str cs.flatten) q)) := rfl
  have := (widC_le (byt (str cs.flatten) (cutTo (str cs.flatten) q))).1
  omega

theorem row5_congr {f g : Nat → Value} (h : ∀ q, q < 5 → f q = g q) : row5 f = row5 g := by
  unfold row5
  rw [h 0 (by omega), h 1 (by omega), h 2 (by omega), h 3 (by omega), h 4 (by omega)]
/-! ### Words. -/
/-- A word of folded letters. -/
def LW (l : List Int) : Prop := l.length = 5 ∧ ∀ x ∈ l, Lett x
theorem txt_chunks {l : List Int} (h : l.length = 5) : txt l = (l.map encL).flatten := by
  match l, h with
  | [a, b, c, d, e], _ =>
    have e5 : txt [a, b, c, d, e] = txt [a, b, c, d] ++ encL e := txt_snoc [a, b, c, d] e
    have e4 : txt [a, b, c, d] = txt [a, b, c] ++ encL d := txt_snoc [a, b, c] d
    have e3 : txt [a, b, c] = txt [a, b] ++ encL c := txt_snoc [a, b] c
    have e2 : txt [a, b] = txt [a] ++ encL b := txt_snoc [a] b
    have e1 : txt [a] = txt [] ++ encL a := txt_snoc [] a
    rw [e5, e4, e3, e2, e1]
    simp [txt, runesBytes]
theorem LW.chunks {l : List Int} (h : LW l) : ∀ c ∈ l.map encL, Chunk c := by
  intro c hc
  obtain ⟨x, hx, rfl⟩ := List.mem_map.1 hc
  exact chunk_enc (h.2 x hx)
theorem fw_mem {l : List Int} (h : l.length = 5) (p : Nat) (hp : p < 5) : fw l p ∈ l := by
  have e : fw l p = l[p]'(by omega) := by
    unfold fw
    rw [List.getD_eq_getElem?_getD, List.getElem?_eq_getElem (by omega)]; rfl
  rw [e]; exact List.getElem_mem _
theorem LW.piece {l : List Int} (h : LW l) (p : Nat) (hp : p < 5) : piece (str (txt l)) p = str (encL (fw l p)) := by
  rw [txt_chunks h.1, piece_chunks _ h.chunks p (by simp [h.1]; exact hp)]
  congr 1
  simp only [List.getElem_map]
  unfold fw
  rw [List.getD_eq_getElem?_getD, List.getElem?_eq_getElem (by rw [h.1]; exact hp)]; rfl
theorem LW.fine {l : List Int} (h : LW l) : Fine (str (txt l)) 5 ∧ cutTo (str (txt l)) 5 = (str (txt l)).size := by
  have := fine_chunks (l.map encL) h.chunks
  rw [List.length_map, h.1] at this
  rw [txt_chunks h.1]
  exact this
theorem LW.row {l : List Int} (h : LW l) : rowC (str (txt l)) 5 = row5 fun i => .string (str (encL (fw l i))) := by
  unfold rowC
  refine row5_congr (fun q hq => ?_)
  unfold rowS
  rw [if_pos hq, h.piece q hq]
theorem LW.js {a b : List Int} (ha : LW a) (hb : LW b) : JS (fun i => str (encL (fw a i))) (fun i => str (encL (fw b i))) (fw a) (fw b) := by
  have key : ∀ (x y : Int), Lett x → Lett y → (str (encL x) = str (encL y) ↔ x = y) := fun x y hx hy => by
    constructor
    · intro h
      have := congrArg ByteArray.toList h
      rw [str_toList, str_toList] at this
      exact encL_inj hx hy this
    · rintro rfl; rfl
  exact ⟨fun q hq => key _ _ (hb.2 _ (fw_mem hb.1 q hq)) (ha.2 _ (fw_mem ha.1 q hq)), fun q p hq hp => key _ _ (ha.2 _ (fw_mem ha.1 q hq)) (hb.2 _ (fw_mem hb.1 p hp)), fun q p hq hp => key _ _ (hb.2 _ (fw_mem hb.1 q hq)) (hb.2 _ (fw_mem hb.1 p hp))⟩
theorem txt_size {l : List Int} (h : l.length = 5) : (str (txt l)).size ≤ 20 := by
  have := txt_len l
  rw [h] at this
  rw [str_size]; exact this
/-- The law's cut of a word's printed form. -/
theorem cut_word (w : World) (l : List Int) (h : LW l) : Calls Try.prog 39 #[.string (str (txt l))] w fun e w' => e = .returned (.tuple #[.agg (row5 fun i => .string (str (encL (fw l i)))).toArray, .bool true]) ∧ Quiet w w' := by
  refine (cut_any w (str (txt l)) (by have := txt_size h.1; omega)).mono ?_
  rintro e w' ⟨p, hp, fi, hor, rfl, q⟩
  obtain ⟨f5, hend⟩ := h.fine
  have e5 : p = 5 := by
    rcases hor with h | h
    · exact h
    · by_cases hp5 : p = 5
      · exact hp5
      · exact absurd (fun q hq => f5 q (by omega)) h
  subst e5
  rw [h.row, decide_eq_true ⟨rfl, hend⟩]
  exact ⟨rfl, q⟩

set_option maxHeartbeats 4000000 in
set_option maxRecDepth 100000 in
/-- The law's marks of two words' printed forms. -/
theorem kmarks_any (w : World) (a b : List Int) (ha : LW a) (hb : LW b) : Calls Try.prog 41 #[.string (str (txt a)), .string (str (txt b))] w fun e w' => e = .returned (.string (str (marksL (fw a) (fw b)))) ∧ Quiet w w' := by
  have h1 := hide (cut_word w a ha)
  have h2 : Hid (∀ W, Calls Try.prog 39 #[.string (str (txt b))] W fun e w' => e = .returned (.tuple #[.agg (row5 fun i => .string (str (encL (fw b i)))).toArray, .bool true]) ∧ Quiet W w') := fun W => cut_word W b hb
  have h3 : Hid (∀ W, Calls Try.prog 50 #[.agg (row5 fun i => .string (str (encL (fw a i)))).toArray, .agg (row5 fun i => .string (str (encL (fw b i)))).toArray] W fun e w' => e = .returned (.string (str (marksL (fw a) (fw b)))) ∧ Quiet W w') := fun W => judge_any W _ _ _ _ (ha.js hb)
  clear ha hb
  rw [show (row5 fun i => Value.string (str (encL (fw a i)))).toArray = #[.string (str (encL (fw a 0))), .string (str (encL (fw a 1))), .string (str (encL (fw a 2))), .string (str (encL (fw a 3))), .string (str (encL (fw a 4)))] from rfl] at h1 h3
  rw [show (row5 fun i => Value.string (str (encL (fw b i)))).toArray = #[.string (str (encL (fw b 0))), .string (str (encL (fw b 1))), .string (str (encL (fw b 2))), .string (str (encL (fw b 3))), .string (str (encL (fw b 4)))] from rfl] at h2 h3
  generalize str (encL (fw a 0)) = a0 at *
  generalize str (encL (fw a 1)) = a1 at *
  generalize str (encL (fw a 2)) = a2 at *
  generalize str (encL (fw a 3)) = a3 at *
  generalize str (encL (fw a 4)) = a4 at *
  generalize str (encL (fw b 0)) = b0 at *
  generalize str (encL (fw b 1)) = b1 at *
  generalize str (encL (fw b 2)) = b2 at *
  generalize str (encL (fw b 3)) = b3 at *
  generalize str (encL (fw b 4)) = b4 at *
  generalize str (txt a) = ta at *
  generalize str (txt b) = tb at *
  generalize str (marksL (fw a) (fw b)) = MM at *
  go_enter Try.func41, Try.ntmps41
  go_wp2_with fail
  refine (unhide h1).mono ?_
  clear h1
  rintro e w1 ⟨rfl, q1⟩
  obtain ⟨W1, hW1⟩ : ∃ W, w1.alloc (.cells #[.string a0, .string a1, .string a2, .string a3, .string a4] 77) = W := ⟨_, rfl⟩
  have B1 : Blk W1 w1.heap.size 77 [.string a0, .string a1, .string a2, .string a3, .string a4] := by rw [← hW1]; exact Blk.new w1 77 _
  have Q1 : Hid (Quiet w W1) := by show Quiet _ _; rw [← hW1]; exact Chg.alloc q1 _
  have h2' := hide (unhide h2 W1)
  have B1H := hide B1
  clear h2 q1 B1
  go_wp2_with fail
  refine (unhide h2').mono ?_
  clear h2'
  rintro e w2 ⟨rfl, q2⟩
  obtain ⟨W2, hW2⟩ : ∃ W, w2.alloc (.cells #[.string b0, .string b1, .string b2, .string b3, .string b4] 77) = W := ⟨_, rfl⟩
  have B2 : Blk W2 w2.heap.size 77 [.string b0, .string b1, .string b2, .string b3, .string b4] := by rw [← hW2]; exact Blk.new w2 77 _
  have q3 : Quiet W1 W2 := by rw [← hW2]; exact Chg.alloc q2 _
  have B3 := q3.blk (unhide B1H)
  have x0 : W2.cell? ⟨w1.heap.size, 0, none⟩ = some (.string a0) := B3.cell 0
  have x1 : W2.cell? ⟨w1.heap.size, 1, none⟩ = some (.string a1) := B3.cell 1
  have x2 : W2.cell? ⟨w1.heap.size, 2, none⟩ = some (.string a2) := B3.cell 2
  have x3 : W2.cell? ⟨w1.heap.size, 3, none⟩ = some (.string a3) := B3.cell 3
  have x4 : W2.cell? ⟨w1.heap.size, 4, none⟩ = some (.string a4) := B3.cell 4
  have y0 : W2.cell? ⟨w2.heap.size, 0, none⟩ = some (.string b0) := B2.cell 0
  have y1 : W2.cell? ⟨w2.heap.size, 1, none⟩ = some (.string b1) := B2.cell 1
  have y2 : W2.cell? ⟨w2.heap.size, 2, none⟩ = some (.string b2) := B2.cell 2
  have y3 : W2.cell? ⟨w2.heap.size, 3, none⟩ = some (.string b3) := B2.cell 3
  have y4 : W2.cell? ⟨w2.heap.size, 4, none⟩ = some (.string b4) := B2.cell 4
  have Q2 : Hid (Quiet w W2) := Quiet.trans (unhide Q1) q3
  have h3' := hide (unhide h3 W2)
  clear h3 q2 q3 B2 B3 B1H Q1 hW1
  go_wp2_with fail
  refine (unhide h3').mono ?_
  clear h3' x0 x1 x2 x3 x4 y0 y1 y2 y3 y4
  rintro e w4 ⟨rfl, q4⟩
  have Q4 := hide (Quiet.trans (unhide Q2) q4)
  clear q4 Q2
  go_wp2
  go_ret
  exact ⟨rfl, unhide Q4⟩
end Go.Proofs.Qxb6500370a
