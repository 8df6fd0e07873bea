/-
  Ranges: every last byte under seven heads.
-/
import Derived.Test.Qxb6500370aLetter
import Derived.Deep.RegionLaw
namespace Go.Proofs.Qxb6500370a
open Go.RowKit Go.Qx
set_option linter.unusedSimpArgs false
set_option linter.unusedVariables false

/-- The heads. -/
def heads : List (List UInt8) := [[206], [207], [227, 129], [227, 130], [227, 131], [240, 144, 144], [240, 144, 145]]

def abcd : List UInt8 := [97, 98, 99, 100]

/-- What is asked of one form. -/
def good (c : List UInt8) : Bool := decide (sayP (str (abcd ++ c)) = if letterL c then (str (abcd ++ c), 0) else (⟨#[]⟩, 4))

theorem all_good : (heads.all fun h => (List.range 64).all fun b => good (h ++ [UInt8.ofNat (128 + b)])) = true := by decide +kernel

theorem good_at {h : List UInt8} (hh : h ∈ heads) (b : Nat) (h1 : 128 ≤ b) (h2 : b ≤ 191) :
    sayP (str (abcd ++ (h ++ [UInt8.ofNat b]))) = if letterL (h ++ [UInt8.ofNat b]) then (str (abcd ++ (h ++ [UInt8.ofNat b])), 0) else (⟨#[]⟩, 4) := by
  have := List.all_eq_true.1 (List.all_eq_true.1 all_good h hh) (b - 128) (by simp; omega)
  rw [show 128 + (b - 128) = b by omega] at this
  exact of_decide_eq_true this

theorem letter_head (w : World) {h : List UInt8} (hh : h ∈ heads) (b : UInt8) : Calls Try.prog 13 #[.string (str (h ++ [b]))] w fun e w' => e = .returned (.bool (letterL (h ++ [b]))) ∧ w' = w := by
  simp [heads] at hh
  rcases hh with rfl | rfl | rfl | rfl | rfl | rfl | rfl
  · exact letter2 w _ _
  · exact letter2 w _ _
  · exact letter3 w _ _ _
  · exact letter3 w _ _ _
  · exact letter3 w _ _ _
  · exact letter4 w _ _ _ _
  · exact letter4 w _ _ _ _

def hcells : List Value := heads.map fun h => .string (str h)

/-- A game of the call's own, and the heads' row beside it. -/
def Alive2 (w0 w : World) (G H : Nat) : Prop :=
  ∃ rest v ws, Book w G rest v ws ∧ w0.heap.size ≤ G ∧ (∀ b, v.ownBlock = some b → w0.heap.size ≤ b) ∧ Quiet w0 w ∧ G ≠ H ∧ v.ownBlock ≠ some H ∧ Blk w H 9 hcells

theorem Alive2.one {w0 w : World} {G H : Nat} (h : Alive2 w0 w G H) : Alive w0 w G := by
  obtain ⟨rest, v, ws, hb, hG, ho, hq, _⟩ := h
  exact ⟨rest, v, ws, hb, hG, ho, hq⟩

theorem Alive2.blk {w0 w : World} {G H : Nat} (h : Alive2 w0 w G H) : Blk w H 9 hcells := by
  obtain ⟨rest, v, ws, hb, hG, ho, hq, _, _, h⟩ := h
  exact h

theorem Alive2.quiet {w0 w w' : World} {G H : Nat} (h : Alive2 w0 w G H) (q : Quiet w w') : Alive2 w0 w' G H := by
  obtain ⟨rest, v, ws, hb, hG, ho, hq, h1, h2, h3⟩ := h
  exact ⟨rest, v, ws, hb.quiet q, hG, ho, Quiet.trans hq q, h1, h2, q.blk h3⟩

theorem alive2_new {w0 w : World} {G : Nat} (h : Alive w0 w G) : Alive2 w0 (w.alloc (.cells hcells.toArray 9)) G w.heap.size := by
  obtain ⟨rest, v, ws, hb, hG, ho, hq⟩ := h
  have q : Quiet w (w.alloc (.cells hcells.toArray 9)) := (Chg.refl _ _).alloc _
  refine ⟨rest, v, ws, hb.quiet q, hG, ho, Quiet.trans hq q, ?_, ?_, Blk.new _ _ _⟩
  · have := hb.blk.lt; omega
  · intro h; have := hb.row.lt h; omega

theorem said2 {w0 w : World} {G H : Nat} (h : Alive2 w0 w G H) {s t : ByteArray} {e : Int} (hs : s.size ≤ maxLen) (hsay : sayP s = (t, e)) :
    Calls Try.prog 12 #[.pointer (some ⟨G, 0, none⟩), .string s, .string t, .int .i64 e] w fun r w' => r = .returned (.bool true) ∧ Alive2 w0 w' G H := by
  obtain ⟨rest, v, ws, hb, hG, ho, hq, hGH, hvH, hH⟩ := h
  have key : (putP ws 0 s).1 = t ∧ (putP ws 0 s).2.1 = e := by
    have : ((putP ws 0 s).1, (putP ws 0 s).2.1) = sayP s := by
      unfold putP sayP
      by_cases he : (parseP s).2 = 0
      · have h1 : ¬ (parseP s).2 ≠ 0 := by simpa using he
        have h2 : ¬ ((0 : Int) < 0 ∨ (ws.length : Int) < 0 ∨ (8 : Int) ≤ 0) := by omega
        rw [if_neg h1, if_neg h2, if_neg h1]
      · rw [if_pos he, if_pos he]
    rw [hsay] at this
    simpa using this
  have h1 := put_any w G rest v ws hb 0 s hs
  rw [key.1, key.2] at h1
  have hlt := hH.lt
  have h2 : Calls Try.prog 18 #[.pointer (some ⟨G, 0, none⟩), .int .i64 0, .string s] w fun r w' => r = .returned (.tuple #[.string t, .int .i64 e]) ∧ Alive2 w0 w' G H := by
    refine h1.mono ?_
    rintro r w' ⟨rfl, v', hb', hch, hv'⟩
    refine ⟨rfl, rest, v', _, hb', hG, ?_, ?_, hGH, ?_, ?_⟩
    · intro b hb
      rcases hv' with h | ⟨c, h, hc⟩
      · exact ho b (by rw [← h]; exact hb)
      · rw [h] at hb; cases hb; exact Nat.le_trans hq.size hc
    · exact Chg.trans' hq hch (fun i hi h => by
        rcases h with rfl | h
        · omega
        · have := ho i h; omega)
    · intro hb
      rcases hv' with h | ⟨c, h, hc⟩
      · exact hvH (by rw [← h]; exact hb)
      · rw [h] at hb; cases hb; omega
    · exact hch.blk hH (fun h => by rcases h with h | h; exact hGH h.symm; exact hvH h)
  have hH2 := hide h2
  clear h1 h2 key hsay hb hH hq ho
  go_enter Try.func12, Try.ntmps12
  go_wp2_with fail
  refine (unhide hH2).mono ?_
  rintro r w1 ⟨rfl, h1⟩
  have e1 : (e == e) = true := by simp
  have e2 : (t.toList == t.toList) = true := by simp
  go_wp2
  go_ret
  exact ⟨rfl, h1⟩

theorem conv_one (W : World) (B m : Nat) (hm : m < 256) (h : Blk W B 5 [.int .u8 m]) : (convert 31 9 (.slice (some ⟨B, 0, none⟩) 1 1)).run Try.prog W = .ok (.string (str [UInt8.ofNat m])) W := by
  refine run_str_of_cells W 31 5 Try.underlying31 Try.underlying5 B 0 1 1 [UInt8.ofNat m] rfl (fun i hi => ?_) 9 Try.underlying9
  obtain rfl : i = 0 := by omega
  rw [h.cell]
  simp [bv]
  omega

set_option maxRecDepth 100000 in
set_option maxHeartbeats 1000000 in
theorem ranges_any (w : World) : Calls Try.prog 7 #[] w fun e w' => e = .returned (.bool true) ∧ Below w.heap.size w w' := by
  go_enter Try.func7, Try.ntmps7
  go_wp2_with fail
  refine (alive_new w).mono ?_
  rintro e w1 ⟨G, rfl, hal⟩
  have ha := alive2_new hal
  have haH := hide ha
  clear ha
  go_wp2
  generalize w1.heap.size = H at *
  go_loopg [3, 4, 5, 6, 7] 7 (fun g h x1 x2 x3 x4 wr => ∃ k : Nat, k ≤ 7 ∧ g = 7 - k ∧ h = .int .i64 k ∧ Alive2 w wr G H)
  case atStart => exact ⟨0, by omega, rfl, rfl, unhide haH⟩
  case round =>
    obtain ⟨k, hk7, hg, rfl, ha⟩ := hrel
    by_cases hk : k < 7
    · have k1 : (k : Int) < 7 := by omega
      have k0 : (0 : Int) ≤ (k : Int) := by omega
      go_wp2
      have hkH := hide hg
      clear hg
      go_loopg [4, 5, 6, 7] 64 (fun g h x2 x3 x4 wr => ∃ m : Nat, 128 ≤ m ∧ m ≤ 192 ∧ g = 192 - m ∧ h = .int .i64 m ∧ Alive2 w wr G H)
      case atStart => exact ⟨128, by omega, by omega, rfl, rfl, ha⟩
      case round =>
        clear ha
        obtain ⟨m, hm1, hm2, hg, rfl, ha⟩ := hrel
        by_cases hm : m ≤ 191
        · have m1 : (m : Int) ≤ 191 := by omega
          have m0 : (128 : Int) ≤ (m : Int) := by omega
          obtain ⟨hd, hhd, hmem⟩ : ∃ hd, heads[k]? = some hd ∧ hd ∈ heads := by
            have : k < heads.length := hk
            exact ⟨heads[k], List.getElem?_eq_getElem this, List.getElem_mem this⟩
          have hc : wr.cell? ⟨H, k, none⟩ = some (.string (str hd)) := by
            rw [ha.blk.cell k]; unfold hcells; rw [List.getElem?_map, hhd]; rfl
          have hHl := ha.blk.lt
          have hgH := hide hg
          clear hg
          have hw8 : IntKind.u8.wrap (m : Int) = m := by rw [IntKind.wrap_u8]; omega
          go_wp2
          have hcv : (convert 31 9 (.slice (some ⟨wr.heap.size, 0, none⟩) 1 1)).run Try.prog (wr.alloc (.cells #[.int .u8 m] 5)).drew = .ok (.string (str [UInt8.ofNat m])) (wr.alloc (.cells #[.int .u8 m] 5)).drew := conv_one _ _ m (by omega) (Blk.new wr 5 [.int .u8 m]).drew
          obtain ⟨c, d, hc1, hd1, hz1, hz2, hlet, hsay⟩ : ∃ c d : ByteArray, str hd ++ str [UInt8.ofNat m] = c ∧ (⟨#[97, 98, 99, 100]⟩ : ByteArray) ++ c = d ∧
              ¬ 9223372036854775807 < (str hd).size + (str [UInt8.ofNat m]).size ∧ c.size ≤ 4 ∧
              (∀ W, Calls Try.prog 13 #[.string c] W fun e w' => e = .returned (.bool (letterL (hd ++ [UInt8.ofNat m]))) ∧ w' = W) ∧
              sayP d = if letterL (hd ++ [UInt8.ofNat m]) then (d, 0) else (⟨#[]⟩, 4) := by
            have e1 : str hd ++ str [UInt8.ofNat m] = str (hd ++ [UInt8.ofNat m]) := (str_append _ _).symm
            have e2 : (⟨#[97, 98, 99, 100]⟩ : ByteArray) ++ str (hd ++ [UInt8.ofNat m]) = str (abcd ++ (hd ++ [UInt8.ofNat m])) := (str_append abcd _).symm
            have hl : hd.length ≤ 3 := by
              simp [heads] at hmem
              rcases hmem with rfl | rfl | rfl | rfl | rfl | rfl | rfl <;> decide
            refine ⟨_, _, e1, e2, ?_, ?_, fun W => letter_head W hmem _, good_at hmem m hm1 hm⟩
            · rw [str_size, str_size]; simp; omega
            · rw [str_size]; simp; omega
          have hz3 : ¬ 9223372036854775807 < 4 + c.size := by omega
          have hd5 : d.size ≤ maxLen := by rw [← hd1, ByteArray.size_append]; unfold maxLen; show 4 + c.size ≤ _; omega
          have hletH := hide hlet
          have hsayH := hide hsay
          have haH2 := hide ha
          have hd5H := hide hd5
          clear hlet hsay ha hd5
          go_region_law (fail)
          all_goals
            have haW : Alive2 w (wr.alloc (.cells #[.int .u8 m] 5)).drew G H := (unhide haH2).quiet (((Chg.refl _ _).alloc _).drew)
            generalize (wr.alloc (.cells #[.int .u8 m] 5)).drew = W at haW ⊢
            go_wp2_with fail
            refine (unhide hletH W).mono ?_
            rintro e w2 ⟨rfl, rfl⟩
            cases hL : letterL (hd ++ [UInt8.ofNat m]) with
            | true =>
              have hs2 := unhide hsayH
              rw [hL, if_pos rfl] at hs2
              have hsd := said2 haW (unhide hd5H) hs2
              have hsdH := hide hsd
              clear hs2 hsd hL haW
              go_wp2_with fail
              refine (unhide hsdH).mono ?_
              rintro e w3 ⟨rfl, ha3⟩
              go_wp2
              go_roundg (192 - (m + 1))
              case measure => have := unhide hgH; omega
              case rel => exact ⟨m + 1, by omega, by omega, rfl, by go_num, ha3⟩
            | false =>
              have hs2 := unhide hsayH
              rw [hL, if_neg (by decide)] at hs2
              have hsd := said2 haW (unhide hd5H) hs2
              have hsdH := hide hsd
              clear hs2 hsd hL haW
              go_wp2_with fail
              refine (unhide hsdH).mono ?_
              rintro e w3 ⟨rfl, ha3⟩
              go_wp2
              go_roundg (192 - (m + 1))
              case measure => have := unhide hgH; omega
              case rel => exact ⟨m + 1, by omega, by omega, rfl, by go_num, ha3⟩
        · have m1 : ¬ (m : Int) ≤ 191 := by omega
          go_wp2
          go_roundg (7 - (k + 1))
          case measure => have := unhide hkH; omega
          case rel => exact ⟨k + 1, by omega, rfl, by go_num, ha⟩
    · have k1 : ¬ (k : Int) < 7 := by omega
      go_wp2
      go_ret
      exact ⟨rfl, ha.one.below⟩
end Go.Proofs.Qxb6500370a
