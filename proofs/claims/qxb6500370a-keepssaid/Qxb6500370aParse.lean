/-
  parse: a text's five letters, or why it is no word.
-/
import Derived.Test.Qxb6500370aFold
import Derived.Test.Qxb6500370aLibB
import Derived.Laws.RangeAny
import Derived.Laws.IdiomStrings
namespace Go.Proofs.Qxb6500370a
open Go.RowKit Go.Qx
set_option linter.unusedSimpArgs false
set_option linter.unusedVariables false

theorem width_pos (s : ByteArray) (pos : Nat) (h : pos < s.size) : 1 ≤ (Utf8.decode s pos).2 := by
  by_cases ha : (s[pos]'h).toNat < 128
  · rw [decode_ascii s pos h ha]
    exact Nat.le_refl _
  · exact (decode_high s pos h (by omega)).2

/-- The text is no UTF-8 form from pos on (at most b code points are looked at). -/
def bad (s : ByteArray) : Nat → Nat → Bool
  | 0, _ => false
  | b + 1, pos => if pos < s.size then
      (if (Utf8.decode s pos).1 = 65533 ∧ (s.size < pos + 3 ∨ s.extract pos (pos + 3) ≠ ⟨#[239, 191, 189]⟩) then true else bad s b (pos + (Utf8.decode s pos).2)) else false

theorem bad_end (s : ByteArray) (b pos : Nat) (h : ¬ pos < s.size) : bad s b pos = false := by
  cases b with
  | zero => rfl
  | succ b => simp [bad, h]

/-- The code points. -/
def runes (s : ByteArray) : Nat → Nat → List Int
  | 0, _ => []
  | b + 1, pos => if pos < s.size then ((Utf8.decode s pos).1 : Int) :: runes s b (pos + (Utf8.decode s pos).2) else []

theorem runesFrom_eq (s : ByteArray) : ∀ (b i : Nat) (acc : Array Value), Conv.runesFrom s b i acc = acc ++ ((runes s b i).map (Value.int .i32)).toArray
  | 0, _, acc => by simp [Conv.runesFrom, runes]
  | b + 1, i, acc => by
    unfold Conv.runesFrom runes
    split
    · show Conv.runesFrom s b (i + (Utf8.decode s i).2) (acc.push (.int .i32 (Int.ofNat (Utf8.decode s i).1))) = _
      rw [runesFrom_eq s b]; simp
    · simp

theorem runes_bound (s : ByteArray) : ∀ (b i : Nat), ∀ r ∈ runes s b i, 0 ≤ r ∧ r ≤ 2147483647
  | 0, _ => by simp [runes]
  | b + 1, i => by
    unfold runes
    split
    · intro r hr
      rcases List.mem_cons.1 hr with rfl | hr
      · have := decode_le s i; omega
      · exact runes_bound s b _ r hr
    · simp

theorem runes_length (s : ByteArray) : ∀ (b i : Nat), (runes s b i).length ≤ b
  | 0, _ => by simp [runes]
  | b + 1, i => by
    unfold runes
    split
    · have := runes_length s b (i + (Utf8.decode s i).2); simp; omega
    · simp

/-- A word: five letters. Zero: the word of no letters. -/
def zeros : List Int := [0, 0, 0, 0, 0]

def parseP (s : ByteArray) : List Int × Int :=
  if 40 < s.size then (zeros, 1)
  else if bad s s.size 0 then (zeros, 2)
  else if (runes s s.size 0).length ≠ 5 then (zeros, 3)
  else if (runes s s.size 0).any (fun r => decide (fold r < 0)) then (zeros, 4)
  else ((runes s s.size 0).map fold, 0)

def wordV (l : List Int) : Value := .agg (l.map (Value.int .i32)).toArray


theorem conv_runes (W : World) (s : ByteArray) (h : s.size ≤ 40) : (convert 9 68 (.string s)).run Try.prog W = .ok (.slice (some ⟨W.heap.size, 0, none⟩) (runes s s.size 0).length (grownCap W (runes s s.size 0).length 0 21))
    (W.drew.alloc (.cells ((runes s s.size 0).map (Value.int .i32) ++ List.replicate (grownCap W (runes s s.size 0).length 0 21 - (runes s s.size 0).length) (Value.int .i32 0)).toArray 21)) := by
  have e : Conv.runesFrom s s.size 0 #[] = ((runes s s.size 0).map (Value.int .i32)).toArray := by rw [runesFrom_eq]; simp
  have hl := runes_length s s.size 0
  rw [run_runes_of_string W 9 68 21 s Try.underlying9 Try.underlying68 Try.underlying21 (by rw [e]; simp; omega), e]
  rw [← List.toArray_replicate, List.append_toArray]
  simp

def zcells : List Value := [.int .i32 0, .int .i32 0, .int .i32 0, .int .i32 0, .int .i32 0]

theorem Blk.zero5 {w : World} {b : Nat} (h : Blk w b 50 zcells) : Blk (((((w.setCell ⟨b, 0, none⟩ (.int .i32 0)).setCell ⟨b, 1, none⟩ (.int .i32 0)).setCell ⟨b, 2, none⟩ (.int .i32 0)).setCell ⟨b, 3, none⟩ (.int .i32 0)).setCell ⟨b, 4, none⟩ (.int .i32 0)) b 50 zcells :=
  ((((h.set 0 _).set 1 _).set 2 _).set 3 _).set 4 _

theorem quiet5 {w w' : World} (h : Quiet w w') (a b c d e : Value) : Quiet w (((((w'.setCell ⟨w.heap.size, 0, none⟩ a).setCell ⟨w.heap.size, 1, none⟩ b).setCell ⟨w.heap.size, 2, none⟩ c).setCell ⟨w.heap.size, 3, none⟩ d).setCell ⟨w.heap.size, 4, none⟩ e) :=
  ((((h.setCell (.inr (Nat.le_refl _)) _).setCell (.inr (Nat.le_refl _)) _).setCell (.inr (Nat.le_refl _)) _).setCell (.inr (Nat.le_refl _)) _).setCell (.inr (Nat.le_refl _)) _

theorem zfacts {w : World} {b : Nat} (h : Blk w b 50 zcells) : (w.cell? ⟨b, 0, none⟩ = some (.int .i32 0) ∧ w.cell? ⟨b, 1, none⟩ = some (.int .i32 0) ∧ w.cell? ⟨b, 2, none⟩ = some (.int .i32 0) ∧ w.cell? ⟨b, 3, none⟩ = some (.int .i32 0) ∧ w.cell? ⟨b, 4, none⟩ = some (.int .i32 0)) ∧
    w.frozen? ⟨b, 0, none⟩ = false ∧ w.frozen? ⟨b, 1, none⟩ = false ∧ w.frozen? ⟨b, 2, none⟩ = false ∧ w.frozen? ⟨b, 3, none⟩ = false ∧ w.frozen? ⟨b, 4, none⟩ = false :=
  ⟨⟨h.cell 0, h.cell 1, h.cell 2, h.cell 3, h.cell 4⟩, h.frozen 0, h.frozen 1, h.frozen 2, h.frozen 3, h.frozen 4⟩

theorem arrayAt5 (W : World) (a : Addr) (c : Nat) : (Instr.arrayAt 50 (.slice (some a) 5 c)).run Try.prog W = .ok (.pointer (some a)) W := by
  simp [Instr.arrayAt, run_underlying Try.underlying50]

theorem wrap32_fold (r : Int) : IntKind.i32.wrap (fold r) = fold r := by
  have := fold_le r
  rw [IntKind.wrap_i32]; omega

theorem Blk.five {w : World} {b : Nat} (h : Blk w b 50 zcells) (l : List Int) (hl : l.length = 5) : Blk (((((w.setCell ⟨b, 0, none⟩ (.int .i32 (l.getD 0 0))).setCell ⟨b, 1, none⟩ (.int .i32 (l.getD 1 0))).setCell ⟨b, 2, none⟩ (.int .i32 (l.getD 2 0))).setCell ⟨b, 3, none⟩ (.int .i32 (l.getD 3 0))).setCell ⟨b, 4, none⟩ (.int .i32 (l.getD 4 0))) b 50 (l.map (Value.int .i32)) := by
  match l, hl with
  | [r0, r1, r2, r3, r4], _ => exact ((((h.set 0 _).set 1 _).set 2 _).set 3 _).set 4 _

set_option maxRecDepth 100000 in
set_option maxHeartbeats 1000000 in
theorem parse_any (w : World) (s : ByteArray) (hs : s.size ≤ maxLen) :
    Calls Try.prog 33 #[.string s] w fun e w' => e = .returned (.tuple #[wordV (parseP s).1, .int .i64 (parseP s).2]) ∧ Quiet w w' := by
  unfold maxLen at hs
  have bz : Blk (w.alloc (.cells #[.int .i32 0, .int .i32 0, .int .i32 0, .int .i32 0, .int .i32 0] 50)) w.heap.size 50 zcells := Blk.new w 50 zcells
  have q0 : Quiet w (w.alloc (.cells #[.int .i32 0, .int .i32 0, .int .i32 0, .int .i32 0, .int .i32 0] 50)) := (Chg.refl _ _).alloc _
  by_cases h40 : 40 < s.size
  · have h40' : (40 : Int) < s.size := by omega
    have hp : parseP s = (zeros, 1) := by simp [parseP, h40]
    rw [hp]
    go_enter Try.func33, Try.ntmps33
    go_wp2
    exact bodyPost_ret (v := .tuple #[wordV zeros, .int .i64 1]) (results_blk_tmp (u := 50) (cs := zcells) Try.results33 rfl Try.isAgg50 Try.sizeOf50 bz) rfl ⟨rfl, q0⟩
  · have h40' : (s.size : Int) ≤ 40 := by omega
    have hconv := fun W => conv_runes W s (by omega)
    have hconvH := hide hconv
    clear hconv
    go_enter Try.func33, Try.ntmps33
    go_wp2
    have hvs : (w.alloc (.cells #[.int .i32 0, .int .i32 0, .int .i32 0, .int .i32 0, .int .i32 0] 50)).heap.size = w.heap.size + 1 := by simp
    generalize w.alloc (.cells #[.int .i32 0, .int .i32 0, .int .i32 0, .int .i32 0, .int .i32 0] 50) = v at bz q0 hvs ⊢
    have hvsH := hide hvs
    clear hvs
    go_loopw [4] (fun x w' => ∃ (pos b : Nat), w' = v.iter s pos ∧ bad s b pos = bad s s.size 0 ∧ s.size ≤ pos + b) (fun _ w' => s.size - w'.iterPos v.heap.size)
    case atStart => exact ⟨0, s.size, rfl, rfl, by omega⟩
    case round =>
      obtain ⟨pos, b, rfl, hb, hpb⟩ := hrel
      by_cases hp : pos < s.size
      · have hnx : ∀ ty, (Instr.next (.pointer (some ⟨v.heap.size, 0, none⟩)) true ty).run Try.prog (v.iter s pos) = _ := fun ty => run_next_any v s pos ty hp
        rw [unhide hvsH] at hnx
        have hwd := width_pos s pos hp
        obtain ⟨b, rfl⟩ : ∃ b', b = b' + 1 := ⟨b - 1, by omega⟩
        simp only [bad, hp, if_true] at hb
        have p40 : (pos : Int) < 40 := by omega
        have q1 : ∀ n, Quiet w (v.iter s n) := fun n => q0.alloc _
        have b1 : ∀ n, Blk (v.iter s n) w.heap.size 50 zcells := fun n => bz.alloc _
        generalize hr : (Utf8.decode s pos).1 = r at *
        generalize hn : (Utf8.decode s pos).2 = n at *
        clear hr hn
        by_cases hr : r = 65533
        · have hr' : ((r : Int) == 65533) = true := by simp; omega
          by_cases h3 : s.size < pos + 3
          · have h3' : (s.size : Int) < (pos : Int) + 3 := by omega
            simp [h3, hr] at hb
            have hpp : parseP s = (zeros, 2) := by simp [parseP, h40, ← hb]
            have hppH := hide hpp
            clear hb hr hpp
            obtain ⟨⟨z0, z1, z2, z3, z4⟩, f0, f1, f2, f3, f4⟩ := zfacts (b1 (pos + n))
            go_wp2
            exact bodyPost_ret (v := .tuple #[wordV zeros, .int .i64 2]) (results_blk_tmp (u := 50) (cs := zcells) Try.results33 rfl Try.isAgg50 Try.sizeOf50 (Blk.zero5 (b1 _))) rfl ⟨by rw [unhide hppH], quiet5 (q1 _) _ _ _ _ _⟩
          · have h3' : (pos : Int) + 3 ≤ (s.size : Int) := by omega
            by_cases he : s.extract pos (pos + 3) = ⟨#[239, 191, 189]⟩
            · simp [h3, hr, he] at hb
              clear hr
              go_wp2
              exact ⟨⟨pos + n, b, rfl, hb, by omega⟩, by simp; omega⟩
            · have he' : ((s.extract pos (pos + 3)).toList == [239, 191, 189]) = false := by
                have := toList_beq (s.extract pos (pos + 3)) ⟨#[239, 191, 189]⟩
                rw [decide_eq_false he] at this
                rw [← this]; congr 1
                exact (ByteArray.toList_mk [239, 191, 189]).symm
              simp [h3, hr, he] at hb
              have hpp : parseP s = (zeros, 2) := by simp [parseP, h40, ← hb]
              have hppH := hide hpp
              clear hb hr hpp
              obtain ⟨⟨z0, z1, z2, z3, z4⟩, f0, f1, f2, f3, f4⟩ := zfacts (b1 (pos + n))
              go_wp2
              exact bodyPost_ret (v := .tuple #[wordV zeros, .int .i64 2]) (results_blk_tmp (u := 50) (cs := zcells) Try.results33 rfl Try.isAgg50 Try.sizeOf50 (Blk.zero5 (b1 _))) rfl ⟨by rw [unhide hppH], quiet5 (q1 _) _ _ _ _ _⟩
        · have hr' : ((r : Int) == 65533) = false := by simp; omega
          simp [hr] at hb
          have hrH := hide hr
          clear hr
          go_wp2
          exact ⟨⟨pos + n, b, rfl, hb, by omega⟩, by simp; omega⟩
      · have hnx : ∀ ty, (Instr.next (.pointer (some ⟨v.heap.size, 0, none⟩)) true ty).run Try.prog (v.iter s pos) = _ := fun ty => run_next_end v s pos ty hp
        rw [unhide hvsH] at hnx
        have hcv := unhide hconvH (v.iter s pos)
        rw [bad_end s b pos hp] at hb
        have q1 : Quiet w (v.iter s pos) := q0.alloc _
        have b1 : Blk (v.iter s pos) w.heap.size 50 zcells := bz.alloc _
        have hx1 : (v.iter s pos).heap.size = w.heap.size + 2 := by rw [show (v.iter s pos).heap.size = v.heap.size + 1 by simp [World.iter]]; rw [unhide hvsH]
        rw [hx1] at hcv
        have hcb := grownCap_ge (v.iter s pos) (runes s s.size 0).length 0 21
        generalize hgc : grownCap (v.iter s pos) (runes s s.size 0).length 0 21 = gc at *
        have q2 : Quiet w ((v.iter s pos).drew.alloc (.cells ((runes s s.size 0).map (Value.int .i32) ++ List.replicate (gc - (runes s s.size 0).length) (Value.int .i32 0)).toArray 21)) := q1.drew.alloc _
        have b2 : Blk ((v.iter s pos).drew.alloc (.cells ((runes s s.size 0).map (Value.int .i32) ++ List.replicate (gc - (runes s s.size 0).length) (Value.int .i32 0)).toArray 21)) w.heap.size 50 zcells := b1.drew.alloc _
        have b3 := Blk.new (v.iter s pos).drew 21 ((runes s s.size 0).map (Value.int .i32) ++ List.replicate (gc - (runes s s.size 0).length) (Value.int .i32 0))
        rw [show (v.iter s pos).drew.heap.size = w.heap.size + 2 from hx1] at b3
        generalize (v.iter s pos).drew.alloc (.cells ((runes s s.size 0).map (Value.int .i32) ++ List.replicate (gc - (runes s s.size 0).length) (Value.int .i32 0)).toArray 21) = v2 at *
        clear hgc q1 b1 bz q0 hconvH
        have hx1H := hide hx1
        clear hx1
        by_cases h5 : (runes s s.size 0).length = 5
        · have hpp : parseP s = if (runes s s.size 0).any (fun r => decide (fold r < 0)) then (zeros, 4) else ((runes s s.size 0).map fold, 0) := by simp [parseP, h40, ← hb, h5]
          have hbd := runes_bound s s.size 0
          have hppH := hide hpp
          clear hb hpp
          generalize runes s s.size 0 = rs at *
          rw [h5] at hcv b3 hcb
          have h5H := hide h5
          clear h5
          go_wp2
          generalize gc - 5 = k at *
          go_loopg [7, 8, 45] 5 (fun g x y t wr => ∃ pre suf, rs = pre ++ suf ∧ suf.length = g ∧ t = .int .i64 (pre.length : Nat) ∧ Quiet w wr ∧ Blk wr w.heap.size 50 zcells ∧ (∀ r ∈ pre, 0 ≤ fold r) ∧
            Blk wr (w.heap.size + 2) 21 ((pre.map fold).map (Value.int .i32) ++ suf.map (Value.int .i32) ++ List.replicate k (Value.int .i32 0)))
          case atStart => exact ⟨[], rs, rfl, unhide h5H, rfl, q2, b2, by simp, by simpa using b3⟩
          case round =>
            clear q2 b2 b3 hcv
            obtain ⟨pre, suf, hps, hg, rfl, q2, b2, hpos, b3⟩ := hrel
            have hl5 := unhide h5H
            have hlen : pre.length + suf.length = 5 := by rw [hps] at hl5; simpa using hl5
            obtain ⟨⟨z0, z1, z2, z3, z4⟩, f0, f1, f2, f3, f4⟩ := zfacts b2
            cases suf with
            | nil =>
              have hp5 : pre.length = 5 := by simpa using hlen
              obtain ⟨r0, r1, r2, r3, r4, rfl⟩ : ∃ r0 r1 r2 r3 r4, pre = [r0, r1, r2, r3, r4] := by
                match pre, hp5 with
                | [r0, r1, r2, r3, r4], _ => exact ⟨r0, r1, r2, r3, r4, rfl⟩
              have hpp := unhide hppH
              rw [hps] at hpp
              simp only [List.append_nil] at hpp
              rw [if_neg (by intro h; rw [List.any_eq_true] at h; obtain ⟨r, hr, h⟩ := h; have := hpos r hr; simp at h; omega)] at hpp
              have hppH2 := hide hpp
              clear hpp hppH hps hlen hl5 hp5 hbd
              have y0 := b3.cell 0
              have y1 := b3.cell 1
              have y2 := b3.cell 2
              have y3 := b3.cell 3
              have y4 := b3.cell 4
              simp at y0 y1 y2 y3 y4
              have harr := fun W a => arrayAt5 W a gc
              clear hg
              go_wp2
              exact bodyPost_ret (v := .tuple #[wordV [fold r0, fold r1, fold r2, fold r3, fold r4], .int .i64 0]) (results_blk_tmp (u := 50) (cs := [fold r0, fold r1, fold r2, fold r3, fold r4].map (Value.int .i32)) Try.results33 rfl Try.isAgg50 Try.sizeOf50 (Blk.five b2 [fold r0, fold r1, fold r2, fold r3, fold r4] rfl)) rfl ⟨by rw [unhide hppH2]; rfl, quiet5 q2 _ _ _ _ _⟩
            | cons r suf =>
              have i1 : (0 : Int) ≤ (pre.length : Int) := by omega
              have i2 : (pre.length : Int) < 5 := by simp at hlen; omega
              have hfr := b3.frozen pre.length
              have hc := b3.cell pre.length
              simp at hc
              have hbr := hbd r (by rw [hps]; simp)
              generalize hj : pre.length = j at *
              have hjH := hide hj
              clear hj
              go_wp2_with fail
              refine (fold_any wr r).mono ?_
              rintro e w1 ⟨rfl, rfl⟩
              have hwr := wrap32_fold r
              have hn2 : w.heap.size ≠ w.heap.size + 2 := by omega
              have b2' : Blk (w1.setCell ⟨w.heap.size + 2, j, none⟩ (.int .i32 (fold r))) w.heap.size 50 zcells := b2.set_other hn2 _
              have b3' : Blk (w1.setCell ⟨w.heap.size + 2, j, none⟩ (.int .i32 (fold r))) (w.heap.size + 2) 21 (((pre ++ [r]).map fold).map (Value.int .i32) ++ suf.map (Value.int .i32) ++ List.replicate k (Value.int .i32 0)) := by
                have := b3.set j (.int .i32 (fold r))
                rw [← unhide hjH] at this ⊢
                simpa using this
              have q2' : Quiet w (w1.setCell ⟨w.heap.size + 2, j, none⟩ (.int .i32 (fold r))) := q2.setCell (.inr (show w.heap.size ≤ w.heap.size + 2 by omega)) _
              have hc' := b3'.cell j
              clear hfr
              have hfr := b3.frozen j
              rw [← unhide hjH] at hc'
              simp at hc'
              rw [unhide hjH] at hc'
              have hgH := hide hg
              have hpsH := hide hps
              rcases Int.lt_or_le (fold r) 0 with hlt | hge
              · have hpp := unhide hppH
                rw [hps] at hpp
                rw [if_pos (by rw [List.any_eq_true]; exact ⟨r, by simp, by simpa using hlt⟩)] at hpp
                have hppH2 := hide hpp
                clear hpp hppH hps hlen hl5 hbd
                clear z0 z1 z2 z3 z4 f0 f1 f2 f3 f4
                obtain ⟨⟨z0, z1, z2, z3, z4⟩, f0, f1, f2, f3, f4⟩ := zfacts b2'
                generalize fold r = f at *
                go_wp2
                exact bodyPost_ret (v := .tuple #[wordV zeros, .int .i64 4]) (results_blk_tmp (u := 50) (cs := zcells) Try.results33 rfl Try.isAgg50 Try.sizeOf50 (Blk.zero5 b2')) rfl ⟨by rw [unhide hppH2], quiet5 q2' _ _ _ _ _⟩
              · clear hlen hps hg
                go_wp2
                go_roundg suf.length
                case measure => have := unhide hgH; simp at this; omega
                case rel =>
                  refine ⟨pre ++ [r], suf, by rw [unhide hpsH]; simp, rfl, by rw [List.length_append, unhide hjH]; rfl, q2', b2', ?_, b3'⟩
                  intro x hx
                  simp at hx
                  rcases hx with hx | rfl
                  · exact hpos x hx
                  · exact hge
        · have h5' : (((runes s s.size 0).length : Int) == 5) = false := by simp; omega
          have hpp : parseP s = (zeros, 3) := by simp [parseP, h40, ← hb, h5]
          have hppH := hide hpp
          clear hb hpp
          obtain ⟨⟨z0, z1, z2, z3, z4⟩, f0, f1, f2, f3, f4⟩ := zfacts b2
          go_wp2
          exact bodyPost_ret (v := .tuple #[wordV zeros, .int .i64 3]) (results_blk_tmp (u := 50) (cs := zcells) Try.results33 rfl Try.isAgg50 Try.sizeOf50 (Blk.zero5 b2)) rfl ⟨by rw [unhide hppH], quiet5 q2 _ _ _ _ _⟩
end Go.Proofs.Qxb6500370a
