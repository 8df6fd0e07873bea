/-
  THE MODEL: parse.
-/
import Derived.Test.Qxb6500370aParseL
import Derived.Test.Qxb6500370aNew
import Derived.Test.Qxb6500370aMarksM
namespace Go.Qx
open Go.RowKit
/-- A row of cells whose place k (behind the last) is marked. -/
def FB (w : World) (b : Nat) (t : TypeId) (cs : List Value) (k : Nat) : Prop := w.heap[b]? = some (.cells cs.toArray t (k, k + 1))
theorem FB.cell {w : World} {b : Nat} {t : TypeId} {cs : List Value} {k : Nat} (h : FB w b t cs k) (o : Nat) : w.cell? ⟨b, o, none⟩ = cs[o]? := by
  unfold FB at h
  simp [World.cell?, h]
theorem FB.frozen {w : World} {b : Nat} {t : TypeId} {cs : List Value} {k : Nat} (h : FB w b t cs k) (o : Nat) (ho : o < k) : w.frozen? ⟨b, o, none⟩ = false := by
  unfold FB at h
  simp [World.frozen?, h]
  omega
theorem FB.lt {w : World} {b : Nat} {t : TypeId} {cs : List Value} {k : Nat} (h : FB w b t cs k) : b < w.heap.size := by
  unfold FB at h
  exact (Array.getElem?_eq_some_iff.1 h).1
theorem FB.of_heap {w w' : World} {b : Nat} {t : TypeId} {cs : List Value} {k : Nat} (h : FB w b t cs k) (e : w'.heap[b]? = w.heap[b]?) : FB w' b t cs k := by
  unfold FB at *
  rw [e]; exact h
theorem FB.set {w : World} {b : Nat} {t : TypeId} {cs : List Value} {k : Nat} (h : FB w b t cs k) (o : Nat) (v : Value) : FB (w.setCell ⟨b, o, none⟩ v) b t (cs.set o v) k := by
  unfold FB at *
  simp [World.setCell, Array.getElem?_modify, h]
theorem FB.set_other {w : World} {b : Nat} {t : TypeId} {cs : List Value} {k : Nat} (h : FB w b t cs k) {a : Addr} (hne : b ≠ a.block) (v : Value) : FB (w.setCell a v) b t cs k :=
  h.of_heap (Below.heap_setCell _ _ _ _ hne)
theorem FB.alloc {w : World} {b : Nat} {t : TypeId} {cs : List Value} {k : Nat} (h : FB w b t cs k) (o : Obj) : FB (w.alloc o) b t cs k :=
  h.of_heap (Below.heap_alloc _ _ _ h.lt)
end Go.Qx
namespace Go.Proofs.Qxb6500370a
open Go.RowKit Go.Qx Go.Qx.Mk
set_option linter.unusedVariables false
set_option linter.unusedSimpArgs false

/-- A model's word: five ints and the printed form. -/
def mwc (l : List Int) : List Value := ic (fw l) ++ [.string (str (txt l))]
def mzc : List Value := [.int .i64 0, .int .i64 0, .int .i64 0, .int .i64 0, .int .i64 0, .string ⟨#[]⟩]
def mparseC (s : ByteArray) : List Value := if (parseP s).2 = 0 then mwc (parseP s).1 else mzc
theorem und31' : Try.prog.underlying 31 = some (.slice 5) := by kernel_rfl
theorem conv_bytes (W : World) (s : ByteArray) : ∃ sp cap, (convert 9 31 (.string s)).run Try.prog W = .ok (.slice (some ⟨W.heap.size, 0, none⟩) s.size cap) (W.drew.alloc (.cells (s.data.toList.map bv ++ sp).toArray 5 ((s.data.toList.map bv ++ sp).length, (s.data.toList.map bv ++ sp).length + 1))) := by
  refine ⟨List.replicate (grownCap W s.size 0 5 - s.size) (.int .u8 0), grownCap W s.size 0 5, ?_⟩
  rw [run_bytes_of_string W 9 31 5 s Try.underlying9 und31' Try.underlying5]
  have e : bytesRow s (grownCap W s.size 0 5) = (s.data.toList.map bv ++ List.replicate (grownCap W s.size 0 5 - s.size) (Value.int .u8 0)).toArray := by
    unfold bytesRow
    apply Array.ext'
    simp [bv, Function.comp_def]
  rw [e]
  simp
def rints (l : List Int) : List Value := l.map (Value.int .i64) ++ [.string ⟨#[]⟩]
structure PR (w wr : World) (s : ByteArray) (k : Nat) (sp : List Value) : Prop where
  q : Quiet w wr
  r : Blk wr w.heap.size 85 mzc
  b : FB wr (w.heap.size + 1) 5 ((psAt s k).b.map bv ++ sp) (s.size + sp.length)
  d : Blk wr (w.heap.size + 1 + 1) 85 (rints (psAt s k).r)
theorem PR.start (w : World) (s : ByteArray) (sp : List Value) : PR w ((((w.alloc (.cells mzc.toArray 85)).drew.alloc (.cells (s.data.toList.map bv ++ sp).toArray 5 ((s.data.toList.map bv ++ sp).length, (s.data.toList.map bv ++ sp).length + 1))).alloc (.cells mzc.toArray 85))) s 0 sp := by
  have h1 : ∀ (W : World) (o : Obj), (W.alloc o).heap.size = W.heap.size + 1 := fun W o => by simp
  have h2 : ∀ (W : World), W.drew.heap.size = W.heap.size := fun W => rfl
  refine ⟨Chg.alloc (Chg.alloc ((Chg.alloc (Chg.refl (fun _ => False) w) _).drew) _) _, (((Blk.new w 85 mzc).drew).alloc _).alloc _, ?_, ?_⟩
  · have : FB ((w.alloc (.cells mzc.toArray 85)).drew.alloc (.cells (s.data.toList.map bv ++ sp).toArray 5 ((s.data.toList.map bv ++ sp).length, (s.data.toList.map bv ++ sp).length + 1))) (w.heap.size + 1) 5 (s.data.toList.map bv ++ sp) (s.data.toList.map bv ++ sp).length := by
      unfold FB
      have e : (w.alloc (.cells mzc.toArray 85)).drew.heap.size = w.heap.size + 1 := by rw [h2, h1]
      rw [← e]
      exact Array.getElem?_push_size
    have hl : (s.data.toList.map bv ++ sp).length = s.size + sp.length := by simp
    rw [hl] at this ⊢
    exact this.alloc _
  · have := Blk.new ((w.alloc (.cells mzc.toArray 85)).drew.alloc (.cells (s.data.toList.map bv ++ sp).toArray 5 ((s.data.toList.map bv ++ sp).length, (s.data.toList.map bv ++ sp).length + 1))) 85 mzc
    rw [h1, h2, h1] at this
    exact this

theorem Blk.zero6 {w : World} {b : Nat} (h : Blk w b 85 mzc) : Blk ((((((w.setCell ⟨b, 0, none⟩ (.int .i64 0)).setCell ⟨b, 1, none⟩ (.int .i64 0)).setCell ⟨b, 2, none⟩ (.int .i64 0)).setCell ⟨b, 3, none⟩ (.int .i64 0)).setCell ⟨b, 4, none⟩ (.int .i64 0)).setCell ⟨b, 5, none⟩ (.string ⟨#[]⟩)) b 85 mzc :=
  (((((h.set 0 _).set 1 _).set 2 _).set 3 _).set 4 _).set 5 _
theorem quiet6 {w w' : World} (h : Quiet w w') (a b c d e f : Value) : Quiet w ((((((w'.setCell ⟨w.heap.size, 0, none⟩ a).setCell ⟨w.heap.size, 1, none⟩ b).setCell ⟨w.heap.size, 2, none⟩ c).setCell ⟨w.heap.size, 3, none⟩ d).setCell ⟨w.heap.size, 4, none⟩ e).setCell ⟨w.heap.size, 5, none⟩ f) :=
  (((((h.setCell (.inr (Nat.le_refl _)) _).setCell (.inr (Nat.le_refl _)) _).setCell (.inr (Nat.le_refl _)) _).setCell (.inr (Nat.le_refl _)) _).setCell (.inr (Nat.le_refl _)) _).setCell (.inr (Nat.le_refl _)) _
theorem zfacts6 {w : World} {b : Nat} (h : Blk w b 85 mzc) : (w.cell? ⟨b, 0, none⟩ = some (.int .i64 0) ∧ w.cell? ⟨b, 1, none⟩ = some (.int .i64 0) ∧ w.cell? ⟨b, 2, none⟩ = some (.int .i64 0) ∧ w.cell? ⟨b, 3, none⟩ = some (.int .i64 0) ∧ w.cell? ⟨b, 4, none⟩ = some (.int .i64 0) ∧ w.cell? ⟨b, 5, none⟩ = some (.string ⟨#[]⟩)) ∧
    w.frozen? ⟨b, 0, none⟩ = false ∧ w.frozen? ⟨b, 1, none⟩ = false ∧ w.frozen? ⟨b, 2, none⟩ = false ∧ w.frozen? ⟨b, 3, none⟩ = false ∧ w.frozen? ⟨b, 4, none⟩ = false ∧ w.frozen? ⟨b, 5, none⟩ = false :=
  ⟨⟨h.cell 0, h.cell 1, h.cell 2, h.cell 3, h.cell 4, h.cell 5⟩, h.frozen 0, h.frozen 1, h.frozen 2, h.frozen 3, h.frozen 4, h.frozen 5⟩
theorem PR.skip {w wr : World} {s : ByteArray} {k : Nat} {sp : List Value} (A : PR w wr s k sp) (h : fold (decP s (psAt s k).i).1 < 0 ∨ ¬ k < 5) : PR w wr s (k + 1) sp := by
  have e : (psAt s (k + 1)).b = (psAt s k).b ∧ (psAt s (k + 1)).r = (psAt s k).r := by
    show (psStep s k (psAt s k)).b = _ ∧ (psStep s k (psAt s k)).r = _
    unfold psStep
    by_cases h1 : fold ((decP s (psAt s k).i).1 : Int) < 0
    · rw [if_pos h1]; exact ⟨rfl, rfl⟩
    · rw [if_neg h1, if_neg (by rcases h with h | h; exact absurd h h1; exact h)]; exact ⟨rfl, rfl⟩
  refine ⟨A.q, A.r, ?_, ?_⟩
  · rw [e.1]; exact A.b
  · rw [e.2]; exact A.d
theorem PR.put {w wr : World} {s : ByteArray} {k : Nat} {sp : List Value} (A : PR w wr s k sp) (went : Went s k) (hi : (psAt s k).i < s.size) (h : ¬ fold (decP s (psAt s k).i).1 < 0) (hk : k < 5) :
    PR w ((wr.setCell ⟨w.heap.size + 1 + 1, k, none⟩ (.int .i64 (fold (decP s (psAt s k).i).1))).setCell ⟨w.heap.size + 1, (psAt s k).i, none⟩ (bv (newB s (psAt s k).i))) s (k + 1) sp := by
  have e : (psAt s (k + 1)).b = (psAt s k).b.set (psAt s k).i (newB s (psAt s k).i) ∧ (psAt s (k + 1)).r = (psAt s k).r.set k (fold (decP s (psAt s k).i).1) := by
    show (psStep s k (psAt s k)).b = _ ∧ (psStep s k (psAt s k)).r = _
    unfold psStep
    rw [if_neg h, if_pos hk]; exact ⟨rfl, rfl⟩
  obtain ⟨_, hb, hr⟩ := ps_drop s k went
  refine ⟨(A.q.setCell (p := ⟨w.heap.size + 1 + 1, k, none⟩) (.inr (by show _ ≤ w.heap.size + 1 + 1; omega)) _).setCell (p := ⟨w.heap.size + 1, (psAt s k).i, none⟩) (.inr (by show _ ≤ w.heap.size + 1; omega)) _, ?_, ?_, ?_⟩
  · exact (A.r.set_other (by show w.heap.size ≠ w.heap.size + 1 + 1; omega) _).set_other (by show w.heap.size ≠ w.heap.size + 1; omega) _
  · rw [e.1]
    have h2 := (A.b.set_other (a := ⟨w.heap.size + 1 + 1, k, none⟩) (by show w.heap.size + 1 ≠ w.heap.size + 1 + 1; omega) (.int .i64 (fold (decP s (psAt s k).i).1))).set (psAt s k).i (bv (newB s (psAt s k).i))
    rw [List.set_append_left _ _ (by simp [hb]; exact hi)] at h2
    rw [List.map_set]
    exact h2
  · rw [e.2]
    have h2 := (A.d.set k (.int .i64 (fold (decP s (psAt s k).i).1))).set_other (a := ⟨w.heap.size + 1, (psAt s k).i, none⟩) (by show w.heap.size + 1 + 1 ≠ w.heap.size + 1; omega) (bv (newB s (psAt s k).i))
    unfold rints at h2 ⊢
    rw [List.set_append_left _ _ (by simp [hr]; exact hk)] at h2
    rw [List.map_set]
    exact h2
theorem ps_byte (s : ByteArray) (k : Nat) (went : Went s k) (hi : (psAt s k).i < s.size) (sp : List Value) : ((psAt s k).b.map bv ++ sp)[(psAt s k).i]? = some (.int .u8 (byt s (psAt s k).i : Int)) := by
  obtain ⟨hd, hb, hr⟩ := ps_drop s k went
  rw [List.getElem?_append_left (by simp [hb]; exact hi), List.getElem?_map]
  have h1 : (psAt s k).b[(psAt s k).i]? = some (UInt8.ofNat (byt s (psAt s k).i)) := by
    have h2 : ((psAt s k).b.drop (psAt s k).i)[0]? = some (UInt8.ofNat (byt s (psAt s k).i)) := by
      rw [hd, data_drop s _ hi]; rfl
    rwa [List.getElem?_drop, Nat.add_zero] at h2
  rw [h1]
  show some (Value.int .u8 ((UInt8.ofNat (byt s (psAt s k).i)).toNat : Int)) = _
  rw [UInt8.toNat_ofNat_of_lt' (byt_lt s _)]
theorem newB_val (s : ByteArray) (i : Nat) (h : byt s i + (fold (decP s i).1 - (decP s i).1).toNat < 256) (h0 : 0 ≤ fold (decP s i).1 - (decP s i).1) : bv (newB s i) = .int .u8 ((byt s i : Int) + (fold (decP s i).1 - (decP s i).1)) := by
  unfold bv newB
  rw [UInt8.toNat_ofNat_of_lt' h]
  congr 1
  omega
theorem ps_next_e (s : ByteArray) (k : Nat) : (psAt s (k + 1)).e = if fold (decP s (psAt s k).i).1 < 0 then 4 else (psAt s k).e := by
  show (psStep s k (psAt s k)).e = _
  unfold psStep
  repeat' split
  all_goals rfl
theorem wrap64_small (x : Int) (h1 : -9223372036854775808 ≤ x) (h2 : x ≤ 9223372036854775807) : wrap64 x = x := by unfold wrap64; omega
theorem u8_small (x : Int) (h1 : 0 ≤ x) (h2 : x < 256) : IntKind.u8.wrap x = x := by
  show x % 256 = x; omega
theorem meas41 {ii wd : Nat} (h : 41 - (ii + wd) < 41 - ii) : 41 - (intOf (Value.int .i64 ((ii : Int) + (wd : Int)))).toNat < 41 - (intOf (Value.int .i64 (ii : Int))).toNat := by
  show 41 - ((ii : Int) + (wd : Int)).toNat < 41 - (ii : Int).toNat
  omega
theorem Went.next {s : ByteArray} {k : Nat} (h : Went s k) (hi : (psAt s k).i < s.size) (hz : (decP s (psAt s k).i).2 ≠ 0) : Went s (k + 1) := by
  intro j hj
  by_cases e : j = k
  · subst e; exact ⟨hi, hz⟩
  · exact h j (by omega)

set_option maxHeartbeats 4000000 in
set_option maxRecDepth 100000 in
theorem mparse_any (w : World) (s : ByteArray) (hs : s.size ≤ maxLen) :
    Calls Try.prog 51 #[.string s] w fun e w' => e = .returned (.tuple #[.agg (mparseC s).toArray, .int .i64 (parseP s).2]) ∧ Quiet w w' := by
  unfold maxLen at hs
  by_cases h40 : 40 < s.size
  · have h40' : (40 : Int) < s.size := by omega
    have hp := parse_long s h40
    have fin : Hid (mparseC s = mzc ∧ (parseP s).2 = 1) := ⟨by unfold mparseC; rw [hp]; rfl, by rw [hp]⟩
    have bz : Blk (w.alloc (.cells mzc.toArray 85)) w.heap.size 85 mzc := Blk.new w 85 mzc
    clear hp
    go_enter Try.func51, Try.ntmps51
    go_wp2
    exact bodyPost_ret (v := .tuple #[.agg mzc.toArray, .int .i64 1]) (results_blk_tmp (u := 85) (cs := mzc) Try.results51 rfl Try.isAgg85 Try.sizeOf85 bz) rfl ⟨by rw [(unhide fin).1, (unhide fin).2], (Chg.refl _ _).alloc _⟩
  · have h40' : ¬ (40 : Int) < s.size := by omega
    obtain ⟨sp, cap, hcv⟩ := conv_bytes (w.alloc (.cells mzc.toArray 85)) s
    have S0 := PR.start w s sp
    rw [show (w.alloc (.cells mzc.toArray 85)).heap.size = w.heap.size + 1 by simp] at hcv
    obtain ⟨W1, hW1⟩ : ∃ W, (w.alloc (.cells mzc.toArray 85)).drew.alloc (.cells (s.data.toList.map bv ++ sp).toArray 5 ((s.data.toList.map bv ++ sp).length, (s.data.toList.map bv ++ sp).length + 1)) = W := ⟨_, rfl⟩
    have hs1 : W1.heap.size = w.heap.size + 1 + 1 := by rw [← hW1]; simp
    rw [hW1] at hcv S0
    rw [show mzc.toArray = #[Value.int .i64 0, Value.int .i64 0, Value.int .i64 0, Value.int .i64 0, Value.int .i64 0, Value.string ⟨#[]⟩] from rfl] at hcv S0
    have S0H := hide S0
    clear S0 hW1
    go_enter Try.func51, Try.ntmps51
    go_wp2
    clear hcv hs1
    go_loopw [6, 7, 8] (fun n e i wr => ∃ k : Nat, Went s k ∧ n = .int .i64 (k : Int) ∧ e = .int .i64 (psAt s k).e ∧ i = .int .i64 ((psAt s k).i : Int) ∧ PR w wr s k sp) (fun _ _ i _ => 41 - (intOf i).toNat)
    case atStart => exact ⟨0, fun j hj => absurd hj (by omega), rfl, rfl, rfl, unhide S0H⟩
    case round =>
      clear S0H
      obtain ⟨k, went, rfl, rfl, rfl, A⟩ := hrel
      obtain ⟨hki, his, _, _⟩ := went_law s k went
      by_cases hlt : (psAt s k).i < s.size
      · have g1 : ((psAt s k).i : Int) < (s.size : Int) := by omega
        have hdec := hide (dec_all wr s (psAt s k).i hlt (by omega))
        unfold decV at hdec
        by_cases hz : (decP s (psAt s k).i).2 = 0
        · have hp := parse_bad s k (by omega) went hlt hz
          have fin : Hid (mparseC s = mzc ∧ (parseP s).2 = 2) := ⟨by unfold mparseC; rw [hp]; rfl, by rw [hp]⟩
          rw [hz] at hdec
          obtain ⟨⟨z0, z1, z2, z3, z4, z5⟩, f0, f1, f2, f3, f4, f5⟩ := zfacts6 A.r
          have AH := hide A
          clear A hp hz went hlt hki his
          generalize (decP s (psAt s k).i).1 = cc at *
          generalize (psAt s k).i = ii at *
          go_wp2_with fail
          refine (unhide hdec).mono ?_
          clear hdec
          rintro e wx ⟨rfl, rfl⟩
          go_wp2
          exact bodyPost_ret (v := .tuple #[.agg mzc.toArray, .int .i64 2]) (results_blk_tmp (u := 85) (cs := mzc) Try.results51 rfl Try.isAgg85 Try.sizeOf85 (Blk.zero6 (unhide AH).r)) rfl ⟨by rw [(unhide fin).1, (unhide fin).2], quiet6 (unhide AH).q _ _ _ _ _ _⟩
        · have hd4 := decP_w4 s (psAt s k).i
          have hle := decP_le s (psAt s k).i hlt
          have hfo := hide (fold_any wr (decP s (psAt s k).i).1)
          have wi : wrap64 (((psAt s k).i : Int) + ((decP s (psAt s k).i).2 : Int)) = ((psAt s k).i : Int) + ((decP s (psAt s k).i).2 : Int) := by
            have := wrap_small ((psAt s k).i + (decP s (psAt s k).i).2) (by omega)
            rwa [Int.natCast_add] at this
          have wk : wrap64 ((k : Int) + 1) = (k : Int) + 1 := wrap_small (k + 1) (by omega)
          have hzb : (((decP s (psAt s k).i).2 : Int) == 0) = false := by rw [beq_eq_false_iff_ne]; omega
          have went1 := hide (went.next hlt hz)
          have hpi := hide (ps_i s k)
          have hpe := ps_next_e s k
          have hms : Hid (41 - ((psAt s k).i + (decP s (psAt s k).i).2) < 41 - (psAt s k).i) := by show _ < _; omega
          by_cases hf : fold ((decP s (psAt s k).i).1 : Int) < 0
          · rw [if_pos hf] at hpe
            have A1 := hide (A.skip (.inl hf))
            have hpeH := hide hpe
            clear A went hz hki his hlt hd4 hle hpe
            generalize (decP s (psAt s k).i).1 = cc at *
            generalize (decP s (psAt s k).i).2 = wd at *
            generalize (psAt s k).i = ii at *
            go_wp2_with fail
            refine (unhide hdec).mono ?_
            clear hdec
            rintro e wx ⟨rfl, rfl⟩
            go_wp2_with fail
            refine (unhide hfo).mono ?_
            clear hfo
            rintro e wx ⟨rfl, rfl⟩
            go_wp2
            go_roundw
            case rel => exact ⟨k + 1, unhide went1, by simp; try exact wk, by rw [unhide hpeH]; try rfl, by rw [unhide hpi]; simp; try exact wi, unhide A1⟩
            case measure =>
              have h := unhide hms
              first | exact meas41 h | (rw [wi]; exact meas41 h)
          · rw [if_neg hf] at hpe
            have hpeH := hide hpe
            by_cases hk5 : k < 5
            · have A1 := hide (A.put went hlt hf hk5)
              obtain ⟨_, _, _, n4, n5, n6⟩ := enc_letter s _ hlt hz hf
              have hnv := newB_val s _ n4 n5
              rw [hnv] at A1
              have cB := (A.b.cell (psAt s k).i).trans (ps_byte s k went hlt sp)
              have fB := A.b.frozen (psAt s k).i (by omega)
              have hr5 := (ps_drop s k went).2.2
              obtain ⟨v0, hv0⟩ : ∃ v, (rints (psAt s k).r)[k]? = some v := ⟨_, List.getElem?_eq_getElem (by unfold rints; simp; omega)⟩
              have cD := (A.d.cell k).trans hv0
              have fD := A.d.frozen k
              have w1 : wrap64 (fold (decP s (psAt s k).i).1 - (decP s (psAt s k).i).1) = fold (decP s (psAt s k).i).1 - (decP s (psAt s k).i).1 := wrap64_small _ (by omega) (by omega)
              have w2 : IntKind.u8.wrap (fold (decP s (psAt s k).i).1 - (decP s (psAt s k).i).1) = fold (decP s (psAt s k).i).1 - (decP s (psAt s k).i).1 := u8_small _ n5 (by omega)
              have w3 : IntKind.u8.wrap ((byt s (psAt s k).i : Int) + (fold (decP s (psAt s k).i).1 - (decP s (psAt s k).i).1)) = (byt s (psAt s k).i : Int) + (fold (decP s (psAt s k).i).1 - (decP s (psAt s k).i).1) := u8_small _ (by omega) (by omega)
              have j0 : (0 : Int) ≤ (k : Int) := by omega
              have j1 : (k : Int) < 5 := by omega
              have i0 : (0 : Int) ≤ ((psAt s k).i : Int) := by omega
              clear A went hz hki his hlt hd4 hle hpe hnv n4 n5 n6 hr5 hv0
              generalize byt s (psAt s k).i = X at *
              generalize (decP s (psAt s k).i).1 = cc at *
              generalize (decP s (psAt s k).i).2 = wd at *
              generalize (psAt s k).i = ii at *
              generalize fold (cc : Int) = ff at *
              go_wp2_with fail
              refine (unhide hdec).mono ?_
              clear hdec
              rintro e wx ⟨rfl, rfl⟩
              go_wp2_with fail
              refine (unhide hfo).mono ?_
              clear hfo
              rintro e wx ⟨rfl, rfl⟩
              go_wp2
              go_roundw
              case rel => exact ⟨k + 1, unhide went1, by simp; try exact wk, by rw [unhide hpeH]; try rfl, by rw [unhide hpi]; simp; try exact wi, unhide A1⟩
              case measure =>
                have h := unhide hms
                first | exact meas41 h | (rw [wi]; exact meas41 h)
            · have A1 := hide (A.skip (.inr hk5))
              have j1 : ¬ (k : Int) < 5 := by omega
              clear A went hz hki his hlt hd4 hle hpe
              generalize (decP s (psAt s k).i).1 = cc at *
              generalize (decP s (psAt s k).i).2 = wd at *
              generalize (psAt s k).i = ii at *
              go_wp2_with fail
              refine (unhide hdec).mono ?_
              clear hdec
              rintro e wx ⟨rfl, rfl⟩
              go_wp2_with fail
              refine (unhide hfo).mono ?_
              clear hfo
              rintro e wx ⟨rfl, rfl⟩
              go_wp2
              go_roundw
              case rel => exact ⟨k + 1, unhide went1, by simp; try exact wk, by rw [unhide hpeH]; try rfl, by rw [unhide hpi]; simp; try exact wi, unhide A1⟩
              case measure =>
                have h := unhide hms
                first | exact meas41 h | (rw [wi]; exact meas41 h)
      · have g1 : ¬ ((psAt s k).i : Int) < (s.size : Int) := by omega
        obtain ⟨p1, p2, p3⟩ := parse_end s k (by omega) went hlt
        have hb5 := (ps_drop s k went).2.1
        have hr5 := (ps_drop s k went).2.2
        obtain ⟨⟨z0, z1, z2, z3, z4, z5⟩, f0, f1, f2, f3, f4, f5⟩ := zfacts6 A.r
        by_cases hk5 : k = 5
        · by_cases he : (psAt s k).e = 0
          · obtain ⟨p4, p5⟩ := p3 hk5 he
            have fin : Hid (mparseC s = mwc (psAt s k).r ∧ (parseP s).2 = 0) := ⟨by unfold mparseC; rw [p4, if_pos rfl], by rw [p4]⟩
            have hcv : (convert 31 9 (.slice (some ⟨w.heap.size + 1, 0, none⟩) s.size cap)).run Try.prog wr = .ok (.string (str (txt (psAt s k).r))) wr :=
              run_str_of_cells (P := Try.prog) wr 31 5 und31' Try.underlying5 (w.heap.size + 1) 0 s.size cap (txt (psAt s k).r) (by rw [← p5]; exact hb5) (fun i hi => by
                rw [Nat.zero_add, A.b.cell i, p5, List.getElem?_append_left (by rw [List.length_map, ← p5, hb5]; exact hi), List.getElem?_map]) 9 Try.underlying9
            rw [he]
            have AH := hide A
            have kg : ((k : Int) != 5) = false := by subst hk5; rfl
            have DB := A.d
            clear p1 p2 p3 p4 p5 hk5 he went hki his hlt A hb5
            generalize hR : (psAt s k).r = rr at *
            clear hR
            match rr, hr5 with
            | [q0, q1, q2, q3, q4], _ =>
              have e0 : wr.cell? ⟨w.heap.size + 1 + 1, 0, none⟩ = some (.int .i64 q0) := DB.cell 0
              have e1 : wr.cell? ⟨w.heap.size + 1 + 1, 1, none⟩ = some (.int .i64 q1) := DB.cell 1
              have e2 : wr.cell? ⟨w.heap.size + 1 + 1, 2, none⟩ = some (.int .i64 q2) := DB.cell 2
              have e3 : wr.cell? ⟨w.heap.size + 1 + 1, 3, none⟩ = some (.int .i64 q3) := DB.cell 3
              have e4 : wr.cell? ⟨w.heap.size + 1 + 1, 4, none⟩ = some (.int .i64 q4) := DB.cell 4
              have e5 : wr.cell? ⟨w.heap.size + 1 + 1, 5, none⟩ = some (.string ⟨#[]⟩) := DB.cell 5
              have g5 := DB.frozen 5
              have DBH := hide DB
              clear DB
              have hT : Hid (mwc [q0, q1, q2, q3, q4] = [.int .i64 q0, .int .i64 q1, .int .i64 q2, .int .i64 q3, .int .i64 q4, .string (str (txt [q0, q1, q2, q3, q4]))]) := rfl
              generalize str (txt [q0, q1, q2, q3, q4]) = TT at *
              generalize (psAt s k).i = ii at *
              go_wp2
              have A := unhide AH
              have B0 := A.r.set_other (a := ⟨w.heap.size + 1 + 1, 5, none⟩) (by show w.heap.size ≠ w.heap.size + 1 + 1; omega) (.string TT)
              have B1 := (((((B0.set 0 (.int .i64 q0)).set 1 (.int .i64 q1)).set 2 (.int .i64 q2)).set 3 (.int .i64 q3)).set 4 (.int .i64 q4)).set 5 (.string TT)
              exact bodyPost_ret (v := .tuple #[.agg (List.toArray [.int .i64 q0, .int .i64 q1, .int .i64 q2, .int .i64 q3, .int .i64 q4, .string TT]), .int .i64 0]) (results_blk_tmp (u := 85) (cs := [.int .i64 q0, .int .i64 q1, .int .i64 q2, .int .i64 q3, .int .i64 q4, .string TT]) Try.results51 rfl Try.isAgg85 Try.sizeOf85 B1) rfl ⟨by rw [(unhide fin).1, (unhide fin).2, unhide hT], quiet6 (A.q.setCell (p := ⟨w.heap.size + 1 + 1, 5, none⟩) (.inr (by show _ ≤ w.heap.size + 1 + 1; omega)) _) _ _ _ _ _ _⟩
          · have he4 : (psAt s k).e = 4 := by
              have h := ps_bad s k
              rw [h] at he ⊢
              by_cases hx : (cps s k).any (fun c => decide (fold c < 0)) = true
              · rw [if_pos hx]
              · rw [if_neg hx] at he; exact absurd rfl he
            have hp := p2 hk5 he
            have fin : Hid (mparseC s = mzc ∧ (parseP s).2 = 4) := ⟨by unfold mparseC; rw [hp, he4]; rfl, by rw [hp, he4]⟩
            rw [he4]
            have AH := hide A
            have kg : ((k : Int) != 5) = false := by subst hk5; rfl
            clear p1 p2 p3 hk5 he went hki his hlt A hb5 hp he4 hr5
            generalize (psAt s k).i = ii at *
            go_wp2
            exact bodyPost_ret (v := .tuple #[.agg mzc.toArray, .int .i64 4]) (results_blk_tmp (u := 85) (cs := mzc) Try.results51 rfl Try.isAgg85 Try.sizeOf85 (Blk.zero6 (unhide AH).r)) rfl ⟨by rw [(unhide fin).1, (unhide fin).2], quiet6 (unhide AH).q _ _ _ _ _ _⟩
        · have hp := p1 hk5
          have fin : Hid (mparseC s = mzc ∧ (parseP s).2 = 3) := ⟨by unfold mparseC; rw [hp]; rfl, by rw [hp]⟩
          have AH := hide A
          have kg : ((k : Int) != 5) = true := by simp; omega
          clear p1 p2 p3 hk5 went hki his hlt A hb5 hp hr5
          generalize (psAt s k).i = ii at *
          generalize (psAt s k).e = ee at *
          go_wp2
          exact bodyPost_ret (v := .tuple #[.agg mzc.toArray, .int .i64 3]) (results_blk_tmp (u := 85) (cs := mzc) Try.results51 rfl Try.isAgg85 Try.sizeOf85 (Blk.zero6 (unhide AH).r)) rfl ⟨by rw [(unhide fin).1, (unhide fin).2], quiet6 (unhide AH).q _ _ _ _ _ _⟩
end Go.Proofs.Qxb6500370a
