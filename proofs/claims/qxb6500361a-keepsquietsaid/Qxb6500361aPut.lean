/-
  (*List).Put.
-/
import Derived.Test.Qxb6500361aFind
import Derived.Test.Qxb6500361aCoin
import Derived.Test.Qxb6500361aLink
namespace Go.Proofs.Qxb6500361a
open Go.RowKit Go.Qx
set_option linter.unusedSimpArgs false
set_option linter.unusedVariables false

theorem put_long (w : World) (l : Nat) (k : Int) (v : ByteArray) (hv : 8 < v.size) (hm : v.size ≤ maxLen) :
    Calls Try.prog 16 #[ptr l, .int .i64 k, .string v] w fun e w' => e = .returned (.int .i64 1) ∧ w' = w := by
  unfold ptr maxLen at *
  go_enter Try.func16, Try.ntmps16
  go_wp2
  go_ret
  exact ⟨rfl, rfl⟩

set_option maxHeartbeats 1000000 in
theorem put_hit (w : World) (c l hd : Nat) (s : ByteArray) (pre suf : List Nd) (d : Nd) (top : Nat) (v : ByteArray) (hv : v.size ≤ 8) (r : Rep w c l hd s (pre ++ d :: suf) top)
    (hpre : ∀ x ∈ pre, x.key < d.key) (hsuf : ∀ x ∈ suf, d.key ≤ x.key) :
    Calls Try.prog 16 #[ptr l, .int .i64 d.key, .string v] w fun e w' => e = .returned (.int .i64 0) ∧ Chg (own l hd (pre ++ d :: suf)) w w' ∧ Rep w' c l hd s (pre ++ { d with val := v } :: suf) top := by
  have h8 : (v.size : Int) ≤ 8 := by omega
  have hn0 : nxt 0 (d :: suf) = .pointer (some ⟨d.addr, 0, none⟩) := nxt_some 0 [] d suf (by simp) (r.high d (by simp)).1
  unfold ptr
  go_enter Try.func16, Try.ntmps16
  go_wp2_with fail
  refine (find_fresh w c l hd s pre (d :: suf) top d.key r hpre (fun x hx => by rcases List.mem_cons.1 hx with rfl | h; omega; exact hsuf x h)).mono ?_
  rintro e w1 ⟨rfl, hq, hlt, hpb⟩
  have r1 := r.quiet hq
  rw [hn0]
  clear hn0
  have hb := r1.node pre d suf rfl
  have ck := r1.key_at (d := d) (by simp)
  have hf := hb.frozen 1
  go_wp2
  go_ret
  refine ⟨rfl, ?_, ?_⟩
  · exact (hq.mono (fun _ _ h => h.elim)).setCell (.inl (.inr (.inr ⟨d, by simp, rfl⟩))) _
  · exact r1.set_val v hv

/-- The test behind find: no node has the key k. -/
theorem nxt0_miss (w : World) (c l hd : Nat) (s : ByteArray) (pre suf : List Nd) (top : Nat) (k : Int) (r : Rep w c l hd s (pre ++ suf) top) (hsuf : ∀ d ∈ suf, k < d.key) :
    nxt 0 suf = .pointer none ∨ ∃ d ∈ suf, nxt 0 suf = .pointer (some ⟨d.addr, 0, none⟩) ∧ (d.key == k) = false := by
  cases suf with
  | nil => exact .inl rfl
  | cons d suf =>
    right
    refine ⟨d, by simp, nxt_some 0 [] d suf (by simp) (r.high d (by simp)).1, ?_⟩
    have := hsuf d (by simp)
    rw [beq_eq_false_iff_ne]; omega

set_option maxHeartbeats 1000000 in
theorem put_full (w : World) (c l hd : Nat) (s : ByteArray) (pre suf : List Nd) (top : Nat) (k : Int) (v : ByteArray) (hv : v.size ≤ 8) (r : Rep w c l hd s (pre ++ suf) top)
    (hpre : ∀ x ∈ pre, x.key < k) (hsuf : ∀ x ∈ suf, k < x.key) (hfull : 12 ≤ (pre ++ suf).length) :
    Calls Try.prog 16 #[ptr l, .int .i64 k, .string v] w fun e w' => e = .returned (.int .i64 2) ∧ Quiet w w' := by
  have h8 : (v.size : Int) ≤ 8 := by omega
  unfold ptr
  go_enter Try.func16, Try.ntmps16
  go_wp2_with fail
  refine (find_fresh w c l hd s pre suf top k r hpre (fun x hx => by have := hsuf x hx; omega)).mono ?_
  rintro e w1 ⟨rfl, hq, hlt, hpb⟩
  have r1 := r.quiet hq
  have c3 := r1.list.cell 3
  generalize hN : (pre ++ suf).length = N at c3 hfull
  have hNH := hide hN
  clear hN
  simp only [List.getElem?_cons_succ, List.getElem?_cons_zero] at c3
  have hN' : (12 : Int) ≤ (N : Int) := by omega
  rcases nxt0_miss w c l hd s pre suf top k r hsuf with hn | ⟨d, hd', hn, hk⟩
  · rw [hn]
    clear hn
    go_wp2
    go_ret
    exact ⟨rfl, hq⟩
  · rw [hn]
    clear hn
    have ck := r1.key_at (d := d) (by simp [hd'])
    go_wp2
    go_ret
    exact ⟨rfl, hq⟩

theorem Rep.set_coin {w w' : World} {c l hd : Nat} {s : ByteArray} {nds : List Nd} {top : Nat} (r : Rep w c l hd s nds top) (h : Chg (· = c) w w') (t : ByteArray) (hb : Blk w' c 72 [.string t]) (ht : t.size ≤ 32) :
    Rep w' c l hd t nds top := by
  have hn := r.nodup
  simp only [List.nodup_cons, List.mem_cons, not_or, List.mem_map, not_exists, not_and] at hn
  obtain ⟨⟨h1, h2, h3⟩, _⟩ := hn
  exact { r with coin := hb, list := h.blk r.list (Ne.symm h1), head := h.blk r.head (Ne.symm h2), node := fun a d b e => h.blk (r.node a d b e) (h3 d (by rw [e]; simp)), slen := ht }

/-- The fresh node while the levels below j are linked. -/
def freshCells (k : Int) (v : ByteArray) (h : Nat) (suf : List Nd) (j : Nat) : List Value :=
  .int .i64 k :: .string v :: .int .i64 h :: (List.range 8).map fun x => if x < j then nxt x suf else .pointer none

theorem freshCells_set (k : Int) (v : ByteArray) (h : Nat) (suf : List Nd) (j : Nat) (hj : j < 8) : (freshCells k v h suf j).set (3 + j) (nxt j suf) = freshCells k v h suf (j + 1) := by
  unfold freshCells
  exact set_range j hj _ _ _ _ _ _ (by simp) (fun x hx => by
    by_cases h : x < j
    · simp [h, show x < j + 1 by omega]
    · simp [h, show ¬ x < j + 1 by omega])

theorem freshCells_get (k : Int) (v : ByteArray) (h : Nat) (suf : List Nd) (j : Nat) (hj : j < 8) : ∃ x, (freshCells k v h suf j)[3 + j]? = some x := by
  refine ⟨_, List.getElem?_eq_getElem ?_⟩
  simp [freshCells]; omega

theorem freshCells_done (a : Nat) (k : Int) (v : ByteArray) (h : Nat) (suf : List Nd) : freshCells k v h suf h = cellsOf ⟨a, k, v, h⟩ suf := rfl

theorem pathCells_get (hd : Nat) (pre : List Nd) (j : Nat) (hj : j < 8) : (pathCells hd pre)[j]? = some (.pointer (some ⟨pathA hd j pre, 0, none⟩)) := by
  unfold pathCells
  simp [hj, ptr]

set_option maxHeartbeats 2000000 in
theorem put_new (w : World) (c l hd : Nat) (s : ByteArray) (pre suf : List Nd) (top : Nat) (k : Int) (v : ByteArray) (hv : v.size ≤ 8) (hk1 : -9223372036854775808 ≤ k) (hk2 : k ≤ 9223372036854775807) (r : Rep w c l hd s (pre ++ suf) top)
    (hpre : ∀ x ∈ pre, x.key < k) (hsuf : ∀ x ∈ suf, k < x.key) (hroom : (pre ++ suf).length < 12) :
    Calls Try.prog 16 #[ptr l, .int .i64 k, .string v] w fun e w' => e = .returned (.int .i64 0) ∧ Chg (fun b => b = c ∨ own l hd (pre ++ suf) b) w w' ∧
      ∃ a, w.heap.size ≤ a ∧ Rep w' c l hd ⟨(toss 7 s.data.toList).2.toArray⟩ (pre ++ ⟨a, k, v, (toss 7 s.data.toList).1⟩ :: suf) (max top (toss 7 s.data.toList).1) := by
  have h8 : (v.size : Int) ≤ 8 := by omega
  have hT := toss_bounds 7 s.data.toList
  unfold ptr
  go_enter Try.func16, Try.ntmps16
  go_wp2_with fail
  refine (find_fresh w c l hd s pre suf top k r hpre (fun x hx => by have := hsuf x hx; omega)).mono ?_
  rintro e w1 ⟨rfl, hq, hlt, hpb⟩
  have r1 := r.quiet hq
  have c3 := r1.list.cell 3
  have c0 := r1.list.cell 0
  have hNlen : ((pre ++ suf).length : Int) < 12 := by omega
  generalize hN : (pre ++ suf).length = N at c3 hNlen
  have hNH := hide hN
  clear hN
  simp only [List.getElem?_cons_succ, List.getElem?_cons_zero, ptr] at c3 c0
  have hn : nxt 0 suf = .pointer none ∨ ∃ d : Nd, nxt 0 suf = .pointer (some ⟨d.addr, 0, none⟩) ∧ (d.key == k) = false ∧ w1.cell? ⟨d.addr, 0, none⟩ = some (.int .i64 d.key) := by
    rcases nxt0_miss w c l hd s pre suf top k r hsuf with hn | ⟨d, hd', hn, hk⟩
    · exact .inl hn
    · exact .inr ⟨d, hn, hk, (r1.key_at (d := d) (by simp [hd'])).1⟩
  have hs32 : s.data.toList.length ≤ 32 := by have := r.slen; rw [Array.length_toList]; exact this
  have ht1 := r.top1
  have ht8 := r.top8
  rcases hn with hn | ⟨d, hn, hk, ck⟩
  all_goals
    rw [hn]
    clear hn
    go_wp2_with fail
    refine (height_any w1 c s r1.coin r.slen).mono ?_
    rintro e w2 ⟨rfl, hch2, hcoin2⟩
    generalize hTe : toss 7 s.data.toList = T at *
    have hTeH := hide hTe
    clear hTe
    have hT32 : (⟨T.2.toArray⟩ : ByteArray).size ≤ 32 := by show T.2.toArray.size ≤ 32; rw [List.size_toArray]; omega
    have r2 := r1.set_coin hch2 ⟨T.2.toArray⟩ hcoin2 hT32
    have hlist2 := r2.list
    rw [unhide hNH] at hlist2
    have hsz : w.heap.size < w2.heap.size := by have := hch2.size; omega
    go_wp2
    generalize hh : T.1 = h at *
    have hhH := hide hh
    clear hh
    go_loopw [49] (fun i wr => ∃ j : Nat, j ≤ h ∧ i = .int .i64 j ∧ Lk wr hd (fun x => decide (x < j)) pre ⟨w2.heap.size, k, v, h⟩ suf (freshCells k v h suf j) ∧ Chg (fun b => b = c ∨ own l hd (pre ++ suf) b) w wr ∧ Blk wr w.heap.size 51 (pathCells hd pre) ∧ Blk wr c 72 [.string ⟨T.2.toArray⟩] ∧ Blk wr l 55 [ptr c, ptr hd, .int .i64 top, .int .i64 N]) (fun i _ => h - (intOf i).toNat)
    case atStart =>
      have q3 : Quiet w2 (w2.alloc (.cells #[.int .i64 k, .string v, .int .i64 h, .pointer none, .pointer none, .pointer none, .pointer none, .pointer none, .pointer none, .pointer none, .pointer none] 53)) := (Chg.refl _ _).alloc _
      have r3 := r2.quiet q3
      have hfun : (fun x => decide (x < 0)) = (fun _ : Nat => false) := by funext x; simp
      refine ⟨0, Nat.zero_le _, rfl, ?_, ?_, ?_, ?_, ?_⟩
      · rw [hfun]
        exact r3.lk ⟨w2.heap.size, k, v, h⟩ (freshCells k v h suf 0) (Blk.new w2 53 (freshCells k v h suf 0)) (by show w2.heap.size ≠ hd; have := r2.head.lt; omega) (fun d hd => by show d.addr ≠ w2.heap.size; have := r2.addr_lt hd; omega)
      · exact ((Chg.trans' (hq.mono (fun _ _ f => f.elim)) hch2 (fun i _ e => .inl e))).alloc _
      · exact (hch2.blk hpb (by have := r.coin.lt; omega)).alloc _
      · exact hcoin2.alloc _
      · exact hlist2.alloc _
    case round =>
      clear c0 c3
      obtain ⟨j, hj, rfl, hlk, hch, hpath, hcoin, hlist⟩ := hrel
      have hw1 := r.head.lt
      have hNHc := unhide hNH
      have hpo : ∀ j, pathA hd j pre < w.heap.size := by
        intro j
        rcases pathA_own hd j pre with e | ⟨d, hd', e⟩
        · omega
        · have := r.addr_lt (d := d) (by simp [hd']); omega
      have hpown : ∀ j, own l hd (pre ++ suf) (pathA hd j pre) := by
        intro j
        rcases pathA_own hd j pre with e | ⟨d, hd', e⟩
        · exact .inr (.inl e)
        · exact .inr (.inr ⟨d, by simp [hd'], e⟩)
      have hpn := fun j => r.path_ne j
      have hcl := r.coin.lt
      have hll := r.list.lt
      by_cases hlt2 : j < h
      · have hj8 : j < 8 := by omega
        have i1 : (0 : Int) ≤ (j : Int) := by omega
        have i2 : (j : Int) < 8 := by omega
        have i3 : (j : Int) < (h : Int) := by omega
        have c1 := hpath.cell j
        rw [pathCells_get hd pre j hj8] at c1
        obtain ⟨c2, f2⟩ := hlk.path_cell j hj8
        simp only [Nat.lt_irrefl, decide_false, cond_false] at c2
        obtain ⟨pp, hpp⟩ := nxt_ptr j suf
        rw [hpp] at c2
        have hppH := hide hpp
        clear hpp
        obtain ⟨x, hx⟩ := freshCells_get k v h suf j hj8
        have c4 := hlk.node.cell (3 + j)
        rw [hx] at c4
        have f4 := hlk.node.frozen (3 + j)
        simp only at c4 f4
        have hpj := hpo j
        have n1 : pathA hd j pre ≠ w2.heap.size := by omega
        have n2 : w.heap.size ≠ w2.heap.size := by omega
        have n3 : pathA hd j pre ≠ w.heap.size := by omega
        have n4 : w2.heap.size ≠ pathA hd j pre := by omega
        have n5 : w2.heap.size ≠ w.heap.size := by omega
        go_wp2
        go_region_held3 (fun w' => w'.cell? ⟨w.heap.size, j, none⟩ = some (.pointer (some ⟨pathA hd j pre, 0, none⟩)) ∧ w'.cell? ⟨pathA hd j pre, 3 + j, none⟩ = some (.pointer pp)) (go_keep) (fail)
        go_wp2
        go_roundw
        case rel =>
          have h1 := hlk.set_node (3 + j) (nxt j suf)
          rw [freshCells_set k v h suf j hj8, unhide hppH] at h1
          have h2 := h1.step (M := fun x => decide (x < j + 1)) j hj8 (fun x hx => by simp; omega) (ptr w2.heap.size) (by
            simp only [Nat.lt_succ_self, decide_true, cond_true]
            exact (nxt_some j [] ⟨w2.heap.size, k, v, h⟩ suf (by simp) hlt2).symm)
          refine ⟨j + 1, by omega, by go_num, ?_, ?_, ?_, ?_, ?_⟩
          · exact h2.drew
          · exact ((hch.drew).setCell (.inr (by show w.heap.size ≤ w2.heap.size; omega)) _).setCell (.inl (.inr (hpown j))) _
          · exact ((hpath.drew).set_other (by show w.heap.size ≠ w2.heap.size; omega) _).set_other (by show w.heap.size ≠ pathA hd j pre; omega) _
          · exact ((hcoin.drew).set_other (by show c ≠ w2.heap.size; omega) _).set_other (Ne.symm (hpn j).1) _
          · exact ((hlist.drew).set_other (by show l ≠ w2.heap.size; omega) _).set_other (Ne.symm (hpn j).2) _
        case measure => simp [intOf]; omega
      · have hjh : j = h := by omega
        have hjhH := hide hjh
        clear hjh
        have i4 : (h : Int) ≤ (j : Int) := by omega
        have cl2 := hlist.cell
        have fl2 := hlist.frozen
        have fin : ∀ wf, Chg (· = l) wr wf → Blk wf l 55 [ptr c, ptr hd, .int .i64 (max top h : Nat), .int .i64 (N + 1 : Nat)] →
            ∃ a, w.heap.size ≤ a ∧ Rep wf c l hd ⟨T.2.toArray⟩ (pre ++ ⟨a, k, v, h⟩ :: suf) (max top h) := by
          intro wf hwf hlf
          have hjh := unhide hjhH
          subst hjh
          rw [freshCells_done w2.heap.size] at hlk
          have hnn := r.nodup
          simp only [List.nodup_cons, List.mem_cons, not_or, List.mem_map, not_exists, not_and] at hnn
          have hlk' := hlk.of_chg hwf (Ne.symm hnn.2.1.1) (by show w2.heap.size ≠ l; omega) (fun d hd => hnn.2.1.2 d hd)
          refine ⟨w2.heap.size, by omega, ?_⟩
          rw [← unhide hNH] at hlf
          exact r.insert ⟨w2.heap.size, k, v, j⟩ hk1 hk2 hv (by show 1 ≤ j; omega) (by show j ≤ 8; omega) hpre hsuf hroom (by show w.heap.size ≤ w2.heap.size; omega) hT32 (hwf.blk hcoin hnn.1.1) hlf (hlk'.nodes (fun x hx => by simpa using hx))
        have finH := hide fin
        clear fin
        by_cases htop : top < h
        · have i5 : (top : Int) < (h : Int) := by omega
          go_wp2
          go_ret
          rw [unhide hTeH, unhide hhH]
          refine ⟨rfl, (hch.setCell (.inl (.inr (.inl rfl))) _).setCell (.inl (.inr (.inl rfl))) _, unhide finH _ (((Chg.refl (· = l) _).setCell (.inl rfl) _).setCell (.inl rfl) _) ?_⟩
          have := (hlist.set 2 (.int .i64 h)).set 3 (.int .i64 ((N : Int) + 1))
          simp only [List.set_cons_succ, List.set_cons_zero] at this
          rw [show max top h = h by omega]
          exact this
        · have i5 : (h : Int) ≤ (top : Int) := by omega
          go_wp2
          go_ret
          rw [unhide hTeH, unhide hhH]
          refine ⟨rfl, hch.setCell (.inl (.inr (.inl rfl))) _, unhide finH _ ((Chg.refl (· = l) _).setCell (.inl rfl) _) ?_⟩
          have := hlist.set 3 (.int .i64 ((N : Int) + 1))
          simp only [List.set_cons_succ, List.set_cons_zero] at this
          rw [show max top h = top by omega]
          exact this
end Go.Proofs.Qxb6500361a
