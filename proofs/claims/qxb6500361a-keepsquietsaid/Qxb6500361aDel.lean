/-
  Del of the real list.
-/
import Derived.Test.Qxb6500361aGet
namespace Go.Proofs.Qxb6500361a
open Go.RowKit Go.Qx
set_option linter.unusedSimpArgs false
set_option linter.unusedVariables false

theorem del_miss (w : World) (c l hd : Nat) (s : ByteArray) (pre suf : List Nd) (top : Nat) (k : Int) (r : Rep w c l hd s (pre ++ suf) top)
    (hpre : ∀ x ∈ pre, x.key < k) (hsuf : ∀ x ∈ suf, k < x.key) :
    Calls Try.prog 37 #[ptr l, .int .i64 k] w fun e w' => e = .returned (.int .i64 3) ∧ Quiet w w' := by
  unfold ptr
  go_enter Try.func37, Try.ntmps37
  go_wp2_with fail
  refine (find_fresh w c l hd s pre suf top k r hpre (fun x hx => by have := hsuf x hx; omega)).mono ?_
  rintro e w1 ⟨rfl, hq, hlt, hpb⟩
  have r1 := r.quiet hq
  rcases nxt0_miss w c l hd s pre suf top k r hsuf with hn | ⟨d, hd', hn, hk⟩
  · rw [hn]
    clear hn
    go_wp2
    go_ret
    exact ⟨rfl, hq⟩
  · rw [hn]
    clear hn
    have ck := r1.key_at (d := d) (by simp [hd'])
    go_wp2
    go_ret
    exact ⟨rfl, hq⟩

set_option maxHeartbeats 2000000 in
theorem del_hit (w : World) (c l hd : Nat) (s : ByteArray) (pre suf : List Nd) (d : Nd) (top : Nat) (r : Rep w c l hd s (pre ++ d :: suf) top)
    (hpre : ∀ x ∈ pre, x.key < d.key) (hsuf : ∀ x ∈ suf, d.key ≤ x.key) :
    Calls Try.prog 37 #[ptr l, .int .i64 d.key] w fun e w' => e = .returned (.int .i64 0) ∧ Chg (own l hd (pre ++ d :: suf)) w w' ∧ ∃ top', Rep w' c l hd s (pre ++ suf) top' := by
  have hn0 : nxt 0 (d :: suf) = .pointer (some ⟨d.addr, 0, none⟩) := nxt_some 0 [] d suf (by simp) (r.high d (by simp)).1
  have ht1 := r.top1
  have ht8 := r.top8
  have hdh := r.high d (by simp)
  unfold ptr
  go_enter Try.func37, Try.ntmps37
  go_wp2_with fail
  refine (find_fresh w c l hd s pre (d :: suf) top d.key r hpre (fun x hx => by rcases List.mem_cons.1 hx with rfl | h; omega; exact hsuf x h)).mono ?_
  rintro e w1 ⟨rfl, hq, hlt, hpb⟩
  have r1 := r.quiet hq
  rw [hn0]
  clear hn0
  have ck := (r1.key_at (d := d) (by simp)).1
  generalize hN : (pre ++ suf).length = N
  have hN1 : (pre ++ d :: suf).length = N + 1 := by rw [← hN]; simp; omega
  have hlist1 := r1.list
  rw [hN1] at hlist1
  have hN12 : N + 1 ≤ 12 := by rw [← hN1]; exact r.len
  have hNH := hide hN
  clear hN hN1
  go_wp2
  clear ck
  go_loopw [22] (fun i wr => ∃ j : Nat, j ≤ 8 ∧ i = .int .i64 j ∧ Lk wr hd (fun x => decide (j ≤ x)) pre d suf (cellsOf d suf) ∧ Chg (own l hd (pre ++ d :: suf)) w wr ∧ Blk wr w.heap.size 51 (pathCells hd pre) ∧ Blk wr c 72 [.string s] ∧ Blk wr l 55 [ptr c, ptr hd, .int .i64 top, .int .i64 (N + 1 : Nat)]) (fun i _ => 8 - (intOf i).toNat)
  case atStart => exact ⟨0, by omega, rfl, r1.lk_in, hq.chg _, hpb, r1.coin, hlist1⟩
  case round =>
    clear hpb hlist1
    obtain ⟨j, hj, rfl, hlk, hch, hpath, hcoin, hlist⟩ := hrel
    have hpn := r.path_ne (pre := pre) (suf := d :: suf)
    have hcl := r.coin.lt
    have hll := r.list.lt
    have hhl := r.head.lt
    have hpo : ∀ j, pathA hd j pre < w.heap.size := by
      intro j
      rcases pathA_own hd j pre with e | ⟨d, hd', e⟩
      · omega
      · have := r.addr_lt (d := d) (by simp [hd']); omega
    have hpown : ∀ j, own l hd (pre ++ d :: suf) (pathA hd j pre) := by
      intro j
      rcases pathA_own hd j pre with e | ⟨d, hd', e⟩
      · exact .inr (.inl e)
      · exact .inr (.inr ⟨d, by simp [hd'], e⟩)
    by_cases hlt2 : j < 8
    · have i1 : (0 : Int) ≤ (j : Int) := by omega
      have i2 : (j : Int) < 8 := by omega
      have c1 := hpath.cell j
      rw [pathCells_get hd pre j hlt2] at c1
      obtain ⟨c2, f2⟩ := hlk.path_cell j hlt2
      simp only [Nat.le_refl, decide_true, cond_true] at c2
      have hpj := hpo j
      have n3 : pathA hd j pre ≠ w.heap.size := by omega
      by_cases hjd : j < d.h
      · rw [show nxt j (d :: suf) = .pointer (some ⟨d.addr, 0, none⟩) from nxt_some j [] d suf (by simp) hjd] at c2
        obtain ⟨pp, hpp⟩ := nxt_ptr j suf
        have c3 := hlk.node.cell (3 + j)
        rw [cellsOf_at d suf j hlt2 hjd, hpp] at c3
        have hppH := hide hpp
        clear hpp
        have he := run_eql_ptr (P := Try.prog) (w := wr) 50 53 10 Try.underlying50 Try.sizeOf53 hlk.node hlk.node 0 0
        simp only [and_self, decide_true] at he
        have n1 : pathA hd j pre ≠ d.addr := by
          have hn := hlk.nodup
          simp only [List.nodup_cons, List.mem_cons, not_or, List.map_append, List.mem_append, List.mem_map, not_exists, not_and] at hn
          rcases pathA_own hd j pre with e | ⟨x, hx, e⟩
          · rw [e]; exact hn.1.1
          · rw [e]; intro h; exact hn.2.1.1 x hx h
        go_wp2
        go_region_held3 (fun w' => w'.cell? ⟨w.heap.size, j, none⟩ = some (.pointer (some ⟨pathA hd j pre, 0, none⟩)) ∧ w'.cell? ⟨d.addr, 3 + j, none⟩ = some (.pointer pp)) (go_keep) (fail)
        go_wp2
        go_roundw
        case rel =>
          have h2 := hlk.step (M := fun x => decide (j + 1 ≤ x)) j hlt2 (fun x hx => by simp; omega) (.pointer pp) (by
            simp only [show ¬ j + 1 ≤ j by omega, decide_false, cond_false]
            exact (unhide hppH).symm)
          refine ⟨j + 1, by omega, by go_num, h2.drew, ?_, ?_, ?_, ?_⟩
          · exact (hch.drew).setCell (.inl (hpown j)) _
          · exact (hpath.drew).set_other (Ne.symm n3) _
          · exact (hcoin.drew).set_other (Ne.symm (hpn j).1) _
          · exact (hlist.drew).set_other (Ne.symm (hpn j).2) _
        case measure => simp [intOf]; omega
      · have e1 : nxt j (d :: suf) = nxt j suf := by
          have := nxt_none j [d] suf (by simp; omega)
          simpa using this
        rw [e1] at c2
        have hend := hlk.relax (M := fun x => decide (j + 1 ≤ x)) j (by omega) (fun x hx => by simp; omega)
        rcases first_in j suf with hs | ⟨b1, x, b2, hsx, hb1, hxh⟩
        · have e2 := nxt_none j suf [] hs
          simp only [List.append_nil] at e2
          rw [e2, show nxt j [] = .pointer none from rfl] at c2
          have he := run_eql_nil_ptr (P := Try.prog) wr 50 53 Try.underlying50 ⟨d.addr, 0, none⟩
          clear e1 e2
          go_wp2
          go_roundw
          case rel => exact ⟨j + 1, by omega, by go_num, hend, hch, hpath, hcoin, hlist⟩
          case measure => simp [intOf]; omega
        · have e2 := nxt_some j b1 x b2 hb1 hxh
          rw [← hsx] at e2
          rw [e2] at c2
          unfold ptr at c2
          have he := run_eql_ptr (P := Try.prog) (w := wr) 50 53 10 Try.underlying50 Try.sizeOf53 (hlk.sufs b1 x b2 hsx) hlk.node 0 0
          have hne : x.addr ≠ d.addr := by
            have hn := hlk.nodup
            simp only [List.nodup_cons, List.mem_cons, not_or, List.map_append, List.mem_append, List.mem_map, not_exists, not_and] at hn
            exact hn.2.1.2 x (by rw [hsx]; simp)
          simp only [hne, false_and, decide_false] at he
          clear e1 e2 hsx
          go_wp2
          go_roundw
          case rel => exact ⟨j + 1, by omega, by go_num, hend, hch, hpath, hcoin, hlist⟩
          case measure => simp [intOf]; omega
    · have hout := hlk.nodes_out (fun x hx => by simp; omega)
      have cl := hlist.cell
      have fl := hlist.frozen
      have i4 : (8 : Int) ≤ (j : Int) := by omega
      have hend : ∀ wf top', Chg (· = l) wr wf → 1 ≤ top' → top' ≤ 8 → (∀ x ∈ pre ++ suf, x.h ≤ top') → (top' = 1 ∨ ∃ x ∈ pre ++ suf, x.h = top') → Blk wf l 55 [ptr c, ptr hd, .int .i64 top', .int .i64 N] → ∃ top', Rep wf c l hd s (pre ++ suf) top' := by
        intro wf top' hwf h1 h8 hh ht hlf
        have hnn := r.nodup
        simp only [List.nodup_cons, List.mem_cons, not_or, List.mem_map, not_exists, not_and] at hnn
        refine ⟨top', r.remove h1 h8 hh ht (hwf.blk hcoin hnn.1.1) (by rw [unhide hNH]; exact hlf) ⟨hwf.blk hout.1 (Ne.symm hnn.2.1.1), fun a x b e => hwf.blk (hout.2 a x b e) ?_⟩⟩
        refine hnn.2.1.2 x ?_
        have : x ∈ pre ++ suf := by rw [e]; simp
        simp only [List.mem_append, List.mem_cons] at this ⊢
        rcases this with h | h
        · exact .inl h
        · exact .inr (.inr h)
      have hendH := hide hend
      have houtH := hide hout.1
      clear hend hout
      have hnn : hd ≠ l := by
        have hnn := r.nodup
        simp only [List.nodup_cons, List.mem_cons, not_or, List.mem_map, not_exists, not_and] at hnn
        exact Ne.symm hnn.2.1.1
      go_wp2
      have hl3 := hlist.set 3 (.int .i64 N)
      simp only [List.set_cons_succ, List.set_cons_zero] at hl3
      have hch3 : Chg (· = l) wr (wr.setCell ⟨l, 3, none⟩ (.int .i64 N)) := (Chg.refl (· = l) _).setCell (.inl rfl) _
      have hhi0 : ∀ x ∈ pre ++ suf, x.h ≤ top := by
        intro x hx
        refine (r.high x ?_).2
        simp only [List.mem_append, List.mem_cons] at hx ⊢
        rcases hx with h | h
        · exact .inl h
        · exact .inr (.inr h)
      go_loopg [4] top (fun g r0 wf => ∃ t : Nat, t = g ∧ r0 = .int .i64 0 ∧ 1 ≤ t ∧ t ≤ 8 ∧ (∀ x ∈ pre ++ suf, x.h ≤ t) ∧ Chg (· = l) wr wf ∧ Blk wf l 55 [ptr c, ptr hd, .int .i64 t, .int .i64 N])
      case atStart => exact ⟨top, rfl, rfl, ht1, ht8, hhi0, hch3, hl3⟩
      case round =>
        clear cl fl hl3 hch3 hhi0
        obtain ⟨t, rfl, rfl, h1, h8, hh, hchf, hlf⟩ := hrel
        have cl := hlf.cell
        simp only [ptr] at cl
        have fl := hlf.frozen
        have hhead := hchf.blk (unhide houtH) hnn
        by_cases ht : t ≤ 1
        · have hg : decide ((t : Int) ≤ 1) = true := by simp; omega
          go_wp2
          go_quiet (fail)
          go_wp2
          go_ret
          exact ⟨rfl, (Chg.trans' hch hchf (fun i _ e => .inl e)).drewN _, unhide hendH _ t (hchf.drewN _) h1 h8 hh (.inl (by omega)) (hlf.drewN _)⟩
        · have hg : (1 : Int) < (t : Int) := by omega
          have hg2 : decide ((t : Int) ≤ 1) = false := by simp; omega
          obtain ⟨q, rfl⟩ : ∃ q, t = q + 1 := ⟨t - 1, by omega⟩
          have hq8 : q < 8 := by omega
          have eq1 : ((q + 1 : Nat) : Int) - 1 = (q : Int) := by omega
          have i5 : (0 : Int) ≤ (q : Int) := by omega
          have i6 : (q : Int) < 8 := by omega
          have ch := hhead.cell (3 + q)
          rw [headCells_at _ q hq8] at ch
          have e0 : ((q + 1 : Nat) : Int) = (q : Int) + 1 := by omega
          rw [e0] at hlf hg hg2
          rw [e0] at cl
          have e1 : (q : Int) + 1 - 1 = (q : Int) := by omega
          clear eq1 e0
          rcases first_in q (pre ++ suf) with hs | ⟨b1, x, b2, hsx, hb1, hxh⟩
          · have e2 := nxt_none q (pre ++ suf) [] hs
            simp only [List.append_nil] at e2
            rw [e2, show nxt q [] = .pointer none from rfl] at ch
            clear e2
            go_wp2
            go_quiet (fail)
            go_wp2
            go_roundg q
            case measure => omega
            case rel =>
              refine ⟨q, rfl, rfl, by omega, by omega, hs, (hchf.drewN _).setCell (.inl rfl) _, ?_⟩
              exact (hlf.drewN _).set 2 (.int .i64 q)
          · have e2 := nxt_some q b1 x b2 hb1 hxh
            rw [← hsx] at e2
            rw [e2] at ch
            unfold ptr at ch
            have hxm : x ∈ pre ++ suf := by rw [hsx]; simp
            clear e2 hsx
            go_wp2
            go_quiet (fail)
            go_wp2
            go_ret
            refine ⟨rfl, (Chg.trans' hch hchf (fun i _ e => .inl e)).drewN _, unhide hendH _ (q + 1) (hchf.drewN _) h1 h8 hh (.inr ⟨x, hxm, ?_⟩) ?_⟩
            · have := hh x hxm; omega
            · exact hlf.drewN _
end Go.Proofs.Qxb6500361a
