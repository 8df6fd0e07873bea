/-
  KEEPS: read: the bench as its observers show it. (gen8kread.py)
-/
import Derived.Test.Qxb6500368aKPack
import Derived.Test.Qxb6500368aCheck
import Derived.Test.Qxb6500368aMConv
namespace Go.Proofs.Qxb6500368a
open Go.RowKit Go.Qx
set_option linter.unusedVariables false
set_option linter.unusedSimpArgs false

/-- A register as Load would take it. -/
def slLen : Value → Nat
  | .slice _ n _ => n
  | _ => 0
def regS (c : Nat → Int) (n : Nat → Nat) (r : Nat) : ByteArray := str (packL (fun i => c (16 * r + i)) (n r))

def imgC (R : Nat → ByteArray) (s : Int) : List Value := [.string (R 0), .string (R 1), .string (R 2), .int .i64 s]
theorem imgC_get (R : Nat → ByteArray) (s : Int) (r : Nat) (hr : r < 3) : (imgC R s)[r]? = some (.string (R r)) := by
  rcases (by omega : r = 0 ∨ r = 1 ∨ r = 2) with rfl | rfl | rfl <;> rfl
theorem imgC_set (R : Nat → ByteArray) (s : Int) (r : Nat) (hr : r < 3) (z : ByteArray) : (imgC R s).set r (.string z) = imgC (fun q => if q = r then z else R q) s := by
  rcases (by omega : r = 0 ∨ r = 1 ∨ r = 2) with rfl | rfl | rfl <;> rfl
/-- The first r registers read. -/
def upto (R : Nat → ByteArray) (r : Nat) : Nat → ByteArray := fun q => if q < r then R q else ⟨#[]⟩
theorem upto_next (R : Nat → ByteArray) (r : Nat) : (fun q => if q = r then R r else upto R r q) = upto R (r + 1) := by
  funext q
  unfold upto
  by_cases h : q = r
  · subst h; simp
  · rw [if_neg h]
    by_cases h2 : q < r
    · rw [if_pos h2, if_pos (by omega)]
    · rw [if_neg h2, if_neg (by omega)]
theorem imgC_congr {R T : Nat → ByteArray} (s : Int) (h : ∀ r, r < 3 → R r = T r) : imgC R s = imgC T s := by
  unfold imgC
  rw [h 0 (by decide), h 1 (by decide), h 2 (by decide)]

theorem make58r (W : World) : ∃ F : Array Value, (Instr.makeSlice 58 (.int .i64 0) (.int .i64 16)).run Try.prog W = .ok (.slice (some ⟨W.heap.size, 0, none⟩) 0 16) (W.alloc (.cells F 3)) ∧ F.size = 16 := by
  obtain ⟨i, hi, hz0, hz1, hz2⟩ := info_parts info3
  have := run_make (P := Try.prog) W 58 3 i _ Try.underlying58 hi hz0 .i64 .i64 0 16 (by omega) (by omega) (by rw [hz2]; omega) (by omega)
  rw [hz1] at this
  exact ⟨_, this, by rw [size_madeCells]; rfl⟩

theorem atP_in {c : Nat → Int} {n : Nat → Nat} {r j : Nat} (hr : r < 3) (hj : j < n r) : atP c n r j = (c (16 * r + j), 0) := by
  unfold atP
  rw [if_pos (by unfold regP; simp; omega), if_pos (by simpa using hj)]
  rfl
theorem atP_out {c : Nat → Int} {n : Nat → Nat} {r j : Nat} (hr : r < 3) (hj : j = n r) : atP c n r j = (0, 5) := by
  unfold atP
  rw [if_pos (by unfold regP; simp; omega), if_neg (by simp; omega)]

def readPost (w : World) (c : Nat → Int) (n : Nat → Nat) (wk : Nat) (e : Ending) (w' : World) : Prop := e = .returned (.tuple #[.agg (imgC (regS c n) wk).toArray, .bool true]) ∧ Quiet w w'

set_option maxRecDepth 100000 in
set_option maxHeartbeats 8000000 in
theorem read_any (w : World) (x v : Nat) (c : Nat → Int) (n : Nat → Nat) (wk : Nat) (R : Rep w x v c n wk) (I : Inv c n wk) : Calls Try.prog 11 #[ptr x] w (readPost w c n wk) := by
  have RH := hide R
  have IH := hide I
  have hat := hide (fun W (q : Quiet w W) (r j : Int) => at_any W x v c n wk (R.quiet q) I r j)
  have hsp := hide (fun W (q : Quiet w W) => spent_any W x v c n wk (R.quiet q))
  have hck := hide (fun W (q : Quiet w W) => check_any W x v c n wk (R.quiet q) I)
  have Q0 : Hid (Quiet w ((w.alloc (.cells #[.string ⟨#[]⟩, .string ⟨#[]⟩, .string ⟨#[]⟩, .int .i64 0] 29)).alloc (.cells #[.string ⟨#[]⟩, .string ⟨#[]⟩, .string ⟨#[]⟩, .int .i64 0] 29))) := ((Chg.refl _ _).alloc _).alloc _
  have A0 : Hid (Blk ((w.alloc (.cells #[.string ⟨#[]⟩, .string ⟨#[]⟩, .string ⟨#[]⟩, .int .i64 0] 29)).alloc (.cells #[.string ⟨#[]⟩, .string ⟨#[]⟩, .string ⟨#[]⟩, .int .i64 0] 29)) w.heap.size 29 (imgC (upto (regS c n) 0) 0)) := (Blk.new w 29 (imgC (upto (regS c n) 0) 0)).alloc _
  have B0 : Hid (Blk ((w.alloc (.cells #[.string ⟨#[]⟩, .string ⟨#[]⟩, .string ⟨#[]⟩, .int .i64 0] 29)).alloc (.cells #[.string ⟨#[]⟩, .string ⟨#[]⟩, .string ⟨#[]⟩, .int .i64 0] 29)) (w.heap.size + 1) 29 (imgC (upto (regS c n) 0) 0)) := Blk.at_new (cs := imgC (upto (regS c n) 0) 0) (by simp)
  obtain ⟨t0, ht0, hz0, hz1, hz2⟩ := info_parts info3
  have hzs := hide (⟨ht0, hz0, hz1, hz2⟩ : _ ∧ _ ∧ _ ∧ _)
  clear R I ht0 hz0 hz1 hz2
  unfold ptr at *
  unfold readPost
  go_enter Try.func11, Try.ntmps11
  go_wp2
  go_loopw [5] (fun z wr => ∃ r : Nat, r ≤ 3 ∧ z = .int .i64 r ∧ Quiet w wr ∧ Blk wr w.heap.size 29 (imgC (upto (regS c n) 0) 0) ∧ Blk wr (w.heap.size + 1) 29 (imgC (upto (regS c n) r) 0)) (fun z _ => 3 + 1 - (intOf z).toNat)
  case atStart => exact ⟨0, by omega, rfl, unhide Q0, unhide A0, unhide B0⟩
  case round =>
    clear Q0 A0 B0
    obtain ⟨r, hr, rfl, q, BA, BB⟩ := hrel
    by_cases hlt : r < 3
    · have g1 : (r : Int) < 3 := by omega
      obtain ⟨F, hmk, hF⟩ := make58r wr
      have R0 : Hid (Row (wr.alloc (.cells F 3)) 3 1 (.slice (some ⟨wr.heap.size, 0, none⟩) 0 16) 0 (ints .i64 (fun i => c (16 * r + i)) 0)) := by
        have hb := Blk.new wr 3 F.toList
        rw [Array.toArray_toList] at hb
        exact Row.of_blk (xs := []) (spare := F.toList) hb (by simp) (by omega) (by unfold maxLen; omega) (by simp [hF])
      have hat0 := hide (unhide hat (wr.alloc (.cells F 3)) (q.trans ((Chg.refl _ _).alloc _)) r ((0 : Nat) : Int))
      have hn16 := hide ((unhide IH).n r hlt)
      have allH := hide (⟨q, BA, BB⟩ : _ ∧ _ ∧ _)
      have hltH := hide hlt
      have r0 : (0 : Int) ≤ (r : Int) := by omega
      clear q BA BB hlt hr hF
      generalize wr = wo at *
      go_wp2_with fail
      refine (unhide hat0).mono ?_
      clear hat0
      rintro e w2 ⟨rfl, hw2⟩
      subst hw2
      clear hmk
      have q2H : Hid (Quiet wo (wo.alloc (.cells F 3))) := (Chg.refl _ _).alloc _
      generalize hW2 : wo.alloc (.cells F 3) = W2 at *
      generalize hG0 : wo.heap.size = G0 at *
      have hG0H := hide hG0
      clear hW2 hG0
      go_wp2
      go_loopw [6, 7, 8] (fun sv vv ev wi => ∃ j : Nat, j ≤ n r ∧ vv = .int .i64 (atP c n r j).1 ∧ ev = .int .i64 (atP c n r j).2 ∧ Quiet wo wi ∧ ∃ g cp, sv = .slice (some ⟨g, 0, none⟩) j cp ∧ G0 ≤ g ∧ Row wi 3 1 (.slice (some ⟨g, 0, none⟩) j cp) j (ints .i64 (fun i => c (16 * r + i)) j)) (fun sv _ _ _ => 17 - (slLen sv))
      case atStart => exact ⟨0, by omega, rfl, rfl, unhide q2H, _, _, rfl, Nat.le_refl _, unhide R0⟩
      case round =>
        clear R0 q2H
        obtain ⟨j, hj, rfl, rfl, q, g, cp, rfl, hg, row⟩ := hrel
        have hr3 := unhide hltH
        by_cases hlt : j < n r
        · rw [atP_in hr3 hlt]
          have hb := (unhide IH).c (16 * r + j) (by have := unhide hn16; omega)
          obtain ⟨b0, b1⟩ := hb
          unfold pP at b1
          have j16 : (j : Int) < 16 := by have := unhide hn16; omega
          have rowH := hide row
          have qH := hide q
          have hgH := hide hg
          have hjH := hide hlt
          have hstep : Hid (ints .i64 (fun i => c (16 * r + i)) (j + 1) = ints .i64 (fun i => c (16 * r + i)) j ++ [.int .i64 (c (16 * r + j))]) := rfl
          have m1 : Hid (j + 1 ≤ maxLen ∧ (j + 1) * 8 ≤ 140737488355328) := ⟨by have := unhide hn16; unfold maxLen; omega, by have := unhide hn16; omega⟩
          have rq := row.quiet ((Chg.refl _ _).alloc (.cells #[.int .i64 (c (16 * r + j))] 3))
          clear row q hg hlt hj hr3
          generalize c (16 * r + j) = z at *
          go_wp2_with (at_builtin; refine wpList_append_row rfl (.tmp 36) (.tmp 38) 58 rfl 3 t0 _ 1 8 Try.underlying58 (unhide hzs).1 (unhide hzs).2.1 (unhide hzs).2.2.1 (unhide hzs).2.2.2 rfl (by omega) (.slice (some ⟨g, 0, none⟩) j cp) j (ints .i64 (fun i => c (16 * r + i)) j) rfl rq ⟨wr.heap.size, 0, none⟩ 1 1 [.int .i64 z] rfl rfl (news_new _ _ _) (by intro u hu; simp at hu; subst hu; rfl) (by omega) (unhide m1).1 (unhide m1).2 _ rfl ?_)
          intro g2 cap2 W hr hc hg2 hgl
          have fin : Hid (Quiet wo W ∧ G0 ≤ g2 ∧ Row W 3 1 (.slice (some ⟨g2, 0, none⟩) (j + 1) cap2) (j + 1) (ints .i64 (fun i => c (16 * r + i)) (j + 1))) := by
            have h1 : Quiet wo (wr.alloc (.cells #[.int .i64 z] 3)) := (unhide qH).alloc _
            refine ⟨Chg.trans' h1 hc (fun k hk h => by simp [Value.ownBlock] at h; have := unhide hgH; have := unhide hG0H; omega), ?_, ?_⟩
            · rcases hg2 with h | h
              · simp [Value.ownBlock] at h; have := unhide hgH; omega
              · have := (unhide qH).size; have := unhide hG0H; rw [h]; simp; omega
            · rw [unhide hstep]; exact hr
          have hat1 := hide (unhide hat W ((unhide allH).1.trans (unhide fin).1) r ((j + 1 : Nat) : Int))
          clear hr hc hg2 hgl rq rowH b0 b1 j16
          go_wp2_with fail
          refine (unhide hat1).mono ?_
          clear hat1
          rintro e w5 ⟨rfl, hw5⟩
          subst hw5
          go_wp2
          go_roundw
          case rel => exact ⟨j + 1, unhide hjH, rfl, rfl, (unhide fin).1, g2, cap2, rfl, (unhide fin).2.1, (unhide fin).2.2⟩
          case measure =>
            have h := unhide hjH
            have h2 := unhide hn16
            show 17 - (j + 1) < 17 - j
            omega
        · have hjn : j = n r := by omega
          rw [atP_out hr3 hjn]
          obtain ⟨sp, hb, h1, h2, h3⟩ := row.some_form
          have hpk := hide (pack_any wr g 0 j cp (fun i => c (16 * r + i)) (fun i hi => by rw [Nat.zero_add, hb.cell i, List.getElem?_append_left (by rw [ints_length]; exact hi), ints_get _ _ _ _ hi]) (by have := unhide hn16; omega) (fun i hi => (unhide IH).c _ (by have := unhide hn16; omega)))
          have hSE : Hid (str (packL (fun i => c (16 * r + i)) j) = regS c n r) := by show _ = _; rw [hjn]; rfl
          rw [unhide hSE] at hpk
          have qH := hide q
          clear row hb h1 h2 h3 q hg hlt hj hjn hr3 hSE
          go_wp2_with fail
          refine (unhide hpk).mono ?_
          clear hpk
          rintro e w5 ⟨rfl, q5⟩
          have q6 : Quiet wo w5 := (unhide qH).trans q5
          have BA6 := hide (q6.blk (unhide allH).2.1)
          have BB6 := q6.blk (unhide allH).2.2
          have cB := BB6.cell r
          rw [imgC_get _ _ r (unhide hltH)] at cB
          have fB := BB6.frozen r
          have BN : Hid (Blk (w5.setCell ⟨w.heap.size + 1, r, none⟩ (.string (regS c n r))) (w.heap.size + 1) 29 (imgC (upto (regS c n) (r + 1)) 0)) := by
            have h := BB6.set r (.string (regS c n r))
            rw [imgC_set _ _ _ (unhide hltH), upto_next] at h
            exact h
          have AN : Hid (Blk (w5.setCell ⟨w.heap.size + 1, r, none⟩ (.string (regS c n r))) w.heap.size 29 (imgC (upto (regS c n) 0) 0)) := (unhide BA6).set_other (a := ⟨w.heap.size + 1, r, none⟩) (by simp) _
          have QN : Hid (Quiet w (w5.setCell ⟨w.heap.size + 1, r, none⟩ (.string (regS c n r)))) := Chg.setCell ((unhide allH).1.trans q6) (p := ⟨w.heap.size + 1, r, none⟩) (.inr (by simp)) _
          clear q5 q6 BB6 BA6 allH qH
          generalize upto (regS c n) r r = old at *
          generalize regS c n r = SR at *
          go_wp2
          go_roundw
          case rel => exact ⟨r + 1, unhide hltH, by simp, unhide QN, unhide AN, unhide BN⟩
          case measure =>
            have h := unhide hltH
            show 3 + 1 - ((r : Int) + 1).toNat < 3 + 1 - (r : Int).toNat
            omega
    · have g1 : ¬ (r : Int) < 3 := by omega
      obtain rfl : r = 3 := by omega
      rw [imgC_congr 0 (T := regS c n) (fun r hr => by simp [upto, hr])] at BB
      have hsp1 := hide (unhide hsp wr q)
      have c3 := BB.cell 3
      have f3 := BB.frozen 3
      have qH := hide q
      have BAH := hide BA
      have BBH : Hid (Blk (wr.setCell ⟨w.heap.size + 1, 3, none⟩ (.int .i64 (wk : Int))) (w.heap.size + 1) 29 (imgC (regS c n) wk)) := BB.set 3 _
      have BAH2 : Hid (Blk (wr.setCell ⟨w.heap.size + 1, 3, none⟩ (.int .i64 (wk : Int))) w.heap.size 29 (imgC (upto (regS c n) 0) 0)) := BA.set_other (a := ⟨w.heap.size + 1, 3, none⟩) (by simp) _
      have QH : Hid (Quiet w (wr.setCell ⟨w.heap.size + 1, 3, none⟩ (.int .i64 (wk : Int)))) := Chg.setCell q (p := ⟨w.heap.size + 1, 3, none⟩) (.inr (by simp)) _
      simp [imgC] at c3
      clear q BA BB hlt hr
      go_wp2_with fail
      refine (unhide hsp1).mono ?_
      clear hsp1
      rintro e w5 ⟨rfl, hw5⟩
      subst hw5
      go_wp2
      generalize w5.setCell ⟨w.heap.size + 1, 3, none⟩ (.int .i64 (wk : Int)) = W6 at *
      clear c3 f3
      have hcb := QW.blk (unhide BBH)
      unfold imgC at hcb
      generalize hRS : regS c n = RS at *
      have hRSH := hide hRS
      clear hRS
      refine wp_region_noPanic ?_
      try simp only [List.append_eq, List.cons_append, List.nil_append]
      refine wp_region_mixq [(0, true), (1, true), (2, true)] [3, 4] (by kernel_rfl) (by kernel_rfl) (fun _ _ _ _ _ h => h) ?_
      simp only [pickM, pickO, List.getElem?_cons_zero, List.getElem?_cons_succ]
      repeat (first | (refine wpMix_read rfl (fun K hK => ?_)) | (refine wpMix_pure rfl (fun K hK => ?_))
              go_big_quiet_op
              first | (refine hK _ ?_; clear hK K) | (apply Exists.intro; refine ⟨fun _ => ?_, ?_⟩; (· (first | (go_at_call 23; exact Calls.in_qw (unhide hck _ (Quiet.trans (unhide QH) (QW.q _)))))); refine hK _ ?_; clear hK K))
      refine wpMix_nil ?_
      intro _ hw'
      obtain ⟨qq, hw''⟩ := hw'
      subst hw''
      have hqq := qq.q
      generalize qq.w = wq at *
      have bA := hqq.blk (unhide BAH2)
      have ca := bA.cell
      have fa := bA.frozen
      unfold imgC at ca
      have fin : Hid (Quiet w ((((wq.setCell ⟨w.heap.size, 0, none⟩ (.string (RS 0))).setCell ⟨w.heap.size, 1, none⟩ (.string (RS 1))).setCell ⟨w.heap.size, 2, none⟩ (.string (RS 2))).setCell ⟨w.heap.size, 3, none⟩ (.int .i64 (wk : Int))) ∧ Blk ((((wq.setCell ⟨w.heap.size, 0, none⟩ (.string (RS 0))).setCell ⟨w.heap.size, 1, none⟩ (.string (RS 1))).setCell ⟨w.heap.size, 2, none⟩ (.string (RS 2))).setCell ⟨w.heap.size, 3, none⟩ (.int .i64 (wk : Int))) w.heap.size 29 (imgC RS wk)) :=
        ⟨((((Quiet.trans (unhide QH) hqq).setCell (p := ⟨w.heap.size, 0, none⟩) (.inr (Nat.le_refl _)) _).setCell (p := ⟨w.heap.size, 1, none⟩) (.inr (Nat.le_refl _)) _).setCell (p := ⟨w.heap.size, 2, none⟩) (.inr (Nat.le_refl _)) _).setCell (p := ⟨w.heap.size, 3, none⟩) (.inr (Nat.le_refl _)) _, (((bA.set 0 _).set 1 _).set 2 _).set 3 _⟩
      clear bA hcb hqq
      go_wp2
      refine NoPanic.normal ?_
      go_wp2
      refine bodyPost_ret (v := .tuple #[.agg (imgC RS wk).toArray, .bool true]) (results_blk_tmp (u := 29) (cs := imgC RS wk) Try.results11 rfl Try.isAgg29 Try.sizeOf29 (unhide fin).2) rfl ⟨by rw [unhide hRSH], (unhide fin).1⟩
end Go.Proofs.Qxb6500368a
