/-
  The law's world: Build, Seen.
-/
import Derived.Test.Qxb6500367aWorld
namespace Go.Proofs.Qxb6500367a
open Go.RowKit Go.Qx
set_option linter.unusedSimpArgs false
set_option linter.unusedVariables false

theorem info25 : (Try.prog.info? 25).map (fun i => (i.zero, i.size, i.bytes)) = some (some (.pointer none), 1, 8) := by kernel_rfl
theorem info58 : (Try.prog.info? 58).map (fun i => (i.zero, i.size, i.bytes)) = some (some (.pointer none), 1, 8) := by kernel_rfl

theorem news_at (w : World) (t : TypeId) (cs : List Value) (H : Nat) (hH : w.heap.size = H) : ∀ j u, cs[j]? = some u → (w.alloc (.cells cs.toArray t)).cell? ((⟨H, 0, none⟩ : Addr).add j) = some u := by
  subst hH; exact news_new w t cs

/-- Build's loop: the nodes so far. -/
def buildRel (w : World) (j : Nat) (wr : World) : Prop :=
  Quiet w wr ∧ ∃ vX vM L, L.length = j ∧ Fr w.heap.size wr w.heap.size vX (pxs L) vM (pms L) (.slice none 0 0) 0 L

theorem one_ptr (x : Nat) : ∀ u ∈ [ptr x], u.oneCell' = true := by
  intro u hu
  rw [List.mem_singleton] at hu
  subst hu; rfl

def buildPost (w : World) (n : Nat) (e : Ending) (w' : World) : Prop := ∃ v L, e = .returned (ptr v) ∧ Quiet w w' ∧ L.length = n ∧ Wd w.heap.size w' v L

set_option maxRecDepth 100000 in
set_option maxHeartbeats 4000000 in
theorem build_any (w : World) (n : Nat) (h1 : 1 ≤ n) (h2 : n ≤ 4) : Calls Try.prog 27 #[.int .i64 n] w (buildPost w n) := by
  have hst : buildRel w 0 (w.alloc (.cells #[.slice none 0 0, .slice none 0 0, .slice none 0 0] 63)) := by
    refine ⟨(Chg.refl _ _).alloc _, .slice none 0 0, .slice none 0 0, [], rfl, Blk.new _ _ _, Row.nil _ _ _, Row.nil _ _ _, ⟨Nat.zero_le _, [], Row.nil _ _ _⟩, ?_, ?_, ?_, ?_, ?_, ?_, ?_, ?_, ?_, ?_, ?_, ?_, ?_, ?_, ?_, ?_, ?_⟩
    all_goals simp [Value.ownBlock]
  have hstH := hide hst
  clear hst
  obtain ⟨i0, hi0, hz0, hz1, hz2⟩ := info_parts info25
  obtain ⟨j0, hj0, hy0, hy1, hy2⟩ := info_parts info58
  go_enter Try.func27, Try.ntmps27
  go_wp2
  go_loopw [4] (fun i wr => ∃ j : Nat, j ≤ n ∧ i = .int .i64 j ∧ buildRel w j wr) (fun i _ => 5 - (intOf i).toNat)
  case atStart => exact ⟨0, Nat.zero_le _, rfl, unhide hstH⟩
  case round =>
    clear hstH
    obtain ⟨j, hj, rfl, hq, vX, vM, L, hL, F⟩ := hrel
    have k0 : (0 : Int) ≤ (j : Int) := by omega
    by_cases hlt : j < n
    · have k1 : (j : Int) < (n : Int) := by omega
      have k2 : (j : Int) < 4 := by omega
      have d1 : decide ((j : Int) < (n : Int)) = true := by simp; omega
      have d2 : decide ((j : Int) < 4) = true := by simp; omega
      have hnw := fun W => new_ok W n j h1 h2 hlt
      have hmw := fun W => mnew_ok W n j h1 h2 hlt
      unfold ptr at hnw hmw
      go_wp2_with fail
      refine (hnw _).mono ?_
      rintro e w1 ⟨x, a, b, rfl, q1, ho1, r1⟩
      clear hnw
      go_wp2_with fail
      refine (hmw _).mono ?_
      rintro e w2 ⟨m, c, rfl, q2, ho2, R2⟩
      clear hmw
      have q12 := Quiet.trans q1 q2
      have hF2 : Fr w.heap.size w2 w.heap.size vX (pxs L) vM (pms L) (.slice none 0 0) 0 (L ++ [⟨x, a, b, m, c, newP n j⟩]) := by
        have hsz := q1.size
        have hvl := F.blk.lt
        have hbo : ∀ k, NP.own ⟨x, a, b, m, c, newP n j⟩ k → wr.heap.size ≤ k := by
          rintro k (hk | hk)
          · exact ho1 k hk
          · have := ho2 k hk; omega
        refine (F.quiet q12).add ⟨x, a, b, m, c, newP n j⟩ ⟨r1.quiet q2, R2, inv_new n j h1 h2 hlt, ?_⟩ wr.heap.size (by omega) hbo hvl ?_ ?_ ?_ ?_
        · intro k hk hk2
          have e1 := ho2 k hk2
          obtain ⟨z1, z2, z3⟩ := r1.lts
          rcases hk with rfl | rfl | rfl <;> omega
        · intro k hk hk2
          have e1 := F.rx.lt hk
          have e2 := hbo k hk2
          omega
        · intro k hk hk2
          have e1 := F.rm.lt hk
          have e2 := hbo k hk2
          omega
        · intro k hk hk2
          have e1 := F.wi.lt hk
          have e2 := hbo k hk2
          omega
        · intro q hq k hk
          exact F.plt hq hk
      clear r1 R2 ho1 ho2 q1 q2 F
      have hqq := Quiet.trans hq q12
      clear hq q12
      have bl := hF2.blk
      have hrX := hF2.rx
      have hrM := hF2.rm
      obtain ⟨aX, capX, rfl⟩ := hrX.shape
      obtain ⟨aM, capM, rfl⟩ := hrM.shape
      have c0 := bl.cell 0
      have c1 := bl.cell 1
      have f0 := bl.frozen 0
      have f1 := bl.frozen 1
      simp at c0 c1
      have hpl : (pxs L).length = j := by simp [pxs, hL]
      have hpm : (pms L).length = j := by simp [pms, hL]
      rw [hpl] at hrX c0 hF2 bl
      rw [hpm] at hrM c1 hF2 bl
      have hplH := hide hpl
      have hpmH := hide hpm
      have hLH := hide hL
      have hqqH := hide hqq
      have F2H := hide hF2
      clear hpl hpm hL hF2 hqq
      go_wp2_with (at_builtin; refine wpList_append_row rfl (.tmp 50) (.tmp 52) 49 rfl 25 i0 _ 1 8 Try.underlying49 hi0 hz0 hz1 hz2 rfl (by omega) (.slice aX j capX) j (pxs L) rfl (hrX.quiet ((Chg.refl _ _).alloc _)) ⟨w2.heap.size, 0, none⟩ 1 1 [ptr x] rfl rfl (news_new _ _ _) (one_ptr x) (by omega) (by unfold maxLen; omega) (by omega) _ rfl ?_)
      intro g cap W hr hc hg hgl
      have hszA : (w2.alloc (.cells #[.pointer (some ⟨x, 0, none⟩)] 25)).heap.size = w2.heap.size + 1 := by simp
      have F3 := ((unhide F2H).quiet ((Chg.refl _ _).alloc (.cells #[.pointer (some ⟨x, 0, none⟩)] 25))).turnX (.slice (some ⟨g, 0, none⟩) (j + 1) cap) (pxs L ++ [ptr x]) (by rw [List.length_append, unhide hplH]; exact hr) hc (by
        intro g' hg'
        have : g = g' := by simpa [Value.ownBlock] using hg'
        subst this
        rcases hg with h | h
        · exact .inl h
        · right; rw [hszA]; omega)
      have ch3 : Chg (fun k => w.heap.size ≤ k) w (W.setCell ⟨w.heap.size, 0, none⟩ (.slice (some ⟨g, 0, none⟩) (j + 1) cap)) := by
        have e1 := (Quiet.chg (unhide hqqH) (fun k => w.heap.size ≤ k)).trans (((Chg.refl _ _).alloc (.cells #[.pointer (some ⟨x, 0, none⟩)] 25)))
        exact (e1.trans (hc.mono (fun k _ hk => (unhide F2H).lx k hk))).setCell (.inl (Nat.le_refl _)) _
      have bW := hc.blk (bl.alloc (.cells #[.pointer (some ⟨x, 0, none⟩)] 25)) (unhide F2H).xv
      have y0 := bW.cell 0
      have fy0 := bW.frozen 0
      have F3H := hide F3
      have ch3H := hide ch3
      clear hc hr hg hgl hrX hrM F2H F3 ch3 hqqH c0 c1 f0 f1 bl hszA
      simp at y0
      have F3 := unhide F3H
      clear F3H
      have y1' := bW.cell 1
      have fy1' := bW.frozen 1
      simp at y1'
      have bl3 := F3.blk
      have hrM := F3.rm
      rw [unhide hpmH] at hrM
      have F3H := hide F3
      clear F3
      go_wp2_with (at_builtin; refine wpList_append_row rfl (.tmp 60) (.tmp 62) 61 rfl 58 j0 _ 1 8 Try.underlying61 hj0 hy0 hy1 hy2 rfl (by omega) (.slice aM j capM) j (pms L) rfl (hrM.quiet ((Chg.refl _ _).alloc _)) ⟨W.heap.size, 0, none⟩ 1 1 [ptr m] rfl rfl (news_at _ _ _ _ (by simp)) (one_ptr m) (by omega) (by unfold maxLen; omega) (by omega) _ rfl ?_)
      intro g2 cap2 V hr hc hg hgl
      have hszA : ((W.setCell ⟨w.heap.size, 0, none⟩ (.slice (some ⟨g, 0, none⟩) (j + 1) cap)).alloc (.cells #[.pointer (some ⟨m, 0, none⟩)] 58)).heap.size = W.heap.size + 1 := by simp
      have F4 := ((unhide F3H).quiet ((Chg.refl _ _).alloc (.cells #[.pointer (some ⟨m, 0, none⟩)] 58))).turnM (.slice (some ⟨g2, 0, none⟩) (j + 1) cap2) (pms L ++ [ptr m]) (by rw [List.length_append, unhide hpmH]; exact hr) hc (by
        intro g' hg'
        have : g2 = g' := by simpa [Value.ownBlock] using hg'
        subst this
        rcases hg with h | h
        · exact .inl h
        · right; rw [hszA]; omega)
      have ch4 : Chg (fun k => w.heap.size ≤ k) w (V.setCell ⟨w.heap.size, 1, none⟩ (.slice (some ⟨g2, 0, none⟩) (j + 1) cap2)) := by
        have e1 := (unhide ch3H).trans (((Chg.refl _ _).alloc (.cells #[.pointer (some ⟨m, 0, none⟩)] 58)))
        exact (e1.trans (hc.mono (fun k _ hk => (unhide F3H).lm k hk))).setCell (.inl (Nat.le_refl _)) _
      have bV := hc.blk (bl3.alloc (.cells #[.pointer (some ⟨m, 0, none⟩)] 58)) (unhide F3H).mv
      have y1 := bV.cell 1
      have fy1 := bV.frozen 1
      have hrel : buildRel w (j + 1) (V.setCell ⟨w.heap.size, 1, none⟩ (.slice (some ⟨g2, 0, none⟩) (j + 1) cap2)) := by
        refine ⟨ch4.mono (fun k hk h => by omega), .slice (some ⟨g, 0, none⟩) (j + 1) cap, .slice (some ⟨g2, 0, none⟩) (j + 1) cap2, L ++ [⟨x, a, b, m, c, newP n j⟩], by rw [List.length_append, unhide hLH]; rfl, ?_⟩
        rw [show pxs (L ++ [⟨x, a, b, m, c, newP n j⟩]) = pxs L ++ [ptr x] by simp [pxs], show pms (L ++ [⟨x, a, b, m, c, newP n j⟩]) = pms L ++ [ptr m] by simp [pms]]
        exact F4
      have hrelH := hide hrel
      clear hc hr hg hgl hrM F3H F4 ch3H ch4 bl3 hszA hrel bW y0 fy0 y1' fy1'
      simp at y1
      go_wp2
      go_roundw
      case rel => exact ⟨j + 1, by omega, by go_num, unhide hrelH⟩
      case measure => simp [intOf]; omega
    · have k1 : ¬ (j : Int) < (n : Int) := by omega
      have d1 : decide ((j : Int) < (n : Int)) = false := by simp; omega
      obtain rfl : j = n := by omega
      go_wp2
      go_ret
      exact ⟨_, L, rfl, hq, hL, vX, vM, _, _, F⟩

theorem Row.at1 {w : World} {e : TypeId} {v : Value} {xs : List Value} (h : Row w e 1 v xs.length xs) (i : Nat) (hi : i < xs.length) : ∃ g cap, v = .slice (some ⟨g, 0, none⟩) xs.length cap ∧ w.cell? ⟨g, i, none⟩ = some xs[i] := by
  rcases h.form with ⟨_, hn, _⟩ | ⟨g, cap, sp, hv, hb, _⟩
  · omega
  · refine ⟨g, cap, hv, ?_⟩
    rw [hb.cell i, List.getElem?_append_left hi, List.getElem?_eq_getElem hi]

set_option maxRecDepth 100000 in
set_option maxHeartbeats 4000000 in
theorem seen_any (B : Nat) (w : World) (v : Nat) (L : List NP) (h : Wd B w v L) (h4 : L.length ≤ 4) : Calls Try.prog 28 #[ptr v] w fun e w' => e = .returned (.bool true) ∧ Quiet w w' := by
  obtain ⟨vX, vM, vW, nW, F⟩ := h
  have hxl : (pxs L).length = L.length := by simp [pxs]
  have hml : (pms L).length = L.length := by simp [pms]
  have hlen : ∃ ao cap, vX = .slice ao L.length cap := by
    obtain ⟨ao, cap, e⟩ := F.rx.shape
    rw [hxl] at e
    exact ⟨ao, cap, e⟩
  obtain ⟨ao, cap, rfl⟩ := hlen
  generalize hN : L.length = N at *
  have hNH := hide hN
  clear hN
  unfold ptr
  go_enter Try.func28, Try.ntmps28
  go_wp2
  go_loopw [3] (fun i wr => ∃ j : Nat, j ≤ N ∧ i = .int .i64 j ∧ Quiet w wr) (fun i _ => 5 - (intOf i).toNat)
  case atStart => exact ⟨0, Nat.zero_le _, rfl, Chg.refl _ _⟩
  case round =>
    obtain ⟨j, hj, rfl, hq⟩ := hrel
    have Fj := F.quiet hq
    have bl := Fj.blk
    have c0 := bl.cell 0
    have c1 := bl.cell 1
    simp at c0 c1
    have k0 : (0 : Int) ≤ (j : Int) := by omega
    by_cases hlt : j < N
    · have k1 : (j : Int) < (N : Int) := by omega
      have hjl : j < L.length := by rw [unhide hNH]; exact hlt
      obtain ⟨gX, capX, eX, x0⟩ := Row.at1 Fj.rx j (by rw [hxl]; exact hlt)
      obtain ⟨gM, capM, rfl, x1⟩ := Row.at1 Fj.rm j (by rw [hml]; exact hlt)
      rw [hxl] at eX
      cases eX
      have hp := Fj.ok L[j] (List.getElem_mem hjl)
      have e0 : (pxs L)[j]'(by rw [hxl]; exact hlt) = ptr L[j].x := by simp [pxs]
      have e1 : (pms L)[j]'(by rw [hml]; exact hlt) = ptr L[j].m := by simp [pms]
      rw [e0] at x0
      rw [e1] at x1
      rw [hml] at c1
      clear e0 e1
      generalize L[j] = p at *
      have s1 := show_any wr p.x p.a p.b p.s hp.r hp.i.shows
      unfold ptr at *
      go_wp2_with fail
      refine s1.mono ?_
      rintro e w1 ⟨rfl, q1⟩
      have hp1 := hp.quiet q1
      have s2 := mshow_any w1 p.m p.c (modelOf p.s) hp1.m hp1.i.showsM
      rw [show_law hp.i] at s2
      have d1 := Quiet.cell q1 c1
      have y1 := Quiet.cell q1 x1
      unfold ptr at *
      go_wp2_with fail
      refine s2.mono ?_
      rintro e w2 ⟨rfl, q2⟩
      have q12 := Quiet.trans q1 q2
      have hp2 := hp.quiet q12
      have s3 := check_any w2 p.x p.a p.b p.s hp2.r hp2.i
      have d0 := Quiet.cell q12 c0
      have y0 := Quiet.cell q12 x0
      unfold ptr at *
      clear c0 c1 x0 x1 d1 y1 s1 s2
      go_wp2_with fail
      refine s3.mono ?_
      rintro e w3 ⟨rfl, q3⟩
      go_wp2
      go_roundw
      case rel => exact ⟨j + 1, by omega, by go_num, Quiet.trans hq (Quiet.trans q12 q3)⟩
      case measure => simp [intOf]; omega
    · have k1 : ¬ (j : Int) < (N : Int) := by omega
      go_wp2
      go_ret
      exact ⟨rfl, hq⟩
end Go.Proofs.Qxb6500367a
