/-
  A router: hear.
-/
import Derived.Test.Qxb6500364aWire
import Derived.Test.Qxb6500364aEq
namespace Go.Proofs.Qxb6500364a
open Go.RowKit Go.Qx
set_option linter.unusedVariables false
set_option linter.unusedSimpArgs false

/-- The ear for b while hear goes up. -/
def hearTo (h : Nat → Nat → Int) (b : Nat) (v : Nat → Int) (k : Nat) : Nat → Nat → Int := upd h b (fun d => if d < k then v d else h b d)

theorem hearTo_zero (h : Nat → Nat → Int) (b : Nat) (v : Nat → Int) : hearTo h b v 0 = h := by
  funext b' d
  unfold hearTo upd
  by_cases e : b' = b
  · subst e; simp
  · simp [e]

theorem hearTo_at (h : Nat → Nat → Int) (b : Nat) (v : Nat → Int) (k : Nat) : hearTo h b v k b k = h b k := by
  simp [hearTo, upd]

theorem hearTo_upd (h : Nat → Nat → Int) (b : Nat) (v : Nat → Int) (k : Nat) : upd (hearTo h b v k) b (upd (hearTo h b v k b) k (v k)) = hearTo h b v (k + 1) := by
  funext b' d
  unfold hearTo upd
  by_cases e : b' = b
  · subst e
    simp only [if_true]
    by_cases e2 : d = k
    · subst e2; simp
    · rw [if_neg e2]
      by_cases e3 : d < k
      · rw [if_pos e3, if_pos (by omega)]
      · rw [if_neg e3, if_neg (by omega)]
  · simp [e]

theorem hearTo_same (h : Nat → Nat → Int) (b : Nat) (v : Nat → Int) (k : Nat) (e : h b k = v k) : hearTo h b v k = hearTo h b v (k + 1) := by
  funext b' d
  unfold hearTo upd
  by_cases eb : b' = b
  · subst eb
    simp only [if_true]
    by_cases e2 : d = k
    · subst e2; simp [e]
    · by_cases e3 : d < k
      · rw [if_pos e3, if_pos (by omega)]
      · rw [if_neg e3, if_neg (by omega)]
  · simp [eb]

theorem hearTo_col (h : Nat → Nat → Int) (b : Nat) (v : Nat → Int) (k d : Nat) (hd : d ≠ k) (b' : Nat) : hearTo h b v k b' d = hearTo h b v (k + 1) b' d := by
  unfold hearTo upd
  by_cases eb : b' = b
  · subst eb
    simp only [if_true]
    by_cases e3 : d < k
    · rw [if_pos e3, if_pos (by omega)]
    · rw [if_neg e3, if_neg (by omega)]
  · simp [eb]

theorem hearTo_succ (s : Nat) (c : Nat → Int) (h : Nat → Nat → Int) (b : Nat) (v : Nat → Int) (k : Nat) :
    ndC s (mend1 s { mended s c (hearTo h b v k) with h := hearTo h b v (k + 1) } k) = ndC s (mended s c (hearTo h b v (k + 1))) := by
  refine ndC_ext (fun _ _ => rfl) (fun _ _ _ _ => rfl) ?_ ?_
  · intro d hd
    show upd (fun d => (bestP s c (hearTo h b v k) d).1) k (bestP s c (hearTo h b v (k + 1)) k).1 d = (bestP s c (hearTo h b v (k + 1)) d).1
    unfold upd
    by_cases e : d = k
    · subst e; simp
    · rw [if_neg e]
      dsimp only
      rw [bestP_congr (fun _ _ => rfl) (fun b' _ => hearTo_col h b v k d e b')]
  · intro d hd
    show upd (fun d => (bestP s c (hearTo h b v k) d).2) k (bestP s c (hearTo h b v (k + 1)) k).2 d = (bestP s c (hearTo h b v (k + 1)) d).2
    unfold upd
    by_cases e : d = k
    · subst e; simp
    · rw [if_neg e]
      dsimp only
      rw [bestP_congr (fun _ _ => rfl) (fun b' _ => hearTo_col h b v k d e b')]

theorem mended_congr {s : Nat} {c : Nat → Int} {h h' : Nat → Nat → Int} (e : ∀ b d, b < 5 → d < 5 → h b d = h' b d) : ndC s (mended s c h) = ndC s (mended s c h') := by
  refine ndC_ext (fun _ _ => rfl) e ?_ ?_
  · intro d hd
    show (bestP s c h d).1 = (bestP s c h' d).1
    rw [bestP_congr (fun _ _ => rfl) (fun b' hb' => e b' d hb' hd)]
  · intro d hd
    show (bestP s c h d).2 = (bestP s c h' d).2
    rw [bestP_congr (fun _ _ => rfl) (fun b' hb' => e b' d hb' hd)]

theorem hearTo_all (s : Nat) (c : Nat → Int) (h : Nat → Nat → Int) (b : Nat) (v : Nat → Int) : ndC s (mended s c (hearTo h b v 5)) = ndC s (mended s c (upd h b v)) := by
  refine mended_congr ?_
  intro b' d hb hd
  unfold hearTo upd
  by_cases e : b' = b
  · subst e; simp [hd]
  · simp [e]

theorem hear_ok {s : Nat} {c : Nat → Int} {h : Nat → Nat → Int} (o : NdOk (mended s c h)) (b : Nat) (v : Nat → Int) (hv : ∀ d, d < 5 → 0 ≤ v d ∧ v d ≤ 16) (hb : b < 5) (k : Nat) (d p : Nat → Int) : NdOk ⟨c, hearTo h b v k, d, p⟩ := by
  refine ⟨o.c, ?_⟩
  intro b' d' h1 h2
  show 0 ≤ hearTo h b v k b' d' ∧ hearTo h b v k b' d' ≤ 16
  unfold hearTo upd
  split
  · dsimp only
    split
    · exact hv d' h2
    · exact o.h b d' hb h2
  · exact o.h b' d' h1 h2

def vecC (v : Nat → Int) : List Value := [.int .i64 (v 0), .int .i64 (v 1), .int .i64 (v 2), .int .i64 (v 3), .int .i64 (v 4)]

theorem vecC_get (v : Nat → Int) (k : Nat) (hk : k < 5) : (vecC v)[k]? = some (.int .i64 (v k)) := by
  have : k = 0 ∨ k = 1 ∨ k = 2 ∨ k = 3 ∨ k = 4 := by omega
  rcases this with rfl | rfl | rfl | rfl | rfl <;> rfl

set_option maxRecDepth 100000 in
set_option maxHeartbeats 2000000 in
theorem hear_any (w : World) (n s : Nat) (c : Nat → Int) (h : Nat → Nat → Int) (hb : Blk w n 58 (ndC s (mended s c h))) (o : NdOk (mended s c h)) (hs : s < 5) (b : Nat) (hb5 : b < 5) (v : Nat → Int) (hv : ∀ d, d < 5 → 0 ≤ v d ∧ v d ≤ 16) :
    Calls Try.prog 42 #[ptr n, .int .i64 b, vecV v] w (ndPost w n s (mended s c (upd h b v))) := by
  have post : Hid (ndPost w n s (mended s c (upd h b v)) = fun e w' => e = .returned (.tuple #[]) ∧ Chg (fun k => k = n) w w' ∧ Blk w' n 58 (ndC s (mended s c (upd h b v)))) := rfl
  rw [unhide post]
  clear post
  have b0 : (0 : Int) ≤ (b : Int) := by omega
  have b1 : (b : Int) < 5 := by omega
  have hnl := hb.lt
  unfold ptr vecV
  go_enter Try.func42, Try.ntmps42
  go_wp2
  have bn := hb.alloc (.cells #[.int .i64 (v 0), .int .i64 (v 1), .int .i64 (v 2), .int .i64 (v 3), .int .i64 (v 4)] 55)
  have bv := Blk.new w 55 [.int .i64 (v 0), .int .i64 (v 1), .int .i64 (v 2), .int .i64 (v 3), .int .i64 (v 4)]
  have q0 : Quiet w (w.alloc (.cells #[.int .i64 (v 0), .int .i64 (v 1), .int .i64 (v 2), .int .i64 (v 3), .int .i64 (v 4)] 55)) := (Chg.refl _ _).alloc _
  have hH : Hid (∀ B, B = w.heap.size → n ≠ B) := fun B e => by omega
  generalize w.alloc (.cells #[.int .i64 (v 0), .int .i64 (v 1), .int .i64 (v 2), .int .i64 (v 3), .int .i64 (v 4)] 55) = W at *
  generalize hV : w.heap.size = V at *
  have nV := unhide hH V rfl
  have hVH := hide hV
  clear hH hV
  have z0 : W.cell? ⟨n, 6 + b * 5 + 0, none⟩ = some (.int .i64 (h b 0)) := cell_h bn b 0 hb5 (by omega)
  have z1 : W.cell? ⟨n, 6 + b * 5 + 1, none⟩ = some (.int .i64 (h b 1)) := cell_h bn b 1 hb5 (by omega)
  have z2 : W.cell? ⟨n, 6 + b * 5 + 2, none⟩ = some (.int .i64 (h b 2)) := cell_h bn b 2 hb5 (by omega)
  have z3 : W.cell? ⟨n, 6 + b * 5 + 3, none⟩ = some (.int .i64 (h b 3)) := cell_h bn b 3 hb5 (by omega)
  have z4 : W.cell? ⟨n, 6 + b * 5 + 4, none⟩ = some (.int .i64 (h b 4)) := cell_h bn b 4 hb5 (by omega)
  rw [Nat.add_zero] at z0
  have v0 := bv.cell 0
  have v1 := bv.cell 1
  have v2 := bv.cell 2
  have v3 := bv.cell 3
  have v4 := bv.cell 4
  simp at v0 v1 v2 v3 v4
  have hbH := hide hb
  clear hb
  by_cases hall : ∀ d, d < 5 → h b d = v d
  · have heq : ∀ W, (Op.equalIn 10000 55 (.agg #[.int .i64 (h b 0), .int .i64 (h b 1), .int .i64 (h b 2), .int .i64 (h b 3), .int .i64 (h b 4)]) (.agg #[.int .i64 (v 0), .int .i64 (v 1), .int .i64 (v 2), .int .i64 (v 3), .int .i64 (v 4)])).run Try.prog W = .ok true W := by
      intro W
      rw [eq5, hall 0 (by omega), hall 1 (by omega), hall 2 (by omega), hall 3 (by omega), hall 4 (by omega)]
      simp
    have hsame : Hid (ndC s (mended s c h) = ndC s (mended s c (upd h b v))) := by
      refine mended_congr ?_
      intro b' d h1 h2
      unfold upd
      split
      · rename_i e; subst e; exact hall d h2
      · rfl
    clear hall
    go_region_held3 (fun w' => w'.cell? ⟨n, 6 + b * 5, none⟩ = some (.int .i64 (h b 0)) ∧ w'.cell? ⟨n, 6 + b * 5 + 1, none⟩ = some (.int .i64 (h b 1)) ∧ w'.cell? ⟨n, 6 + b * 5 + 2, none⟩ = some (.int .i64 (h b 2)) ∧ w'.cell? ⟨n, 6 + b * 5 + 3, none⟩ = some (.int .i64 (h b 3)) ∧ w'.cell? ⟨n, 6 + b * 5 + 4, none⟩ = some (.int .i64 (h b 4)) ∧ w'.cell? ⟨V, 0, none⟩ = some (.int .i64 (v 0)) ∧ w'.cell? ⟨V, 1, none⟩ = some (.int .i64 (v 1)) ∧ w'.cell? ⟨V, 2, none⟩ = some (.int .i64 (v 2)) ∧ w'.cell? ⟨V, 3, none⟩ = some (.int .i64 (v 3)) ∧ w'.cell? ⟨V, 4, none⟩ = some (.int .i64 (v 4))) (go_keep) (fail)
    rename_i hHeld
    clear hHeld heq
    go_wp2
    go_end0
    refine ⟨rfl, (q0.chg _).drew, ?_⟩
    rw [← unhide hsame]
    exact bn.drew
  · have heq : ∀ W, (Op.equalIn 10000 55 (.agg #[.int .i64 (h b 0), .int .i64 (h b 1), .int .i64 (h b 2), .int .i64 (h b 3), .int .i64 (h b 4)]) (.agg #[.int .i64 (v 0), .int .i64 (v 1), .int .i64 (v 2), .int .i64 (v 3), .int .i64 (v 4)])).run Try.prog W = .ok false W := by
      intro W
      rw [eq5]
      congr 1
      rw [Bool.eq_false_iff]
      intro hT
      simp only [Bool.and_eq_true, beq_iff_eq] at hT
      obtain ⟨t0, t1, t2, t3, t4⟩ := hT
      refine hall ?_
      intro d hd
      have : d = 0 ∨ d = 1 ∨ d = 2 ∨ d = 3 ∨ d = 4 := by omega
      rcases this with rfl | rfl | rfl | rfl | rfl <;> assumption
    clear hall
    go_region_held3 (fun w' => w'.cell? ⟨n, 6 + b * 5, none⟩ = some (.int .i64 (h b 0)) ∧ w'.cell? ⟨n, 6 + b * 5 + 1, none⟩ = some (.int .i64 (h b 1)) ∧ w'.cell? ⟨n, 6 + b * 5 + 2, none⟩ = some (.int .i64 (h b 2)) ∧ w'.cell? ⟨n, 6 + b * 5 + 3, none⟩ = some (.int .i64 (h b 3)) ∧ w'.cell? ⟨n, 6 + b * 5 + 4, none⟩ = some (.int .i64 (h b 4)) ∧ w'.cell? ⟨V, 0, none⟩ = some (.int .i64 (v 0)) ∧ w'.cell? ⟨V, 1, none⟩ = some (.int .i64 (v 1)) ∧ w'.cell? ⟨V, 2, none⟩ = some (.int .i64 (v 2)) ∧ w'.cell? ⟨V, 3, none⟩ = some (.int .i64 (v 3)) ∧ w'.cell? ⟨V, 4, none⟩ = some (.int .i64 (v 4))) (go_keep) (fail)
    rename_i hHeld
    clear hHeld heq
    have bn1 := hide bn.drew
    have bv1 : Hid (Blk W.drew V 55 (vecC v)) := bv.drew
    have q1 : Hid (Quiet w W.drew) := q0.drew
    clear z0 z1 z2 z3 z4 v0 v1 v2 v3 v4 bn bv q0
    generalize World.drew _ = W2 at *
    have ok := fun k d p => hear_ok o b v hv hb5 k d p
    go_wp2
    go_loopw [15] (fun i wr => ∃ k : Nat, k ≤ 5 ∧ i = .int .i64 k ∧ Chg (fun k => k = n) w wr ∧ Blk wr V 55 (vecC v) ∧ Blk wr n 58 (ndC s (mended s c (hearTo h b v k)))) (fun i _ => 6 - (intOf i).toNat)
    case atStart => exact ⟨0, by omega, rfl, (unhide q1).chg _, unhide bv1, by rw [hearTo_zero]; exact unhide bn1⟩
    case round =>
      obtain ⟨k, hk, rfl, hc, bvk, bnk⟩ := hrel
      by_cases hlt : k < 5
      · have k0 : (0 : Int) ≤ (k : Int) := by omega
        have k1 : (k : Int) < 5 := by omega
        have a1 : wr.cell? ⟨n, 6 + b * 5 + k, none⟩ = some (.int .i64 (h b k)) := by
          have := cell_h bnk b k hb5 hlt
          rw [show (mended s c (hearTo h b v k)).h b k = h b k from hearTo_at h b v k] at this
          exact this
        have a2 : wr.cell? ⟨V, k, none⟩ = some (.int .i64 (v k)) := (bvk.cell k).trans (vecC_get v k hlt)
        have fa := bnk.frozen (6 + b * 5 + k)
        by_cases hne : h b k = v k
        · have e1 : (h b k != v k) = false := by simpa using hne
          have nx := hide bnk
          rw [hearTo_same h b v k hne] at nx
          have cH := hide hc
          have bH := hide bvk
          generalize h b k = hv1 at *
          generalize v k = vv1 at *
          clear hne bnk hc bvk
          go_wp2
          go_big_quiet (fail)
          go_wp2
          go_roundw
          case rel => exact ⟨k + 1, by omega, by go_num, Chg.drewN (unhide cH) _, (unhide bH).drewN _, (unhide nx).drewN _⟩
          case measure => simp [intOf]; omega
        · have e1 : (h b k != v k) = true := by simpa using hne
          have fin : Hid (∀ V', Quiet wr V' → Blk (V'.setCell ⟨n, 6 + b * 5 + k, none⟩ (.int .i64 (v k))) n 58 (ndC s { mended s c (hearTo h b v k) with h := hearTo h b v (k + 1) }) ∧ Blk (V'.setCell ⟨n, 6 + b * 5 + k, none⟩ (.int .i64 (v k))) V 55 (vecC v) ∧ Chg (fun k => k = n) w (V'.setCell ⟨n, 6 + b * 5 + k, none⟩ (.int .i64 (v k)))) := by
            intro V' q
            have h1 := (q.blk bnk).set (6 + b * 5 + k) (.int .i64 (v k))
            rw [set_h s _ b k hb5 hlt] at h1
            rw [show upd (mended s c (hearTo h b v k)).h b (upd ((mended s c (hearTo h b v k)).h b) k (v k)) = hearTo h b v (k + 1) from hearTo_upd h b v k] at h1
            exact ⟨h1, (q.blk bvk).set_other (a := ⟨n, 6 + b * 5 + k, none⟩) (Ne.symm nV) _, (hc.trans (q.chg _)).setCell (p := ⟨n, 6 + b * 5 + k, none⟩) (.inl rfl) _⟩
          have hmend : Hid (∀ V', Blk V' n 58 (ndC s { mended s c (hearTo h b v k) with h := hearTo h b v (k + 1) }) → Calls Try.prog 39 #[.pointer (some ⟨n, 0, none⟩), .int .i64 k] V' fun e w' => e = .returned (.tuple #[]) ∧ Chg (fun k => k = n) V' w' ∧ Blk w' n 58 (ndC s (mended s c (hearTo h b v (k + 1))))) := by
            intro V' hV'
            refine (mend_any V' n s _ hV' (ok (k + 1) _ _) hs k hlt).mono ?_
            rintro e w' ⟨g1, g2, g3⟩
            rw [hearTo_succ] at g3
            exact ⟨g1, g2, g3⟩
          generalize h b k = hv1 at *
          generalize v k = vv1 at *
          clear hne bnk hc bvk ok
          go_wp2
          go_big_quiet (fail)
          go_wp2
          go_region_held3 (fun w' => w'.cell? ⟨V, k, none⟩ = some (.int .i64 vv1)) (go_keep) (fail)
          rename_i hHeld
          clear hHeld
          obtain ⟨y1, y2, y3⟩ := unhide fin _ ((Chg.refl _ _).drewN (nq + 1))
          generalize World.setCell _ _ _ = W3 at *
          have hcall := hide (unhide hmend _ y1)
          clear y1 fin hmend a1 a2 fa
          go_wp2_with fail
          refine (unhide hcall).mono ?_
          rintro e w4 ⟨rfl, c4, b4⟩
          have cH := hide (y3.trans c4)
          have bH := hide (c4.blk y2 (Ne.symm nV))
          have nH := hide b4
          clear hcall c4 b4 y2 y3
          go_wp2
          go_roundw
          case rel => exact ⟨k + 1, by omega, by go_num, unhide cH, unhide bH, unhide nH⟩
          case measure => simp [intOf]; omega
      · have k1 : ¬ (k : Int) < 5 := by omega
        obtain rfl : k = 5 := by omega
        rw [hearTo_all] at bnk
        go_wp2
        go_end0
        exact ⟨rfl, hc, bnk⟩
end Go.Proofs.Qxb6500364a
