/-
  THE LAW'S OWN put. (gen70kput.py)
-/
import Derived.Test.Qxb6500370aKMove
import Derived.Test.Qxb6500370aQq
namespace Go.Proofs.Qxb6500370a
open Go.RowKit Go.Qx Go.Qx.Mk
set_option linter.unusedVariables false
set_option linter.unusedSimpArgs false

theorem parse_err (s : ByteArray) (h : (parseP s).2 ≠ 0) : (parseP s).2 = 1 ∨ (parseP s).2 = 2 ∨ (parseP s).2 = 3 ∨ (parseP s).2 = 4 := by
  revert h
  unfold parseP
  repeat' split
  all_goals simp
theorem parse_err40 (s : ByteArray) (h40 : s.size ≤ 40) (h : (parseP s).2 ≠ 0) : (parseP s).2 = 2 ∨ (parseP s).2 = 3 ∨ (parseP s).2 = 4 := by
  revert h
  unfold parseP
  rw [if_neg (by omega)]
  repeat' split
  all_goals simp

/-- A row of strings, one overwritten. -/
theorem tx_set (ws : List (List Int)) (spare : List Value) (j : Nat) (l : List Int) (h : j < ws.length) : (ws.map txV ++ spare).set j (.string (str (txt l))) = (ws.set j l).map txV ++ spare := by
  rw [List.set_append_left _ _ (by rw [List.length_map]; exact h), List.map_set]; rfl
theorem kput_fin {w W4 w5 W9 : World} {O OH O5 : Nat → Prop} {x g : Nat} {σ' : St} {vb vt vs : Value} (lO : ∀ k, O k → k < w.heap.size) (lH : ∀ k, OH k → k < w.heap.size) (hd : ∀ k, O k → ¬ OH k) (hHO : ∀ k, HO g vb vt vs k → OH k)
    (Q4 : Quiet w W4) (ch5 : Chg O W4 w5) (R5 : RRep w5 O5 x σ') (ho5 : ∀ k, O5 k → O k ∨ W4.heap.size + 0 ≤ k) (c9 : Chg (fun k => k = g ∨ vb.ownBlock = some k) w5 W9) {b n cap : Nat} (G9 : Gh W9 g (.slice (some ⟨b, 0, none⟩) n cap) vt vs σ') (hb : vb.ownBlock = some b ∨ w5.heap.size ≤ b) (e : Ending) (he : e = .returned (.bool true)) :
    KPost w O OH x g σ' e W9 := by
  have z4 := Q4.size
  have z5 := ch5.size
  have R5' := R5.tight
  have old : ∀ k, HO g (.slice (some ⟨b, 0, none⟩) n cap) vt vs k → OH k ∨ w5.heap.size ≤ k := by
    rintro k (rfl | h | h | h)
    · exact .inl (hHO _ (.inl rfl))
    · simp [Value.ownBlock] at h
      subst h
      rcases hb with h | h
      · exact .inl (hHO _ (.inr (.inl h)))
      · exact .inr h
    · exact .inl (hHO _ (.inr (.inr (.inl h))))
    · exact .inl (hHO _ (.inr (.inr (.inr h))))
  have noR : ∀ k, O5 k → k < w5.heap.size → ¬ OH k := fun k hk _ hh => by
    rcases ho5 k hk with h | h
    · exact hd k h hh
    · have := lH k hh; omega
  refine ⟨he, fun k => O5 k ∧ k < w5.heap.size, fun k => HO g (.slice (some ⟨b, 0, none⟩) n cap) vt vs k, R5'.of_chg c9 ?_, ⟨_, _, _, G9, fun k hk => hk⟩, ?_, ?_, ?_, ?_⟩
  · rintro k ⟨hk, hk2⟩ (h | h)
    · exact noR k hk hk2 (hHO _ (.inl h))
    · exact noR k hk hk2 (hHO _ (.inr (.inl h)))
  · exact Chg.trans' (Chg.trans' (Q4.chg _) ch5 (fun k _ h => .inl h)) c9 (fun k _ h => .inr (by rcases h with h | h; exact hHO _ (.inl h); exact hHO _ (.inr (.inl h))))
  · rintro k ⟨hk, hk2⟩
    rcases ho5 k hk with h | h
    · exact .inl h
    · exact .inr (by omega)
  · intro k hk
    rcases old k hk with h | h
    · exact .inl h
    · exact .inr (by omega)
  · rintro k ⟨hk, hk2⟩ hh
    rcases old k hh with h | h
    · exact noR k hk hk2 h
    · omega
set_option maxHeartbeats 8000000 in
set_option maxRecDepth 100000 in
theorem kput_any (w : World) (O OH : Nat → Prop) (x g : Nat) (σ : St) (A B C : Int) (s t : ByteArray) (hs : s.size ≤ maxLen) (ok : KOk σ) (R : RRep w O x (putS σ A s).2.2) (H : GhR w OH g σ) (hd : ∀ k, O k → ¬ OH k) (lO : ∀ k, O k → k < w.heap.size) (lH : ∀ k, OH k → k < w.heap.size) :
    Calls Try.prog 25 #[ptr x, ptr g, opv 1 A B C s t, ansv (putS σ A s).2.1 0 (str (putS σ A s).1)] w (KPost w O OH x g (putS σ A s).2.2) := by
  obtain ⟨vb, vt, vs, Hg, hHO⟩ := H
  obtain ⟨xb, cp, hxb⟩ := Hg.rb.slice
  obtain ⟨n, hn⟩ : ∃ n, σ.ws.length = n := ⟨_, rfl⟩
  rw [hn] at hxb
  obtain ⟨aE, haE⟩ : ∃ a, (putS σ A s).2.1 = a := ⟨_, rfl⟩
  obtain ⟨aS, haS⟩ : ∃ a, str (putS σ A s).1 = a := ⟨_, rfl⟩
  rw [haE, haS]
  obtain ⟨W0, hW0⟩ : ∃ W, (w.alloc (.cells #[.int .i64 1, .int .i64 A, .int .i64 B, .int .i64 C, .string s, .string t] 37)).alloc (.cells #[.int .i64 aE, .int .i64 0, .string aS] 39) = W := ⟨_, rfl⟩
  have q0 : Quiet w W0 := by rw [← hW0]; exact Chg.alloc (Chg.alloc (Chg.refl _ _) _) _
  have bo : Blk W0 w.heap.size 37 [.int .i64 1, .int .i64 A, .int .i64 B, .int .i64 C, .string s, .string t] := by rw [← hW0]; exact (Blk.new w 37 [.int .i64 1, .int .i64 A, .int .i64 B, .int .i64 C, .string s, .string t]).alloc _
  have ba : Blk W0 (w.heap.size + 1) 39 [.int .i64 aE, .int .i64 0, .string aS] := by
    have := Blk.new (w.alloc (.cells #[.int .i64 1, .int .i64 A, .int .i64 B, .int .i64 C, .string s, .string t] 37)) 39 [.int .i64 aE, .int .i64 0, .string aS]
    rw [show (w.alloc (.cells #[.int .i64 1, .int .i64 A, .int .i64 B, .int .i64 C, .string s, .string t] 37)).heap.size = w.heap.size + 1 by simp] at this
    rw [← hW0]; exact this
  have hsz0 : W0.heap.size = w.heap.size + 1 + 1 := by rw [← hW0]; simp
  have how := hide (owed_any W0 s hs)
  have c4 : W0.cell? ⟨w.heap.size, 4, none⟩ = some (.string s) := bo.cell 4
  have few := ok.ok.few
  rw [hn] at few
  have RH := hide (⟨R, ⟨vb, vt, vs, Hg, hHO⟩, hd, lO, lH, ok, hs⟩ : _ ∧ GhR w OH g σ ∧ _ ∧ _ ∧ _ ∧ _ ∧ _)
  have GH := hide (⟨Hg, hHO⟩ : _ ∧ _)
  have q0H := hide (⟨q0, bo, ba⟩ : _ ∧ _ ∧ _)
  have hnH := hide hn
  have hxbH := hide hxb
  have aH := hide (⟨haE, haS⟩ : _ ∧ _)
  clear R Hg hHO hd lO lH ok q0 bo ba hn hxb haE haS
  unfold ptr opv ansv ansC
  go_enter Try.func25, Try.ntmps25
  go_wp2_with fail
  refine (unhide how).mono ?_
  clear how c4 hW0
  rintro e w1 ⟨E0, T, sd, rfl, q1, ow⟩
  have Q1 := hide (Quiet.trans (unhide q0H).1 q1)
  have SB1 := hide (⟨q1.blk (unhide q0H).2.1, q1.blk (unhide q0H).2.2⟩ : _ ∧ _)
  have co1 : w1.cell? ⟨w.heap.size, 1, none⟩ = some (.int .i64 A) := (unhide SB1).1.cell 1
  have ca0 : w1.cell? ⟨w.heap.size + 1, 0, none⟩ = some (.int .i64 aE) := (unhide SB1).2.cell 0
  have ca1 : w1.cell? ⟨w.heap.size + 1, 1, none⟩ = some (.int .i64 0) := (unhide SB1).2.cell 1
  have ca2 : w1.cell? ⟨w.heap.size + 1, 2, none⟩ = some (.string aS) := (unhide SB1).2.cell 2
  have cg0 : w1.cell? ⟨g, 0, none⟩ = some (.slice xb n cp) := by rw [← unhide hxbH]; exact Quiet.cell (unhide Q1) ((unhide GH).1.b.cell 0)
  clear q1 q0H
  by_cases he : (parseP s).2 = 0
  · by_cases hbad : A < 0 ∨ (n : Int) < A ∨ 8 ≤ A
    · -- a word, no slot
      have hp : putS σ A s = ([], 5, σ) := by unfold putS; rw [if_neg (by omega), if_pos (by rw [unhide hnH]; exact hbad)]
      have fin : Hid (∀ e w', Quiet w w' → e = .returned (.bool true) → KPost w O OH x g (putS σ A s).2.2 e w') := by
        have hR := (unhide RH).1
        show ∀ e w', _
        rw [show (putS σ A s).2.2 = σ by rw [hp]] at hR ⊢
        exact fun e w' q he => KPost.same hR (unhide RH).2.1 (unhide RH).2.2.1 q he
      rw [hp] at aH
      obtain ⟨hE, hS⟩ := unhide aH
      simp only at hE hS
      subst hE
      have hS : aS = ⟨#[]⟩ := hS.symm
      subst hS
      rcases ow with ⟨rfl, hE0, hT⟩ | ⟨rfl, rfl, rfl, h40⟩
      · rw [he] at hE0
        subst hE0
        clear hT he aH hp RH GH
        rcases (by omega : A < 0 ∨ (0 ≤ A ∧ (n : Int) < A) ∨ (0 ≤ A ∧ A ≤ (n : Int) ∧ 8 ≤ A) ∨ (0 ≤ A ∧ A ≤ (n : Int) ∧ A < 8)) with ho | ho | ho | ho
        · have o1 : A < 0 := ho
          have o1d : decide (A < 0) = true := decide_eq_true o1
          clear ho
          go_wp2
          go_quiet (fail)
          have Q2 := hide ((unhide Q1).drewN nq)
          have co1' := Quiet.cell ((Chg.refl (fun _ => False) w1).drewN nq) co1
          have ca0' := Quiet.cell ((Chg.refl (fun _ => False) w1).drewN nq) ca0
          have ca1' := Quiet.cell ((Chg.refl (fun _ => False) w1).drewN nq) ca1
          have ca2' := Quiet.cell ((Chg.refl (fun _ => False) w1).drewN nq) ca2
          have SB2 := hide (⟨(unhide SB1).1.drewN nq, (unhide SB1).2.drewN nq⟩ : _ ∧ _)
          generalize w1.drewN nq = w2 at *
          clear co1 ca0 ca1 ca2 cg0 Q1 SB1
          go_wp2
          all_goals
            go_ret
            exact unhide fin _ _ (unhide Q2) rfl
        · have o1 : ¬ A < 0 := by omega
          have o1d : decide (A < 0) = false := decide_eq_false o1
          have o2 : (n : Int) < A := by omega
          have o2d : decide ((n : Int) < A) = true := decide_eq_true o2
          clear ho
          go_wp2
          go_quiet (fail)
          have Q2 := hide ((unhide Q1).drewN nq)
          have co1' := Quiet.cell ((Chg.refl (fun _ => False) w1).drewN nq) co1
          have ca0' := Quiet.cell ((Chg.refl (fun _ => False) w1).drewN nq) ca0
          have ca1' := Quiet.cell ((Chg.refl (fun _ => False) w1).drewN nq) ca1
          have ca2' := Quiet.cell ((Chg.refl (fun _ => False) w1).drewN nq) ca2
          have SB2 := hide (⟨(unhide SB1).1.drewN nq, (unhide SB1).2.drewN nq⟩ : _ ∧ _)
          generalize w1.drewN nq = w2 at *
          clear co1 ca0 ca1 ca2 cg0 Q1 SB1
          go_wp2
          all_goals
            go_ret
            exact unhide fin _ _ (unhide Q2) rfl
        · have o1 : ¬ A < 0 := by omega
          have o1d : decide (A < 0) = false := decide_eq_false o1
          have o2 : ¬ (n : Int) < A := by omega
          have o2d : decide ((n : Int) < A) = false := decide_eq_false o2
          have o3 : (8 : Int) ≤ A := by omega
          have o3d : decide ((8 : Int) ≤ A) = true := decide_eq_true o3
          clear ho
          go_wp2
          go_quiet (fail)
          have Q2 := hide ((unhide Q1).drewN nq)
          have co1' := Quiet.cell ((Chg.refl (fun _ => False) w1).drewN nq) co1
          have ca0' := Quiet.cell ((Chg.refl (fun _ => False) w1).drewN nq) ca0
          have ca1' := Quiet.cell ((Chg.refl (fun _ => False) w1).drewN nq) ca1
          have ca2' := Quiet.cell ((Chg.refl (fun _ => False) w1).drewN nq) ca2
          have SB2 := hide (⟨(unhide SB1).1.drewN nq, (unhide SB1).2.drewN nq⟩ : _ ∧ _)
          generalize w1.drewN nq = w2 at *
          clear co1 ca0 ca1 ca2 cg0 Q1 SB1
          go_wp2
          all_goals
            go_ret
            exact unhide fin _ _ (unhide Q2) rfl
        · exfalso; omega
      · have hwT := hide ((word_law s h40).1 he)
        clear he aH hp RH GH
        obtain ⟨T, hTT⟩ : ∃ T, str (low s) = T := ⟨_, rfl⟩
        have hTs : T.size = s.size := by rw [← hTT]; exact low_size s
        rw [hTT] at hwT ⊢
        clear hTT
        rcases (by omega : A < 0 ∨ (0 ≤ A ∧ (n : Int) < A) ∨ (0 ≤ A ∧ A ≤ (n : Int) ∧ 8 ≤ A) ∨ (0 ≤ A ∧ A ≤ (n : Int) ∧ A < 8)) with ho | ho | ho | ho
        · have o1 : A < 0 := ho
          have o1d : decide (A < 0) = true := decide_eq_true o1
          clear ho
          go_wp2
          go_quiet (fail)
          have Q2 := hide ((unhide Q1).drewN nq)
          have co1' := Quiet.cell ((Chg.refl (fun _ => False) w1).drewN nq) co1
          have ca0' := Quiet.cell ((Chg.refl (fun _ => False) w1).drewN nq) ca0
          have ca1' := Quiet.cell ((Chg.refl (fun _ => False) w1).drewN nq) ca1
          have ca2' := Quiet.cell ((Chg.refl (fun _ => False) w1).drewN nq) ca2
          have SB2 := hide (⟨(unhide SB1).1.drewN nq, (unhide SB1).2.drewN nq⟩ : _ ∧ _)
          generalize w1.drewN nq = w2 at *
          clear co1 ca0 ca1 ca2 cg0 Q1 SB1
          have hct := hide (cut_any w2 T (by have := h40; rw [hTs]; omega))
          go_wp2_with fail
          refine (unhide hct).mono ?_
          clear hct
          rintro e w3 ⟨P, hP, fi, hor, rfl, q3⟩
          have hwd := word_end T P hP fi hor
          generalize decide (P = 5 ∧ cutTo T 5 = (T).size) = wb at *
          obtain ⟨W3, hW3⟩ : ∃ W, w3.alloc (.cells (rowC T P).toArray 77) = W := ⟨_, rfl⟩
          have bD : Blk W3 w3.heap.size 77 (rowC T P) := by rw [← hW3]; exact Blk.new w3 77 _
          have q23 : Quiet w2 W3 := by rw [← hW3]; exact Chg.alloc q3 _
          have Q3 := hide (Quiet.trans (unhide Q2) q23)
          have SB3 := hide (⟨q23.blk (unhide SB2).1, q23.blk (unhide SB2).2⟩ : _ ∧ _)
          have bDH := hide bD
          have hwdH := hide hwd
          rw [show (rowC T P).toArray = #[.string (rowS T P 0), .string (rowS T P 1), .string (rowS T P 2), .string (rowS T P 3), .string (rowS T P 4)] from rfl] at hW3 ⊢
          have co1s := Quiet.cell q23 co1'
          have ca0s := Quiet.cell q23 ca0'
          have ca1s := Quiet.cell q23 ca1'
          have ca2s := Quiet.cell q23 ca2'
          clear bD q23 q3 Q2 SB2 hP fi hor hwd co1' ca0' ca1' ca2'
          obtain ⟨D, hD⟩ : ∃ D, w3.heap.size = D := ⟨_, rfl⟩
          rw [hD] at bDH
          go_wp2
          clear hW3 hD
          go_loopw [15, 16] (fun b z wr => ∃ k : Nat, k ≤ 5 ∧ z = .int .i64 (k : Int) ∧ b = .bool (wb && letAll T P k) ∧ wr = W3) (fun _ z _ => 6 - (intOf z).toNat)
          case atStart => exact ⟨0, by omega, rfl, by simp [letAll], rfl⟩
          case round =>
            obtain ⟨k, hk, rfl, rfl, rfl⟩ := hrel
            by_cases hk5 : k < 5
            · have k1 : (k : Int) < 5 := by omega
              have k0 : (0 : Int) ≤ (k : Int) := by omega
              have wk : wrap64 ((k : Int) + 1) = (k : Int) + 1 := wrap_small (k + 1) (by omega)
              have cD : wr.cell? ⟨D, k, none⟩ = some (.string (rowS T P k)) := ((unhide bDH).cell k).trans (row5_get _ k hk5)
              have hlt := hide (letter_any wr (rowS T P k) (rowS_size _ _ _))
              have hnx : Hid ((wb && letAll T P (k + 1)) = ((wb && letAll T P k) && letterL (rowS T P k).data.toList)) := by
                show _ = _
                rw [letAll, Bool.and_assoc]
              have hkH := hide hk5
              clear hk hk5
              generalize letterL (rowS T P k).data.toList = lk at *
              generalize rowS T P k = pk at *
              generalize (wb && letAll T P k) = wk0 at *
              go_wp2_with fail
              refine (unhide hlt).mono ?_
              clear hlt cD
              rintro e wx ⟨rfl, rfl⟩
              cases wk0
              · go_wp2
                go_roundw
                case rel => exact ⟨k + 1, unhide hkH, by simp; try exact wk, by rw [unhide hnx]; simp, by first | rfl | trivial⟩
                case measure =>
                  have h := unhide hkH
                  first
                    | exact meas_list h
                    | (rw [wk]; exact meas_list h)
              · go_wp2
                go_roundw
                case rel => exact ⟨k + 1, unhide hkH, by simp; try exact wk, by rw [unhide hnx]; simp, by first | rfl | trivial⟩
                case measure =>
                  have h := unhide hkH
                  first
                    | exact meas_list h
                    | (rw [wk]; exact meas_list h)
            · have k1 : ¬ (k : Int) < 5 := by omega
              obtain rfl : k = 5 := by omega
              have hw5 : (wb && letAll T P 5) = true := by exact (unhide hwdH).2 (unhide hwT)
              rw [hw5]
              clear hk hk5 hw5 hwdH bDH
              have Q2 := Q3
              have SB2 := SB3
              have co1' := co1s
              have ca0' := ca0s
              have ca1' := ca1s
              have ca2' := ca2s
              clear co1s ca0s ca1s ca2s
              clear Q3 SB3
              go_wp2
              all_goals
                go_ret
                exact unhide fin _ _ (unhide Q2) rfl
        · have o1 : ¬ A < 0 := by omega
          have o1d : decide (A < 0) = false := decide_eq_false o1
          have o2 : (n : Int) < A := by omega
          have o2d : decide ((n : Int) < A) = true := decide_eq_true o2
          clear ho
          go_wp2
          go_quiet (fail)
          have Q2 := hide ((unhide Q1).drewN nq)
          have co1' := Quiet.cell ((Chg.refl (fun _ => False) w1).drewN nq) co1
          have ca0' := Quiet.cell ((Chg.refl (fun _ => False) w1).drewN nq) ca0
          have ca1' := Quiet.cell ((Chg.refl (fun _ => False) w1).drewN nq) ca1
          have ca2' := Quiet.cell ((Chg.refl (fun _ => False) w1).drewN nq) ca2
          have SB2 := hide (⟨(unhide SB1).1.drewN nq, (unhide SB1).2.drewN nq⟩ : _ ∧ _)
          generalize w1.drewN nq = w2 at *
          clear co1 ca0 ca1 ca2 cg0 Q1 SB1
          have hct := hide (cut_any w2 T (by have := h40; rw [hTs]; omega))
          go_wp2_with fail
          refine (unhide hct).mono ?_
          clear hct
          rintro e w3 ⟨P, hP, fi, hor, rfl, q3⟩
          have hwd := word_end T P hP fi hor
          generalize decide (P = 5 ∧ cutTo T 5 = (T).size) = wb at *
          obtain ⟨W3, hW3⟩ : ∃ W, w3.alloc (.cells (rowC T P).toArray 77) = W := ⟨_, rfl⟩
          have bD : Blk W3 w3.heap.size 77 (rowC T P) := by rw [← hW3]; exact Blk.new w3 77 _
          have q23 : Quiet w2 W3 := by rw [← hW3]; exact Chg.alloc q3 _
          have Q3 := hide (Quiet.trans (unhide Q2) q23)
          have SB3 := hide (⟨q23.blk (unhide SB2).1, q23.blk (unhide SB2).2⟩ : _ ∧ _)
          have bDH := hide bD
          have hwdH := hide hwd
          rw [show (rowC T P).toArray = #[.string (rowS T P 0), .string (rowS T P 1), .string (rowS T P 2), .string (rowS T P 3), .string (rowS T P 4)] from rfl] at hW3 ⊢
          have co1s := Quiet.cell q23 co1'
          have ca0s := Quiet.cell q23 ca0'
          have ca1s := Quiet.cell q23 ca1'
          have ca2s := Quiet.cell q23 ca2'
          clear bD q23 q3 Q2 SB2 hP fi hor hwd co1' ca0' ca1' ca2'
          obtain ⟨D, hD⟩ : ∃ D, w3.heap.size = D := ⟨_, rfl⟩
          rw [hD] at bDH
          go_wp2
          clear hW3 hD
          go_loopw [15, 16] (fun b z wr => ∃ k : Nat, k ≤ 5 ∧ z = .int .i64 (k : Int) ∧ b = .bool (wb && letAll T P k) ∧ wr = W3) (fun _ z _ => 6 - (intOf z).toNat)
          case atStart => exact ⟨0, by omega, rfl, by simp [letAll], rfl⟩
          case round =>
            obtain ⟨k, hk, rfl, rfl, rfl⟩ := hrel
            by_cases hk5 : k < 5
            · have k1 : (k : Int) < 5 := by omega
              have k0 : (0 : Int) ≤ (k : Int) := by omega
              have wk : wrap64 ((k : Int) + 1) = (k : Int) + 1 := wrap_small (k + 1) (by omega)
              have cD : wr.cell? ⟨D, k, none⟩ = some (.string (rowS T P k)) := ((unhide bDH).cell k).trans (row5_get _ k hk5)
              have hlt := hide (letter_any wr (rowS T P k) (rowS_size _ _ _))
              have hnx : Hid ((wb && letAll T P (k + 1)) = ((wb && letAll T P k) && letterL (rowS T P k).data.toList)) := by
                show _ = _
                rw [letAll, Bool.and_assoc]
              have hkH := hide hk5
              clear hk hk5
              generalize letterL (rowS T P k).data.toList = lk at *
              generalize rowS T P k = pk at *
              generalize (wb && letAll T P k) = wk0 at *
              go_wp2_with fail
              refine (unhide hlt).mono ?_
              clear hlt cD
              rintro e wx ⟨rfl, rfl⟩
              cases wk0
              · go_wp2
                go_roundw
                case rel => exact ⟨k + 1, unhide hkH, by simp; try exact wk, by rw [unhide hnx]; simp, by first | rfl | trivial⟩
                case measure =>
                  have h := unhide hkH
                  first
                    | exact meas_list h
                    | (rw [wk]; exact meas_list h)
              · go_wp2
                go_roundw
                case rel => exact ⟨k + 1, unhide hkH, by simp; try exact wk, by rw [unhide hnx]; simp, by first | rfl | trivial⟩
                case measure =>
                  have h := unhide hkH
                  first
                    | exact meas_list h
                    | (rw [wk]; exact meas_list h)
            · have k1 : ¬ (k : Int) < 5 := by omega
              obtain rfl : k = 5 := by omega
              have hw5 : (wb && letAll T P 5) = true := by exact (unhide hwdH).2 (unhide hwT)
              rw [hw5]
              clear hk hk5 hw5 hwdH bDH
              have Q2 := Q3
              have SB2 := SB3
              have co1' := co1s
              have ca0' := ca0s
              have ca1' := ca1s
              have ca2' := ca2s
              clear co1s ca0s ca1s ca2s
              clear Q3 SB3
              go_wp2
              all_goals
                go_ret
                exact unhide fin _ _ (unhide Q2) rfl
        · have o1 : ¬ A < 0 := by omega
          have o1d : decide (A < 0) = false := decide_eq_false o1
          have o2 : ¬ (n : Int) < A := by omega
          have o2d : decide ((n : Int) < A) = false := decide_eq_false o2
          have o3 : (8 : Int) ≤ A := by omega
          have o3d : decide ((8 : Int) ≤ A) = true := decide_eq_true o3
          clear ho
          go_wp2
          go_quiet (fail)
          have Q2 := hide ((unhide Q1).drewN nq)
          have co1' := Quiet.cell ((Chg.refl (fun _ => False) w1).drewN nq) co1
          have ca0' := Quiet.cell ((Chg.refl (fun _ => False) w1).drewN nq) ca0
          have ca1' := Quiet.cell ((Chg.refl (fun _ => False) w1).drewN nq) ca1
          have ca2' := Quiet.cell ((Chg.refl (fun _ => False) w1).drewN nq) ca2
          have SB2 := hide (⟨(unhide SB1).1.drewN nq, (unhide SB1).2.drewN nq⟩ : _ ∧ _)
          generalize w1.drewN nq = w2 at *
          clear co1 ca0 ca1 ca2 cg0 Q1 SB1
          have hct := hide (cut_any w2 T (by have := h40; rw [hTs]; omega))
          go_wp2_with fail
          refine (unhide hct).mono ?_
          clear hct
          rintro e w3 ⟨P, hP, fi, hor, rfl, q3⟩
          have hwd := word_end T P hP fi hor
          generalize decide (P = 5 ∧ cutTo T 5 = (T).size) = wb at *
          obtain ⟨W3, hW3⟩ : ∃ W, w3.alloc (.cells (rowC T P).toArray 77) = W := ⟨_, rfl⟩
          have bD : Blk W3 w3.heap.size 77 (rowC T P) := by rw [← hW3]; exact Blk.new w3 77 _
          have q23 : Quiet w2 W3 := by rw [← hW3]; exact Chg.alloc q3 _
          have Q3 := hide (Quiet.trans (unhide Q2) q23)
          have SB3 := hide (⟨q23.blk (unhide SB2).1, q23.blk (unhide SB2).2⟩ : _ ∧ _)
          have bDH := hide bD
          have hwdH := hide hwd
          rw [show (rowC T P).toArray = #[.string (rowS T P 0), .string (rowS T P 1), .string (rowS T P 2), .string (rowS T P 3), .string (rowS T P 4)] from rfl] at hW3 ⊢
          have co1s := Quiet.cell q23 co1'
          have ca0s := Quiet.cell q23 ca0'
          have ca1s := Quiet.cell q23 ca1'
          have ca2s := Quiet.cell q23 ca2'
          clear bD q23 q3 Q2 SB2 hP fi hor hwd co1' ca0' ca1' ca2'
          obtain ⟨D, hD⟩ : ∃ D, w3.heap.size = D := ⟨_, rfl⟩
          rw [hD] at bDH
          go_wp2
          clear hW3 hD
          go_loopw [15, 16] (fun b z wr => ∃ k : Nat, k ≤ 5 ∧ z = .int .i64 (k : Int) ∧ b = .bool (wb && letAll T P k) ∧ wr = W3) (fun _ z _ => 6 - (intOf z).toNat)
          case atStart => exact ⟨0, by omega, rfl, by simp [letAll], rfl⟩
          case round =>
            obtain ⟨k, hk, rfl, rfl, rfl⟩ := hrel
            by_cases hk5 : k < 5
            · have k1 : (k : Int) < 5 := by omega
              have k0 : (0 : Int) ≤ (k : Int) := by omega
              have wk : wrap64 ((k : Int) + 1) = (k : Int) + 1 := wrap_small (k + 1) (by omega)
              have cD : wr.cell? ⟨D, k, none⟩ = some (.string (rowS T P k)) := ((unhide bDH).cell k).trans (row5_get _ k hk5)
              have hlt := hide (letter_any wr (rowS T P k) (rowS_size _ _ _))
              have hnx : Hid ((wb && letAll T P (k + 1)) = ((wb && letAll T P k) && letterL (rowS T P k).data.toList)) := by
                show _ = _
                rw [letAll, Bool.and_assoc]
              have hkH := hide hk5
              clear hk hk5
              generalize letterL (rowS T P k).data.toList = lk at *
              generalize rowS T P k = pk at *
              generalize (wb && letAll T P k) = wk0 at *
              go_wp2_with fail
              refine (unhide hlt).mono ?_
              clear hlt cD
              rintro e wx ⟨rfl, rfl⟩
              cases wk0
              · go_wp2
                go_roundw
                case rel => exact ⟨k + 1, unhide hkH, by simp; try exact wk, by rw [unhide hnx]; simp, by first | rfl | trivial⟩
                case measure =>
                  have h := unhide hkH
                  first
                    | exact meas_list h
                    | (rw [wk]; exact meas_list h)
              · go_wp2
                go_roundw
                case rel => exact ⟨k + 1, unhide hkH, by simp; try exact wk, by rw [unhide hnx]; simp, by first | rfl | trivial⟩
                case measure =>
                  have h := unhide hkH
                  first
                    | exact meas_list h
                    | (rw [wk]; exact meas_list h)
            · have k1 : ¬ (k : Int) < 5 := by omega
              obtain rfl : k = 5 := by omega
              have hw5 : (wb && letAll T P 5) = true := by exact (unhide hwdH).2 (unhide hwT)
              rw [hw5]
              clear hk hk5 hw5 hwdH bDH
              have Q2 := Q3
              have SB2 := SB3
              have co1' := co1s
              have ca0' := ca0s
              have ca1' := ca1s
              have ca2' := ca2s
              clear co1s ca0s ca1s ca2s
              clear Q3 SB3
              go_wp2
              all_goals
                go_ret
                exact unhide fin _ _ (unhide Q2) rfl
        · exfalso; omega
    · -- a word, and a slot
      obtain ⟨j, rfl⟩ : ∃ j : Nat, A = j := ⟨A.toNat, by omega⟩
      have hLW := parse_LW s he
      have hlow := parse_low s he
      have hag := put_again σ (j : Int) s he (by rw [unhide hnH]; exact hbad)
      obtain ⟨l, hl⟩ : ∃ l, (parseP s).1 = l := ⟨_, rfl⟩
      rw [hl] at hLW hlow hag
      have hp : putS σ (j : Int) s = (txt l, 0, { σ with ws := if (j : Int) = σ.ws.length then σ.ws ++ [l] else σ.ws.set (j : Int).toNat l }) := by
        unfold putS; rw [if_neg (by omega), if_neg (by rw [unhide hnH]; exact hbad), hl]
      obtain ⟨hE, hS⟩ := unhide aH
      have hE : aE = 0 := by rw [← hE, hp]
      have hS : aS = str (txt l) := by rw [← hS, hp]
      subst hE; subst hS
      have hT' : E0 = 0 ∧ T = str (txt l) ∧ (sd = false → s.size ≤ 40) := by
        rcases ow with ⟨h1, h2, h3⟩ | ⟨h1, h2, h3, h4⟩
        · rw [he] at h2
          exact ⟨h2, by rw [h3 h2, hlow], fun h => by rw [h1] at h; cases h⟩
        · exact ⟨h2, by rw [h3, hlow], fun _ => h4⟩
      obtain ⟨rfl, rfl, h40'⟩ := hT'
      have hok' := put_ok (unhide RH).2.2.2.2.2.1.ok (j : Int) s
      have hDo : Hid (∀ W4, Quiet w W4 → Calls Try.prog 14 #[.pointer (some ⟨x, 0, none⟩), .agg #[.int .i64 1, .int .i64 (j : Int), .int .i64 0, .int .i64 0, .string (str (txt l)), .string ⟨#[]⟩]] W4 fun e w' => e = .returned (.agg #[.int .i64 0, .int .i64 0, .string (str (txt l))]) ∧ Chg O W4 w' ∧ NewR W4 0 O x (putS σ (j : Int) s).2.2 w') := by
        show ∀ W4, _
        intro W4 q4
        have h := do_any W4 O x (putS σ (j : Int) s).2.2 ((unhide RH).1.quiet q4) (fun k hk => Nat.lt_of_lt_of_le ((unhide RH).2.2.2.1 k hk) q4.size) hok' ⟨1, (j : Int), 0, 0, str (txt l), ⟨#[]⟩⟩ (by have := txt_size hLW.1; unfold maxLen; show (str (txt l)).size ≤ _; omega)
        have e1 : ansP (putS σ (j : Int) s).2.2 ⟨1, (j : Int), 0, 0, str (txt l), ⟨#[]⟩⟩ = ⟨0, 0, str (txt l)⟩ := by
          unfold ansP; simp only [if_true]; rw [hag]
        have e2 : nextP (putS σ (j : Int) s).2.2 ⟨1, (j : Int), 0, 0, str (txt l), ⟨#[]⟩⟩ = (putS σ (j : Int) s).2.2 := by
          unfold nextP; simp only [if_true]; rw [hag]
        rw [e1, e2] at h
        exact h
      have hTs : (str (txt l)).size = s.size := by rw [hlow]; exact low_size s
      have hwT : Hid (WordT (str (txt l))) := hLW.wordT
      have hLWH := hide hLW
      obtain ⟨TT, hTT⟩ : ∃ TT, str (txt l) = TT := ⟨_, rfl⟩
      rw [hTT] at hDo hTs hwT ca2 SB1 ⊢
      have hTTH := hide hTT
      have hTTs : (TT.toList == TT.toList) = true := by simp
      clear hTT ow hlow hag hl aH he hok' hLW
      by_cases hjn : j = n
      · have hspH : Hid ((putS σ (j : Int) s).2.2 = { σ with ws := σ.ws ++ [l] }) := by show _ = _; rw [hp, if_pos (by rw [unhide hnH]; omega)]
        have hjnH := hide hjn
        clear hp hjn
        cases sd with
        | true =>
          clear h40'
          have o1 : ¬ (j : Int) < 0 := by omega
          have o1d : decide ((j : Int) < 0) = false := decide_eq_false o1
          have o2 : ¬ (n : Int) < (j : Int) := by omega
          have o2d : decide ((n : Int) < (j : Int)) = false := decide_eq_false o2
          have o3 : ¬ (8 : Int) ≤ (j : Int) := by omega
          have o3d : decide ((8 : Int) ≤ (j : Int)) = false := decide_eq_false o3
          have o2n : decide (n < j) = false := decide_eq_false (by omega)
          have o3n : decide (8 ≤ j) = false := decide_eq_false (by omega)
          have o2m : ¬ n < j := by omega
          have o3m : ¬ 8 ≤ j := by omega
          go_wp2
          go_quiet (fail)
          have Q2 := hide ((unhide Q1).drewN nq)
          have co1' := Quiet.cell ((Chg.refl (fun _ => False) w1).drewN nq) co1
          have ca0' := Quiet.cell ((Chg.refl (fun _ => False) w1).drewN nq) ca0
          have ca1' := Quiet.cell ((Chg.refl (fun _ => False) w1).drewN nq) ca1
          have ca2' := Quiet.cell ((Chg.refl (fun _ => False) w1).drewN nq) ca2
          have SB2 := hide (⟨(unhide SB1).1.drewN nq, (unhide SB1).2.drewN nq⟩ : _ ∧ _)
          generalize w1.drewN nq = w2 at *
          clear co1 ca0 ca1 ca2 cg0 Q1 SB1
          have ig : ((j : Int) == (n : Int)) = true := by rw [beq_iff_eq]; have := unhide hjnH; omega
          have hcw := hide (cut_word w2 l (unhide hLWH))
          rw [show (row5 fun i => Value.string (str (encL (fw l i)))).toArray = #[.string (str (encL (fw l 0))), .string (str (encL (fw l 1))), .string (str (encL (fw l 2))), .string (str (encL (fw l 3))), .string (str (encL (fw l 4)))] from rfl] at hcw
          rw [unhide hTTH] at hcw
          go_wp2_with fail
          refine (unhide hcw).mono ?_
          clear hcw
          rintro e w4 ⟨rfl, q4⟩
          obtain ⟨W4, hW4⟩ : ∃ W, w4.alloc (.cells #[.string (str (encL (fw l 0))), .string (str (encL (fw l 1))), .string (str (encL (fw l 2))), .string (str (encL (fw l 3))), .string (str (encL (fw l 4)))] 77) = W := ⟨_, rfl⟩
          have q24 : Quiet w2 W4 := by rw [← hW4]; exact Chg.alloc q4 _
          have Q4 := hide (Quiet.trans (unhide Q2) q24)
          have co4 := Quiet.cell q24 co1'
          have cn0 := Quiet.cell q24 ca0'
          have cn1 := Quiet.cell q24 ca1'
          have cn2 := Quiet.cell q24 ca2'
          have SB4 := hide (⟨q24.blk (unhide SB2).1, q24.blk (unhide SB2).2⟩ : _ ∧ _)
          clear co1' ca0' ca1' ca2' q24 q4 Q2 SB2
          have hdo := hide (unhide hDo W4 (unhide Q4))
          have hts : (TT.toList == TT.toList) = true := by simp
          go_wp2_with fail
          refine (unhide hdo).mono ?_
          clear hdo hW4 cn0 cn1 cn2 hts
          rintro e w5 ⟨rfl, ch5, O5, R5, ho5⟩
          obtain ⟨W5, hW5⟩ : ∃ W, w5.alloc (.cells #[.int .i64 0, .int .i64 0, .string TT] 39) = W := ⟨_, rfl⟩
          have hW5H : Hid (∀ S, Chg S w5 W5) := fun S => by rw [← hW5]; exact Chg.alloc (Chg.refl _ _) _
          have bx5 : Blk W5 w5.heap.size 39 [.int .i64 0, .int .i64 0, .string TT] := by rw [← hW5]; exact Blk.new w5 39 _
          have z4 := (unhide Q4).size
          have z5 := ch5.size
          have ow0 : ∀ k, w.heap.size ≤ k → ¬ O k := fun k hk h => by have := (unhide RH).2.2.2.1 k h; omega
          have oh0 : ∀ k, w.heap.size ≤ k → ¬ (k = g ∨ vb.ownBlock = some k) := fun k hk h => by
            have := (unhide RH).2.2.2.2.1 k (by rcases h with h | h; exact (unhide GH).2 _ (.inl h); exact (unhide GH).2 _ (.inr (.inl h)))
            omega
          have bo5 : Blk W5 w.heap.size 37 [.int .i64 1, .int .i64 (j : Int), .int .i64 B, .int .i64 C, .string s, .string t] := by rw [← hW5]; exact (ch5.blk (unhide SB4).1 (ow0 _ (Nat.le_refl _))).alloc _
          have ba5 : Blk W5 (w.heap.size + 1) 39 [.int .i64 0, .int .i64 0, .string TT] := by rw [← hW5]; exact (ch5.blk (unhide SB4).2 (ow0 _ (by omega))).alloc _
          have co5 : W5.cell? ⟨w.heap.size, 1, none⟩ = some (.int .i64 (j : Int)) := bo5.cell 1
          have BOX5 : Hid (W5.cell? ⟨w5.heap.size, 0, none⟩ = some (.int .i64 0) ∧ W5.cell? ⟨w5.heap.size, 1, none⟩ = some (.int .i64 0) ∧ W5.cell? ⟨w5.heap.size, 2, none⟩ = some (.string TT) ∧ W5.cell? ⟨w.heap.size + 1, 0, none⟩ = some (.int .i64 0) ∧ W5.cell? ⟨w.heap.size + 1, 1, none⟩ = some (.int .i64 0) ∧ W5.cell? ⟨w.heap.size + 1, 2, none⟩ = some (.string TT) ∧ (¬ (w5.heap.size = g ∨ vb.ownBlock = some w5.heap.size)) ∧ ¬ (w.heap.size + 1 = g ∨ vb.ownBlock = some (w.heap.size + 1))) := ⟨bx5.cell 0, bx5.cell 1, bx5.cell 2, ba5.cell 0, ba5.cell 1, ba5.cell 2, oh0 _ (by omega), oh0 _ (by omega)⟩
          have G5 : Gh W5 g vb vt vs σ := by
            have h := ((unhide GH).1.quiet (unhide Q4)).of_chg ch5 (fun k hk ho => (unhide RH).2.2.1 k ho ((unhide GH).2 k hk))
            rw [← hW5]; exact h.quiet (Chg.alloc (Chg.refl _ _) _)
          have cg5 : W5.cell? ⟨g, 0, none⟩ = some (.slice xb n cp) := by rw [← unhide hxbH]; exact G5.b.cell 0
          have hgn : Hid (¬ (w.heap.size = g ∨ vb.ownBlock = some w.heap.size)) := oh0 _ (Nat.le_refl _)
          have R5H := hide (⟨ch5, R5, ho5⟩ : _ ∧ _ ∧ _)
          have G5H := hide G5
          have bo5H := hide bo5
          clear ch5 R5 ho5 bx5 ba5 G5 bo5 SB4 ow0 oh0 z4 z5
          go_wp2
          clear hW5
          go_quiet (fail)
          have co6 := Quiet.cell ((Chg.refl (fun _ => False) W5).drewN nq) co5
          have cg6 := Quiet.cell ((Chg.refl (fun _ => False) W5).drewN nq) cg5
          have G6 := (unhide G5H).quiet ((Chg.refl (fun _ => False) W5).drewN nq)
          have q56 : Quiet W5 (W5.drewN nq) := (Chg.refl _ _).drewN nq
          generalize W5.drewN nq = W6 at *
          clear co5 cg5 G5H
          have hgg := G6.b.lt
          have f0 := G6.b.frozen 0
          have rs6 : Row W6 9 1 (.slice xb n cp) n (σ.ws.map txV) := by
            have h := G6.rb
            rwa [show σ.ws.length = n from unhide hnH, unhide hxbH] at h
          have G6H := hide G6
          have q56H := hide q56
          clear G6 q56
          obtain ⟨i9, hi9, hy0, hy1, hy2⟩ := info_parts info9
          go_wp2_with (at_builtin; refine wpList_append_row rfl (.tmp 136) (.tmp 138) 30 rfl 9 i9 _ 1 16 und30 hi9 hy0 hy1 hy2 rfl (by omega) (.slice xb n cp) n (σ.ws.map txV) rfl (rs6.quiet ((Chg.refl _ _).alloc _)) ⟨W6.heap.size, 0, none⟩ 1 1 [.string TT] rfl rfl (news_new _ _ _) (one_str _) (by omega) (by unfold maxLen; omega) (by omega) _ rfl ?_)
          intro b cap w7 row7 hch7 hat7 hlt7
          have G6 := unhide G6H
          have hvb : (Value.slice xb n cp).ownBlock ≠ some g := by rw [← unhide hxbH]; exact G6.gb
          have b7 := hch7.blk (G6.b.alloc _) hvb
          have hbg : b ≠ g := fun e => by
            rcases hat7 with h | h
            · exact hvb (by rw [h, e])
            · first | omega | (simp at h; omega)
          have c8 : Chg (fun k => k = g ∨ vb.ownBlock = some k) W6 (w7.setCell ⟨g, 0, none⟩ (.slice (some ⟨b, 0, none⟩) (n + 1) cap)) := ((((Chg.refl _ W6).alloc _)).trans (hch7.mono (fun k _ h => .inr (by rw [unhide hxbH]; exact h)))).setCell (.inl (.inl rfl)) _
          have b8 : Blk (w7.setCell ⟨g, 0, none⟩ (.slice (some ⟨b, 0, none⟩) (n + 1) cap)) g 35 (hcs (.slice (some ⟨b, 0, none⟩) (n + 1) cap) vt vs σ) := b7.set 0 _
          have r8 : Row (w7.setCell ⟨g, 0, none⟩ (.slice (some ⟨b, 0, none⟩) (n + 1) cap)) 9 1 (.slice (some ⟨b, 0, none⟩) (n + 1) cap) (σ.ws ++ [l]).length ((σ.ws ++ [l]).map txV) := by
            have h := row7.of_chg ((Chg.refl (fun x => x = g) w7).setCell (p := ⟨g, 0, none⟩) (.inl rfl) (.slice (some ⟨b, 0, none⟩) (n + 1) cap)) (fun x hx e => by simp [Value.ownBlock] at hx; exact hbg (by rw [hx, e]))
            rw [List.length_append, show σ.ws.length = n from unhide hnH, List.map_append]
            rw [← unhide hTTH] at h
            exact h
          have hb6 : vb.ownBlock = some b ∨ W6.heap.size ≤ b := by
            rcases hat7 with h | h
            · left; rw [unhide hxbH]; exact h
            · right; first | omega | (simp at h; omega)
          have G8 := G6.words c8 b8 r8 hb6
          have c58 : Chg (fun k => k = g ∨ vb.ownBlock = some k) W5 (w7.setCell ⟨g, 0, none⟩ (.slice (some ⟨b, 0, none⟩) (n + 1) cap)) := Chg.trans ((unhide q56H).chg _) c8
          have co8 : (w7.setCell ⟨g, 0, none⟩ (.slice (some ⟨b, 0, none⟩) (n + 1) cap)).cell? ⟨w.heap.size, 1, none⟩ = some (.int .i64 (j : Int)) := Chg.cell c8 co6 (unhide hgn)
          have c14 : w7.cell? ⟨g, 0, none⟩ = some (.slice xb n cp) := by rw [b7.cell 0]; show some vb = _; rw [unhide hxbH]
          have f14 := b7.frozen 0
          have hbo : vb.ownBlock = some b ∨ w5.heap.size ≤ b := by
            rcases hb6 with h | h
            · exact .inl h
            · right
              have h1 := (unhide q56H).size
              have h2 := (unhide hW5H (fun _ => False)).size
              omega
          have hbo5 : vb.ownBlock = some b ∨ W5.heap.size ≤ b := by
            rcases hb6 with h | h
            · exact .inl h
            · right; have h1 := (unhide q56H).size; omega
          obtain ⟨W8, hW8⟩ : ∃ W, w7.setCell ⟨g, 0, none⟩ (.slice (some ⟨b, 0, none⟩) (n + 1) cap) = W := ⟨_, rfl⟩
          rw [hW8] at G8 c58 co8
          obtain ⟨spare, bR, hcap1, hcap2, hcap3⟩ := (show Row W8 9 1 (.slice (some ⟨b, 0, none⟩) (n + 1) cap) (n + 1) ((σ.ws ++ [l]).map txV) by have h := G8.rb; rwa [show ({ σ with ws := σ.ws ++ [l] } : St).ws.length = n + 1 by show (σ.ws ++ [l]).length = _; rw [List.length_append, show σ.ws.length = n from unhide hnH]; rfl] at h).some_form
          have jl : j < (σ.ws ++ [l]).length := by rw [List.length_append, show σ.ws.length = n from unhide hnH, List.length_singleton]; have := unhide hjnH; omega
          obtain ⟨ob, hob⟩ : ∃ u, ((σ.ws ++ [l]).map txV ++ spare)[j]? = some u := ⟨_, List.getElem?_eq_getElem (by rw [List.length_append, List.length_map]; omega)⟩
          have tj : W8.cell? ⟨b, j, none⟩ = some ob := (bR.cell j).trans hob
          have fj := bR.frozen j
          have cg8 : W8.cell? ⟨g, 0, none⟩ = some (.slice (some ⟨b, 0, none⟩) (n + 1) cap) := G8.b.cell 0
          have k3 : (j : Int) < (n : Int) + 1 := by have := unhide hjnH; omega
          have S8 := hide (⟨G8, c58, bR, hcap1, hcap2, hcap3, jl⟩ : _ ∧ _ ∧ _ ∧ _ ∧ _ ∧ _ ∧ _)
          clear G8 c58 bR hcap1 hcap2 hcap3 jl hob row7 hch7 hat7 hlt7 b7 b8 r8 c8 G6 G6H rs6 hb6 hvb
          go_wp2
          clear hW8 c14 f14
          refine wp_region_noPanic ?_
          try simp only [List.append_eq, List.cons_append, List.nil_append]
          refine wp_region_mix [(0, true), (1, true), (2, true), (3, true), (4, true), (5, true), (6, true), (7, true)] [8] (by kernel_rfl) (by kernel_rfl) (fun _ _ _ _ _ h => h) ?_
          simp only [pickM, pickO, List.getElem?_cons_zero, List.getElem?_cons_succ]
          repeat (first | (refine wpMix_read rfl (fun K hK => ?_)) | (refine wpMix_pure rfl (fun K hK => ?_))
                  go_big_quiet_op
                  first | (refine hK _ ?_; clear hK K))
          refine wpMix_nil ?_
          intro _ hw'
          obtain ⟨nq, hw''⟩ := hw'
          subst hw''
          obtain ⟨W9, hW9⟩ : ∃ W, (W8.drewN nq).setCell ⟨b, j, none⟩ (.string TT) = W := ⟨_, rfl⟩
          obtain ⟨G8, c58, bR, hcap1, hcap2, hcap3, jl⟩ := unhide S8
          have bR9 : Blk W9 b 9 (((σ.ws ++ [l]).set j l).map txV ++ spare) := by
            have h := (bR.drewN nq).set j (.string (str (txt l)))
            rw [tx_set _ _ _ _ jl] at h
            rw [← hW9, ← unhide hTTH]; exact h
          have c89 : Chg (fun k => k = g ∨ (Value.slice (some ⟨b, 0, none⟩) (n + 1) cap).ownBlock = some k) W8 W9 := by rw [← hW9]; exact ((Chg.refl _ W8).drewN nq).setCell (p := ⟨b, j, none⟩) (.inl (.inr rfl)) _
          have b9 : Blk W9 g 35 (hcs (.slice (some ⟨b, 0, none⟩) (n + 1) cap) vt vs σ) := by rw [← hW9]; exact (Blk.drewN G8.b nq).set_other (Ne.symm hbg) _
          have hwl : ((σ.ws ++ [l]).set j l) = σ.ws ++ [l] := by rw [show j = σ.ws.length by rw [show σ.ws.length = n from unhide hnH]; exact unhide hjnH]; exact set_last _ _
          have r9 : Row W9 9 1 (.slice (some ⟨b, 0, none⟩) (n + 1) cap) (σ.ws ++ [l]).length ((σ.ws ++ [l]).map txV) := by
            rw [hwl] at bR9
            have hle : (σ.ws ++ [l]).length = n + 1 := by rw [List.length_append, show σ.ws.length = n from unhide hnH]; rfl
            rw [hle]
            exact Row.of_blk bR9 (by rw [List.length_map, hle]; omega) hcap1 hcap2 hcap3
          have G9 : Gh W9 g (.slice (some ⟨b, 0, none⟩) (n + 1) cap) vt vs { σ with ws := σ.ws ++ [l] } := G8.words c89 b9 r9 (.inl rfl)
          have c59 : Chg (fun k => k = g ∨ vb.ownBlock = some k) W5 W9 := Chg.trans' c58 c89 (fun k hk h => by rcases h with h | h; exact .inl h; simp [Value.ownBlock] at h; subst h; rcases hbo5 with h1 | h1; exact .inr h1; omega)
          have c9 : Chg (fun k => k = g ∨ vb.ownBlock = some k) w5 W9 := Chg.trans (unhide hW5H _) c59
          have hlts := (unhide BOX5)
          have m0 := Chg.cell c59 hlts.1 hlts.2.2.2.2.2.2.1
          have m1 := Chg.cell c59 hlts.2.1 hlts.2.2.2.2.2.2.1
          have m2 := Chg.cell c59 hlts.2.2.1 hlts.2.2.2.2.2.2.1
          have n0 := Chg.cell c59 hlts.2.2.2.1 hlts.2.2.2.2.2.2.2
          have n1 := Chg.cell c59 hlts.2.2.2.2.1 hlts.2.2.2.2.2.2.2
          have n2 := Chg.cell c59 hlts.2.2.2.2.2.1 hlts.2.2.2.2.2.2.2
          have hTT : (TT.toList == TT.toList) = true := by simp
          have fin : Hid (∀ e, e = .returned (.bool true) → KPost w O OH x g (putS σ (j : Int) s).2.2 e W9) := by
            obtain ⟨_, _, hd, lO, lH, _, _⟩ := unhide RH
            show ∀ e, _
            intro e he
            rw [unhide hspH]
            have R5 := (unhide R5H).2.1
            rw [unhide hspH] at R5
            exact kput_fin lO lH hd (unhide GH).2 (unhide Q4) (unhide R5H).1 R5 (unhide R5H).2.2 c9 G9 hbo e he
          clear c59 c9 hlts G9
          go_wp2
          refine NoPanic.normal ?_
          go_wp2
          go_ret
          exact unhide fin _ rfl
        | false =>
          have h40 := h40' rfl
          clear h40'
          have o1 : ¬ (j : Int) < 0 := by omega
          have o1d : decide ((j : Int) < 0) = false := decide_eq_false o1
          have o2 : ¬ (n : Int) < (j : Int) := by omega
          have o2d : decide ((n : Int) < (j : Int)) = false := decide_eq_false o2
          have o3 : ¬ (8 : Int) ≤ (j : Int) := by omega
          have o3d : decide ((8 : Int) ≤ (j : Int)) = false := decide_eq_false o3
          have o2n : decide (n < j) = false := decide_eq_false (by omega)
          have o3n : decide (8 ≤ j) = false := decide_eq_false (by omega)
          have o2m : ¬ n < j := by omega
          have o3m : ¬ 8 ≤ j := by omega
          go_wp2
          go_quiet (fail)
          have Q2 := hide ((unhide Q1).drewN nq)
          have co1' := Quiet.cell ((Chg.refl (fun _ => False) w1).drewN nq) co1
          have ca0' := Quiet.cell ((Chg.refl (fun _ => False) w1).drewN nq) ca0
          have ca1' := Quiet.cell ((Chg.refl (fun _ => False) w1).drewN nq) ca1
          have ca2' := Quiet.cell ((Chg.refl (fun _ => False) w1).drewN nq) ca2
          have SB2 := hide (⟨(unhide SB1).1.drewN nq, (unhide SB1).2.drewN nq⟩ : _ ∧ _)
          generalize w1.drewN nq = w2 at *
          clear co1 ca0 ca1 ca2 cg0 Q1 SB1
          have hct := hide (cut_any w2 TT (by have := h40; rw [hTs]; omega))
          go_wp2_with fail
          refine (unhide hct).mono ?_
          clear hct
          rintro e w3 ⟨P, hP, fi, hor, rfl, q3⟩
          have hwd := word_end TT P hP fi hor
          generalize decide (P = 5 ∧ cutTo TT 5 = (TT).size) = wb at *
          obtain ⟨W3, hW3⟩ : ∃ W, w3.alloc (.cells (rowC TT P).toArray 77) = W := ⟨_, rfl⟩
          have bD : Blk W3 w3.heap.size 77 (rowC TT P) := by rw [← hW3]; exact Blk.new w3 77 _
          have q23 : Quiet w2 W3 := by rw [← hW3]; exact Chg.alloc q3 _
          have Q3 := hide (Quiet.trans (unhide Q2) q23)
          have SB3 := hide (⟨q23.blk (unhide SB2).1, q23.blk (unhide SB2).2⟩ : _ ∧ _)
          have bDH := hide bD
          have hwdH := hide hwd
          rw [show (rowC TT P).toArray = #[.string (rowS TT P 0), .string (rowS TT P 1), .string (rowS TT P 2), .string (rowS TT P 3), .string (rowS TT P 4)] from rfl] at hW3 ⊢
          have co1s := Quiet.cell q23 co1'
          have ca0s := Quiet.cell q23 ca0'
          have ca1s := Quiet.cell q23 ca1'
          have ca2s := Quiet.cell q23 ca2'
          clear bD q23 q3 Q2 SB2 hP fi hor hwd co1' ca0' ca1' ca2'
          obtain ⟨D, hD⟩ : ∃ D, w3.heap.size = D := ⟨_, rfl⟩
          rw [hD] at bDH
          go_wp2
          clear hW3 hD
          go_loopw [15, 16] (fun b z wr => ∃ k : Nat, k ≤ 5 ∧ z = .int .i64 (k : Int) ∧ b = .bool (wb && letAll TT P k) ∧ wr = W3) (fun _ z _ => 6 - (intOf z).toNat)
          case atStart => exact ⟨0, by omega, rfl, by simp [letAll], rfl⟩
          case round =>
            obtain ⟨k, hk, rfl, rfl, rfl⟩ := hrel
            by_cases hk5 : k < 5
            · have k1 : (k : Int) < 5 := by omega
              have k0 : (0 : Int) ≤ (k : Int) := by omega
              have wk : wrap64 ((k : Int) + 1) = (k : Int) + 1 := wrap_small (k + 1) (by omega)
              have cD : wr.cell? ⟨D, k, none⟩ = some (.string (rowS TT P k)) := ((unhide bDH).cell k).trans (row5_get _ k hk5)
              have hlt := hide (letter_any wr (rowS TT P k) (rowS_size _ _ _))
              have hnx : Hid ((wb && letAll TT P (k + 1)) = ((wb && letAll TT P k) && letterL (rowS TT P k).data.toList)) := by
                show _ = _
                rw [letAll, Bool.and_assoc]
              have hkH := hide hk5
              clear hk hk5
              generalize letterL (rowS TT P k).data.toList = lk at *
              generalize rowS TT P k = pk at *
              generalize (wb && letAll TT P k) = wk0 at *
              go_wp2_with fail
              refine (unhide hlt).mono ?_
              clear hlt cD
              rintro e wx ⟨rfl, rfl⟩
              cases wk0
              · go_wp2
                go_roundw
                case rel => exact ⟨k + 1, unhide hkH, by simp; try exact wk, by rw [unhide hnx]; simp, by first | rfl | trivial⟩
                case measure =>
                  have h := unhide hkH
                  first
                    | exact meas_list h
                    | (rw [wk]; exact meas_list h)
              · go_wp2
                go_roundw
                case rel => exact ⟨k + 1, unhide hkH, by simp; try exact wk, by rw [unhide hnx]; simp, by first | rfl | trivial⟩
                case measure =>
                  have h := unhide hkH
                  first
                    | exact meas_list h
                    | (rw [wk]; exact meas_list h)
            · have k1 : ¬ (k : Int) < 5 := by omega
              obtain rfl : k = 5 := by omega
              have hw5 : (wb && letAll TT P 5) = true := by exact (unhide hwdH).2 (unhide hwT)
              rw [hw5]
              clear hk hk5 hw5 hwdH bDH
              have Q2 := Q3
              have SB2 := SB3
              have co1' := co1s
              have ca0' := ca0s
              have ca1' := ca1s
              have ca2' := ca2s
              clear co1s ca0s ca1s ca2s
              clear Q3 SB3
              have ig : ((j : Int) == (n : Int)) = true := by rw [beq_iff_eq]; have := unhide hjnH; omega
              have hcw := hide (cut_word wr l (unhide hLWH))
              rw [show (row5 fun i => Value.string (str (encL (fw l i)))).toArray = #[.string (str (encL (fw l 0))), .string (str (encL (fw l 1))), .string (str (encL (fw l 2))), .string (str (encL (fw l 3))), .string (str (encL (fw l 4)))] from rfl] at hcw
              rw [unhide hTTH] at hcw
              go_wp2_with fail
              refine (unhide hcw).mono ?_
              clear hcw
              rintro e w4 ⟨rfl, q4⟩
              obtain ⟨W4, hW4⟩ : ∃ W, w4.alloc (.cells #[.string (str (encL (fw l 0))), .string (str (encL (fw l 1))), .string (str (encL (fw l 2))), .string (str (encL (fw l 3))), .string (str (encL (fw l 4)))] 77) = W := ⟨_, rfl⟩
              have q24 : Quiet wr W4 := by rw [← hW4]; exact Chg.alloc q4 _
              have Q4 := hide (Quiet.trans (unhide Q2) q24)
              have co4 := Quiet.cell q24 co1'
              have cn0 := Quiet.cell q24 ca0'
              have cn1 := Quiet.cell q24 ca1'
              have cn2 := Quiet.cell q24 ca2'
              have SB4 := hide (⟨q24.blk (unhide SB2).1, q24.blk (unhide SB2).2⟩ : _ ∧ _)
              clear co1' ca0' ca1' ca2' q24 q4 Q2 SB2
              have hdo := hide (unhide hDo W4 (unhide Q4))
              have hts : (TT.toList == TT.toList) = true := by simp
              go_wp2_with fail
              refine (unhide hdo).mono ?_
              clear hdo hW4 cn0 cn1 cn2 hts
              rintro e w5 ⟨rfl, ch5, O5, R5, ho5⟩
              obtain ⟨W5, hW5⟩ : ∃ W, w5.alloc (.cells #[.int .i64 0, .int .i64 0, .string TT] 39) = W := ⟨_, rfl⟩
              have hW5H : Hid (∀ S, Chg S w5 W5) := fun S => by rw [← hW5]; exact Chg.alloc (Chg.refl _ _) _
              have bx5 : Blk W5 w5.heap.size 39 [.int .i64 0, .int .i64 0, .string TT] := by rw [← hW5]; exact Blk.new w5 39 _
              have z4 := (unhide Q4).size
              have z5 := ch5.size
              have ow0 : ∀ k, w.heap.size ≤ k → ¬ O k := fun k hk h => by have := (unhide RH).2.2.2.1 k h; omega
              have oh0 : ∀ k, w.heap.size ≤ k → ¬ (k = g ∨ vb.ownBlock = some k) := fun k hk h => by
                have := (unhide RH).2.2.2.2.1 k (by rcases h with h | h; exact (unhide GH).2 _ (.inl h); exact (unhide GH).2 _ (.inr (.inl h)))
                omega
              have bo5 : Blk W5 w.heap.size 37 [.int .i64 1, .int .i64 (j : Int), .int .i64 B, .int .i64 C, .string s, .string t] := by rw [← hW5]; exact (ch5.blk (unhide SB4).1 (ow0 _ (Nat.le_refl _))).alloc _
              have ba5 : Blk W5 (w.heap.size + 1) 39 [.int .i64 0, .int .i64 0, .string TT] := by rw [← hW5]; exact (ch5.blk (unhide SB4).2 (ow0 _ (by omega))).alloc _
              have co5 : W5.cell? ⟨w.heap.size, 1, none⟩ = some (.int .i64 (j : Int)) := bo5.cell 1
              have BOX5 : Hid (W5.cell? ⟨w5.heap.size, 0, none⟩ = some (.int .i64 0) ∧ W5.cell? ⟨w5.heap.size, 1, none⟩ = some (.int .i64 0) ∧ W5.cell? ⟨w5.heap.size, 2, none⟩ = some (.string TT) ∧ W5.cell? ⟨w.heap.size + 1, 0, none⟩ = some (.int .i64 0) ∧ W5.cell? ⟨w.heap.size + 1, 1, none⟩ = some (.int .i64 0) ∧ W5.cell? ⟨w.heap.size + 1, 2, none⟩ = some (.string TT) ∧ (¬ (w5.heap.size = g ∨ vb.ownBlock = some w5.heap.size)) ∧ ¬ (w.heap.size + 1 = g ∨ vb.ownBlock = some (w.heap.size + 1))) := ⟨bx5.cell 0, bx5.cell 1, bx5.cell 2, ba5.cell 0, ba5.cell 1, ba5.cell 2, oh0 _ (by omega), oh0 _ (by omega)⟩
              have G5 : Gh W5 g vb vt vs σ := by
                have h := ((unhide GH).1.quiet (unhide Q4)).of_chg ch5 (fun k hk ho => (unhide RH).2.2.1 k ho ((unhide GH).2 k hk))
                rw [← hW5]; exact h.quiet (Chg.alloc (Chg.refl _ _) _)
              have cg5 : W5.cell? ⟨g, 0, none⟩ = some (.slice xb n cp) := by rw [← unhide hxbH]; exact G5.b.cell 0
              have hgn : Hid (¬ (w.heap.size = g ∨ vb.ownBlock = some w.heap.size)) := oh0 _ (Nat.le_refl _)
              have R5H := hide (⟨ch5, R5, ho5⟩ : _ ∧ _ ∧ _)
              have G5H := hide G5
              have bo5H := hide bo5
              clear ch5 R5 ho5 bx5 ba5 G5 bo5 SB4 ow0 oh0 z4 z5
              go_wp2
              clear hW5
              go_quiet (fail)
              have co6 := Quiet.cell ((Chg.refl (fun _ => False) W5).drewN nq) co5
              have cg6 := Quiet.cell ((Chg.refl (fun _ => False) W5).drewN nq) cg5
              have G6 := (unhide G5H).quiet ((Chg.refl (fun _ => False) W5).drewN nq)
              have q56 : Quiet W5 (W5.drewN nq) := (Chg.refl _ _).drewN nq
              generalize W5.drewN nq = W6 at *
              clear co5 cg5 G5H
              have hgg := G6.b.lt
              have f0 := G6.b.frozen 0
              have rs6 : Row W6 9 1 (.slice xb n cp) n (σ.ws.map txV) := by
                have h := G6.rb
                rwa [show σ.ws.length = n from unhide hnH, unhide hxbH] at h
              have G6H := hide G6
              have q56H := hide q56
              clear G6 q56
              obtain ⟨i9, hi9, hy0, hy1, hy2⟩ := info_parts info9
              go_wp2_with (at_builtin; refine wpList_append_row rfl (.tmp 136) (.tmp 138) 30 rfl 9 i9 _ 1 16 und30 hi9 hy0 hy1 hy2 rfl (by omega) (.slice xb n cp) n (σ.ws.map txV) rfl (rs6.quiet ((Chg.refl _ _).alloc _)) ⟨W6.heap.size, 0, none⟩ 1 1 [.string TT] rfl rfl (news_new _ _ _) (one_str _) (by omega) (by unfold maxLen; omega) (by omega) _ rfl ?_)
              intro b cap w7 row7 hch7 hat7 hlt7
              have G6 := unhide G6H
              have hvb : (Value.slice xb n cp).ownBlock ≠ some g := by rw [← unhide hxbH]; exact G6.gb
              have b7 := hch7.blk (G6.b.alloc _) hvb
              have hbg : b ≠ g := fun e => by
                rcases hat7 with h | h
                · exact hvb (by rw [h, e])
                · first | omega | (simp at h; omega)
              have c8 : Chg (fun k => k = g ∨ vb.ownBlock = some k) W6 (w7.setCell ⟨g, 0, none⟩ (.slice (some ⟨b, 0, none⟩) (n + 1) cap)) := ((((Chg.refl _ W6).alloc _)).trans (hch7.mono (fun k _ h => .inr (by rw [unhide hxbH]; exact h)))).setCell (.inl (.inl rfl)) _
              have b8 : Blk (w7.setCell ⟨g, 0, none⟩ (.slice (some ⟨b, 0, none⟩) (n + 1) cap)) g 35 (hcs (.slice (some ⟨b, 0, none⟩) (n + 1) cap) vt vs σ) := b7.set 0 _
              have r8 : Row (w7.setCell ⟨g, 0, none⟩ (.slice (some ⟨b, 0, none⟩) (n + 1) cap)) 9 1 (.slice (some ⟨b, 0, none⟩) (n + 1) cap) (σ.ws ++ [l]).length ((σ.ws ++ [l]).map txV) := by
                have h := row7.of_chg ((Chg.refl (fun x => x = g) w7).setCell (p := ⟨g, 0, none⟩) (.inl rfl) (.slice (some ⟨b, 0, none⟩) (n + 1) cap)) (fun x hx e => by simp [Value.ownBlock] at hx; exact hbg (by rw [hx, e]))
                rw [List.length_append, show σ.ws.length = n from unhide hnH, List.map_append]
                rw [← unhide hTTH] at h
                exact h
              have hb6 : vb.ownBlock = some b ∨ W6.heap.size ≤ b := by
                rcases hat7 with h | h
                · left; rw [unhide hxbH]; exact h
                · right; first | omega | (simp at h; omega)
              have G8 := G6.words c8 b8 r8 hb6
              have c58 : Chg (fun k => k = g ∨ vb.ownBlock = some k) W5 (w7.setCell ⟨g, 0, none⟩ (.slice (some ⟨b, 0, none⟩) (n + 1) cap)) := Chg.trans ((unhide q56H).chg _) c8
              have co8 : (w7.setCell ⟨g, 0, none⟩ (.slice (some ⟨b, 0, none⟩) (n + 1) cap)).cell? ⟨w.heap.size, 1, none⟩ = some (.int .i64 (j : Int)) := Chg.cell c8 co6 (unhide hgn)
              have c14 : w7.cell? ⟨g, 0, none⟩ = some (.slice xb n cp) := by rw [b7.cell 0]; show some vb = _; rw [unhide hxbH]
              have f14 := b7.frozen 0
              have hbo : vb.ownBlock = some b ∨ w5.heap.size ≤ b := by
                rcases hb6 with h | h
                · exact .inl h
                · right
                  have h1 := (unhide q56H).size
                  have h2 := (unhide hW5H (fun _ => False)).size
                  omega
              have hbo5 : vb.ownBlock = some b ∨ W5.heap.size ≤ b := by
                rcases hb6 with h | h
                · exact .inl h
                · right; have h1 := (unhide q56H).size; omega
              obtain ⟨W8, hW8⟩ : ∃ W, w7.setCell ⟨g, 0, none⟩ (.slice (some ⟨b, 0, none⟩) (n + 1) cap) = W := ⟨_, rfl⟩
              rw [hW8] at G8 c58 co8
              obtain ⟨spare, bR, hcap1, hcap2, hcap3⟩ := (show Row W8 9 1 (.slice (some ⟨b, 0, none⟩) (n + 1) cap) (n + 1) ((σ.ws ++ [l]).map txV) by have h := G8.rb; rwa [show ({ σ with ws := σ.ws ++ [l] } : St).ws.length = n + 1 by show (σ.ws ++ [l]).length = _; rw [List.length_append, show σ.ws.length = n from unhide hnH]; rfl] at h).some_form
              have jl : j < (σ.ws ++ [l]).length := by rw [List.length_append, show σ.ws.length = n from unhide hnH, List.length_singleton]; have := unhide hjnH; omega
              obtain ⟨ob, hob⟩ : ∃ u, ((σ.ws ++ [l]).map txV ++ spare)[j]? = some u := ⟨_, List.getElem?_eq_getElem (by rw [List.length_append, List.length_map]; omega)⟩
              have tj : W8.cell? ⟨b, j, none⟩ = some ob := (bR.cell j).trans hob
              have fj := bR.frozen j
              have cg8 : W8.cell? ⟨g, 0, none⟩ = some (.slice (some ⟨b, 0, none⟩) (n + 1) cap) := G8.b.cell 0
              have k3 : (j : Int) < (n : Int) + 1 := by have := unhide hjnH; omega
              have S8 := hide (⟨G8, c58, bR, hcap1, hcap2, hcap3, jl⟩ : _ ∧ _ ∧ _ ∧ _ ∧ _ ∧ _ ∧ _)
              clear G8 c58 bR hcap1 hcap2 hcap3 jl hob row7 hch7 hat7 hlt7 b7 b8 r8 c8 G6 G6H rs6 hb6 hvb
              go_wp2
              clear hW8 c14 f14
              refine wp_region_noPanic ?_
              try simp only [List.append_eq, List.cons_append, List.nil_append]
              refine wp_region_mix [(0, true), (1, true), (2, true), (3, true), (4, true), (5, true), (6, true), (7, true)] [8] (by kernel_rfl) (by kernel_rfl) (fun _ _ _ _ _ h => h) ?_
              simp only [pickM, pickO, List.getElem?_cons_zero, List.getElem?_cons_succ]
              repeat (first | (refine wpMix_read rfl (fun K hK => ?_)) | (refine wpMix_pure rfl (fun K hK => ?_))
                      go_big_quiet_op
                      first | (refine hK _ ?_; clear hK K))
              refine wpMix_nil ?_
              intro _ hw'
              obtain ⟨nq, hw''⟩ := hw'
              subst hw''
              obtain ⟨W9, hW9⟩ : ∃ W, (W8.drewN nq).setCell ⟨b, j, none⟩ (.string TT) = W := ⟨_, rfl⟩
              obtain ⟨G8, c58, bR, hcap1, hcap2, hcap3, jl⟩ := unhide S8
              have bR9 : Blk W9 b 9 (((σ.ws ++ [l]).set j l).map txV ++ spare) := by
                have h := (bR.drewN nq).set j (.string (str (txt l)))
                rw [tx_set _ _ _ _ jl] at h
                rw [← hW9, ← unhide hTTH]; exact h
              have c89 : Chg (fun k => k = g ∨ (Value.slice (some ⟨b, 0, none⟩) (n + 1) cap).ownBlock = some k) W8 W9 := by rw [← hW9]; exact ((Chg.refl _ W8).drewN nq).setCell (p := ⟨b, j, none⟩) (.inl (.inr rfl)) _
              have b9 : Blk W9 g 35 (hcs (.slice (some ⟨b, 0, none⟩) (n + 1) cap) vt vs σ) := by rw [← hW9]; exact (Blk.drewN G8.b nq).set_other (Ne.symm hbg) _
              have hwl : ((σ.ws ++ [l]).set j l) = σ.ws ++ [l] := by rw [show j = σ.ws.length by rw [show σ.ws.length = n from unhide hnH]; exact unhide hjnH]; exact set_last _ _
              have r9 : Row W9 9 1 (.slice (some ⟨b, 0, none⟩) (n + 1) cap) (σ.ws ++ [l]).length ((σ.ws ++ [l]).map txV) := by
                rw [hwl] at bR9
                have hle : (σ.ws ++ [l]).length = n + 1 := by rw [List.length_append, show σ.ws.length = n from unhide hnH]; rfl
                rw [hle]
                exact Row.of_blk bR9 (by rw [List.length_map, hle]; omega) hcap1 hcap2 hcap3
              have G9 : Gh W9 g (.slice (some ⟨b, 0, none⟩) (n + 1) cap) vt vs { σ with ws := σ.ws ++ [l] } := G8.words c89 b9 r9 (.inl rfl)
              have c59 : Chg (fun k => k = g ∨ vb.ownBlock = some k) W5 W9 := Chg.trans' c58 c89 (fun k hk h => by rcases h with h | h; exact .inl h; simp [Value.ownBlock] at h; subst h; rcases hbo5 with h1 | h1; exact .inr h1; omega)
              have c9 : Chg (fun k => k = g ∨ vb.ownBlock = some k) w5 W9 := Chg.trans (unhide hW5H _) c59
              have hlts := (unhide BOX5)
              have m0 := Chg.cell c59 hlts.1 hlts.2.2.2.2.2.2.1
              have m1 := Chg.cell c59 hlts.2.1 hlts.2.2.2.2.2.2.1
              have m2 := Chg.cell c59 hlts.2.2.1 hlts.2.2.2.2.2.2.1
              have n0 := Chg.cell c59 hlts.2.2.2.1 hlts.2.2.2.2.2.2.2
              have n1 := Chg.cell c59 hlts.2.2.2.2.1 hlts.2.2.2.2.2.2.2
              have n2 := Chg.cell c59 hlts.2.2.2.2.2.1 hlts.2.2.2.2.2.2.2
              have hTT : (TT.toList == TT.toList) = true := by simp
              have fin : Hid (∀ e, e = .returned (.bool true) → KPost w O OH x g (putS σ (j : Int) s).2.2 e W9) := by
                obtain ⟨_, _, hd, lO, lH, _, _⟩ := unhide RH
                show ∀ e, _
                intro e he
                rw [unhide hspH]
                have R5 := (unhide R5H).2.1
                rw [unhide hspH] at R5
                exact kput_fin lO lH hd (unhide GH).2 (unhide Q4) (unhide R5H).1 R5 (unhide R5H).2.2 c9 G9 hbo e he
              clear c59 c9 hlts G9
              go_wp2
              refine NoPanic.normal ?_
              go_wp2
              go_ret
              exact unhide fin _ rfl
      · have hspH : Hid ((putS σ (j : Int) s).2.2 = { σ with ws := σ.ws.set j l }) := by show _ = _; rw [hp, if_neg (by rw [unhide hnH]; omega), Int.toNat_natCast]
        have hjnH : Hid (j < n) := by show _ < _; omega
        clear hp hjn
        cases sd with
        | true =>
          clear h40'
          have o1 : ¬ (j : Int) < 0 := by omega
          have o1d : decide ((j : Int) < 0) = false := decide_eq_false o1
          have o2 : ¬ (n : Int) < (j : Int) := by omega
          have o2d : decide ((n : Int) < (j : Int)) = false := decide_eq_false o2
          have o3 : ¬ (8 : Int) ≤ (j : Int) := by omega
          have o3d : decide ((8 : Int) ≤ (j : Int)) = false := decide_eq_false o3
          have o2n : decide (n < j) = false := decide_eq_false (by omega)
          have o3n : decide (8 ≤ j) = false := decide_eq_false (by omega)
          have o2m : ¬ n < j := by omega
          have o3m : ¬ 8 ≤ j := by omega
          go_wp2
          go_quiet (fail)
          have Q2 := hide ((unhide Q1).drewN nq)
          have co1' := Quiet.cell ((Chg.refl (fun _ => False) w1).drewN nq) co1
          have ca0' := Quiet.cell ((Chg.refl (fun _ => False) w1).drewN nq) ca0
          have ca1' := Quiet.cell ((Chg.refl (fun _ => False) w1).drewN nq) ca1
          have ca2' := Quiet.cell ((Chg.refl (fun _ => False) w1).drewN nq) ca2
          have SB2 := hide (⟨(unhide SB1).1.drewN nq, (unhide SB1).2.drewN nq⟩ : _ ∧ _)
          generalize w1.drewN nq = w2 at *
          clear co1 ca0 ca1 ca2 cg0 Q1 SB1
          have ig : ((j : Int) == (n : Int)) = false := by rw [beq_eq_false_iff_ne]; have := unhide hjnH; omega
          have hcw := hide (cut_word w2 l (unhide hLWH))
          rw [show (row5 fun i => Value.string (str (encL (fw l i)))).toArray = #[.string (str (encL (fw l 0))), .string (str (encL (fw l 1))), .string (str (encL (fw l 2))), .string (str (encL (fw l 3))), .string (str (encL (fw l 4)))] from rfl] at hcw
          rw [unhide hTTH] at hcw
          go_wp2_with fail
          refine (unhide hcw).mono ?_
          clear hcw
          rintro e w4 ⟨rfl, q4⟩
          obtain ⟨W4, hW4⟩ : ∃ W, w4.alloc (.cells #[.string (str (encL (fw l 0))), .string (str (encL (fw l 1))), .string (str (encL (fw l 2))), .string (str (encL (fw l 3))), .string (str (encL (fw l 4)))] 77) = W := ⟨_, rfl⟩
          have q24 : Quiet w2 W4 := by rw [← hW4]; exact Chg.alloc q4 _
          have Q4 := hide (Quiet.trans (unhide Q2) q24)
          have co4 := Quiet.cell q24 co1'
          have cn0 := Quiet.cell q24 ca0'
          have cn1 := Quiet.cell q24 ca1'
          have cn2 := Quiet.cell q24 ca2'
          have SB4 := hide (⟨q24.blk (unhide SB2).1, q24.blk (unhide SB2).2⟩ : _ ∧ _)
          clear co1' ca0' ca1' ca2' q24 q4 Q2 SB2
          have hdo := hide (unhide hDo W4 (unhide Q4))
          have hts : (TT.toList == TT.toList) = true := by simp
          go_wp2_with fail
          refine (unhide hdo).mono ?_
          clear hdo hW4 cn0 cn1 cn2 hts
          rintro e w5 ⟨rfl, ch5, O5, R5, ho5⟩
          obtain ⟨W5, hW5⟩ : ∃ W, w5.alloc (.cells #[.int .i64 0, .int .i64 0, .string TT] 39) = W := ⟨_, rfl⟩
          have hW5H : Hid (∀ S, Chg S w5 W5) := fun S => by rw [← hW5]; exact Chg.alloc (Chg.refl _ _) _
          have bx5 : Blk W5 w5.heap.size 39 [.int .i64 0, .int .i64 0, .string TT] := by rw [← hW5]; exact Blk.new w5 39 _
          have z4 := (unhide Q4).size
          have z5 := ch5.size
          have ow0 : ∀ k, w.heap.size ≤ k → ¬ O k := fun k hk h => by have := (unhide RH).2.2.2.1 k h; omega
          have oh0 : ∀ k, w.heap.size ≤ k → ¬ (k = g ∨ vb.ownBlock = some k) := fun k hk h => by
            have := (unhide RH).2.2.2.2.1 k (by rcases h with h | h; exact (unhide GH).2 _ (.inl h); exact (unhide GH).2 _ (.inr (.inl h)))
            omega
          have bo5 : Blk W5 w.heap.size 37 [.int .i64 1, .int .i64 (j : Int), .int .i64 B, .int .i64 C, .string s, .string t] := by rw [← hW5]; exact (ch5.blk (unhide SB4).1 (ow0 _ (Nat.le_refl _))).alloc _
          have ba5 : Blk W5 (w.heap.size + 1) 39 [.int .i64 0, .int .i64 0, .string TT] := by rw [← hW5]; exact (ch5.blk (unhide SB4).2 (ow0 _ (by omega))).alloc _
          have co5 : W5.cell? ⟨w.heap.size, 1, none⟩ = some (.int .i64 (j : Int)) := bo5.cell 1
          have BOX5 : Hid (W5.cell? ⟨w5.heap.size, 0, none⟩ = some (.int .i64 0) ∧ W5.cell? ⟨w5.heap.size, 1, none⟩ = some (.int .i64 0) ∧ W5.cell? ⟨w5.heap.size, 2, none⟩ = some (.string TT) ∧ W5.cell? ⟨w.heap.size + 1, 0, none⟩ = some (.int .i64 0) ∧ W5.cell? ⟨w.heap.size + 1, 1, none⟩ = some (.int .i64 0) ∧ W5.cell? ⟨w.heap.size + 1, 2, none⟩ = some (.string TT) ∧ (¬ (w5.heap.size = g ∨ vb.ownBlock = some w5.heap.size)) ∧ ¬ (w.heap.size + 1 = g ∨ vb.ownBlock = some (w.heap.size + 1))) := ⟨bx5.cell 0, bx5.cell 1, bx5.cell 2, ba5.cell 0, ba5.cell 1, ba5.cell 2, oh0 _ (by omega), oh0 _ (by omega)⟩
          have G5 : Gh W5 g vb vt vs σ := by
            have h := ((unhide GH).1.quiet (unhide Q4)).of_chg ch5 (fun k hk ho => (unhide RH).2.2.1 k ho ((unhide GH).2 k hk))
            rw [← hW5]; exact h.quiet (Chg.alloc (Chg.refl _ _) _)
          have cg5 : W5.cell? ⟨g, 0, none⟩ = some (.slice xb n cp) := by rw [← unhide hxbH]; exact G5.b.cell 0
          have hgn : Hid (¬ (w.heap.size = g ∨ vb.ownBlock = some w.heap.size)) := oh0 _ (Nat.le_refl _)
          have R5H := hide (⟨ch5, R5, ho5⟩ : _ ∧ _ ∧ _)
          have G5H := hide G5
          have bo5H := hide bo5
          clear ch5 R5 ho5 bx5 ba5 G5 bo5 SB4 ow0 oh0 z4 z5
          go_wp2
          clear hW5
          go_quiet (fail)
          have co6 := Quiet.cell ((Chg.refl (fun _ => False) W5).drewN nq) co5
          have cg6 := Quiet.cell ((Chg.refl (fun _ => False) W5).drewN nq) cg5
          have G6 := (unhide G5H).quiet ((Chg.refl (fun _ => False) W5).drewN nq)
          have q56 : Quiet W5 (W5.drewN nq) := (Chg.refl _ _).drewN nq
          generalize W5.drewN nq = W6 at *
          clear co5 cg5 G5H
          obtain ⟨b, spare, hxe, bR, hcap1, hcap2, hcap3⟩ : ∃ b spare, xb = some ⟨b, 0, none⟩ ∧ Blk W6 b 9 (σ.ws.map txV ++ spare) ∧ n ≤ cp ∧ cp ≤ maxLen ∧ (σ.ws.map txV ++ spare).length = cp * 1 := by
            rcases G6.rb.form with ⟨h, hn0, _⟩ | ⟨b, cap, spare, h, hR, h1, h2, h3⟩
            · exfalso; have h3 := unhide hjnH; rw [show σ.ws.length = n from unhide hnH] at hn0; omega
            · rw [unhide hxbH, show σ.ws.length = n from unhide hnH] at h
              simp at h
              obtain ⟨rfl, rfl⟩ := h
              rw [show σ.ws.length = n from unhide hnH] at h1
              exact ⟨b, spare, rfl, hR, h1, h2, h3⟩
          subst hxe
          have hvb0 : vb.ownBlock = some b := by rw [unhide hxbH]; rfl
          have hbg : b ≠ g := fun e => G6.gb (by rw [hvb0, e])
          have hbo : vb.ownBlock = some b ∨ w5.heap.size ≤ b := .inl hvb0
          have jl : j < σ.ws.length := by rw [show σ.ws.length = n from unhide hnH]; exact unhide hjnH
          obtain ⟨ob, hob⟩ : ∃ u, (σ.ws.map txV ++ spare)[j]? = some u := ⟨_, List.getElem?_eq_getElem (by rw [List.length_append, List.length_map]; omega)⟩
          have tj : W6.cell? ⟨b, j, none⟩ = some ob := (bR.cell j).trans hob
          have fj := bR.frozen j
          have k3 : (j : Int) < (n : Int) := by have := unhide hjnH; omega
          have S8 := hide (⟨G6, q56, bR, hcap1, hcap2, hcap3, jl⟩ : _ ∧ _ ∧ _ ∧ _ ∧ _ ∧ _ ∧ _)
          clear G6 q56 bR hcap1 hcap2 hcap3 jl hob hvb0
          go_wp2
          refine wp_region_noPanic ?_
          try simp only [List.append_eq, List.cons_append, List.nil_append]
          refine wp_region_mix [(0, true), (1, true), (2, true), (3, true), (4, true), (5, true), (6, true), (7, true)] [8] (by kernel_rfl) (by kernel_rfl) (fun _ _ _ _ _ h => h) ?_
          simp only [pickM, pickO, List.getElem?_cons_zero, List.getElem?_cons_succ]
          repeat (first | (refine wpMix_read rfl (fun K hK => ?_)) | (refine wpMix_pure rfl (fun K hK => ?_))
                  go_big_quiet_op
                  first | (refine hK _ ?_; clear hK K))
          refine wpMix_nil ?_
          intro _ hw'
          obtain ⟨nq, hw''⟩ := hw'
          subst hw''
          obtain ⟨W9, hW9⟩ : ∃ W, (W6.drewN nq).setCell ⟨b, j, none⟩ (.string TT) = W := ⟨_, rfl⟩
          obtain ⟨G8, q56, bR, hcap1, hcap2, hcap3, jl⟩ := unhide S8
          have bR9 : Blk W9 b 9 ((σ.ws.set j l).map txV ++ spare) := by
            have h := (bR.drewN nq).set j (.string (str (txt l)))
            rw [tx_set _ _ _ _ jl] at h
            rw [← hW9, ← unhide hTTH]; exact h
          have c89 : Chg (fun k => k = g ∨ vb.ownBlock = some k) W6 W9 := by rw [← hW9]; exact ((Chg.refl _ W6).drewN nq).setCell (p := ⟨b, j, none⟩) (.inl (.inr (by rw [unhide hxbH]; rfl))) _
          have b9 : Blk W9 g 35 (hcs (.slice (some ⟨b, 0, none⟩) n cp) vt vs σ) := by
            have h : Blk W9 g 35 (hcs vb vt vs σ) := by rw [← hW9]; exact (Blk.drewN G8.b nq).set_other (Ne.symm hbg) _
            rwa [unhide hxbH] at h
          have r9 : Row W9 9 1 (.slice (some ⟨b, 0, none⟩) n cp) (σ.ws.set j l).length ((σ.ws.set j l).map txV) := by
            have hle : (σ.ws.set j l).length = n := by rw [List.length_set]; exact unhide hnH
            rw [hle]
            exact Row.of_blk bR9 (by rw [List.length_map, hle]; omega) hcap1 hcap2 (by rw [← hcap3, List.length_append, List.length_append, List.length_map, List.length_map, List.length_set])
          have G9 : Gh W9 g (.slice (some ⟨b, 0, none⟩) n cp) vt vs { σ with ws := σ.ws.set j l } := G8.words c89 b9 r9 (by left; rw [unhide hxbH]; rfl)
          have c59 : Chg (fun k => k = g ∨ vb.ownBlock = some k) W5 W9 := Chg.trans (q56.chg _) c89
          have c9 : Chg (fun k => k = g ∨ vb.ownBlock = some k) w5 W9 := Chg.trans (unhide hW5H _) c59
          have hlts := (unhide BOX5)
          have m0 := Chg.cell c59 hlts.1 hlts.2.2.2.2.2.2.1
          have m1 := Chg.cell c59 hlts.2.1 hlts.2.2.2.2.2.2.1
          have m2 := Chg.cell c59 hlts.2.2.1 hlts.2.2.2.2.2.2.1
          have n0 := Chg.cell c59 hlts.2.2.2.1 hlts.2.2.2.2.2.2.2
          have n1 := Chg.cell c59 hlts.2.2.2.2.1 hlts.2.2.2.2.2.2.2
          have n2 := Chg.cell c59 hlts.2.2.2.2.2.1 hlts.2.2.2.2.2.2.2
          have hTT : (TT.toList == TT.toList) = true := by simp
          have fin : Hid (∀ e, e = .returned (.bool true) → KPost w O OH x g (putS σ (j : Int) s).2.2 e W9) := by
            obtain ⟨_, _, hd, lO, lH, _, _⟩ := unhide RH
            show ∀ e, _
            intro e he
            rw [unhide hspH]
            have R5 := (unhide R5H).2.1
            rw [unhide hspH] at R5
            exact kput_fin lO lH hd (unhide GH).2 (unhide Q4) (unhide R5H).1 R5 (unhide R5H).2.2 c9 G9 hbo e he
          clear c59 c9 hlts G9
          go_wp2
          refine NoPanic.normal ?_
          go_wp2
          go_ret
          exact unhide fin _ rfl
        | false =>
          have h40 := h40' rfl
          clear h40'
          have o1 : ¬ (j : Int) < 0 := by omega
          have o1d : decide ((j : Int) < 0) = false := decide_eq_false o1
          have o2 : ¬ (n : Int) < (j : Int) := by omega
          have o2d : decide ((n : Int) < (j : Int)) = false := decide_eq_false o2
          have o3 : ¬ (8 : Int) ≤ (j : Int) := by omega
          have o3d : decide ((8 : Int) ≤ (j : Int)) = false := decide_eq_false o3
          have o2n : decide (n < j) = false := decide_eq_false (by omega)
          have o3n : decide (8 ≤ j) = false := decide_eq_false (by omega)
          have o2m : ¬ n < j := by omega
          have o3m : ¬ 8 ≤ j := by omega
          go_wp2
          go_quiet (fail)
          have Q2 := hide ((unhide Q1).drewN nq)
          have co1' := Quiet.cell ((Chg.refl (fun _ => False) w1).drewN nq) co1
          have ca0' := Quiet.cell ((Chg.refl (fun _ => False) w1).drewN nq) ca0
          have ca1' := Quiet.cell ((Chg.refl (fun _ => False) w1).drewN nq) ca1
          have ca2' := Quiet.cell ((Chg.refl (fun _ => False) w1).drewN nq) ca2
          have SB2 := hide (⟨(unhide SB1).1.drewN nq, (unhide SB1).2.drewN nq⟩ : _ ∧ _)
          generalize w1.drewN nq = w2 at *
          clear co1 ca0 ca1 ca2 cg0 Q1 SB1
          have hct := hide (cut_any w2 TT (by have := h40; rw [hTs]; omega))
          go_wp2_with fail
          refine (unhide hct).mono ?_
          clear hct
          rintro e w3 ⟨P, hP, fi, hor, rfl, q3⟩
          have hwd := word_end TT P hP fi hor
          generalize decide (P = 5 ∧ cutTo TT 5 = (TT).size) = wb at *
          obtain ⟨W3, hW3⟩ : ∃ W, w3.alloc (.cells (rowC TT P).toArray 77) = W := ⟨_, rfl⟩
          have bD : Blk W3 w3.heap.size 77 (rowC TT P) := by rw [← hW3]; exact Blk.new w3 77 _
          have q23 : Quiet w2 W3 := by rw [← hW3]; exact Chg.alloc q3 _
          have Q3 := hide (Quiet.trans (unhide Q2) q23)
          have SB3 := hide (⟨q23.blk (unhide SB2).1, q23.blk (unhide SB2).2⟩ : _ ∧ _)
          have bDH := hide bD
          have hwdH := hide hwd
          rw [show (rowC TT P).toArray = #[.string (rowS TT P 0), .string (rowS TT P 1), .string (rowS TT P 2), .string (rowS TT P 3), .string (rowS TT P 4)] from rfl] at hW3 ⊢
          have co1s := Quiet.cell q23 co1'
          have ca0s := Quiet.cell q23 ca0'
          have ca1s := Quiet.cell q23 ca1'
          have ca2s := Quiet.cell q23 ca2'
          clear bD q23 q3 Q2 SB2 hP fi hor hwd co1' ca0' ca1' ca2'
          obtain ⟨D, hD⟩ : ∃ D, w3.heap.size = D := ⟨_, rfl⟩
          rw [hD] at bDH
          go_wp2
          clear hW3 hD
          go_loopw [15, 16] (fun b z wr => ∃ k : Nat, k ≤ 5 ∧ z = .int .i64 (k : Int) ∧ b = .bool (wb && letAll TT P k) ∧ wr = W3) (fun _ z _ => 6 - (intOf z).toNat)
          case atStart => exact ⟨0, by omega, rfl, by simp [letAll], rfl⟩
          case round =>
            obtain ⟨k, hk, rfl, rfl, rfl⟩ := hrel
            by_cases hk5 : k < 5
            · have k1 : (k : Int) < 5 := by omega
              have k0 : (0 : Int) ≤ (k : Int) := by omega
              have wk : wrap64 ((k : Int) + 1) = (k : Int) + 1 := wrap_small (k + 1) (by omega)
              have cD : wr.cell? ⟨D, k, none⟩ = some (.string (rowS TT P k)) := ((unhide bDH).cell k).trans (row5_get _ k hk5)
              have hlt := hide (letter_any wr (rowS TT P k) (rowS_size _ _ _))
              have hnx : Hid ((wb && letAll TT P (k + 1)) = ((wb && letAll TT P k) && letterL (rowS TT P k).data.toList)) := by
                show _ = _
                rw [letAll, Bool.and_assoc]
              have hkH := hide hk5
              clear hk hk5
              generalize letterL (rowS TT P k).data.toList = lk at *
              generalize rowS TT P k = pk at *
              generalize (wb && letAll TT P k) = wk0 at *
              go_wp2_with fail
              refine (unhide hlt).mono ?_
              clear hlt cD
              rintro e wx ⟨rfl, rfl⟩
              cases wk0
              · go_wp2
                go_roundw
                case rel => exact ⟨k + 1, unhide hkH, by simp; try exact wk, by rw [unhide hnx]; simp, by first | rfl | trivial⟩
                case measure =>
                  have h := unhide hkH
                  first
                    | exact meas_list h
                    | (rw [wk]; exact meas_list h)
              · go_wp2
                go_roundw
                case rel => exact ⟨k + 1, unhide hkH, by simp; try exact wk, by rw [unhide hnx]; simp, by first | rfl | trivial⟩
                case measure =>
                  have h := unhide hkH
                  first
                    | exact meas_list h
                    | (rw [wk]; exact meas_list h)
            · have k1 : ¬ (k : Int) < 5 := by omega
              obtain rfl : k = 5 := by omega
              have hw5 : (wb && letAll TT P 5) = true := by exact (unhide hwdH).2 (unhide hwT)
              rw [hw5]
              clear hk hk5 hw5 hwdH bDH
              have Q2 := Q3
              have SB2 := SB3
              have co1' := co1s
              have ca0' := ca0s
              have ca1' := ca1s
              have ca2' := ca2s
              clear co1s ca0s ca1s ca2s
              clear Q3 SB3
              have ig : ((j : Int) == (n : Int)) = false := by rw [beq_eq_false_iff_ne]; have := unhide hjnH; omega
              have hcw := hide (cut_word wr l (unhide hLWH))
              rw [show (row5 fun i => Value.string (str (encL (fw l i)))).toArray = #[.string (str (encL (fw l 0))), .string (str (encL (fw l 1))), .string (str (encL (fw l 2))), .string (str (encL (fw l 3))), .string (str (encL (fw l 4)))] from rfl] at hcw
              rw [unhide hTTH] at hcw
              go_wp2_with fail
              refine (unhide hcw).mono ?_
              clear hcw
              rintro e w4 ⟨rfl, q4⟩
              obtain ⟨W4, hW4⟩ : ∃ W, w4.alloc (.cells #[.string (str (encL (fw l 0))), .string (str (encL (fw l 1))), .string (str (encL (fw l 2))), .string (str (encL (fw l 3))), .string (str (encL (fw l 4)))] 77) = W := ⟨_, rfl⟩
              have q24 : Quiet wr W4 := by rw [← hW4]; exact Chg.alloc q4 _
              have Q4 := hide (Quiet.trans (unhide Q2) q24)
              have co4 := Quiet.cell q24 co1'
              have cn0 := Quiet.cell q24 ca0'
              have cn1 := Quiet.cell q24 ca1'
              have cn2 := Quiet.cell q24 ca2'
              have SB4 := hide (⟨q24.blk (unhide SB2).1, q24.blk (unhide SB2).2⟩ : _ ∧ _)
              clear co1' ca0' ca1' ca2' q24 q4 Q2 SB2
              have hdo := hide (unhide hDo W4 (unhide Q4))
              have hts : (TT.toList == TT.toList) = true := by simp
              go_wp2_with fail
              refine (unhide hdo).mono ?_
              clear hdo hW4 cn0 cn1 cn2 hts
              rintro e w5 ⟨rfl, ch5, O5, R5, ho5⟩
              obtain ⟨W5, hW5⟩ : ∃ W, w5.alloc (.cells #[.int .i64 0, .int .i64 0, .string TT] 39) = W := ⟨_, rfl⟩
              have hW5H : Hid (∀ S, Chg S w5 W5) := fun S => by rw [← hW5]; exact Chg.alloc (Chg.refl _ _) _
              have bx5 : Blk W5 w5.heap.size 39 [.int .i64 0, .int .i64 0, .string TT] := by rw [← hW5]; exact Blk.new w5 39 _
              have z4 := (unhide Q4).size
              have z5 := ch5.size
              have ow0 : ∀ k, w.heap.size ≤ k → ¬ O k := fun k hk h => by have := (unhide RH).2.2.2.1 k h; omega
              have oh0 : ∀ k, w.heap.size ≤ k → ¬ (k = g ∨ vb.ownBlock = some k) := fun k hk h => by
                have := (unhide RH).2.2.2.2.1 k (by rcases h with h | h; exact (unhide GH).2 _ (.inl h); exact (unhide GH).2 _ (.inr (.inl h)))
                omega
              have bo5 : Blk W5 w.heap.size 37 [.int .i64 1, .int .i64 (j : Int), .int .i64 B, .int .i64 C, .string s, .string t] := by rw [← hW5]; exact (ch5.blk (unhide SB4).1 (ow0 _ (Nat.le_refl _))).alloc _
              have ba5 : Blk W5 (w.heap.size + 1) 39 [.int .i64 0, .int .i64 0, .string TT] := by rw [← hW5]; exact (ch5.blk (unhide SB4).2 (ow0 _ (by omega))).alloc _
              have co5 : W5.cell? ⟨w.heap.size, 1, none⟩ = some (.int .i64 (j : Int)) := bo5.cell 1
              have BOX5 : Hid (W5.cell? ⟨w5.heap.size, 0, none⟩ = some (.int .i64 0) ∧ W5.cell? ⟨w5.heap.size, 1, none⟩ = some (.int .i64 0) ∧ W5.cell? ⟨w5.heap.size, 2, none⟩ = some (.string TT) ∧ W5.cell? ⟨w.heap.size + 1, 0, none⟩ = some (.int .i64 0) ∧ W5.cell? ⟨w.heap.size + 1, 1, none⟩ = some (.int .i64 0) ∧ W5.cell? ⟨w.heap.size + 1, 2, none⟩ = some (.string TT) ∧ (¬ (w5.heap.size = g ∨ vb.ownBlock = some w5.heap.size)) ∧ ¬ (w.heap.size + 1 = g ∨ vb.ownBlock = some (w.heap.size + 1))) := ⟨bx5.cell 0, bx5.cell 1, bx5.cell 2, ba5.cell 0, ba5.cell 1, ba5.cell 2, oh0 _ (by omega), oh0 _ (by omega)⟩
              have G5 : Gh W5 g vb vt vs σ := by
                have h := ((unhide GH).1.quiet (unhide Q4)).of_chg ch5 (fun k hk ho => (unhide RH).2.2.1 k ho ((unhide GH).2 k hk))
                rw [← hW5]; exact h.quiet (Chg.alloc (Chg.refl _ _) _)
              have cg5 : W5.cell? ⟨g, 0, none⟩ = some (.slice xb n cp) := by rw [← unhide hxbH]; exact G5.b.cell 0
              have hgn : Hid (¬ (w.heap.size = g ∨ vb.ownBlock = some w.heap.size)) := oh0 _ (Nat.le_refl _)
              have R5H := hide (⟨ch5, R5, ho5⟩ : _ ∧ _ ∧ _)
              have G5H := hide G5
              have bo5H := hide bo5
              clear ch5 R5 ho5 bx5 ba5 G5 bo5 SB4 ow0 oh0 z4 z5
              go_wp2
              clear hW5
              go_quiet (fail)
              have co6 := Quiet.cell ((Chg.refl (fun _ => False) W5).drewN nq) co5
              have cg6 := Quiet.cell ((Chg.refl (fun _ => False) W5).drewN nq) cg5
              have G6 := (unhide G5H).quiet ((Chg.refl (fun _ => False) W5).drewN nq)
              have q56 : Quiet W5 (W5.drewN nq) := (Chg.refl _ _).drewN nq
              generalize W5.drewN nq = W6 at *
              clear co5 cg5 G5H
              obtain ⟨b, spare, hxe, bR, hcap1, hcap2, hcap3⟩ : ∃ b spare, xb = some ⟨b, 0, none⟩ ∧ Blk W6 b 9 (σ.ws.map txV ++ spare) ∧ n ≤ cp ∧ cp ≤ maxLen ∧ (σ.ws.map txV ++ spare).length = cp * 1 := by
                rcases G6.rb.form with ⟨h, hn0, _⟩ | ⟨b, cap, spare, h, hR, h1, h2, h3⟩
                · exfalso; have h3 := unhide hjnH; rw [show σ.ws.length = n from unhide hnH] at hn0; omega
                · rw [unhide hxbH, show σ.ws.length = n from unhide hnH] at h
                  simp at h
                  obtain ⟨rfl, rfl⟩ := h
                  rw [show σ.ws.length = n from unhide hnH] at h1
                  exact ⟨b, spare, rfl, hR, h1, h2, h3⟩
              subst hxe
              have hvb0 : vb.ownBlock = some b := by rw [unhide hxbH]; rfl
              have hbg : b ≠ g := fun e => G6.gb (by rw [hvb0, e])
              have hbo : vb.ownBlock = some b ∨ w5.heap.size ≤ b := .inl hvb0
              have jl : j < σ.ws.length := by rw [show σ.ws.length = n from unhide hnH]; exact unhide hjnH
              obtain ⟨ob, hob⟩ : ∃ u, (σ.ws.map txV ++ spare)[j]? = some u := ⟨_, List.getElem?_eq_getElem (by rw [List.length_append, List.length_map]; omega)⟩
              have tj : W6.cell? ⟨b, j, none⟩ = some ob := (bR.cell j).trans hob
              have fj := bR.frozen j
              have k3 : (j : Int) < (n : Int) := by have := unhide hjnH; omega
              have S8 := hide (⟨G6, q56, bR, hcap1, hcap2, hcap3, jl⟩ : _ ∧ _ ∧ _ ∧ _ ∧ _ ∧ _ ∧ _)
              clear G6 q56 bR hcap1 hcap2 hcap3 jl hob hvb0
              go_wp2
              refine wp_region_noPanic ?_
              try simp only [List.append_eq, List.cons_append, List.nil_append]
              refine wp_region_mix [(0, true), (1, true), (2, true), (3, true), (4, true), (5, true), (6, true), (7, true)] [8] (by kernel_rfl) (by kernel_rfl) (fun _ _ _ _ _ h => h) ?_
              simp only [pickM, pickO, List.getElem?_cons_zero, List.getElem?_cons_succ]
              repeat (first | (refine wpMix_read rfl (fun K hK => ?_)) | (refine wpMix_pure rfl (fun K hK => ?_))
                      go_big_quiet_op
                      first | (refine hK _ ?_; clear hK K))
              refine wpMix_nil ?_
              intro _ hw'
              obtain ⟨nq, hw''⟩ := hw'
              subst hw''
              obtain ⟨W9, hW9⟩ : ∃ W, (W6.drewN nq).setCell ⟨b, j, none⟩ (.string TT) = W := ⟨_, rfl⟩
              obtain ⟨G8, q56, bR, hcap1, hcap2, hcap3, jl⟩ := unhide S8
              have bR9 : Blk W9 b 9 ((σ.ws.set j l).map txV ++ spare) := by
                have h := (bR.drewN nq).set j (.string (str (txt l)))
                rw [tx_set _ _ _ _ jl] at h
                rw [← hW9, ← unhide hTTH]; exact h
              have c89 : Chg (fun k => k = g ∨ vb.ownBlock = some k) W6 W9 := by rw [← hW9]; exact ((Chg.refl _ W6).drewN nq).setCell (p := ⟨b, j, none⟩) (.inl (.inr (by rw [unhide hxbH]; rfl))) _
              have b9 : Blk W9 g 35 (hcs (.slice (some ⟨b, 0, none⟩) n cp) vt vs σ) := by
                have h : Blk W9 g 35 (hcs vb vt vs σ) := by rw [← hW9]; exact (Blk.drewN G8.b nq).set_other (Ne.symm hbg) _
                rwa [unhide hxbH] at h
              have r9 : Row W9 9 1 (.slice (some ⟨b, 0, none⟩) n cp) (σ.ws.set j l).length ((σ.ws.set j l).map txV) := by
                have hle : (σ.ws.set j l).length = n := by rw [List.length_set]; exact unhide hnH
                rw [hle]
                exact Row.of_blk bR9 (by rw [List.length_map, hle]; omega) hcap1 hcap2 (by rw [← hcap3, List.length_append, List.length_append, List.length_map, List.length_map, List.length_set])
              have G9 : Gh W9 g (.slice (some ⟨b, 0, none⟩) n cp) vt vs { σ with ws := σ.ws.set j l } := G8.words c89 b9 r9 (by left; rw [unhide hxbH]; rfl)
              have c59 : Chg (fun k => k = g ∨ vb.ownBlock = some k) W5 W9 := Chg.trans (q56.chg _) c89
              have c9 : Chg (fun k => k = g ∨ vb.ownBlock = some k) w5 W9 := Chg.trans (unhide hW5H _) c59
              have hlts := (unhide BOX5)
              have m0 := Chg.cell c59 hlts.1 hlts.2.2.2.2.2.2.1
              have m1 := Chg.cell c59 hlts.2.1 hlts.2.2.2.2.2.2.1
              have m2 := Chg.cell c59 hlts.2.2.1 hlts.2.2.2.2.2.2.1
              have n0 := Chg.cell c59 hlts.2.2.2.1 hlts.2.2.2.2.2.2.2
              have n1 := Chg.cell c59 hlts.2.2.2.2.1 hlts.2.2.2.2.2.2.2
              have n2 := Chg.cell c59 hlts.2.2.2.2.2.1 hlts.2.2.2.2.2.2.2
              have hTT : (TT.toList == TT.toList) = true := by simp
              have fin : Hid (∀ e, e = .returned (.bool true) → KPost w O OH x g (putS σ (j : Int) s).2.2 e W9) := by
                obtain ⟨_, _, hd, lO, lH, _, _⟩ := unhide RH
                show ∀ e, _
                intro e he
                rw [unhide hspH]
                have R5 := (unhide R5H).2.1
                rw [unhide hspH] at R5
                exact kput_fin lO lH hd (unhide GH).2 (unhide Q4) (unhide R5H).1 R5 (unhide R5H).2.2 c9 G9 hbo e he
              clear c59 c9 hlts G9
              go_wp2
              refine NoPanic.normal ?_
              go_wp2
              go_ret
              exact unhide fin _ rfl
  · -- no word
    have hp : putS σ A s = ([], (parseP s).2, σ) := by unfold putS; rw [if_pos he]
    have fin : Hid (∀ e w', Quiet w w' → e = .returned (.bool true) → KPost w O OH x g (putS σ A s).2.2 e w') := by
      have hR := (unhide RH).1
      show ∀ e w', _
      rw [show (putS σ A s).2.2 = σ by rw [hp]] at hR ⊢
      exact fun e w' q he => KPost.same hR (unhide RH).2.1 (unhide RH).2.2.1 q he
    rw [hp] at aH
    obtain ⟨hE, hS⟩ := unhide aH
    simp only at hE hS
    have hS : aS = ⟨#[]⟩ := hS.symm
    subst hS
    rcases ow with ⟨rfl, hE0, hT⟩ | ⟨rfl, rfl, rfl, h40⟩
    · rw [hE] at hE0
      subst hE0
      have hne : (E0 == 0) = false := by rw [beq_eq_false_iff_ne]; rw [← hE]; exact he
      have hne2 : (E0 != 0) = true := by rw [bne_iff_ne]; rw [← hE]; exact he
      clear hT he aH hp RH GH hE
      rcases (by omega : A < 0 ∨ (0 ≤ A ∧ (n : Int) < A) ∨ (0 ≤ A ∧ A ≤ (n : Int) ∧ 8 ≤ A) ∨ (0 ≤ A ∧ A ≤ (n : Int) ∧ A < 8)) with ho | ho | ho | ho
      · have o1 : A < 0 := ho
        have o1d : decide (A < 0) = true := decide_eq_true o1
        clear ho
        go_wp2
        go_quiet (fail)
        have Q2 := hide ((unhide Q1).drewN nq)
        have co1' := Quiet.cell ((Chg.refl (fun _ => False) w1).drewN nq) co1
        have ca0' := Quiet.cell ((Chg.refl (fun _ => False) w1).drewN nq) ca0
        have ca1' := Quiet.cell ((Chg.refl (fun _ => False) w1).drewN nq) ca1
        have ca2' := Quiet.cell ((Chg.refl (fun _ => False) w1).drewN nq) ca2
        have SB2 := hide (⟨(unhide SB1).1.drewN nq, (unhide SB1).2.drewN nq⟩ : _ ∧ _)
        generalize w1.drewN nq = w2 at *
        clear co1 ca0 ca1 ca2 cg0 Q1 SB1
        go_wp2
        all_goals
          go_ret
          exact unhide fin _ _ (unhide Q2) rfl
      · have o1 : ¬ A < 0 := by omega
        have o1d : decide (A < 0) = false := decide_eq_false o1
        have o2 : (n : Int) < A := by omega
        have o2d : decide ((n : Int) < A) = true := decide_eq_true o2
        clear ho
        go_wp2
        go_quiet (fail)
        have Q2 := hide ((unhide Q1).drewN nq)
        have co1' := Quiet.cell ((Chg.refl (fun _ => False) w1).drewN nq) co1
        have ca0' := Quiet.cell ((Chg.refl (fun _ => False) w1).drewN nq) ca0
        have ca1' := Quiet.cell ((Chg.refl (fun _ => False) w1).drewN nq) ca1
        have ca2' := Quiet.cell ((Chg.refl (fun _ => False) w1).drewN nq) ca2
        have SB2 := hide (⟨(unhide SB1).1.drewN nq, (unhide SB1).2.drewN nq⟩ : _ ∧ _)
        generalize w1.drewN nq = w2 at *
        clear co1 ca0 ca1 ca2 cg0 Q1 SB1
        go_wp2
        all_goals
          go_ret
          exact unhide fin _ _ (unhide Q2) rfl
      · have o1 : ¬ A < 0 := by omega
        have o1d : decide (A < 0) = false := decide_eq_false o1
        have o2 : ¬ (n : Int) < A := by omega
        have o2d : decide ((n : Int) < A) = false := decide_eq_false o2
        have o3 : (8 : Int) ≤ A := by omega
        have o3d : decide ((8 : Int) ≤ A) = true := decide_eq_true o3
        clear ho
        go_wp2
        go_quiet (fail)
        have Q2 := hide ((unhide Q1).drewN nq)
        have co1' := Quiet.cell ((Chg.refl (fun _ => False) w1).drewN nq) co1
        have ca0' := Quiet.cell ((Chg.refl (fun _ => False) w1).drewN nq) ca0
        have ca1' := Quiet.cell ((Chg.refl (fun _ => False) w1).drewN nq) ca1
        have ca2' := Quiet.cell ((Chg.refl (fun _ => False) w1).drewN nq) ca2
        have SB2 := hide (⟨(unhide SB1).1.drewN nq, (unhide SB1).2.drewN nq⟩ : _ ∧ _)
        generalize w1.drewN nq = w2 at *
        clear co1 ca0 ca1 ca2 cg0 Q1 SB1
        go_wp2
        all_goals
          go_ret
          exact unhide fin _ _ (unhide Q2) rfl
      · have o1 : ¬ A < 0 := by omega
        have o1d : decide (A < 0) = false := decide_eq_false o1
        have o2 : ¬ (n : Int) < A := by omega
        have o2d : decide ((n : Int) < A) = false := decide_eq_false o2
        have o3 : ¬ (8 : Int) ≤ A := by omega
        have o3d : decide ((8 : Int) ≤ A) = false := decide_eq_false o3
        clear ho
        go_wp2
        go_quiet (fail)
        have Q2 := hide ((unhide Q1).drewN nq)
        have co1' := Quiet.cell ((Chg.refl (fun _ => False) w1).drewN nq) co1
        have ca0' := Quiet.cell ((Chg.refl (fun _ => False) w1).drewN nq) ca0
        have ca1' := Quiet.cell ((Chg.refl (fun _ => False) w1).drewN nq) ca1
        have ca2' := Quiet.cell ((Chg.refl (fun _ => False) w1).drewN nq) ca2
        have SB2 := hide (⟨(unhide SB1).1.drewN nq, (unhide SB1).2.drewN nq⟩ : _ ∧ _)
        generalize w1.drewN nq = w2 at *
        clear co1 ca0 ca1 ca2 cg0 Q1 SB1
        go_wp2
        all_goals
          go_ret
          exact unhide fin _ _ (unhide Q2) rfl
    · have hwT : Hid (¬ WordT (str (low s))) := fun h => he ((word_law s h40).2 h)
      have h3 := parse_err40 s h40 he
      rw [hE] at h3
      clear he aH hp RH GH hE
      obtain ⟨T, hTT⟩ : ∃ T, str (low s) = T := ⟨_, rfl⟩
      have hTs : T.size = s.size := by rw [← hTT]; exact low_size s
      rw [hTT] at hwT ⊢
      clear hTT
      rcases h3 with rfl | rfl | rfl
      · rcases (by omega : A < 0 ∨ (0 ≤ A ∧ (n : Int) < A) ∨ (0 ≤ A ∧ A ≤ (n : Int) ∧ 8 ≤ A) ∨ (0 ≤ A ∧ A ≤ (n : Int) ∧ A < 8)) with ho | ho | ho | ho
        · have o1 : A < 0 := ho
          have o1d : decide (A < 0) = true := decide_eq_true o1
          clear ho
          go_wp2
          go_quiet (fail)
          have Q2 := hide ((unhide Q1).drewN nq)
          have co1' := Quiet.cell ((Chg.refl (fun _ => False) w1).drewN nq) co1
          have ca0' := Quiet.cell ((Chg.refl (fun _ => False) w1).drewN nq) ca0
          have ca1' := Quiet.cell ((Chg.refl (fun _ => False) w1).drewN nq) ca1
          have ca2' := Quiet.cell ((Chg.refl (fun _ => False) w1).drewN nq) ca2
          have SB2 := hide (⟨(unhide SB1).1.drewN nq, (unhide SB1).2.drewN nq⟩ : _ ∧ _)
          generalize w1.drewN nq = w2 at *
          clear co1 ca0 ca1 ca2 cg0 Q1 SB1
          have hct := hide (cut_any w2 T (by have := h40; rw [hTs]; omega))
          go_wp2_with fail
          refine (unhide hct).mono ?_
          clear hct
          rintro e w3 ⟨P, hP, fi, hor, rfl, q3⟩
          have hwd := word_end T P hP fi hor
          generalize decide (P = 5 ∧ cutTo T 5 = (T).size) = wb at *
          obtain ⟨W3, hW3⟩ : ∃ W, w3.alloc (.cells (rowC T P).toArray 77) = W := ⟨_, rfl⟩
          have bD : Blk W3 w3.heap.size 77 (rowC T P) := by rw [← hW3]; exact Blk.new w3 77 _
          have q23 : Quiet w2 W3 := by rw [← hW3]; exact Chg.alloc q3 _
          have Q3 := hide (Quiet.trans (unhide Q2) q23)
          have SB3 := hide (⟨q23.blk (unhide SB2).1, q23.blk (unhide SB2).2⟩ : _ ∧ _)
          have bDH := hide bD
          have hwdH := hide hwd
          rw [show (rowC T P).toArray = #[.string (rowS T P 0), .string (rowS T P 1), .string (rowS T P 2), .string (rowS T P 3), .string (rowS T P 4)] from rfl] at hW3 ⊢
          have co1s := Quiet.cell q23 co1'
          have ca0s := Quiet.cell q23 ca0'
          have ca1s := Quiet.cell q23 ca1'
          have ca2s := Quiet.cell q23 ca2'
          clear bD q23 q3 Q2 SB2 hP fi hor hwd co1' ca0' ca1' ca2'
          obtain ⟨D, hD⟩ : ∃ D, w3.heap.size = D := ⟨_, rfl⟩
          rw [hD] at bDH
          go_wp2
          clear hW3 hD
          go_loopw [15, 16] (fun b z wr => ∃ k : Nat, k ≤ 5 ∧ z = .int .i64 (k : Int) ∧ b = .bool (wb && letAll T P k) ∧ wr = W3) (fun _ z _ => 6 - (intOf z).toNat)
          case atStart => exact ⟨0, by omega, rfl, by simp [letAll], rfl⟩
          case round =>
            obtain ⟨k, hk, rfl, rfl, rfl⟩ := hrel
            by_cases hk5 : k < 5
            · have k1 : (k : Int) < 5 := by omega
              have k0 : (0 : Int) ≤ (k : Int) := by omega
              have wk : wrap64 ((k : Int) + 1) = (k : Int) + 1 := wrap_small (k + 1) (by omega)
              have cD : wr.cell? ⟨D, k, none⟩ = some (.string (rowS T P k)) := ((unhide bDH).cell k).trans (row5_get _ k hk5)
              have hlt := hide (letter_any wr (rowS T P k) (rowS_size _ _ _))
              have hnx : Hid ((wb && letAll T P (k + 1)) = ((wb && letAll T P k) && letterL (rowS T P k).data.toList)) := by
                show _ = _
                rw [letAll, Bool.and_assoc]
              have hkH := hide hk5
              clear hk hk5
              generalize letterL (rowS T P k).data.toList = lk at *
              generalize rowS T P k = pk at *
              generalize (wb && letAll T P k) = wk0 at *
              go_wp2_with fail
              refine (unhide hlt).mono ?_
              clear hlt cD
              rintro e wx ⟨rfl, rfl⟩
              cases wk0
              · go_wp2
                go_roundw
                case rel => exact ⟨k + 1, unhide hkH, by simp; try exact wk, by rw [unhide hnx]; simp, by first | rfl | trivial⟩
                case measure =>
                  have h := unhide hkH
                  first
                    | exact meas_list h
                    | (rw [wk]; exact meas_list h)
              · go_wp2
                go_roundw
                case rel => exact ⟨k + 1, unhide hkH, by simp; try exact wk, by rw [unhide hnx]; simp, by first | rfl | trivial⟩
                case measure =>
                  have h := unhide hkH
                  first
                    | exact meas_list h
                    | (rw [wk]; exact meas_list h)
            · have k1 : ¬ (k : Int) < 5 := by omega
              obtain rfl : k = 5 := by omega
              have hw5 : (wb && letAll T P 5) = false := by cases hcs : (wb && letAll T P 5) with | false => rfl | true => exact absurd ((unhide hwdH).1 hcs) (unhide hwT)
              rw [hw5]
              clear hk hk5 hw5 hwdH bDH
              have Q2 := Q3
              have SB2 := SB3
              have co1' := co1s
              have ca0' := ca0s
              have ca1' := ca1s
              have ca2' := ca2s
              clear co1s ca0s ca1s ca2s
              clear Q3 SB3
              go_wp2
              all_goals
                go_ret
                exact unhide fin _ _ (unhide Q2) rfl
        · have o1 : ¬ A < 0 := by omega
          have o1d : decide (A < 0) = false := decide_eq_false o1
          have o2 : (n : Int) < A := by omega
          have o2d : decide ((n : Int) < A) = true := decide_eq_true o2
          clear ho
          go_wp2
          go_quiet (fail)
          have Q2 := hide ((unhide Q1).drewN nq)
          have co1' := Quiet.cell ((Chg.refl (fun _ => False) w1).drewN nq) co1
          have ca0' := Quiet.cell ((Chg.refl (fun _ => False) w1).drewN nq) ca0
          have ca1' := Quiet.cell ((Chg.refl (fun _ => False) w1).drewN nq) ca1
          have ca2' := Quiet.cell ((Chg.refl (fun _ => False) w1).drewN nq) ca2
          have SB2 := hide (⟨(unhide SB1).1.drewN nq, (unhide SB1).2.drewN nq⟩ : _ ∧ _)
          generalize w1.drewN nq = w2 at *
          clear co1 ca0 ca1 ca2 cg0 Q1 SB1
          have hct := hide (cut_any w2 T (by have := h40; rw [hTs]; omega))
          go_wp2_with fail
          refine (unhide hct).mono ?_
          clear hct
          rintro e w3 ⟨P, hP, fi, hor, rfl, q3⟩
          have hwd := word_end T P hP fi hor
          generalize decide (P = 5 ∧ cutTo T 5 = (T).size) = wb at *
          obtain ⟨W3, hW3⟩ : ∃ W, w3.alloc (.cells (rowC T P).toArray 77) = W := ⟨_, rfl⟩
          have bD : Blk W3 w3.heap.size 77 (rowC T P) := by rw [← hW3]; exact Blk.new w3 77 _
          have q23 : Quiet w2 W3 := by rw [← hW3]; exact Chg.alloc q3 _
          have Q3 := hide (Quiet.trans (unhide Q2) q23)
          have SB3 := hide (⟨q23.blk (unhide SB2).1, q23.blk (unhide SB2).2⟩ : _ ∧ _)
          have bDH := hide bD
          have hwdH := hide hwd
          rw [show (rowC T P).toArray = #[.string (rowS T P 0), .string (rowS T P 1), .string (rowS T P 2), .string (rowS T P 3), .string (rowS T P 4)] from rfl] at hW3 ⊢
          have co1s := Quiet.cell q23 co1'
          have ca0s := Quiet.cell q23 ca0'
          have ca1s := Quiet.cell q23 ca1'
          have ca2s := Quiet.cell q23 ca2'
          clear bD q23 q3 Q2 SB2 hP fi hor hwd co1' ca0' ca1' ca2'
          obtain ⟨D, hD⟩ : ∃ D, w3.heap.size = D := ⟨_, rfl⟩
          rw [hD] at bDH
          go_wp2
          clear hW3 hD
          go_loopw [15, 16] (fun b z wr => ∃ k : Nat, k ≤ 5 ∧ z = .int .i64 (k : Int) ∧ b = .bool (wb && letAll T P k) ∧ wr = W3) (fun _ z _ => 6 - (intOf z).toNat)
          case atStart => exact ⟨0, by omega, rfl, by simp [letAll], rfl⟩
          case round =>
            obtain ⟨k, hk, rfl, rfl, rfl⟩ := hrel
            by_cases hk5 : k < 5
            · have k1 : (k : Int) < 5 := by omega
              have k0 : (0 : Int) ≤ (k : Int) := by omega
              have wk : wrap64 ((k : Int) + 1) = (k : Int) + 1 := wrap_small (k + 1) (by omega)
              have cD : wr.cell? ⟨D, k, none⟩ = some (.string (rowS T P k)) := ((unhide bDH).cell k).trans (row5_get _ k hk5)
              have hlt := hide (letter_any wr (rowS T P k) (rowS_size _ _ _))
              have hnx : Hid ((wb && letAll T P (k + 1)) = ((wb && letAll T P k) && letterL (rowS T P k).data.toList)) := by
                show _ = _
                rw [letAll, Bool.and_assoc]
              have hkH := hide hk5
              clear hk hk5
              generalize letterL (rowS T P k).data.toList = lk at *
              generalize rowS T P k = pk at *
              generalize (wb && letAll T P k) = wk0 at *
              go_wp2_with fail
              refine (unhide hlt).mono ?_
              clear hlt cD
              rintro e wx ⟨rfl, rfl⟩
              cases wk0
              · go_wp2
                go_roundw
                case rel => exact ⟨k + 1, unhide hkH, by simp; try exact wk, by rw [unhide hnx]; simp, by first | rfl | trivial⟩
                case measure =>
                  have h := unhide hkH
                  first
                    | exact meas_list h
                    | (rw [wk]; exact meas_list h)
              · go_wp2
                go_roundw
                case rel => exact ⟨k + 1, unhide hkH, by simp; try exact wk, by rw [unhide hnx]; simp, by first | rfl | trivial⟩
                case measure =>
                  have h := unhide hkH
                  first
                    | exact meas_list h
                    | (rw [wk]; exact meas_list h)
            · have k1 : ¬ (k : Int) < 5 := by omega
              obtain rfl : k = 5 := by omega
              have hw5 : (wb && letAll T P 5) = false := by cases hcs : (wb && letAll T P 5) with | false => rfl | true => exact absurd ((unhide hwdH).1 hcs) (unhide hwT)
              rw [hw5]
              clear hk hk5 hw5 hwdH bDH
              have Q2 := Q3
              have SB2 := SB3
              have co1' := co1s
              have ca0' := ca0s
              have ca1' := ca1s
              have ca2' := ca2s
              clear co1s ca0s ca1s ca2s
              clear Q3 SB3
              go_wp2
              all_goals
                go_ret
                exact unhide fin _ _ (unhide Q2) rfl
        · have o1 : ¬ A < 0 := by omega
          have o1d : decide (A < 0) = false := decide_eq_false o1
          have o2 : ¬ (n : Int) < A := by omega
          have o2d : decide ((n : Int) < A) = false := decide_eq_false o2
          have o3 : (8 : Int) ≤ A := by omega
          have o3d : decide ((8 : Int) ≤ A) = true := decide_eq_true o3
          clear ho
          go_wp2
          go_quiet (fail)
          have Q2 := hide ((unhide Q1).drewN nq)
          have co1' := Quiet.cell ((Chg.refl (fun _ => False) w1).drewN nq) co1
          have ca0' := Quiet.cell ((Chg.refl (fun _ => False) w1).drewN nq) ca0
          have ca1' := Quiet.cell ((Chg.refl (fun _ => False) w1).drewN nq) ca1
          have ca2' := Quiet.cell ((Chg.refl (fun _ => False) w1).drewN nq) ca2
          have SB2 := hide (⟨(unhide SB1).1.drewN nq, (unhide SB1).2.drewN nq⟩ : _ ∧ _)
          generalize w1.drewN nq = w2 at *
          clear co1 ca0 ca1 ca2 cg0 Q1 SB1
          have hct := hide (cut_any w2 T (by have := h40; rw [hTs]; omega))
          go_wp2_with fail
          refine (unhide hct).mono ?_
          clear hct
          rintro e w3 ⟨P, hP, fi, hor, rfl, q3⟩
          have hwd := word_end T P hP fi hor
          generalize decide (P = 5 ∧ cutTo T 5 = (T).size) = wb at *
          obtain ⟨W3, hW3⟩ : ∃ W, w3.alloc (.cells (rowC T P).toArray 77) = W := ⟨_, rfl⟩
          have bD : Blk W3 w3.heap.size 77 (rowC T P) := by rw [← hW3]; exact Blk.new w3 77 _
          have q23 : Quiet w2 W3 := by rw [← hW3]; exact Chg.alloc q3 _
          have Q3 := hide (Quiet.trans (unhide Q2) q23)
          have SB3 := hide (⟨q23.blk (unhide SB2).1, q23.blk (unhide SB2).2⟩ : _ ∧ _)
          have bDH := hide bD
          have hwdH := hide hwd
          rw [show (rowC T P).toArray = #[.string (rowS T P 0), .string (rowS T P 1), .string (rowS T P 2), .string (rowS T P 3), .string (rowS T P 4)] from rfl] at hW3 ⊢
          have co1s := Quiet.cell q23 co1'
          have ca0s := Quiet.cell q23 ca0'
          have ca1s := Quiet.cell q23 ca1'
          have ca2s := Quiet.cell q23 ca2'
          clear bD q23 q3 Q2 SB2 hP fi hor hwd co1' ca0' ca1' ca2'
          obtain ⟨D, hD⟩ : ∃ D, w3.heap.size = D := ⟨_, rfl⟩
          rw [hD] at bDH
          go_wp2
          clear hW3 hD
          go_loopw [15, 16] (fun b z wr => ∃ k : Nat, k ≤ 5 ∧ z = .int .i64 (k : Int) ∧ b = .bool (wb && letAll T P k) ∧ wr = W3) (fun _ z _ => 6 - (intOf z).toNat)
          case atStart => exact ⟨0, by omega, rfl, by simp [letAll], rfl⟩
          case round =>
            obtain ⟨k, hk, rfl, rfl, rfl⟩ := hrel
            by_cases hk5 : k < 5
            · have k1 : (k : Int) < 5 := by omega
              have k0 : (0 : Int) ≤ (k : Int) := by omega
              have wk : wrap64 ((k : Int) + 1) = (k : Int) + 1 := wrap_small (k + 1) (by omega)
              have cD : wr.cell? ⟨D, k, none⟩ = some (.string (rowS T P k)) := ((unhide bDH).cell k).trans (row5_get _ k hk5)
              have hlt := hide (letter_any wr (rowS T P k) (rowS_size _ _ _))
              have hnx : Hid ((wb && letAll T P (k + 1)) = ((wb && letAll T P k) && letterL (rowS T P k).data.toList)) := by
                show _ = _
                rw [letAll, Bool.and_assoc]
              have hkH := hide hk5
              clear hk hk5
              generalize letterL (rowS T P k).data.toList = lk at *
              generalize rowS T P k = pk at *
              generalize (wb && letAll T P k) = wk0 at *
              go_wp2_with fail
              refine (unhide hlt).mono ?_
              clear hlt cD
              rintro e wx ⟨rfl, rfl⟩
              cases wk0
              · go_wp2
                go_roundw
                case rel => exact ⟨k + 1, unhide hkH, by simp; try exact wk, by rw [unhide hnx]; simp, by first | rfl | trivial⟩
                case measure =>
                  have h := unhide hkH
                  first
                    | exact meas_list h
                    | (rw [wk]; exact meas_list h)
              · go_wp2
                go_roundw
                case rel => exact ⟨k + 1, unhide hkH, by simp; try exact wk, by rw [unhide hnx]; simp, by first | rfl | trivial⟩
                case measure =>
                  have h := unhide hkH
                  first
                    | exact meas_list h
                    | (rw [wk]; exact meas_list h)
            · have k1 : ¬ (k : Int) < 5 := by omega
              obtain rfl : k = 5 := by omega
              have hw5 : (wb && letAll T P 5) = false := by cases hcs : (wb && letAll T P 5) with | false => rfl | true => exact absurd ((unhide hwdH).1 hcs) (unhide hwT)
              rw [hw5]
              clear hk hk5 hw5 hwdH bDH
              have Q2 := Q3
              have SB2 := SB3
              have co1' := co1s
              have ca0' := ca0s
              have ca1' := ca1s
              have ca2' := ca2s
              clear co1s ca0s ca1s ca2s
              clear Q3 SB3
              go_wp2
              all_goals
                go_ret
                exact unhide fin _ _ (unhide Q2) rfl
        · have o1 : ¬ A < 0 := by omega
          have o1d : decide (A < 0) = false := decide_eq_false o1
          have o2 : ¬ (n : Int) < A := by omega
          have o2d : decide ((n : Int) < A) = false := decide_eq_false o2
          have o3 : ¬ (8 : Int) ≤ A := by omega
          have o3d : decide ((8 : Int) ≤ A) = false := decide_eq_false o3
          clear ho
          go_wp2
          go_quiet (fail)
          have Q2 := hide ((unhide Q1).drewN nq)
          have co1' := Quiet.cell ((Chg.refl (fun _ => False) w1).drewN nq) co1
          have ca0' := Quiet.cell ((Chg.refl (fun _ => False) w1).drewN nq) ca0
          have ca1' := Quiet.cell ((Chg.refl (fun _ => False) w1).drewN nq) ca1
          have ca2' := Quiet.cell ((Chg.refl (fun _ => False) w1).drewN nq) ca2
          have SB2 := hide (⟨(unhide SB1).1.drewN nq, (unhide SB1).2.drewN nq⟩ : _ ∧ _)
          generalize w1.drewN nq = w2 at *
          clear co1 ca0 ca1 ca2 cg0 Q1 SB1
          have hct := hide (cut_any w2 T (by have := h40; rw [hTs]; omega))
          go_wp2_with fail
          refine (unhide hct).mono ?_
          clear hct
          rintro e w3 ⟨P, hP, fi, hor, rfl, q3⟩
          have hwd := word_end T P hP fi hor
          generalize decide (P = 5 ∧ cutTo T 5 = (T).size) = wb at *
          obtain ⟨W3, hW3⟩ : ∃ W, w3.alloc (.cells (rowC T P).toArray 77) = W := ⟨_, rfl⟩
          have bD : Blk W3 w3.heap.size 77 (rowC T P) := by rw [← hW3]; exact Blk.new w3 77 _
          have q23 : Quiet w2 W3 := by rw [← hW3]; exact Chg.alloc q3 _
          have Q3 := hide (Quiet.trans (unhide Q2) q23)
          have SB3 := hide (⟨q23.blk (unhide SB2).1, q23.blk (unhide SB2).2⟩ : _ ∧ _)
          have bDH := hide bD
          have hwdH := hide hwd
          rw [show (rowC T P).toArray = #[.string (rowS T P 0), .string (rowS T P 1), .string (rowS T P 2), .string (rowS T P 3), .string (rowS T P 4)] from rfl] at hW3 ⊢
          have co1s := Quiet.cell q23 co1'
          have ca0s := Quiet.cell q23 ca0'
          have ca1s := Quiet.cell q23 ca1'
          have ca2s := Quiet.cell q23 ca2'
          clear bD q23 q3 Q2 SB2 hP fi hor hwd co1' ca0' ca1' ca2'
          obtain ⟨D, hD⟩ : ∃ D, w3.heap.size = D := ⟨_, rfl⟩
          rw [hD] at bDH
          go_wp2
          clear hW3 hD
          go_loopw [15, 16] (fun b z wr => ∃ k : Nat, k ≤ 5 ∧ z = .int .i64 (k : Int) ∧ b = .bool (wb && letAll T P k) ∧ wr = W3) (fun _ z _ => 6 - (intOf z).toNat)
          case atStart => exact ⟨0, by omega, rfl, by simp [letAll], rfl⟩
          case round =>
            obtain ⟨k, hk, rfl, rfl, rfl⟩ := hrel
            by_cases hk5 : k < 5
            · have k1 : (k : Int) < 5 := by omega
              have k0 : (0 : Int) ≤ (k : Int) := by omega
              have wk : wrap64 ((k : Int) + 1) = (k : Int) + 1 := wrap_small (k + 1) (by omega)
              have cD : wr.cell? ⟨D, k, none⟩ = some (.string (rowS T P k)) := ((unhide bDH).cell k).trans (row5_get _ k hk5)
              have hlt := hide (letter_any wr (rowS T P k) (rowS_size _ _ _))
              have hnx : Hid ((wb && letAll T P (k + 1)) = ((wb && letAll T P k) && letterL (rowS T P k).data.toList)) := by
                show _ = _
                rw [letAll, Bool.and_assoc]
              have hkH := hide hk5
              clear hk hk5
              generalize letterL (rowS T P k).data.toList = lk at *
              generalize rowS T P k = pk at *
              generalize (wb && letAll T P k) = wk0 at *
              go_wp2_with fail
              refine (unhide hlt).mono ?_
              clear hlt cD
              rintro e wx ⟨rfl, rfl⟩
              cases wk0
              · go_wp2
                go_roundw
                case rel => exact ⟨k + 1, unhide hkH, by simp; try exact wk, by rw [unhide hnx]; simp, by first | rfl | trivial⟩
                case measure =>
                  have h := unhide hkH
                  first
                    | exact meas_list h
                    | (rw [wk]; exact meas_list h)
              · go_wp2
                go_roundw
                case rel => exact ⟨k + 1, unhide hkH, by simp; try exact wk, by rw [unhide hnx]; simp, by first | rfl | trivial⟩
                case measure =>
                  have h := unhide hkH
                  first
                    | exact meas_list h
                    | (rw [wk]; exact meas_list h)
            · have k1 : ¬ (k : Int) < 5 := by omega
              obtain rfl : k = 5 := by omega
              have hw5 : (wb && letAll T P 5) = false := by cases hcs : (wb && letAll T P 5) with | false => rfl | true => exact absurd ((unhide hwdH).1 hcs) (unhide hwT)
              rw [hw5]
              clear hk hk5 hw5 hwdH bDH
              have Q2 := Q3
              have SB2 := SB3
              have co1' := co1s
              have ca0' := ca0s
              have ca1' := ca1s
              have ca2' := ca2s
              clear co1s ca0s ca1s ca2s
              clear Q3 SB3
              go_wp2
              all_goals
                go_ret
                exact unhide fin _ _ (unhide Q2) rfl
      · rcases (by omega : A < 0 ∨ (0 ≤ A ∧ (n : Int) < A) ∨ (0 ≤ A ∧ A ≤ (n : Int) ∧ 8 ≤ A) ∨ (0 ≤ A ∧ A ≤ (n : Int) ∧ A < 8)) with ho | ho | ho | ho
        · have o1 : A < 0 := ho
          have o1d : decide (A < 0) = true := decide_eq_true o1
          clear ho
          go_wp2
          go_quiet (fail)
          have Q2 := hide ((unhide Q1).drewN nq)
          have co1' := Quiet.cell ((Chg.refl (fun _ => False) w1).drewN nq) co1
          have ca0' := Quiet.cell ((Chg.refl (fun _ => False) w1).drewN nq) ca0
          have ca1' := Quiet.cell ((Chg.refl (fun _ => False) w1).drewN nq) ca1
          have ca2' := Quiet.cell ((Chg.refl (fun _ => False) w1).drewN nq) ca2
          have SB2 := hide (⟨(unhide SB1).1.drewN nq, (unhide SB1).2.drewN nq⟩ : _ ∧ _)
          generalize w1.drewN nq = w2 at *
          clear co1 ca0 ca1 ca2 cg0 Q1 SB1
          have hct := hide (cut_any w2 T (by have := h40; rw [hTs]; omega))
          go_wp2_with fail
          refine (unhide hct).mono ?_
          clear hct
          rintro e w3 ⟨P, hP, fi, hor, rfl, q3⟩
          have hwd := word_end T P hP fi hor
          generalize decide (P = 5 ∧ cutTo T 5 = (T).size) = wb at *
          obtain ⟨W3, hW3⟩ : ∃ W, w3.alloc (.cells (rowC T P).toArray 77) = W := ⟨_, rfl⟩
          have bD : Blk W3 w3.heap.size 77 (rowC T P) := by rw [← hW3]; exact Blk.new w3 77 _
          have q23 : Quiet w2 W3 := by rw [← hW3]; exact Chg.alloc q3 _
          have Q3 := hide (Quiet.trans (unhide Q2) q23)
          have SB3 := hide (⟨q23.blk (unhide SB2).1, q23.blk (unhide SB2).2⟩ : _ ∧ _)
          have bDH := hide bD
          have hwdH := hide hwd
          rw [show (rowC T P).toArray = #[.string (rowS T P 0), .string (rowS T P 1), .string (rowS T P 2), .string (rowS T P 3), .string (rowS T P 4)] from rfl] at hW3 ⊢
          have co1s := Quiet.cell q23 co1'
          have ca0s := Quiet.cell q23 ca0'
          have ca1s := Quiet.cell q23 ca1'
          have ca2s := Quiet.cell q23 ca2'
          clear bD q23 q3 Q2 SB2 hP fi hor hwd co1' ca0' ca1' ca2'
          obtain ⟨D, hD⟩ : ∃ D, w3.heap.size = D := ⟨_, rfl⟩
          rw [hD] at bDH
          go_wp2
          clear hW3 hD
          go_loopw [15, 16] (fun b z wr => ∃ k : Nat, k ≤ 5 ∧ z = .int .i64 (k : Int) ∧ b = .bool (wb && letAll T P k) ∧ wr = W3) (fun _ z _ => 6 - (intOf z).toNat)
          case atStart => exact ⟨0, by omega, rfl, by simp [letAll], rfl⟩
          case round =>
            obtain ⟨k, hk, rfl, rfl, rfl⟩ := hrel
            by_cases hk5 : k < 5
            · have k1 : (k : Int) < 5 := by omega
              have k0 : (0 : Int) ≤ (k : Int) := by omega
              have wk : wrap64 ((k : Int) + 1) = (k : Int) + 1 := wrap_small (k + 1) (by omega)
              have cD : wr.cell? ⟨D, k, none⟩ = some (.string (rowS T P k)) := ((unhide bDH).cell k).trans (row5_get _ k hk5)
              have hlt := hide (letter_any wr (rowS T P k) (rowS_size _ _ _))
              have hnx : Hid ((wb && letAll T P (k + 1)) = ((wb && letAll T P k) && letterL (rowS T P k).data.toList)) := by
                show _ = _
                rw [letAll, Bool.and_assoc]
              have hkH := hide hk5
              clear hk hk5
              generalize letterL (rowS T P k).data.toList = lk at *
              generalize rowS T P k = pk at *
              generalize (wb && letAll T P k) = wk0 at *
              go_wp2_with fail
              refine (unhide hlt).mono ?_
              clear hlt cD
              rintro e wx ⟨rfl, rfl⟩
              cases wk0
              · go_wp2
                go_roundw
                case rel => exact ⟨k + 1, unhide hkH, by simp; try exact wk, by rw [unhide hnx]; simp, by first | rfl | trivial⟩
                case measure =>
                  have h := unhide hkH
                  first
                    | exact meas_list h
                    | (rw [wk]; exact meas_list h)
              · go_wp2
                go_roundw
                case rel => exact ⟨k + 1, unhide hkH, by simp; try exact wk, by rw [unhide hnx]; simp, by first | rfl | trivial⟩
                case measure =>
                  have h := unhide hkH
                  first
                    | exact meas_list h
                    | (rw [wk]; exact meas_list h)
            · have k1 : ¬ (k : Int) < 5 := by omega
              obtain rfl : k = 5 := by omega
              have hw5 : (wb && letAll T P 5) = false := by cases hcs : (wb && letAll T P 5) with | false => rfl | true => exact absurd ((unhide hwdH).1 hcs) (unhide hwT)
              rw [hw5]
              clear hk hk5 hw5 hwdH bDH
              have Q2 := Q3
              have SB2 := SB3
              have co1' := co1s
              have ca0' := ca0s
              have ca1' := ca1s
              have ca2' := ca2s
              clear co1s ca0s ca1s ca2s
              clear Q3 SB3
              go_wp2
              all_goals
                go_ret
                exact unhide fin _ _ (unhide Q2) rfl
        · have o1 : ¬ A < 0 := by omega
          have o1d : decide (A < 0) = false := decide_eq_false o1
          have o2 : (n : Int) < A := by omega
          have o2d : decide ((n : Int) < A) = true := decide_eq_true o2
          clear ho
          go_wp2
          go_quiet (fail)
          have Q2 := hide ((unhide Q1).drewN nq)
          have co1' := Quiet.cell ((Chg.refl (fun _ => False) w1).drewN nq) co1
          have ca0' := Quiet.cell ((Chg.refl (fun _ => False) w1).drewN nq) ca0
          have ca1' := Quiet.cell ((Chg.refl (fun _ => False) w1).drewN nq) ca1
          have ca2' := Quiet.cell ((Chg.refl (fun _ => False) w1).drewN nq) ca2
          have SB2 := hide (⟨(unhide SB1).1.drewN nq, (unhide SB1).2.drewN nq⟩ : _ ∧ _)
          generalize w1.drewN nq = w2 at *
          clear co1 ca0 ca1 ca2 cg0 Q1 SB1
          have hct := hide (cut_any w2 T (by have := h40; rw [hTs]; omega))
          go_wp2_with fail
          refine (unhide hct).mono ?_
          clear hct
          rintro e w3 ⟨P, hP, fi, hor, rfl, q3⟩
          have hwd := word_end T P hP fi hor
          generalize decide (P = 5 ∧ cutTo T 5 = (T).size) = wb at *
          obtain ⟨W3, hW3⟩ : ∃ W, w3.alloc (.cells (rowC T P).toArray 77) = W := ⟨_, rfl⟩
          have bD : Blk W3 w3.heap.size 77 (rowC T P) := by rw [← hW3]; exact Blk.new w3 77 _
          have q23 : Quiet w2 W3 := by rw [← hW3]; exact Chg.alloc q3 _
          have Q3 := hide (Quiet.trans (unhide Q2) q23)
          have SB3 := hide (⟨q23.blk (unhide SB2).1, q23.blk (unhide SB2).2⟩ : _ ∧ _)
          have bDH := hide bD
          have hwdH := hide hwd
          rw [show (rowC T P).toArray = #[.string (rowS T P 0), .string (rowS T P 1), .string (rowS T P 2), .string (rowS T P 3), .string (rowS T P 4)] from rfl] at hW3 ⊢
          have co1s := Quiet.cell q23 co1'
          have ca0s := Quiet.cell q23 ca0'
          have ca1s := Quiet.cell q23 ca1'
          have ca2s := Quiet.cell q23 ca2'
          clear bD q23 q3 Q2 SB2 hP fi hor hwd co1' ca0' ca1' ca2'
          obtain ⟨D, hD⟩ : ∃ D, w3.heap.size = D := ⟨_, rfl⟩
          rw [hD] at bDH
          go_wp2
          clear hW3 hD
          go_loopw [15, 16] (fun b z wr => ∃ k : Nat, k ≤ 5 ∧ z = .int .i64 (k : Int) ∧ b = .bool (wb && letAll T P k) ∧ wr = W3) (fun _ z _ => 6 - (intOf z).toNat)
          case atStart => exact ⟨0, by omega, rfl, by simp [letAll], rfl⟩
          case round =>
            obtain ⟨k, hk, rfl, rfl, rfl⟩ := hrel
            by_cases hk5 : k < 5
            · have k1 : (k : Int) < 5 := by omega
              have k0 : (0 : Int) ≤ (k : Int) := by omega
              have wk : wrap64 ((k : Int) + 1) = (k : Int) + 1 := wrap_small (k + 1) (by omega)
              have cD : wr.cell? ⟨D, k, none⟩ = some (.string (rowS T P k)) := ((unhide bDH).cell k).trans (row5_get _ k hk5)
              have hlt := hide (letter_any wr (rowS T P k) (rowS_size _ _ _))
              have hnx : Hid ((wb && letAll T P (k + 1)) = ((wb && letAll T P k) && letterL (rowS T P k).data.toList)) := by
                show _ = _
                rw [letAll, Bool.and_assoc]
              have hkH := hide hk5
              clear hk hk5
              generalize letterL (rowS T P k).data.toList = lk at *
              generalize rowS T P k = pk at *
              generalize (wb && letAll T P k) = wk0 at *
              go_wp2_with fail
              refine (unhide hlt).mono ?_
              clear hlt cD
              rintro e wx ⟨rfl, rfl⟩
              cases wk0
              · go_wp2
                go_roundw
                case rel => exact ⟨k + 1, unhide hkH, by simp; try exact wk, by rw [unhide hnx]; simp, by first | rfl | trivial⟩
                case measure =>
                  have h := unhide hkH
                  first
                    | exact meas_list h
                    | (rw [wk]; exact meas_list h)
              · go_wp2
                go_roundw
                case rel => exact ⟨k + 1, unhide hkH, by simp; try exact wk, by rw [unhide hnx]; simp, by first | rfl | trivial⟩
                case measure =>
                  have h := unhide hkH
                  first
                    | exact meas_list h
                    | (rw [wk]; exact meas_list h)
            · have k1 : ¬ (k : Int) < 5 := by omega
              obtain rfl : k = 5 := by omega
              have hw5 : (wb && letAll T P 5) = false := by cases hcs : (wb && letAll T P 5) with | false => rfl | true => exact absurd ((unhide hwdH).1 hcs) (unhide hwT)
              rw [hw5]
              clear hk hk5 hw5 hwdH bDH
              have Q2 := Q3
              have SB2 := SB3
              have co1' := co1s
              have ca0' := ca0s
              have ca1' := ca1s
              have ca2' := ca2s
              clear co1s ca0s ca1s ca2s
              clear Q3 SB3
              go_wp2
              all_goals
                go_ret
                exact unhide fin _ _ (unhide Q2) rfl
        · have o1 : ¬ A < 0 := by omega
          have o1d : decide (A < 0) = false := decide_eq_false o1
          have o2 : ¬ (n : Int) < A := by omega
          have o2d : decide ((n : Int) < A) = false := decide_eq_false o2
          have o3 : (8 : Int) ≤ A := by omega
          have o3d : decide ((8 : Int) ≤ A) = true := decide_eq_true o3
          clear ho
          go_wp2
          go_quiet (fail)
          have Q2 := hide ((unhide Q1).drewN nq)
          have co1' := Quiet.cell ((Chg.refl (fun _ => False) w1).drewN nq) co1
          have ca0' := Quiet.cell ((Chg.refl (fun _ => False) w1).drewN nq) ca0
          have ca1' := Quiet.cell ((Chg.refl (fun _ => False) w1).drewN nq) ca1
          have ca2' := Quiet.cell ((Chg.refl (fun _ => False) w1).drewN nq) ca2
          have SB2 := hide (⟨(unhide SB1).1.drewN nq, (unhide SB1).2.drewN nq⟩ : _ ∧ _)
          generalize w1.drewN nq = w2 at *
          clear co1 ca0 ca1 ca2 cg0 Q1 SB1
          have hct := hide (cut_any w2 T (by have := h40; rw [hTs]; omega))
          go_wp2_with fail
          refine (unhide hct).mono ?_
          clear hct
          rintro e w3 ⟨P, hP, fi, hor, rfl, q3⟩
          have hwd := word_end T P hP fi hor
          generalize decide (P = 5 ∧ cutTo T 5 = (T).size) = wb at *
          obtain ⟨W3, hW3⟩ : ∃ W, w3.alloc (.cells (rowC T P).toArray 77) = W := ⟨_, rfl⟩
          have bD : Blk W3 w3.heap.size 77 (rowC T P) := by rw [← hW3]; exact Blk.new w3 77 _
          have q23 : Quiet w2 W3 := by rw [← hW3]; exact Chg.alloc q3 _
          have Q3 := hide (Quiet.trans (unhide Q2) q23)
          have SB3 := hide (⟨q23.blk (unhide SB2).1, q23.blk (unhide SB2).2⟩ : _ ∧ _)
          have bDH := hide bD
          have hwdH := hide hwd
          rw [show (rowC T P).toArray = #[.string (rowS T P 0), .string (rowS T P 1), .string (rowS T P 2), .string (rowS T P 3), .string (rowS T P 4)] from rfl] at hW3 ⊢
          have co1s := Quiet.cell q23 co1'
          have ca0s := Quiet.cell q23 ca0'
          have ca1s := Quiet.cell q23 ca1'
          have ca2s := Quiet.cell q23 ca2'
          clear bD q23 q3 Q2 SB2 hP fi hor hwd co1' ca0' ca1' ca2'
          obtain ⟨D, hD⟩ : ∃ D, w3.heap.size = D := ⟨_, rfl⟩
          rw [hD] at bDH
          go_wp2
          clear hW3 hD
          go_loopw [15, 16] (fun b z wr => ∃ k : Nat, k ≤ 5 ∧ z = .int .i64 (k : Int) ∧ b = .bool (wb && letAll T P k) ∧ wr = W3) (fun _ z _ => 6 - (intOf z).toNat)
          case atStart => exact ⟨0, by omega, rfl, by simp [letAll], rfl⟩
          case round =>
            obtain ⟨k, hk, rfl, rfl, rfl⟩ := hrel
            by_cases hk5 : k < 5
            · have k1 : (k : Int) < 5 := by omega
              have k0 : (0 : Int) ≤ (k : Int) := by omega
              have wk : wrap64 ((k : Int) + 1) = (k : Int) + 1 := wrap_small (k + 1) (by omega)
              have cD : wr.cell? ⟨D, k, none⟩ = some (.string (rowS T P k)) := ((unhide bDH).cell k).trans (row5_get _ k hk5)
              have hlt := hide (letter_any wr (rowS T P k) (rowS_size _ _ _))
              have hnx : Hid ((wb && letAll T P (k + 1)) = ((wb && letAll T P k) && letterL (rowS T P k).data.toList)) := by
                show _ = _
                rw [letAll, Bool.and_assoc]
              have hkH := hide hk5
              clear hk hk5
              generalize letterL (rowS T P k).data.toList = lk at *
              generalize rowS T P k = pk at *
              generalize (wb && letAll T P k) = wk0 at *
              go_wp2_with fail
              refine (unhide hlt).mono ?_
              clear hlt cD
              rintro e wx ⟨rfl, rfl⟩
              cases wk0
              · go_wp2
                go_roundw
                case rel => exact ⟨k + 1, unhide hkH, by simp; try exact wk, by rw [unhide hnx]; simp, by first | rfl | trivial⟩
                case measure =>
                  have h := unhide hkH
                  first
                    | exact meas_list h
                    | (rw [wk]; exact meas_list h)
              · go_wp2
                go_roundw
                case rel => exact ⟨k + 1, unhide hkH, by simp; try exact wk, by rw [unhide hnx]; simp, by first | rfl | trivial⟩
                case measure =>
                  have h := unhide hkH
                  first
                    | exact meas_list h
                    | (rw [wk]; exact meas_list h)
            · have k1 : ¬ (k : Int) < 5 := by omega
              obtain rfl : k = 5 := by omega
              have hw5 : (wb && letAll T P 5) = false := by cases hcs : (wb && letAll T P 5) with | false => rfl | true => exact absurd ((unhide hwdH).1 hcs) (unhide hwT)
              rw [hw5]
              clear hk hk5 hw5 hwdH bDH
              have Q2 := Q3
              have SB2 := SB3
              have co1' := co1s
              have ca0' := ca0s
              have ca1' := ca1s
              have ca2' := ca2s
              clear co1s ca0s ca1s ca2s
              clear Q3 SB3
              go_wp2
              all_goals
                go_ret
                exact unhide fin _ _ (unhide Q2) rfl
        · have o1 : ¬ A < 0 := by omega
          have o1d : decide (A < 0) = false := decide_eq_false o1
          have o2 : ¬ (n : Int) < A := by omega
          have o2d : decide ((n : Int) < A) = false := decide_eq_false o2
          have o3 : ¬ (8 : Int) ≤ A := by omega
          have o3d : decide ((8 : Int) ≤ A) = false := decide_eq_false o3
          clear ho
          go_wp2
          go_quiet (fail)
          have Q2 := hide ((unhide Q1).drewN nq)
          have co1' := Quiet.cell ((Chg.refl (fun _ => False) w1).drewN nq) co1
          have ca0' := Quiet.cell ((Chg.refl (fun _ => False) w1).drewN nq) ca0
          have ca1' := Quiet.cell ((Chg.refl (fun _ => False) w1).drewN nq) ca1
          have ca2' := Quiet.cell ((Chg.refl (fun _ => False) w1).drewN nq) ca2
          have SB2 := hide (⟨(unhide SB1).1.drewN nq, (unhide SB1).2.drewN nq⟩ : _ ∧ _)
          generalize w1.drewN nq = w2 at *
          clear co1 ca0 ca1 ca2 cg0 Q1 SB1
          have hct := hide (cut_any w2 T (by have := h40; rw [hTs]; omega))
          go_wp2_with fail
          refine (unhide hct).mono ?_
          clear hct
          rintro e w3 ⟨P, hP, fi, hor, rfl, q3⟩
          have hwd := word_end T P hP fi hor
          generalize decide (P = 5 ∧ cutTo T 5 = (T).size) = wb at *
          obtain ⟨W3, hW3⟩ : ∃ W, w3.alloc (.cells (rowC T P).toArray 77) = W := ⟨_, rfl⟩
          have bD : Blk W3 w3.heap.size 77 (rowC T P) := by rw [← hW3]; exact Blk.new w3 77 _
          have q23 : Quiet w2 W3 := by rw [← hW3]; exact Chg.alloc q3 _
          have Q3 := hide (Quiet.trans (unhide Q2) q23)
          have SB3 := hide (⟨q23.blk (unhide SB2).1, q23.blk (unhide SB2).2⟩ : _ ∧ _)
          have bDH := hide bD
          have hwdH := hide hwd
          rw [show (rowC T P).toArray = #[.string (rowS T P 0), .string (rowS T P 1), .string (rowS T P 2), .string (rowS T P 3), .string (rowS T P 4)] from rfl] at hW3 ⊢
          have co1s := Quiet.cell q23 co1'
          have ca0s := Quiet.cell q23 ca0'
          have ca1s := Quiet.cell q23 ca1'
          have ca2s := Quiet.cell q23 ca2'
          clear bD q23 q3 Q2 SB2 hP fi hor hwd co1' ca0' ca1' ca2'
          obtain ⟨D, hD⟩ : ∃ D, w3.heap.size = D := ⟨_, rfl⟩
          rw [hD] at bDH
          go_wp2
          clear hW3 hD
          go_loopw [15, 16] (fun b z wr => ∃ k : Nat, k ≤ 5 ∧ z = .int .i64 (k : Int) ∧ b = .bool (wb && letAll T P k) ∧ wr = W3) (fun _ z _ => 6 - (intOf z).toNat)
          case atStart => exact ⟨0, by omega, rfl, by simp [letAll], rfl⟩
          case round =>
            obtain ⟨k, hk, rfl, rfl, rfl⟩ := hrel
            by_cases hk5 : k < 5
            · have k1 : (k : Int) < 5 := by omega
              have k0 : (0 : Int) ≤ (k : Int) := by omega
              have wk : wrap64 ((k : Int) + 1) = (k : Int) + 1 := wrap_small (k + 1) (by omega)
              have cD : wr.cell? ⟨D, k, none⟩ = some (.string (rowS T P k)) := ((unhide bDH).cell k).trans (row5_get _ k hk5)
              have hlt := hide (letter_any wr (rowS T P k) (rowS_size _ _ _))
              have hnx : Hid ((wb && letAll T P (k + 1)) = ((wb && letAll T P k) && letterL (rowS T P k).data.toList)) := by
                show _ = _
                rw [letAll, Bool.and_assoc]
              have hkH := hide hk5
              clear hk hk5
              generalize letterL (rowS T P k).data.toList = lk at *
              generalize rowS T P k = pk at *
              generalize (wb && letAll T P k) = wk0 at *
              go_wp2_with fail
              refine (unhide hlt).mono ?_
              clear hlt cD
              rintro e wx ⟨rfl, rfl⟩
              cases wk0
              · go_wp2
                go_roundw
                case rel => exact ⟨k + 1, unhide hkH, by simp; try exact wk, by rw [unhide hnx]; simp, by first | rfl | trivial⟩
                case measure =>
                  have h := unhide hkH
                  first
                    | exact meas_list h
                    | (rw [wk]; exact meas_list h)
              · go_wp2
                go_roundw
                case rel => exact ⟨k + 1, unhide hkH, by simp; try exact wk, by rw [unhide hnx]; simp, by first | rfl | trivial⟩
                case measure =>
                  have h := unhide hkH
                  first
                    | exact meas_list h
                    | (rw [wk]; exact meas_list h)
            · have k1 : ¬ (k : Int) < 5 := by omega
              obtain rfl : k = 5 := by omega
              have hw5 : (wb && letAll T P 5) = false := by cases hcs : (wb && letAll T P 5) with | false => rfl | true => exact absurd ((unhide hwdH).1 hcs) (unhide hwT)
              rw [hw5]
              clear hk hk5 hw5 hwdH bDH
              have Q2 := Q3
              have SB2 := SB3
              have co1' := co1s
              have ca0' := ca0s
              have ca1' := ca1s
              have ca2' := ca2s
              clear co1s ca0s ca1s ca2s
              clear Q3 SB3
              go_wp2
              all_goals
                go_ret
                exact unhide fin _ _ (unhide Q2) rfl
      · rcases (by omega : A < 0 ∨ (0 ≤ A ∧ (n : Int) < A) ∨ (0 ≤ A ∧ A ≤ (n : Int) ∧ 8 ≤ A) ∨ (0 ≤ A ∧ A ≤ (n : Int) ∧ A < 8)) with ho | ho | ho | ho
        · have o1 : A < 0 := ho
          have o1d : decide (A < 0) = true := decide_eq_true o1
          clear ho
          go_wp2
          go_quiet (fail)
          have Q2 := hide ((unhide Q1).drewN nq)
          have co1' := Quiet.cell ((Chg.refl (fun _ => False) w1).drewN nq) co1
          have ca0' := Quiet.cell ((Chg.refl (fun _ => False) w1).drewN nq) ca0
          have ca1' := Quiet.cell ((Chg.refl (fun _ => False) w1).drewN nq) ca1
          have ca2' := Quiet.cell ((Chg.refl (fun _ => False) w1).drewN nq) ca2
          have SB2 := hide (⟨(unhide SB1).1.drewN nq, (unhide SB1).2.drewN nq⟩ : _ ∧ _)
          generalize w1.drewN nq = w2 at *
          clear co1 ca0 ca1 ca2 cg0 Q1 SB1
          have hct := hide (cut_any w2 T (by have := h40; rw [hTs]; omega))
          go_wp2_with fail
          refine (unhide hct).mono ?_
          clear hct
          rintro e w3 ⟨P, hP, fi, hor, rfl, q3⟩
          have hwd := word_end T P hP fi hor
          generalize decide (P = 5 ∧ cutTo T 5 = (T).size) = wb at *
          obtain ⟨W3, hW3⟩ : ∃ W, w3.alloc (.cells (rowC T P).toArray 77) = W := ⟨_, rfl⟩
          have bD : Blk W3 w3.heap.size 77 (rowC T P) := by rw [← hW3]; exact Blk.new w3 77 _
          have q23 : Quiet w2 W3 := by rw [← hW3]; exact Chg.alloc q3 _
          have Q3 := hide (Quiet.trans (unhide Q2) q23)
          have SB3 := hide (⟨q23.blk (unhide SB2).1, q23.blk (unhide SB2).2⟩ : _ ∧ _)
          have bDH := hide bD
          have hwdH := hide hwd
          rw [show (rowC T P).toArray = #[.string (rowS T P 0), .string (rowS T P 1), .string (rowS T P 2), .string (rowS T P 3), .string (rowS T P 4)] from rfl] at hW3 ⊢
          have co1s := Quiet.cell q23 co1'
          have ca0s := Quiet.cell q23 ca0'
          have ca1s := Quiet.cell q23 ca1'
          have ca2s := Quiet.cell q23 ca2'
          clear bD q23 q3 Q2 SB2 hP fi hor hwd co1' ca0' ca1' ca2'
          obtain ⟨D, hD⟩ : ∃ D, w3.heap.size = D := ⟨_, rfl⟩
          rw [hD] at bDH
          go_wp2
          clear hW3 hD
          go_loopw [15, 16] (fun b z wr => ∃ k : Nat, k ≤ 5 ∧ z = .int .i64 (k : Int) ∧ b = .bool (wb && letAll T P k) ∧ wr = W3) (fun _ z _ => 6 - (intOf z).toNat)
          case atStart => exact ⟨0, by omega, rfl, by simp [letAll], rfl⟩
          case round =>
            obtain ⟨k, hk, rfl, rfl, rfl⟩ := hrel
            by_cases hk5 : k < 5
            · have k1 : (k : Int) < 5 := by omega
              have k0 : (0 : Int) ≤ (k : Int) := by omega
              have wk : wrap64 ((k : Int) + 1) = (k : Int) + 1 := wrap_small (k + 1) (by omega)
              have cD : wr.cell? ⟨D, k, none⟩ = some (.string (rowS T P k)) := ((unhide bDH).cell k).trans (row5_get _ k hk5)
              have hlt := hide (letter_any wr (rowS T P k) (rowS_size _ _ _))
              have hnx : Hid ((wb && letAll T P (k + 1)) = ((wb && letAll T P k) && letterL (rowS T P k).data.toList)) := by
                show _ = _
                rw [letAll, Bool.and_assoc]
              have hkH := hide hk5
              clear hk hk5
              generalize letterL (rowS T P k).data.toList = lk at *
              generalize rowS T P k = pk at *
              generalize (wb && letAll T P k) = wk0 at *
              go_wp2_with fail
              refine (unhide hlt).mono ?_
              clear hlt cD
              rintro e wx ⟨rfl, rfl⟩
              cases wk0
              · go_wp2
                go_roundw
                case rel => exact ⟨k + 1, unhide hkH, by simp; try exact wk, by rw [unhide hnx]; simp, by first | rfl | trivial⟩
                case measure =>
                  have h := unhide hkH
                  first
                    | exact meas_list h
                    | (rw [wk]; exact meas_list h)
              · go_wp2
                go_roundw
                case rel => exact ⟨k + 1, unhide hkH, by simp; try exact wk, by rw [unhide hnx]; simp, by first | rfl | trivial⟩
                case measure =>
                  have h := unhide hkH
                  first
                    | exact meas_list h
                    | (rw [wk]; exact meas_list h)
            · have k1 : ¬ (k : Int) < 5 := by omega
              obtain rfl : k = 5 := by omega
              have hw5 : (wb && letAll T P 5) = false := by cases hcs : (wb && letAll T P 5) with | false => rfl | true => exact absurd ((unhide hwdH).1 hcs) (unhide hwT)
              rw [hw5]
              clear hk hk5 hw5 hwdH bDH
              have Q2 := Q3
              have SB2 := SB3
              have co1' := co1s
              have ca0' := ca0s
              have ca1' := ca1s
              have ca2' := ca2s
              clear co1s ca0s ca1s ca2s
              clear Q3 SB3
              go_wp2
              all_goals
                go_ret
                exact unhide fin _ _ (unhide Q2) rfl
        · have o1 : ¬ A < 0 := by omega
          have o1d : decide (A < 0) = false := decide_eq_false o1
          have o2 : (n : Int) < A := by omega
          have o2d : decide ((n : Int) < A) = true := decide_eq_true o2
          clear ho
          go_wp2
          go_quiet (fail)
          have Q2 := hide ((unhide Q1).drewN nq)
          have co1' := Quiet.cell ((Chg.refl (fun _ => False) w1).drewN nq) co1
          have ca0' := Quiet.cell ((Chg.refl (fun _ => False) w1).drewN nq) ca0
          have ca1' := Quiet.cell ((Chg.refl (fun _ => False) w1).drewN nq) ca1
          have ca2' := Quiet.cell ((Chg.refl (fun _ => False) w1).drewN nq) ca2
          have SB2 := hide (⟨(unhide SB1).1.drewN nq, (unhide SB1).2.drewN nq⟩ : _ ∧ _)
          generalize w1.drewN nq = w2 at *
          clear co1 ca0 ca1 ca2 cg0 Q1 SB1
          have hct := hide (cut_any w2 T (by have := h40; rw [hTs]; omega))
          go_wp2_with fail
          refine (unhide hct).mono ?_
          clear hct
          rintro e w3 ⟨P, hP, fi, hor, rfl, q3⟩
          have hwd := word_end T P hP fi hor
          generalize decide (P = 5 ∧ cutTo T 5 = (T).size) = wb at *
          obtain ⟨W3, hW3⟩ : ∃ W, w3.alloc (.cells (rowC T P).toArray 77) = W := ⟨_, rfl⟩
          have bD : Blk W3 w3.heap.size 77 (rowC T P) := by rw [← hW3]; exact Blk.new w3 77 _
          have q23 : Quiet w2 W3 := by rw [← hW3]; exact Chg.alloc q3 _
          have Q3 := hide (Quiet.trans (unhide Q2) q23)
          have SB3 := hide (⟨q23.blk (unhide SB2).1, q23.blk (unhide SB2).2⟩ : _ ∧ _)
          have bDH := hide bD
          have hwdH := hide hwd
          rw [show (rowC T P).toArray = #[.string (rowS T P 0), .string (rowS T P 1), .string (rowS T P 2), .string (rowS T P 3), .string (rowS T P 4)] from rfl] at hW3 ⊢
          have co1s := Quiet.cell q23 co1'
          have ca0s := Quiet.cell q23 ca0'
          have ca1s := Quiet.cell q23 ca1'
          have ca2s := Quiet.cell q23 ca2'
          clear bD q23 q3 Q2 SB2 hP fi hor hwd co1' ca0' ca1' ca2'
          obtain ⟨D, hD⟩ : ∃ D, w3.heap.size = D := ⟨_, rfl⟩
          rw [hD] at bDH
          go_wp2
          clear hW3 hD
          go_loopw [15, 16] (fun b z wr => ∃ k : Nat, k ≤ 5 ∧ z = .int .i64 (k : Int) ∧ b = .bool (wb && letAll T P k) ∧ wr = W3) (fun _ z _ => 6 - (intOf z).toNat)
          case atStart => exact ⟨0, by omega, rfl, by simp [letAll], rfl⟩
          case round =>
            obtain ⟨k, hk, rfl, rfl, rfl⟩ := hrel
            by_cases hk5 : k < 5
            · have k1 : (k : Int) < 5 := by omega
              have k0 : (0 : Int) ≤ (k : Int) := by omega
              have wk : wrap64 ((k : Int) + 1) = (k : Int) + 1 := wrap_small (k + 1) (by omega)
              have cD : wr.cell? ⟨D, k, none⟩ = some (.string (rowS T P k)) := ((unhide bDH).cell k).trans (row5_get _ k hk5)
              have hlt := hide (letter_any wr (rowS T P k) (rowS_size _ _ _))
              have hnx : Hid ((wb && letAll T P (k + 1)) = ((wb && letAll T P k) && letterL (rowS T P k).data.toList)) := by
                show _ = _
                rw [letAll, Bool.and_assoc]
              have hkH := hide hk5
              clear hk hk5
              generalize letterL (rowS T P k).data.toList = lk at *
              generalize rowS T P k = pk at *
              generalize (wb && letAll T P k) = wk0 at *
              go_wp2_with fail
              refine (unhide hlt).mono ?_
              clear hlt cD
              rintro e wx ⟨rfl, rfl⟩
              cases wk0
              · go_wp2
                go_roundw
                case rel => exact ⟨k + 1, unhide hkH, by simp; try exact wk, by rw [unhide hnx]; simp, by first | rfl | trivial⟩
                case measure =>
                  have h := unhide hkH
                  first
                    | exact meas_list h
                    | (rw [wk]; exact meas_list h)
              · go_wp2
                go_roundw
                case rel => exact ⟨k + 1, unhide hkH, by simp; try exact wk, by rw [unhide hnx]; simp, by first | rfl | trivial⟩
                case measure =>
                  have h := unhide hkH
                  first
                    | exact meas_list h
                    | (rw [wk]; exact meas_list h)
            · have k1 : ¬ (k : Int) < 5 := by omega
              obtain rfl : k = 5 := by omega
              have hw5 : (wb && letAll T P 5) = false := by cases hcs : (wb && letAll T P 5) with | false => rfl | true => exact absurd ((unhide hwdH).1 hcs) (unhide hwT)
              rw [hw5]
              clear hk hk5 hw5 hwdH bDH
              have Q2 := Q3
              have SB2 := SB3
              have co1' := co1s
              have ca0' := ca0s
              have ca1' := ca1s
              have ca2' := ca2s
              clear co1s ca0s ca1s ca2s
              clear Q3 SB3
              go_wp2
              all_goals
                go_ret
                exact unhide fin _ _ (unhide Q2) rfl
        · have o1 : ¬ A < 0 := by omega
          have o1d : decide (A < 0) = false := decide_eq_false o1
          have o2 : ¬ (n : Int) < A := by omega
          have o2d : decide ((n : Int) < A) = false := decide_eq_false o2
          have o3 : (8 : Int) ≤ A := by omega
          have o3d : decide ((8 : Int) ≤ A) = true := decide_eq_true o3
          clear ho
          go_wp2
          go_quiet (fail)
          have Q2 := hide ((unhide Q1).drewN nq)
          have co1' := Quiet.cell ((Chg.refl (fun _ => False) w1).drewN nq) co1
          have ca0' := Quiet.cell ((Chg.refl (fun _ => False) w1).drewN nq) ca0
          have ca1' := Quiet.cell ((Chg.refl (fun _ => False) w1).drewN nq) ca1
          have ca2' := Quiet.cell ((Chg.refl (fun _ => False) w1).drewN nq) ca2
          have SB2 := hide (⟨(unhide SB1).1.drewN nq, (unhide SB1).2.drewN nq⟩ : _ ∧ _)
          generalize w1.drewN nq = w2 at *
          clear co1 ca0 ca1 ca2 cg0 Q1 SB1
          have hct := hide (cut_any w2 T (by have := h40; rw [hTs]; omega))
          go_wp2_with fail
          refine (unhide hct).mono ?_
          clear hct
          rintro e w3 ⟨P, hP, fi, hor, rfl, q3⟩
          have hwd := word_end T P hP fi hor
          generalize decide (P = 5 ∧ cutTo T 5 = (T).size) = wb at *
          obtain ⟨W3, hW3⟩ : ∃ W, w3.alloc (.cells (rowC T P).toArray 77) = W := ⟨_, rfl⟩
          have bD : Blk W3 w3.heap.size 77 (rowC T P) := by rw [← hW3]; exact Blk.new w3 77 _
          have q23 : Quiet w2 W3 := by rw [← hW3]; exact Chg.alloc q3 _
          have Q3 := hide (Quiet.trans (unhide Q2) q23)
          have SB3 := hide (⟨q23.blk (unhide SB2).1, q23.blk (unhide SB2).2⟩ : _ ∧ _)
          have bDH := hide bD
          have hwdH := hide hwd
          rw [show (rowC T P).toArray = #[.string (rowS T P 0), .string (rowS T P 1), .string (rowS T P 2), .string (rowS T P 3), .string (rowS T P 4)] from rfl] at hW3 ⊢
          have co1s := Quiet.cell q23 co1'
          have ca0s := Quiet.cell q23 ca0'
          have ca1s := Quiet.cell q23 ca1'
          have ca2s := Quiet.cell q23 ca2'
          clear bD q23 q3 Q2 SB2 hP fi hor hwd co1' ca0' ca1' ca2'
          obtain ⟨D, hD⟩ : ∃ D, w3.heap.size = D := ⟨_, rfl⟩
          rw [hD] at bDH
          go_wp2
          clear hW3 hD
          go_loopw [15, 16] (fun b z wr => ∃ k : Nat, k ≤ 5 ∧ z = .int .i64 (k : Int) ∧ b = .bool (wb && letAll T P k) ∧ wr = W3) (fun _ z _ => 6 - (intOf z).toNat)
          case atStart => exact ⟨0, by omega, rfl, by simp [letAll], rfl⟩
          case round =>
            obtain ⟨k, hk, rfl, rfl, rfl⟩ := hrel
            by_cases hk5 : k < 5
            · have k1 : (k : Int) < 5 := by omega
              have k0 : (0 : Int) ≤ (k : Int) := by omega
              have wk : wrap64 ((k : Int) + 1) = (k : Int) + 1 := wrap_small (k + 1) (by omega)
              have cD : wr.cell? ⟨D, k, none⟩ = some (.string (rowS T P k)) := ((unhide bDH).cell k).trans (row5_get _ k hk5)
              have hlt := hide (letter_any wr (rowS T P k) (rowS_size _ _ _))
              have hnx : Hid ((wb && letAll T P (k + 1)) = ((wb && letAll T P k) && letterL (rowS T P k).data.toList)) := by
                show _ = _
                rw [letAll, Bool.and_assoc]
              have hkH := hide hk5
              clear hk hk5
              generalize letterL (rowS T P k).data.toList = lk at *
              generalize rowS T P k = pk at *
              generalize (wb && letAll T P k) = wk0 at *
              go_wp2_with fail
              refine (unhide hlt).mono ?_
              clear hlt cD
              rintro e wx ⟨rfl, rfl⟩
              cases wk0
              · go_wp2
                go_roundw
                case rel => exact ⟨k + 1, unhide hkH, by simp; try exact wk, by rw [unhide hnx]; simp, by first | rfl | trivial⟩
                case measure =>
                  have h := unhide hkH
                  first
                    | exact meas_list h
                    | (rw [wk]; exact meas_list h)
              · go_wp2
                go_roundw
                case rel => exact ⟨k + 1, unhide hkH, by simp; try exact wk, by rw [unhide hnx]; simp, by first | rfl | trivial⟩
                case measure =>
                  have h := unhide hkH
                  first
                    | exact meas_list h
                    | (rw [wk]; exact meas_list h)
            · have k1 : ¬ (k : Int) < 5 := by omega
              obtain rfl : k = 5 := by omega
              have hw5 : (wb && letAll T P 5) = false := by cases hcs : (wb && letAll T P 5) with | false => rfl | true => exact absurd ((unhide hwdH).1 hcs) (unhide hwT)
              rw [hw5]
              clear hk hk5 hw5 hwdH bDH
              have Q2 := Q3
              have SB2 := SB3
              have co1' := co1s
              have ca0' := ca0s
              have ca1' := ca1s
              have ca2' := ca2s
              clear co1s ca0s ca1s ca2s
              clear Q3 SB3
              go_wp2
              all_goals
                go_ret
                exact unhide fin _ _ (unhide Q2) rfl
        · have o1 : ¬ A < 0 := by omega
          have o1d : decide (A < 0) = false := decide_eq_false o1
          have o2 : ¬ (n : Int) < A := by omega
          have o2d : decide ((n : Int) < A) = false := decide_eq_false o2
          have o3 : ¬ (8 : Int) ≤ A := by omega
          have o3d : decide ((8 : Int) ≤ A) = false := decide_eq_false o3
          clear ho
          go_wp2
          go_quiet (fail)
          have Q2 := hide ((unhide Q1).drewN nq)
          have co1' := Quiet.cell ((Chg.refl (fun _ => False) w1).drewN nq) co1
          have ca0' := Quiet.cell ((Chg.refl (fun _ => False) w1).drewN nq) ca0
          have ca1' := Quiet.cell ((Chg.refl (fun _ => False) w1).drewN nq) ca1
          have ca2' := Quiet.cell ((Chg.refl (fun _ => False) w1).drewN nq) ca2
          have SB2 := hide (⟨(unhide SB1).1.drewN nq, (unhide SB1).2.drewN nq⟩ : _ ∧ _)
          generalize w1.drewN nq = w2 at *
          clear co1 ca0 ca1 ca2 cg0 Q1 SB1
          have hct := hide (cut_any w2 T (by have := h40; rw [hTs]; omega))
          go_wp2_with fail
          refine (unhide hct).mono ?_
          clear hct
          rintro e w3 ⟨P, hP, fi, hor, rfl, q3⟩
          have hwd := word_end T P hP fi hor
          generalize decide (P = 5 ∧ cutTo T 5 = (T).size) = wb at *
          obtain ⟨W3, hW3⟩ : ∃ W, w3.alloc (.cells (rowC T P).toArray 77) = W := ⟨_, rfl⟩
          have bD : Blk W3 w3.heap.size 77 (rowC T P) := by rw [← hW3]; exact Blk.new w3 77 _
          have q23 : Quiet w2 W3 := by rw [← hW3]; exact Chg.alloc q3 _
          have Q3 := hide (Quiet.trans (unhide Q2) q23)
          have SB3 := hide (⟨q23.blk (unhide SB2).1, q23.blk (unhide SB2).2⟩ : _ ∧ _)
          have bDH := hide bD
          have hwdH := hide hwd
          rw [show (rowC T P).toArray = #[.string (rowS T P 0), .string (rowS T P 1), .string (rowS T P 2), .string (rowS T P 3), .string (rowS T P 4)] from rfl] at hW3 ⊢
          have co1s := Quiet.cell q23 co1'
          have ca0s := Quiet.cell q23 ca0'
          have ca1s := Quiet.cell q23 ca1'
          have ca2s := Quiet.cell q23 ca2'
          clear bD q23 q3 Q2 SB2 hP fi hor hwd co1' ca0' ca1' ca2'
          obtain ⟨D, hD⟩ : ∃ D, w3.heap.size = D := ⟨_, rfl⟩
          rw [hD] at bDH
          go_wp2
          clear hW3 hD
          go_loopw [15, 16] (fun b z wr => ∃ k : Nat, k ≤ 5 ∧ z = .int .i64 (k : Int) ∧ b = .bool (wb && letAll T P k) ∧ wr = W3) (fun _ z _ => 6 - (intOf z).toNat)
          case atStart => exact ⟨0, by omega, rfl, by simp [letAll], rfl⟩
          case round =>
            obtain ⟨k, hk, rfl, rfl, rfl⟩ := hrel
            by_cases hk5 : k < 5
            · have k1 : (k : Int) < 5 := by omega
              have k0 : (0 : Int) ≤ (k : Int) := by omega
              have wk : wrap64 ((k : Int) + 1) = (k : Int) + 1 := wrap_small (k + 1) (by omega)
              have cD : wr.cell? ⟨D, k, none⟩ = some (.string (rowS T P k)) := ((unhide bDH).cell k).trans (row5_get _ k hk5)
              have hlt := hide (letter_any wr (rowS T P k) (rowS_size _ _ _))
              have hnx : Hid ((wb && letAll T P (k + 1)) = ((wb && letAll T P k) && letterL (rowS T P k).data.toList)) := by
                show _ = _
                rw [letAll, Bool.and_assoc]
              have hkH := hide hk5
              clear hk hk5
              generalize letterL (rowS T P k).data.toList = lk at *
              generalize rowS T P k = pk at *
              generalize (wb && letAll T P k) = wk0 at *
              go_wp2_with fail
              refine (unhide hlt).mono ?_
              clear hlt cD
              rintro e wx ⟨rfl, rfl⟩
              cases wk0
              · go_wp2
                go_roundw
                case rel => exact ⟨k + 1, unhide hkH, by simp; try exact wk, by rw [unhide hnx]; simp, by first | rfl | trivial⟩
                case measure =>
                  have h := unhide hkH
                  first
                    | exact meas_list h
                    | (rw [wk]; exact meas_list h)
              · go_wp2
                go_roundw
                case rel => exact ⟨k + 1, unhide hkH, by simp; try exact wk, by rw [unhide hnx]; simp, by first | rfl | trivial⟩
                case measure =>
                  have h := unhide hkH
                  first
                    | exact meas_list h
                    | (rw [wk]; exact meas_list h)
            · have k1 : ¬ (k : Int) < 5 := by omega
              obtain rfl : k = 5 := by omega
              have hw5 : (wb && letAll T P 5) = false := by cases hcs : (wb && letAll T P 5) with | false => rfl | true => exact absurd ((unhide hwdH).1 hcs) (unhide hwT)
              rw [hw5]
              clear hk hk5 hw5 hwdH bDH
              have Q2 := Q3
              have SB2 := SB3
              have co1' := co1s
              have ca0' := ca0s
              have ca1' := ca1s
              have ca2' := ca2s
              clear co1s ca0s ca1s ca2s
              clear Q3 SB3
              go_wp2
              all_goals
                go_ret
                exact unhide fin _ _ (unhide Q2) rfl
end Go.Proofs.Qxb6500370a
