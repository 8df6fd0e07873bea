/-
  THE LAW'S OWN step AND looks. (gen70kstep.py)
-/
import Derived.Test.Qxb6500370aKPut
import Derived.Test.Qxb6500370aKGuess
import Derived.Test.Qxb6500370aQq
namespace Go.Proofs.Qxb6500370a
open Go.RowKit Go.Qx Go.Qx.Mk
set_option linter.unusedVariables false
set_option linter.unusedSimpArgs false

theorem KPost.from {w W : World} {O OH : Nat → Prop} {x g : Nat} {st : St} {e : Ending} {w' : World} (q : Quiet w W) (h : KPost W O OH x g st e w') : KPost w O OH x g st e w' := by
  obtain ⟨h1, O', OH', h2, h3, h4, h5, h6, h7⟩ := h
  have z := q.size
  exact ⟨h1, O', OH', h2, h3, Chg.trans (q.chg _) h4, fun k hk => by rcases h5 k hk with h | h; exact .inl h; exact .inr (by omega), fun k hk => by rcases h6 k hk with h | h; exact .inl h; exact .inr (by omega), h7⟩
/-- The ghosts alone have moved. -/
theorem HPost.keep {w W : World} {O OH : Nat → Prop} {x g : Nat} {st : St} {e : Ending} {w' : World} (q : Quiet w W) (R : RRep w O x st) (lO : ∀ k, O k → k < w.heap.size) (hd : ∀ k, O k → ¬ OH k) (h : HPost W OH g st e w') : KPost w O OH x g st e w' := by
  obtain ⟨h1, OH', h2, h3, h4⟩ := h
  have z := q.size
  exact ⟨h1, O, OH', (R.quiet q).of_chg h3 hd, h2, Chg.trans (q.chg _) (h3.mono (fun k _ h => .inr h)), fun k hk => .inl hk, fun k hk => by rcases h4 k hk with h | h; exact .inl h; exact .inr (by omega), fun k hk hh => by
    rcases h4 k hh with h | h
    · exact hd k hk h
    · have := lO k hk; omega⟩
theorem drew_cell {w : World} {a : Addr} {v : Value} (h : w.cell? a = some v) : w.drew.cell? a = some v := h
/-- The boxes of a step. -/
def stW (w : World) (k A B C : Int) (s t : ByteArray) (aE aN : Int) (aS : ByteArray) : World := (w.alloc (.cells #[.int .i64 k, .int .i64 A, .int .i64 B, .int .i64 C, .string s, .string t] 37)).alloc (.cells #[.int .i64 aE, .int .i64 aN, .string aS] 39)
theorem stW_facts (w : World) (k A B C : Int) (s t : ByteArray) (aE aN : Int) (aS : ByteArray) : Quiet w (stW w k A B C s t aE aN aS) ∧ Blk (stW w k A B C s t aE aN aS) w.heap.size 37 [.int .i64 k, .int .i64 A, .int .i64 B, .int .i64 C, .string s, .string t] ∧ Blk (stW w k A B C s t aE aN aS) (w.heap.size + 1) 39 [.int .i64 aE, .int .i64 aN, .string aS] ∧ (stW w k A B C s t aE aN aS).heap.size = w.heap.size + 1 + 1 := by
  unfold stW
  refine ⟨Chg.alloc (Chg.alloc (Chg.refl _ _) _) _, (Blk.new w 37 _).alloc _, ?_, by simp⟩
  have := Blk.new (w.alloc (.cells #[.int .i64 k, .int .i64 A, .int .i64 B, .int .i64 C, .string s, .string t] 37)) 39 [.int .i64 aE, .int .i64 aN, .string aS]
  rwa [show (w.alloc (.cells #[.int .i64 k, .int .i64 A, .int .i64 B, .int .i64 C, .string s, .string t] 37)).heap.size = w.heap.size + 1 by simp] at this

set_option maxHeartbeats 4000000 in
set_option maxRecDepth 100000 in
theorem kstep1 (w : World) (x g : Nat) (A B C : Int) (s t : ByteArray) (aE aN : Int) (aS : ByteArray) (P : World → Ending → World → Prop) (hP : ∀ W e w', Quiet w W → P W e w' → P w e w') (hr : ∀ W e w', P W e w' → e = .returned (.bool true))
    (h : ∀ W, Quiet w W → Calls Try.prog 25 #[ptr x, ptr g, opv 1 A B C s t, .agg #[.int .i64 aE, .int .i64 aN, .string aS]] W (P W)) : Calls Try.prog 15 #[ptr x, ptr g, opv 1 A B C s t, .agg #[.int .i64 aE, .int .i64 aN, .string aS]] w (P w) := by
  unfold ptr opv at *
  obtain ⟨q0, bo, ba, hsz⟩ := stW_facts w 1 A B C s t aE aN aS
  obtain ⟨W0, hW0⟩ : ∃ W, stW w 1 A B C s t aE aN aS = W := ⟨_, rfl⟩
  rw [hW0] at q0 bo ba hsz
  unfold stW at hW0
  have co0 : W0.cell? ⟨w.heap.size, 0, none⟩ = some (.int .i64 1) := bo.cell 0
  have co1 : W0.cell? ⟨w.heap.size, 1, none⟩ = some (.int .i64 A) := bo.cell 1
  have co2 : W0.cell? ⟨w.heap.size, 2, none⟩ = some (.int .i64 B) := bo.cell 2
  have co3 : W0.cell? ⟨w.heap.size, 3, none⟩ = some (.int .i64 C) := bo.cell 3
  have co4 : W0.cell? ⟨w.heap.size, 4, none⟩ = some (.string s) := bo.cell 4
  have co5 : W0.cell? ⟨w.heap.size, 5, none⟩ = some (.string t) := bo.cell 5
  have ca0 : W0.cell? ⟨w.heap.size + 1, 0, none⟩ = some (.int .i64 aE) := ba.cell 0
  have ca1 : W0.cell? ⟨w.heap.size + 1, 1, none⟩ = some (.int .i64 aN) := ba.cell 1
  have ca2 : W0.cell? ⟨w.heap.size + 1, 2, none⟩ = some (.string aS) := ba.cell 2
  have hc := hide (h W0 q0)
  have q0H := hide q0
  clear h bo ba q0
  go_enter Try.func15, Try.ntmps15
  go_wp2_with fail
  refine (unhide hc).mono ?_
  clear hc
  intro e w1 hp
  have he := hr _ _ _ hp
  subst he
  have F := hide (hP _ _ _ (unhide q0H) hp)
  clear hp hP hr q0H
  go_wp2
  first
    | exact unhide F
    | (go_ret; exact unhide F)
set_option maxHeartbeats 4000000 in
set_option maxRecDepth 100000 in
theorem kstep3 (w : World) (x g : Nat) (A B C : Int) (s t : ByteArray) (aE aN : Int) (aS : ByteArray) (P : Ending → World → Prop) (hr : ∀ e w', P e w' → e = .returned (.bool true))
    (h : ∀ W, Quiet w W → Calls Try.prog 26 #[ptr g, opv 3 A B C s t, .agg #[.int .i64 aE, .int .i64 aN, .string aS]] W P) : Calls Try.prog 15 #[ptr x, ptr g, opv 3 A B C s t, .agg #[.int .i64 aE, .int .i64 aN, .string aS]] w P := by
  unfold ptr opv at *
  obtain ⟨q0, bo, ba, hsz⟩ := stW_facts w 3 A B C s t aE aN aS
  obtain ⟨W0, hW0⟩ : ∃ W, stW w 3 A B C s t aE aN aS = W := ⟨_, rfl⟩
  rw [hW0] at q0 bo ba hsz
  unfold stW at hW0
  have co0 : W0.cell? ⟨w.heap.size, 0, none⟩ = some (.int .i64 3) := bo.cell 0
  have co1 : W0.cell? ⟨w.heap.size, 1, none⟩ = some (.int .i64 A) := bo.cell 1
  have co2 : W0.cell? ⟨w.heap.size, 2, none⟩ = some (.int .i64 B) := bo.cell 2
  have co3 : W0.cell? ⟨w.heap.size, 3, none⟩ = some (.int .i64 C) := bo.cell 3
  have co4 : W0.cell? ⟨w.heap.size, 4, none⟩ = some (.string s) := bo.cell 4
  have co5 : W0.cell? ⟨w.heap.size, 5, none⟩ = some (.string t) := bo.cell 5
  have ca0 : W0.cell? ⟨w.heap.size + 1, 0, none⟩ = some (.int .i64 aE) := ba.cell 0
  have ca1 : W0.cell? ⟨w.heap.size + 1, 1, none⟩ = some (.int .i64 aN) := ba.cell 1
  have ca2 : W0.cell? ⟨w.heap.size + 1, 2, none⟩ = some (.string aS) := ba.cell 2
  have hc := hide (h W0 q0)
  clear h bo ba q0
  go_enter Try.func15, Try.ntmps15
  go_wp2_with fail
  refine (unhide hc).mono ?_
  clear hc
  intro e w1 hp
  have he := hr _ _ hp
  subst he
  have F := hide hp
  clear hp hr
  go_wp2
  first
    | exact unhide F
    | (go_ret; exact unhide F)

set_option maxHeartbeats 4000000 in
set_option maxRecDepth 100000 in
theorem kstep4 (w : World) (x g : Nat) (A B C : Int) (s t : ByteArray) (R : ByteArray) (h : ∀ W, Quiet w W → Calls Try.prog 27 #[ptr g] W fun e w' => e = .returned (.string R) ∧ Quiet W w') :
    Calls Try.prog 15 #[ptr x, ptr g, opv 4 A B C s t, .agg #[.int .i64 0, .int .i64 0, .string R]] w fun e w' => e = .returned (.bool true) ∧ Quiet w w' := by
  unfold ptr opv at *
  obtain ⟨q0, bo, ba, hsz⟩ := stW_facts w 4 A B C s t 0 0 R
  obtain ⟨W0, hW0⟩ : ∃ W, stW w 4 A B C s t 0 0 R = W := ⟨_, rfl⟩
  rw [hW0] at q0 bo ba hsz
  unfold stW at hW0
  have co0 : W0.cell? ⟨w.heap.size, 0, none⟩ = some (.int .i64 4) := bo.cell 0
  have co1 : W0.cell? ⟨w.heap.size, 1, none⟩ = some (.int .i64 A) := bo.cell 1
  have co2 : W0.cell? ⟨w.heap.size, 2, none⟩ = some (.int .i64 B) := bo.cell 2
  have co3 : W0.cell? ⟨w.heap.size, 3, none⟩ = some (.int .i64 C) := bo.cell 3
  have co4 : W0.cell? ⟨w.heap.size, 4, none⟩ = some (.string s) := bo.cell 4
  have co5 : W0.cell? ⟨w.heap.size, 5, none⟩ = some (.string t) := bo.cell 5
  have ca0 : W0.cell? ⟨w.heap.size + 1, 0, none⟩ = some (.int .i64 0) := ba.cell 0
  have ca1 : W0.cell? ⟨w.heap.size + 1, 1, none⟩ = some (.int .i64 0) := ba.cell 1
  have ca2 : W0.cell? ⟨w.heap.size + 1, 2, none⟩ = some (.string R) := ba.cell 2
  have hM : Hid (∀ W, Quiet W0 W → Calls Try.prog 27 #[.pointer (some ⟨g, 0, none⟩)] W fun e w' => e = .returned (.string R) ∧ Quiet W w') := fun W q => h W (q0.trans q)
  have u0 : ∀ q : QW W0, q.w.cell? ⟨w.heap.size + 1, 0, none⟩ = some (.int .i64 0) := fun q => Quiet.cell (QW.q q) ca0
  have u1 : ∀ q : QW W0, q.w.cell? ⟨w.heap.size + 1, 1, none⟩ = some (.int .i64 0) := fun q => Quiet.cell (QW.q q) ca1
  have u2 : ∀ q : QW W0, q.w.cell? ⟨w.heap.size + 1, 2, none⟩ = some (.string R) := fun q => Quiet.cell (QW.q q) ca2
  have hX : (R.toList == R.toList) = true := by simp
  have q0H := hide q0
  clear h bo ba q0
  go_enter Try.func15, Try.ntmps15
  go_wp2
  clear co0 co1 co2 co3 co4 co5 ca0 ca1 ca2 hW0
  refine wp_region_noPanic ?_
  try simp only [List.append_eq, List.cons_append, List.nil_append]
  refine wp_region_mixq [(0, true), (1, true), (2, true), (3, true), (4, true), (5, true)] [] (by kernel_rfl) (by kernel_rfl) (fun _ _ _ _ _ h => h) ?_
  simp only [pickM, pickO, List.getElem?_cons_zero, List.getElem?_cons_succ]
  repeat (first | (refine wpMix_read rfl (fun K hK => ?_)) | (refine wpMix_pure rfl (fun K hK => ?_))
          go_big_quiet_op
          first | (refine hK _ ?_; clear hK K) | (apply Exists.intro; refine ⟨fun _ => ?_, ?_⟩; (· (first | (go_at_call 27; exact Calls.in_qw (unhide hM _ (QW.q _))))); refine hK _ ?_; clear hK K))
  refine wpMix_nil ?_
  intro _ hw'
  obtain ⟨qq, hw''⟩ := hw'
  subst hw''
  have hqq := qq.q
  generalize qq.w = wq at *
  clear hM u0 u1 u2
  have Q2 := hide (Quiet.trans (unhide q0H) hqq)
  clear hqq q0H
  go_wp2
  refine NoPanic.normal ?_
  go_wp2
  go_ret
  exact ⟨rfl, unhide Q2⟩

set_option maxHeartbeats 4000000 in
set_option maxRecDepth 100000 in
theorem kstep5 (w : World) (x g : Nat) (A B C : Int) (s t : ByteArray) (R : ByteArray) (E : Int) (h : ∀ W, Quiet w W → Calls Try.prog 28 #[ptr g] W fun e w' => e = .returned (.agg #[.int .i64 E, .int .i64 0, .string R]) ∧ Quiet W w') :
    Calls Try.prog 15 #[ptr x, ptr g, opv 5 A B C s t, .agg #[.int .i64 E, .int .i64 0, .string R]] w fun e w' => e = .returned (.bool true) ∧ Quiet w w' := by
  unfold ptr opv at *
  obtain ⟨q0, bo, ba, hsz⟩ := stW_facts w 5 A B C s t E 0 R
  obtain ⟨W0, hW0⟩ : ∃ W, stW w 5 A B C s t E 0 R = W := ⟨_, rfl⟩
  rw [hW0] at q0 bo ba hsz
  unfold stW at hW0
  have co0 : W0.cell? ⟨w.heap.size, 0, none⟩ = some (.int .i64 5) := bo.cell 0
  have co1 : W0.cell? ⟨w.heap.size, 1, none⟩ = some (.int .i64 A) := bo.cell 1
  have co2 : W0.cell? ⟨w.heap.size, 2, none⟩ = some (.int .i64 B) := bo.cell 2
  have co3 : W0.cell? ⟨w.heap.size, 3, none⟩ = some (.int .i64 C) := bo.cell 3
  have co4 : W0.cell? ⟨w.heap.size, 4, none⟩ = some (.string s) := bo.cell 4
  have co5 : W0.cell? ⟨w.heap.size, 5, none⟩ = some (.string t) := bo.cell 5
  have ca0 : W0.cell? ⟨w.heap.size + 1, 0, none⟩ = some (.int .i64 E) := ba.cell 0
  have ca1 : W0.cell? ⟨w.heap.size + 1, 1, none⟩ = some (.int .i64 0) := ba.cell 1
  have ca2 : W0.cell? ⟨w.heap.size + 1, 2, none⟩ = some (.string R) := ba.cell 2
  have hM : Hid (∀ W, Quiet W0 W → Calls Try.prog 28 #[.pointer (some ⟨g, 0, none⟩)] W fun e w' => e = .returned (.agg #[.int .i64 E, .int .i64 0, .string R]) ∧ Quiet W w') := fun W q => h W (q0.trans q)
  have u0 : ∀ q : QW W0, q.w.cell? ⟨w.heap.size + 1, 0, none⟩ = some (.int .i64 E) := fun q => Quiet.cell (QW.q q) ca0
  have u1 : ∀ q : QW W0, q.w.cell? ⟨w.heap.size + 1, 1, none⟩ = some (.int .i64 0) := fun q => Quiet.cell (QW.q q) ca1
  have u2 : ∀ q : QW W0, q.w.cell? ⟨w.heap.size + 1, 2, none⟩ = some (.string R) := fun q => Quiet.cell (QW.q q) ca2
  have hX : (R.toList == R.toList) = true := by simp
  have q0H := hide q0
  clear h bo ba q0
  go_enter Try.func15, Try.ntmps15
  go_wp2
  clear co0 co1 co2 co3 co4 co5 ca0 ca1 ca2 hW0
  refine wp_region_noPanic ?_
  try simp only [List.append_eq, List.cons_append, List.nil_append]
  refine wp_region_mixq [(0, true), (1, true), (2, true), (3, true), (4, true)] [] (by kernel_rfl) (by kernel_rfl) (fun _ _ _ _ _ h => h) ?_
  simp only [pickM, pickO, List.getElem?_cons_zero, List.getElem?_cons_succ]
  repeat (first | (refine wpMix_read rfl (fun K hK => ?_)) | (refine wpMix_pure rfl (fun K hK => ?_))
          go_big_quiet_op
          first | (refine hK _ ?_; clear hK K) | (apply Exists.intro; refine ⟨fun _ => ?_, ?_⟩; (· (first | (go_at_call 28; exact Calls.in_qw (unhide hM _ (QW.q _))))); refine hK _ ?_; clear hK K))
  refine wpMix_nil ?_
  intro _ hw'
  obtain ⟨qq, hw''⟩ := hw'
  subst hw''
  have hqq := qq.q
  generalize qq.w = wq at *
  clear hM u0 u1 u2
  have Q2 := hide (Quiet.trans (unhide q0H) hqq)
  clear hqq q0H
  go_wp2
  refine NoPanic.normal ?_
  go_wp2
  go_ret
  exact ⟨rfl, unhide Q2⟩

set_option maxHeartbeats 4000000 in
set_option maxRecDepth 100000 in
theorem kstep6 (w : World) (x g : Nat) (A B C : Int) (s t : ByteArray) (R : ByteArray) (h : ∀ W, Quiet w W → Calls Try.prog 29 #[ptr g] W fun e w' => e = .returned (.string R) ∧ Quiet W w') :
    Calls Try.prog 15 #[ptr x, ptr g, opv 6 A B C s t, .agg #[.int .i64 0, .int .i64 0, .string R]] w fun e w' => e = .returned (.bool true) ∧ Quiet w w' := by
  unfold ptr opv at *
  obtain ⟨q0, bo, ba, hsz⟩ := stW_facts w 6 A B C s t 0 0 R
  obtain ⟨W0, hW0⟩ : ∃ W, stW w 6 A B C s t 0 0 R = W := ⟨_, rfl⟩
  rw [hW0] at q0 bo ba hsz
  unfold stW at hW0
  have co0 : W0.cell? ⟨w.heap.size, 0, none⟩ = some (.int .i64 6) := bo.cell 0
  have co1 : W0.cell? ⟨w.heap.size, 1, none⟩ = some (.int .i64 A) := bo.cell 1
  have co2 : W0.cell? ⟨w.heap.size, 2, none⟩ = some (.int .i64 B) := bo.cell 2
  have co3 : W0.cell? ⟨w.heap.size, 3, none⟩ = some (.int .i64 C) := bo.cell 3
  have co4 : W0.cell? ⟨w.heap.size, 4, none⟩ = some (.string s) := bo.cell 4
  have co5 : W0.cell? ⟨w.heap.size, 5, none⟩ = some (.string t) := bo.cell 5
  have ca0 : W0.cell? ⟨w.heap.size + 1, 0, none⟩ = some (.int .i64 0) := ba.cell 0
  have ca1 : W0.cell? ⟨w.heap.size + 1, 1, none⟩ = some (.int .i64 0) := ba.cell 1
  have ca2 : W0.cell? ⟨w.heap.size + 1, 2, none⟩ = some (.string R) := ba.cell 2
  have hM : Hid (∀ W, Quiet W0 W → Calls Try.prog 29 #[.pointer (some ⟨g, 0, none⟩)] W fun e w' => e = .returned (.string R) ∧ Quiet W w') := fun W q => h W (q0.trans q)
  have u0 : ∀ q : QW W0, q.w.cell? ⟨w.heap.size + 1, 0, none⟩ = some (.int .i64 0) := fun q => Quiet.cell (QW.q q) ca0
  have u1 : ∀ q : QW W0, q.w.cell? ⟨w.heap.size + 1, 1, none⟩ = some (.int .i64 0) := fun q => Quiet.cell (QW.q q) ca1
  have u2 : ∀ q : QW W0, q.w.cell? ⟨w.heap.size + 1, 2, none⟩ = some (.string R) := fun q => Quiet.cell (QW.q q) ca2
  have hX : (R.toList == R.toList) = true := by simp
  have q0H := hide q0
  clear h bo ba q0
  go_enter Try.func15, Try.ntmps15
  go_wp2
  clear co0 co1 co2 co3 co4 co5 ca0 ca1 ca2 hW0
  refine wp_region_noPanic ?_
  try simp only [List.append_eq, List.cons_append, List.nil_append]
  refine wp_region_mixq [(0, true), (1, true), (2, true), (3, true), (4, true), (5, true)] [] (by kernel_rfl) (by kernel_rfl) (fun _ _ _ _ _ h => h) ?_
  simp only [pickM, pickO, List.getElem?_cons_zero, List.getElem?_cons_succ]
  repeat (first | (refine wpMix_read rfl (fun K hK => ?_)) | (refine wpMix_pure rfl (fun K hK => ?_))
          go_big_quiet_op
          first | (refine hK _ ?_; clear hK K) | (apply Exists.intro; refine ⟨fun _ => ?_, ?_⟩; (· (first | (go_at_call 29; exact Calls.in_qw (unhide hM _ (QW.q _))))); refine hK _ ?_; clear hK K))
  refine wpMix_nil ?_
  intro _ hw'
  obtain ⟨qq, hw''⟩ := hw'
  subst hw''
  have hqq := qq.q
  generalize qq.w = wq at *
  clear hM u0 u1 u2
  have Q2 := hide (Quiet.trans (unhide q0H) hqq)
  clear hqq q0H
  go_wp2
  refine NoPanic.normal ?_
  go_wp2
  go_ret
  exact ⟨rfl, unhide Q2⟩

set_option maxHeartbeats 4000000 in
set_option maxRecDepth 100000 in
theorem kstep7 (w : World) (x g : Nat) (A B C : Int) (s t : ByteArray)  : Calls Try.prog 15 #[ptr x, ptr g, opv 7 A B C s t, .agg #[.int .i64 0, .int .i64 1, .string ⟨#[]⟩]] w fun e w' => e = .returned (.bool true) ∧ Quiet w w' := by
  unfold ptr opv at *
  obtain ⟨q0, bo, ba, hsz⟩ := stW_facts w 7 A B C s t 0 1 ⟨#[]⟩
  obtain ⟨W0, hW0⟩ : ∃ W, stW w 7 A B C s t 0 1 ⟨#[]⟩ = W := ⟨_, rfl⟩
  rw [hW0] at q0 bo ba hsz
  unfold stW at hW0
  have co0 : W0.cell? ⟨w.heap.size, 0, none⟩ = some (.int .i64 7) := bo.cell 0
  have co1 : W0.cell? ⟨w.heap.size, 1, none⟩ = some (.int .i64 A) := bo.cell 1
  have co2 : W0.cell? ⟨w.heap.size, 2, none⟩ = some (.int .i64 B) := bo.cell 2
  have co3 : W0.cell? ⟨w.heap.size, 3, none⟩ = some (.int .i64 C) := bo.cell 3
  have co4 : W0.cell? ⟨w.heap.size, 4, none⟩ = some (.string s) := bo.cell 4
  have co5 : W0.cell? ⟨w.heap.size, 5, none⟩ = some (.string t) := bo.cell 5
  have ca0 : W0.cell? ⟨w.heap.size + 1, 0, none⟩ = some (.int .i64 0) := ba.cell 0
  have ca1 : W0.cell? ⟨w.heap.size + 1, 1, none⟩ = some (.int .i64 1) := ba.cell 1
  have ca2 : W0.cell? ⟨w.heap.size + 1, 2, none⟩ = some (.string ⟨#[]⟩) := ba.cell 2
  have q0H := hide q0
  clear bo ba q0
  go_enter Try.func15, Try.ntmps15
  go_wp2
  go_ret
  exact ⟨rfl, unhide q0H⟩

set_option maxHeartbeats 4000000 in
set_option maxRecDepth 100000 in
theorem kstep0 (w : World) (x g : Nat) (k : Int) (A B C : Int) (s t : ByteArray) (h1 : (k == 1) = false) (h2 : (k == 2) = false) (h3 : (k == 3) = false) (h4 : (k == 4) = false) (h5 : (k == 5) = false) (h6 : (k == 6) = false) (h7 : (k == 7) = false) : Calls Try.prog 15 #[ptr x, ptr g, opv k A B C s t, .agg #[.int .i64 0, .int .i64 0, .string ⟨#[]⟩]] w fun e w' => e = .returned (.bool true) ∧ Quiet w w' := by
  unfold ptr opv at *
  obtain ⟨q0, bo, ba, hsz⟩ := stW_facts w k A B C s t 0 0 ⟨#[]⟩
  obtain ⟨W0, hW0⟩ : ∃ W, stW w k A B C s t 0 0 ⟨#[]⟩ = W := ⟨_, rfl⟩
  rw [hW0] at q0 bo ba hsz
  unfold stW at hW0
  have co0 : W0.cell? ⟨w.heap.size, 0, none⟩ = some (.int .i64 k) := bo.cell 0
  have co1 : W0.cell? ⟨w.heap.size, 1, none⟩ = some (.int .i64 A) := bo.cell 1
  have co2 : W0.cell? ⟨w.heap.size, 2, none⟩ = some (.int .i64 B) := bo.cell 2
  have co3 : W0.cell? ⟨w.heap.size, 3, none⟩ = some (.int .i64 C) := bo.cell 3
  have co4 : W0.cell? ⟨w.heap.size, 4, none⟩ = some (.string s) := bo.cell 4
  have co5 : W0.cell? ⟨w.heap.size, 5, none⟩ = some (.string t) := bo.cell 5
  have ca0 : W0.cell? ⟨w.heap.size + 1, 0, none⟩ = some (.int .i64 0) := ba.cell 0
  have ca1 : W0.cell? ⟨w.heap.size + 1, 1, none⟩ = some (.int .i64 0) := ba.cell 1
  have ca2 : W0.cell? ⟨w.heap.size + 1, 2, none⟩ = some (.string ⟨#[]⟩) := ba.cell 2
  have q0H := hide q0
  clear bo ba q0
  go_enter Try.func15, Try.ntmps15
  go_wp2
  go_ret
  exact ⟨rfl, unhide q0H⟩

/-- The world behind a start's five stores. -/
def stStart (W : World) (g : Nat) (tl : ByteArray) (B : Int) : World := (((((W.setCell ⟨g, 3, none⟩ (.string tl)).setCell ⟨g, 4, none⟩ (.bool true)).setCell ⟨g, 5, none⟩ (.bool (B != 0))).setCell ⟨g, 1, none⟩ (.slice none 0 0)).setCell ⟨g, 2, none⟩ (.slice none 0 0)).drew
theorem stStart_cell {W : World} {g : Nat} (tl : ByteArray) (B : Int) {b o : Nat} {v : Value} (h : W.cell? ⟨b, o, none⟩ = some v) (n : g ≠ b) : (stStart W g tl B).cell? ⟨b, o, none⟩ = some v :=
  drew_cell (cell_set_ne (cell_set_ne (cell_set_ne (cell_set_ne (cell_set_ne h (.inl n)) (.inl n)) (.inl n)) (.inl n)) (.inl n))
theorem kstart_fin {w W1 : World} {OH : Nat → Prop} {g : Nat} {σ : St} {vb vt vs : Value} (Hg : Gh w g vb vt vs σ) (hHO : ∀ x, HO g vb vt vs x → OH x) (Q : Quiet w W1) (l : List Int) (B : Int) (e : Ending) (w' : World) (q : Quiet (stStart W1 g (str (txt l)) B) w') (he : e = .returned (.bool true)) :
    HPost w OH g ⟨σ.ws, [], l, true, decide (B ≠ 0)⟩ e w' := by
  have H1 := Hg.quiet Q
  have hog : OH g := hHO _ (.inl rfl)
  have C : ∀ S : Nat → Prop, S g → ∀ V, Chg S V W1 → Chg S V (stStart W1 g (str (txt l)) B) := fun S hS V c =>
    ((((((c.setCell (p := ⟨g, 3, none⟩) (.inl hS) _).setCell (p := ⟨g, 4, none⟩) (.inl hS) _).setCell (p := ⟨g, 5, none⟩) (.inl hS) _).setCell (p := ⟨g, 1, none⟩) (.inl hS) _).setCell (p := ⟨g, 2, none⟩) (.inl hS) _)).drew
  have hB : (B != 0) = decide (B ≠ 0) := by
    by_cases h : B = 0 <;> simp [h]
  have hb : Blk (stStart W1 g (str (txt l)) B) g 35 (hcs vb (.slice none 0 0) (.slice none 0 0) ⟨σ.ws, [], l, true, decide (B ≠ 0)⟩) := by
    have h5 := ((((H1.b.set 3 (.string (str (txt l)))).set 4 (.bool true)).set 5 (.bool (B != 0))).set 1 (.slice none 0 0)).set 2 (.slice none 0 0)
    have e5 : (((((hcs vb vt vs σ).set 3 (.string (str (txt l)))).set 4 (.bool true)).set 5 (.bool (B != 0))).set 1 (.slice none 0 0)).set 2 (.slice none 0 0) = hcs vb (.slice none 0 0) (.slice none 0 0) ⟨σ.ws, [], l, true, decide (B ≠ 0)⟩ := by
      rw [hB]; unfold hcs secT; rfl
    rw [e5] at h5
    unfold stStart
    exact Quiet.blk ((Chg.refl (fun _ => False) _).drew) h5
  have cg : Chg (fun x => x = g) W1 (stStart W1 g (str (txt l)) B) := C (fun x => x = g) rfl _ (Chg.refl _ _)
  have G : Gh (stStart W1 g (str (txt l)) B) g vb (.slice none 0 0) (.slice none 0 0) ⟨σ.ws, [], l, true, decide (B ≠ 0)⟩ :=
    ⟨hb, H1.rb.of_chg cg (fun x hx hxg => Hg.gb (by rw [← hxg]; exact hx)), Row.nil _ _ _, Row.nil _ _ _, Hg.gb, by simp [Value.ownBlock], by simp [Value.ownBlock], fun _ _ => by simp [Value.ownBlock], fun _ _ => by simp [Value.ownBlock], fun _ _ => by simp [Value.ownBlock]⟩
  refine ⟨he, HO g vb (.slice none 0 0) (.slice none 0 0), ⟨_, _, _, G.quiet q, fun x hx => hx⟩, (C OH hog w (Q.chg _)).trans (q.chg _), ?_⟩
  rintro k (rfl | h | h | h)
  · exact .inl hog
  · exact .inl (hHO _ (.inr (.inl h)))
  · simp [Value.ownBlock] at h
  · simp [Value.ownBlock] at h

set_option maxHeartbeats 8000000 in
set_option maxRecDepth 100000 in
theorem kstep2 (w : World) (OH : Nat → Prop) (x g : Nat) (σ : St) (A B C : Int) (s t : ByteArray) (ok : KOk σ) (H : GhR w OH g σ) (lH : ∀ k, OH k → k < w.heap.size) :
    Calls Try.prog 15 #[ptr x, ptr g, opv 2 A B C s t, .agg #[.int .i64 (startP σ A B).1, .int .i64 0, .string ⟨#[]⟩]] w (HPost w OH g (startP σ A B).2) := by
  have hh := hide H
  obtain ⟨vb, vt, vs, Hg, hHO⟩ := H
  obtain ⟨xb, cp, hxb⟩ := Hg.rb.slice
  obtain ⟨N, hN⟩ : ∃ N, σ.ws.length = N := ⟨_, rfl⟩
  rw [hN] at hxb
  obtain ⟨aE, haE⟩ : ∃ a, (startP σ A B).1 = a := ⟨_, rfl⟩
  rw [haE]
  have aH := hide haE
  clear haE
  unfold ptr opv at *
  obtain ⟨q0, bo, ba, hsz⟩ := stW_facts w 2 A B C s t aE 0 ⟨#[]⟩
  obtain ⟨W0, hW0⟩ : ∃ W, stW w 2 A B C s t aE 0 ⟨#[]⟩ = W := ⟨_, rfl⟩
  rw [hW0] at q0 bo ba hsz
  unfold stW at hW0
  have co0 : W0.cell? ⟨w.heap.size, 0, none⟩ = some (.int .i64 2) := bo.cell 0
  have co1 : W0.cell? ⟨w.heap.size, 1, none⟩ = some (.int .i64 A) := bo.cell 1
  have co2 : W0.cell? ⟨w.heap.size, 2, none⟩ = some (.int .i64 B) := bo.cell 2
  have co3 : W0.cell? ⟨w.heap.size, 3, none⟩ = some (.int .i64 C) := bo.cell 3
  have co4 : W0.cell? ⟨w.heap.size, 4, none⟩ = some (.string s) := bo.cell 4
  have co5 : W0.cell? ⟨w.heap.size, 5, none⟩ = some (.string t) := bo.cell 5
  have ca0 : W0.cell? ⟨w.heap.size + 1, 0, none⟩ = some (.int .i64 aE) := ba.cell 0
  have ca1 : W0.cell? ⟨w.heap.size + 1, 1, none⟩ = some (.int .i64 0) := ba.cell 1
  have ca2 : W0.cell? ⟨w.heap.size + 1, 2, none⟩ = some (.string ⟨#[]⟩) := ba.cell 2
  have H0 := Hg.quiet q0
  have cg0 : W0.cell? ⟨g, 0, none⟩ = some (.slice xb N cp) := by rw [← hxb]; exact H0.b.cell 0
  have Q0 := hide q0
  by_cases hbad : A < 0 ∨ (N : Int) ≤ A
  · have hp : startP σ A B = (5, σ) := by unfold startP; rw [if_pos (by rw [hN]; exact hbad)]
    have hE : aE = 5 := by rw [← unhide aH, hp]
    subst hE
    have fin : Hid (∀ e w', Quiet w w' → e = .returned (.bool true) → HPost w OH g (startP σ A B).2 e w') := by
      show ∀ e w', _
      rw [hp]
      exact fun e w' q he => HPost.same (unhide hh) q he
    clear hp ok aH hh H0 Hg hHO bo ba q0 hxb lH
    rcases (by omega : A < 0 ∨ (0 ≤ A ∧ (N : Int) ≤ A)) with ho | ho
    · have o1d : decide (A < 0) = true := decide_eq_true ho
      clear hbad
      go_enter Try.func15, Try.ntmps15
      go_wp2
      go_quiet (fail)
      go_wp2
      go_ret
      exact unhide fin _ _ ((unhide Q0).drewN _) rfl
    · have o1 : ¬ A < 0 := by omega
      have o1d : decide (A < 0) = false := decide_eq_false o1
      have o2 : (N : Int) ≤ A := ho.2
      have o2d : decide ((N : Int) ≤ A) = true := decide_eq_true o2
      clear hbad ho
      go_enter Try.func15, Try.ntmps15
      go_wp2
      go_quiet (fail)
      go_wp2
      go_ret
      exact unhide fin _ _ ((unhide Q0).drewN _) rfl
  · obtain ⟨j, rfl⟩ : ∃ j : Nat, A = j := ⟨A.toNat, by omega⟩
    have hjl : j < σ.ws.length := by omega
    obtain ⟨l, hlj⟩ : ∃ l, σ.ws[j]? = some l := ⟨_, List.getElem?_eq_getElem hjl⟩
    obtain ⟨bb, capb, hvb, rj0⟩ := Hg.rb.one j (by omega) _ (tx_at hlj)
    obtain ⟨h1, h2⟩ : xb = some ⟨bb, 0, none⟩ ∧ cp = capb := by
      have := hxb.symm.trans hvb
      simp at this; exact ⟨this.1, this.2.2⟩
    subst h1; subst h2
    have rj : W0.cell? ⟨bb, j, none⟩ = some (.string (str (txt l))) := Quiet.cell q0 rj0
    have hp : startP σ (j : Int) B = (0, ⟨σ.ws, [], l, true, decide (B ≠ 0)⟩) := by
      unfold startP; rw [if_neg (by omega)]
      rw [Int.toNat_natCast, List.getD_eq_getElem?_getD, hlj]; rfl
    have hE : aE = 0 := by rw [← unhide aH, hp]
    subst hE
    have o1 : ¬ (j : Int) < 0 := by omega
    have o1d : decide ((j : Int) < 0) = false := decide_eq_false o1
    have o2 : ¬ (N : Int) ≤ (j : Int) := by omega
    have o2d : decide ((N : Int) ≤ (j : Int)) = false := decide_eq_false o2
    have o2n : decide (N ≤ j) = false := decide_eq_false (by omega)
    have o2m : ¬ N ≤ j := by omega
    have k3 : (j : Int) < (N : Int) := by omega
    have k3n : j < N := by omega
    have k4 : (0 : Int) ≤ (j : Int) := by omega
    have hbg : bb ≠ g := fun e => Hg.gb (by rw [hvb, e]; rfl)
    have hpH : Hid ((startP σ (j : Int) B).2 = ⟨σ.ws, [], l, true, decide (B ≠ 0)⟩) := by show _ = _; rw [hp]
    have RH := hide (⟨Hg, hHO, lH, hvb⟩ : _ ∧ _ ∧ _ ∧ _)
    have wg : w.heap.size ≠ g := fun e => by have := Hg.b.lt; omega
    have wg1 : w.heap.size + 1 ≠ g := fun e => by have := Hg.b.lt; omega
    clear hbad hlj hvb rj0 hp ok Hg hHO lH hh aH hjl bo ba q0 hxb hN
    obtain ⟨tl, htl⟩ : ∃ x, str (txt l) = x := ⟨_, rfl⟩
    rw [htl] at rj
    have htlH := hide htl
    clear htl
    have H0H := hide H0
    clear H0
    go_enter Try.func15, Try.ntmps15
    go_wp2
    go_quiet (fail)
    have H1 := (unhide H0H).quiet ((Chg.refl (fun _ => False) W0).drewN nq)
    have Q1 := hide ((unhide Q0).drewN nq)
    have co1' := Quiet.cell ((Chg.refl (fun _ => False) W0).drewN nq) co1
    have co2' := Quiet.cell ((Chg.refl (fun _ => False) W0).drewN nq) co2
    have cg0' := Quiet.cell ((Chg.refl (fun _ => False) W0).drewN nq) cg0
    have rj' := Quiet.cell ((Chg.refl (fun _ => False) W0).drewN nq) rj
    have ca0' := Quiet.cell ((Chg.refl (fun _ => False) W0).drewN nq) ca0
    have ca1' := Quiet.cell ((Chg.refl (fun _ => False) W0).drewN nq) ca1
    have ca2' := Quiet.cell ((Chg.refl (fun _ => False) W0).drewN nq) ca2
    generalize W0.drewN nq = W1 at *
    clear co0 co1 co2 co3 co4 co5 ca0 ca1 ca2 cg0 rj Q0 H0H hW0
    have g1 : W1.cell? ⟨g, 1, none⟩ = some vt := H1.b.cell 1
    have g2 : W1.cell? ⟨g, 2, none⟩ = some vs := H1.b.cell 2
    have g3 : W1.cell? ⟨g, 3, none⟩ = some (.string (str (secT σ))) := H1.b.cell 3
    have g4 : W1.cell? ⟨g, 4, none⟩ = some (.bool σ.bg) := H1.b.cell 4
    have g5 : W1.cell? ⟨g, 5, none⟩ = some (.bool σ.hd) := H1.b.cell 5
    have f1 := H1.b.frozen 1
    have f2 := H1.b.frozen 2
    have f3 := H1.b.frozen 3
    have f4 := H1.b.frozen 4
    have f5 := H1.b.frozen 5
    have H1H := hide H1
    have n1 := Ne.symm wg
    have n2 := Ne.symm wg1
    have n3 := Ne.symm hbg
    clear H1
    generalize str (secT σ) = ss at *
    generalize σ.bg = b0 at *
    generalize σ.hd = b1 at *
    go_wp2
    go_region_held3 (fun W => W.cell? ⟨g, 0, none⟩ = some (.slice (some ⟨bb, 0, none⟩) N cp) ∧ W.cell? ⟨w.heap.size, 1, none⟩ = some (.int .i64 (j : Int)) ∧ W.cell? ⟨bb, j, none⟩ = some (.string tl) ∧ W.cell? ⟨w.heap.size, 2, none⟩ = some (.int .i64 B)) (first | (with_reducible (refine ⟨drew_cell ?_, drew_cell ?_, drew_cell ?_, drew_cell ?_⟩ <;> repeat' (first | assumption | refine cell_set_ne ?_ (.inl n1) | refine cell_set_ne ?_ (.inl n3) | refine cell_set_ne ?_ (.inr (by decide))))) | go_keep) (fail)
    rename_i hhx
    clear hhx
    have e0 := stStart_cell tl B ca0' n2
    have e1 := stStart_cell tl B ca1' n2
    have e2 := stStart_cell tl B ca2' n2
    have fin : Hid (∀ e w', Quiet (stStart W1 g tl B) w' → e = .returned (.bool true) → HPost w OH g (startP σ (j : Int) B).2 e w') := by
      obtain ⟨Hg, hHO, lH, hvb⟩ := unhide RH
      have htl := unhide htlH
      subst htl
      show ∀ e w', _
      rw [unhide hpH]
      exact fun e w' q he => kstart_fin Hg hHO (unhide Q1) l B e w' q he
    unfold stStart at *
    clear co1' co2' cg0' rj' ca0' ca1' ca2' g1 g2 g3 g4 g5 f1 f2 f3 f4 f5 H1H RH hpH htlH Q1 hsz k3 k3n k4 o1 o1d o2 o2d o2n o2m wg wg1 n1 n2 n3 hbg
    generalize (((((W1.setCell ⟨g, 3, none⟩ (.string tl)).setCell ⟨g, 4, none⟩ (.bool true)).setCell ⟨g, 5, none⟩ (.bool (B != 0))).setCell ⟨g, 1, none⟩ (.slice none 0 0)).setCell ⟨g, 2, none⟩ (.slice none 0 0)).drew = W2 at *
    go_wp2
    go_ret
    exact unhide fin _ _ (Chg.refl _ _) rfl
end Go.Proofs.Qxb6500370a
