/-
  367 Keeps: Owed. (gen7owed.py)
-/
import Derived.Test.Qxb6500367aKGh
namespace Go.Proofs.Qxb6500367a
open Go.RowKit Go.Qx
set_option linter.unusedSimpArgs false
set_option linter.unusedVariables false

/-- What Owed reads behind its first load. -/
structure OwR (V : World) (B M g gb : Nat) (n cg : Nat) (k i b c : Int) (s t : ByteArray) (d : Nd) : Prop where
  op : Blk V B 44 [.int .i64 k, .int .i64 i, .int .i64 b, .int .i64 c, .string s, .string t]
  mi : Blk V M 80 [.int .i64 d.clock, .int .i64 d.phase, .int .i64 d.mine, .int .i64 d.acks]
  c2 : V.cell? ⟨g, 2, none⟩ = some (.slice (some ⟨gb, 0, none⟩) n cg)
theorem OwR.quiet {V V' : World} {B M g gb : Nat} {n cg : Nat} {k i b c : Int} {s t : ByteArray} {d : Nd} (h : OwR V B M g gb n cg k i b c s t d) (q : Quiet V V') : OwR V' B M g gb n cg k i b c s t d := ⟨q.blk h.op, q.blk h.mi, q.cell h.c2⟩

set_option maxHeartbeats 8000000 in
set_option maxRecDepth 100000 in
theorem owed_kind (w : World) (g : Nat) (vX vW vG : Value) (n : Nat) (h4 : n ≤ 4) (X : List Value) (W : List M4) (S : Nat → Nd) (H : GR w g vX vW vG n X W S) (i : Nat) (hi : i < n) (k b c : Int) (s t : ByteArray) (hk : k < 1 ∨ 5 < k) :
    Calls Try.prog 25 #[ptr g, .agg #[.int .i64 k, .int .i64 i, .int .i64 b, .int .i64 c, .string s, .string t]] w fun e w' => e = .returned (.int .i64 2) ∧ Quiet w w' := by
  obtain ⟨gb, cg, rfl, m0, m1, m2, m3⟩ := H.mind hi
  obtain ⟨V, hV⟩ : ∃ V, w.alloc (.cells #[.int .i64 k, .int .i64 i, .int .i64 b, .int .i64 c, .string s, .string t] 44) = V := ⟨_, rfl⟩
  have q0 : Quiet w V := by rw [← hV]; exact (Chg.refl _ _).alloc _
  have bo : Blk V w.heap.size 44 [.int .i64 k, .int .i64 i, .int .i64 b, .int .i64 c, .string s, .string t] := by rw [← hV]; exact Blk.new w 44 _
  have c2 := q0.cell (H.blk.cell 2)
  have n0 := q0.cell m0
  have n1 := q0.cell m1
  have n2 := q0.cell m2
  have n3 := q0.cell m3
  have hgl := (q0.blk H.blk).lt
  have hgb : gb < V.heap.size := World.block_lt_of_cell? _ _ n0
  obtain ⟨B, hB⟩ : ∃ B, w.heap.size = B := ⟨_, rfl⟩
  rw [hB] at bo
  have hBl := bo.lt
  have o0 := bo.cell 0
  have o1 := bo.cell 1
  simp at o0 o1 c2
  have i0 : (0 : Int) ≤ (i : Int) := by omega
  have i1 : (i : Int) < (n : Int) := by omega
  have hpre : Hid (OwR ((V.alloc (.cells #[.int .i64 (S i).clock, .int .i64 (S i).phase, .int .i64 (S i).mine, .int .i64 (S i).acks] 80)).drew) B V.heap.size g gb n cg k i b c s t (S i)) :=
    ⟨(bo.alloc _).drew, (Blk.new V 80 _).drew, Quiet.cell (((Chg.refl _ V).alloc _).drew) c2⟩
  have Q0 := hide q0
  clear H q0 bo m0 m1 m2 m3
  unfold ptr
  go_enter Try.func25, Try.ntmps25
  go_wp2
  clear hV hB
  go_region_law (fail)
  all_goals
    have al : Quiet V ((V.alloc (.cells #[.int .i64 (S i).clock, .int .i64 (S i).phase, .int .i64 (S i).mine, .int .i64 (S i).acks] 80)).drew) := ((Chg.refl _ _).alloc _).drew
    have Q1 := hide (Quiet.trans (unhide Q0) al)
    have hMl := (unhide hpre).mi.lt
    have hgl2 : g < ((V.alloc (.cells #[.int .i64 (S i).clock, .int .i64 (S i).phase, .int .i64 (S i).mine, .int .i64 (S i).acks] 80)).drew).heap.size := by have := al.size; omega
    clear n0 n1 n2 n3 o0 o1 c2 al Q0 hgl hgb hBl
    generalize ((V.alloc (.cells #[.int .i64 (S i).clock, .int .i64 (S i).phase, .int .i64 (S i).mine, .int .i64 (S i).acks] 80)).drew) = V1 at *
    generalize V.heap.size = M at *
    have p0 : V1.cell? ⟨B, 0, none⟩ = some (.int .i64 k) := (unhide hpre).op.cell 0
    have p1 : V1.cell? ⟨B, 1, none⟩ = some (.int .i64 i) := (unhide hpre).op.cell 1
    have p2 : V1.cell? ⟨B, 2, none⟩ = some (.int .i64 b) := (unhide hpre).op.cell 2
    have p3 : V1.cell? ⟨B, 3, none⟩ = some (.int .i64 c) := (unhide hpre).op.cell 3
    have d0 : V1.cell? ⟨M, 0, none⟩ = some (.int .i64 (S i).clock) := (unhide hpre).mi.cell 0
    have d1 : V1.cell? ⟨M, 1, none⟩ = some (.int .i64 (S i).phase) := (unhide hpre).mi.cell 1
    have cc := (unhide hpre).c2
    rcases (by omega : k < 1 ∨ (1 ≤ k ∧ 5 < k)) with h | ⟨h, h2⟩
    · go_wp2
      go_ret
      exact ⟨rfl, unhide Q1⟩
    · go_wp2
      go_ret
      exact ⟨rfl, unhide Q1⟩

set_option maxHeartbeats 8000000 in
set_option maxRecDepth 100000 in
theorem owed_peer1 (w : World) (g : Nat) (vX vW vG : Value) (n : Nat) (h4 : n ≤ 4) (X : List Value) (W : List M4) (S : Nat → Nd) (H : GR w g vX vW vG n X W S) (i : Nat) (hi : i < n) (k b c : Int) (s t : ByteArray) (hk : 3 ≤ k) (hk5 : k ≤ 5) (hb : b < 0) :
    Calls Try.prog 25 #[ptr g, .agg #[.int .i64 k, .int .i64 i, .int .i64 b, .int .i64 c, .string s, .string t]] w fun e w' => e = .returned (.int .i64 3) ∧ Quiet w w' := by
  obtain ⟨gb, cg, rfl, m0, m1, m2, m3⟩ := H.mind hi
  obtain ⟨V, hV⟩ : ∃ V, w.alloc (.cells #[.int .i64 k, .int .i64 i, .int .i64 b, .int .i64 c, .string s, .string t] 44) = V := ⟨_, rfl⟩
  have q0 : Quiet w V := by rw [← hV]; exact (Chg.refl _ _).alloc _
  have bo : Blk V w.heap.size 44 [.int .i64 k, .int .i64 i, .int .i64 b, .int .i64 c, .string s, .string t] := by rw [← hV]; exact Blk.new w 44 _
  have c2 := q0.cell (H.blk.cell 2)
  have n0 := q0.cell m0
  have n1 := q0.cell m1
  have n2 := q0.cell m2
  have n3 := q0.cell m3
  have hgl := (q0.blk H.blk).lt
  have hgb : gb < V.heap.size := World.block_lt_of_cell? _ _ n0
  obtain ⟨B, hB⟩ : ∃ B, w.heap.size = B := ⟨_, rfl⟩
  rw [hB] at bo
  have hBl := bo.lt
  have o0 := bo.cell 0
  have o1 := bo.cell 1
  simp at o0 o1 c2
  have i0 : (0 : Int) ≤ (i : Int) := by omega
  have i1 : (i : Int) < (n : Int) := by omega
  have hpre : Hid (OwR ((V.alloc (.cells #[.int .i64 (S i).clock, .int .i64 (S i).phase, .int .i64 (S i).mine, .int .i64 (S i).acks] 80)).drew) B V.heap.size g gb n cg k i b c s t (S i)) :=
    ⟨(bo.alloc _).drew, (Blk.new V 80 _).drew, Quiet.cell (((Chg.refl _ V).alloc _).drew) c2⟩
  have Q0 := hide q0
  have k1 : decide (k < 1) = false := by simp; omega
  have k5 : decide (5 < k) = false := by simp; omega
  have k3 : decide (3 ≤ k) = true := by simp; omega
  have e1 : (k == 1) = false := by simp; omega
  have e2 : (k == 2) = false := by simp; omega
  have b1 : decide (b < 0) = true := by simpa using hb
  clear hk hk5 hb
  clear H q0 bo m0 m1 m2 m3
  unfold ptr
  go_enter Try.func25, Try.ntmps25
  go_wp2
  clear hV hB
  go_region_law (fail)
  all_goals
    have al : Quiet V ((V.alloc (.cells #[.int .i64 (S i).clock, .int .i64 (S i).phase, .int .i64 (S i).mine, .int .i64 (S i).acks] 80)).drew) := ((Chg.refl _ _).alloc _).drew
    have Q1 := hide (Quiet.trans (unhide Q0) al)
    have hMl := (unhide hpre).mi.lt
    have hgl2 : g < ((V.alloc (.cells #[.int .i64 (S i).clock, .int .i64 (S i).phase, .int .i64 (S i).mine, .int .i64 (S i).acks] 80)).drew).heap.size := by have := al.size; omega
    clear n0 n1 n2 n3 o0 o1 c2 al Q0 hgl hgb hBl
    generalize ((V.alloc (.cells #[.int .i64 (S i).clock, .int .i64 (S i).phase, .int .i64 (S i).mine, .int .i64 (S i).acks] 80)).drew) = V1 at *
    generalize V.heap.size = M at *
    have p0 : V1.cell? ⟨B, 0, none⟩ = some (.int .i64 k) := (unhide hpre).op.cell 0
    have p1 : V1.cell? ⟨B, 1, none⟩ = some (.int .i64 i) := (unhide hpre).op.cell 1
    have p2 : V1.cell? ⟨B, 2, none⟩ = some (.int .i64 b) := (unhide hpre).op.cell 2
    have p3 : V1.cell? ⟨B, 3, none⟩ = some (.int .i64 c) := (unhide hpre).op.cell 3
    have d0 : V1.cell? ⟨M, 0, none⟩ = some (.int .i64 (S i).clock) := (unhide hpre).mi.cell 0
    have d1 : V1.cell? ⟨M, 1, none⟩ = some (.int .i64 (S i).phase) := (unhide hpre).mi.cell 1
    have cc := (unhide hpre).c2
    go_wp2
    go_big_quiet (fail)
    have qd : Quiet V1 (V1.drewN nq) := (Chg.refl _ _).drewN nq
    have Q2 := hide (Quiet.trans (unhide Q1) qd)
    have hpre2 := hide ((unhide hpre).quiet qd)
    clear p0 p1 p2 p3 d0 d1 cc hpre Q1
    generalize V1.drewN nq = V2 at *
    have p0 : V2.cell? ⟨B, 0, none⟩ = some (.int .i64 k) := (unhide hpre2).op.cell 0
    have p3 : V2.cell? ⟨B, 3, none⟩ = some (.int .i64 c) := (unhide hpre2).op.cell 3
    have d0 : V2.cell? ⟨M, 0, none⟩ = some (.int .i64 (S i).clock) := (unhide hpre2).mi.cell 0
    have d1 : V2.cell? ⟨M, 1, none⟩ = some (.int .i64 (S i).phase) := (unhide hpre2).mi.cell 1
    clear qd nq
    go_wp2
    go_ret
    exact ⟨rfl, unhide Q2⟩

set_option maxHeartbeats 8000000 in
set_option maxRecDepth 100000 in
theorem owed_peer2 (w : World) (g : Nat) (vX vW vG : Value) (n : Nat) (h4 : n ≤ 4) (X : List Value) (W : List M4) (S : Nat → Nd) (H : GR w g vX vW vG n X W S) (i : Nat) (hi : i < n) (k b c : Int) (s t : ByteArray) (hk : 3 ≤ k) (hk5 : k ≤ 5) (hb : 0 ≤ b) (hb2 : (n : Int) ≤ b) :
    Calls Try.prog 25 #[ptr g, .agg #[.int .i64 k, .int .i64 i, .int .i64 b, .int .i64 c, .string s, .string t]] w fun e w' => e = .returned (.int .i64 3) ∧ Quiet w w' := by
  obtain ⟨gb, cg, rfl, m0, m1, m2, m3⟩ := H.mind hi
  obtain ⟨V, hV⟩ : ∃ V, w.alloc (.cells #[.int .i64 k, .int .i64 i, .int .i64 b, .int .i64 c, .string s, .string t] 44) = V := ⟨_, rfl⟩
  have q0 : Quiet w V := by rw [← hV]; exact (Chg.refl _ _).alloc _
  have bo : Blk V w.heap.size 44 [.int .i64 k, .int .i64 i, .int .i64 b, .int .i64 c, .string s, .string t] := by rw [← hV]; exact Blk.new w 44 _
  have c2 := q0.cell (H.blk.cell 2)
  have n0 := q0.cell m0
  have n1 := q0.cell m1
  have n2 := q0.cell m2
  have n3 := q0.cell m3
  have hgl := (q0.blk H.blk).lt
  have hgb : gb < V.heap.size := World.block_lt_of_cell? _ _ n0
  obtain ⟨B, hB⟩ : ∃ B, w.heap.size = B := ⟨_, rfl⟩
  rw [hB] at bo
  have hBl := bo.lt
  have o0 := bo.cell 0
  have o1 := bo.cell 1
  simp at o0 o1 c2
  have i0 : (0 : Int) ≤ (i : Int) := by omega
  have i1 : (i : Int) < (n : Int) := by omega
  have hpre : Hid (OwR ((V.alloc (.cells #[.int .i64 (S i).clock, .int .i64 (S i).phase, .int .i64 (S i).mine, .int .i64 (S i).acks] 80)).drew) B V.heap.size g gb n cg k i b c s t (S i)) :=
    ⟨(bo.alloc _).drew, (Blk.new V 80 _).drew, Quiet.cell (((Chg.refl _ V).alloc _).drew) c2⟩
  have Q0 := hide q0
  have k1 : decide (k < 1) = false := by simp; omega
  have k5 : decide (5 < k) = false := by simp; omega
  have k3 : decide (3 ≤ k) = true := by simp; omega
  have e1 : (k == 1) = false := by simp; omega
  have e2 : (k == 2) = false := by simp; omega
  have b1 : decide (b < 0) = false := by simp; omega
  have b2 : decide ((n : Int) ≤ b) = true := by simpa using hb2
  clear hk hk5 hb hb2
  clear H q0 bo m0 m1 m2 m3
  unfold ptr
  go_enter Try.func25, Try.ntmps25
  go_wp2
  clear hV hB
  go_region_law (fail)
  all_goals
    have al : Quiet V ((V.alloc (.cells #[.int .i64 (S i).clock, .int .i64 (S i).phase, .int .i64 (S i).mine, .int .i64 (S i).acks] 80)).drew) := ((Chg.refl _ _).alloc _).drew
    have Q1 := hide (Quiet.trans (unhide Q0) al)
    have hMl := (unhide hpre).mi.lt
    have hgl2 : g < ((V.alloc (.cells #[.int .i64 (S i).clock, .int .i64 (S i).phase, .int .i64 (S i).mine, .int .i64 (S i).acks] 80)).drew).heap.size := by have := al.size; omega
    clear n0 n1 n2 n3 o0 o1 c2 al Q0 hgl hgb hBl
    generalize ((V.alloc (.cells #[.int .i64 (S i).clock, .int .i64 (S i).phase, .int .i64 (S i).mine, .int .i64 (S i).acks] 80)).drew) = V1 at *
    generalize V.heap.size = M at *
    have p0 : V1.cell? ⟨B, 0, none⟩ = some (.int .i64 k) := (unhide hpre).op.cell 0
    have p1 : V1.cell? ⟨B, 1, none⟩ = some (.int .i64 i) := (unhide hpre).op.cell 1
    have p2 : V1.cell? ⟨B, 2, none⟩ = some (.int .i64 b) := (unhide hpre).op.cell 2
    have p3 : V1.cell? ⟨B, 3, none⟩ = some (.int .i64 c) := (unhide hpre).op.cell 3
    have d0 : V1.cell? ⟨M, 0, none⟩ = some (.int .i64 (S i).clock) := (unhide hpre).mi.cell 0
    have d1 : V1.cell? ⟨M, 1, none⟩ = some (.int .i64 (S i).phase) := (unhide hpre).mi.cell 1
    have cc := (unhide hpre).c2
    go_wp2
    go_big_quiet (fail)
    have qd : Quiet V1 (V1.drewN nq) := (Chg.refl _ _).drewN nq
    have Q2 := hide (Quiet.trans (unhide Q1) qd)
    have hpre2 := hide ((unhide hpre).quiet qd)
    clear p0 p1 p2 p3 d0 d1 cc hpre Q1
    generalize V1.drewN nq = V2 at *
    have p0 : V2.cell? ⟨B, 0, none⟩ = some (.int .i64 k) := (unhide hpre2).op.cell 0
    have p3 : V2.cell? ⟨B, 3, none⟩ = some (.int .i64 c) := (unhide hpre2).op.cell 3
    have d0 : V2.cell? ⟨M, 0, none⟩ = some (.int .i64 (S i).clock) := (unhide hpre2).mi.cell 0
    have d1 : V2.cell? ⟨M, 1, none⟩ = some (.int .i64 (S i).phase) := (unhide hpre2).mi.cell 1
    clear qd nq
    go_wp2
    go_ret
    exact ⟨rfl, unhide Q2⟩

set_option maxHeartbeats 8000000 in
set_option maxRecDepth 100000 in
theorem owed_peer3 (w : World) (g : Nat) (vX vW vG : Value) (n : Nat) (h4 : n ≤ 4) (X : List Value) (W : List M4) (S : Nat → Nd) (H : GR w g vX vW vG n X W S) (i : Nat) (hi : i < n) (k b c : Int) (s t : ByteArray) (hk : 3 ≤ k) (hk5 : k ≤ 5) (hb : b = i) :
    Calls Try.prog 25 #[ptr g, .agg #[.int .i64 k, .int .i64 i, .int .i64 b, .int .i64 c, .string s, .string t]] w fun e w' => e = .returned (.int .i64 3) ∧ Quiet w w' := by
  obtain ⟨gb, cg, rfl, m0, m1, m2, m3⟩ := H.mind hi
  obtain ⟨V, hV⟩ : ∃ V, w.alloc (.cells #[.int .i64 k, .int .i64 i, .int .i64 b, .int .i64 c, .string s, .string t] 44) = V := ⟨_, rfl⟩
  have q0 : Quiet w V := by rw [← hV]; exact (Chg.refl _ _).alloc _
  have bo : Blk V w.heap.size 44 [.int .i64 k, .int .i64 i, .int .i64 b, .int .i64 c, .string s, .string t] := by rw [← hV]; exact Blk.new w 44 _
  have c2 := q0.cell (H.blk.cell 2)
  have n0 := q0.cell m0
  have n1 := q0.cell m1
  have n2 := q0.cell m2
  have n3 := q0.cell m3
  have hgl := (q0.blk H.blk).lt
  have hgb : gb < V.heap.size := World.block_lt_of_cell? _ _ n0
  obtain ⟨B, hB⟩ : ∃ B, w.heap.size = B := ⟨_, rfl⟩
  rw [hB] at bo
  have hBl := bo.lt
  have o0 := bo.cell 0
  have o1 := bo.cell 1
  simp at o0 o1 c2
  have i0 : (0 : Int) ≤ (i : Int) := by omega
  have i1 : (i : Int) < (n : Int) := by omega
  have hpre : Hid (OwR ((V.alloc (.cells #[.int .i64 (S i).clock, .int .i64 (S i).phase, .int .i64 (S i).mine, .int .i64 (S i).acks] 80)).drew) B V.heap.size g gb n cg k i b c s t (S i)) :=
    ⟨(bo.alloc _).drew, (Blk.new V 80 _).drew, Quiet.cell (((Chg.refl _ V).alloc _).drew) c2⟩
  have Q0 := hide q0
  have k1 : decide (k < 1) = false := by simp; omega
  have k5 : decide (5 < k) = false := by simp; omega
  have k3 : decide (3 ≤ k) = true := by simp; omega
  have e1 : (k == 1) = false := by simp; omega
  have e2 : (k == 2) = false := by simp; omega
  have b1 : decide (b < 0) = false := by simp; omega
  have b2 : decide ((n : Int) ≤ b) = false := by simp; omega
  have b3 : (b == (i : Int)) = true := by simpa using hb
  clear hk hk5 hb
  clear H q0 bo m0 m1 m2 m3
  unfold ptr
  go_enter Try.func25, Try.ntmps25
  go_wp2
  clear hV hB
  go_region_law (fail)
  all_goals
    have al : Quiet V ((V.alloc (.cells #[.int .i64 (S i).clock, .int .i64 (S i).phase, .int .i64 (S i).mine, .int .i64 (S i).acks] 80)).drew) := ((Chg.refl _ _).alloc _).drew
    have Q1 := hide (Quiet.trans (unhide Q0) al)
    have hMl := (unhide hpre).mi.lt
    have hgl2 : g < ((V.alloc (.cells #[.int .i64 (S i).clock, .int .i64 (S i).phase, .int .i64 (S i).mine, .int .i64 (S i).acks] 80)).drew).heap.size := by have := al.size; omega
    clear n0 n1 n2 n3 o0 o1 c2 al Q0 hgl hgb hBl
    generalize ((V.alloc (.cells #[.int .i64 (S i).clock, .int .i64 (S i).phase, .int .i64 (S i).mine, .int .i64 (S i).acks] 80)).drew) = V1 at *
    generalize V.heap.size = M at *
    have p0 : V1.cell? ⟨B, 0, none⟩ = some (.int .i64 k) := (unhide hpre).op.cell 0
    have p1 : V1.cell? ⟨B, 1, none⟩ = some (.int .i64 i) := (unhide hpre).op.cell 1
    have p2 : V1.cell? ⟨B, 2, none⟩ = some (.int .i64 b) := (unhide hpre).op.cell 2
    have p3 : V1.cell? ⟨B, 3, none⟩ = some (.int .i64 c) := (unhide hpre).op.cell 3
    have d0 : V1.cell? ⟨M, 0, none⟩ = some (.int .i64 (S i).clock) := (unhide hpre).mi.cell 0
    have d1 : V1.cell? ⟨M, 1, none⟩ = some (.int .i64 (S i).phase) := (unhide hpre).mi.cell 1
    have cc := (unhide hpre).c2
    go_wp2
    go_big_quiet (fail)
    have qd : Quiet V1 (V1.drewN nq) := (Chg.refl _ _).drewN nq
    have Q2 := hide (Quiet.trans (unhide Q1) qd)
    have hpre2 := hide ((unhide hpre).quiet qd)
    clear p0 p1 p2 p3 d0 d1 cc hpre Q1
    generalize V1.drewN nq = V2 at *
    have p0 : V2.cell? ⟨B, 0, none⟩ = some (.int .i64 k) := (unhide hpre2).op.cell 0
    have p3 : V2.cell? ⟨B, 3, none⟩ = some (.int .i64 c) := (unhide hpre2).op.cell 3
    have d0 : V2.cell? ⟨M, 0, none⟩ = some (.int .i64 (S i).clock) := (unhide hpre2).mi.cell 0
    have d1 : V2.cell? ⟨M, 1, none⟩ = some (.int .i64 (S i).phase) := (unhide hpre2).mi.cell 1
    clear qd nq
    go_wp2
    go_ret
    exact ⟨rfl, unhide Q2⟩

set_option maxHeartbeats 8000000 in
set_option maxRecDepth 100000 in
theorem owed_time1 (w : World) (g : Nat) (vX vW vG : Value) (n : Nat) (h4 : n ≤ 4) (X : List Value) (W : List M4) (S : Nat → Nd) (H : GR w g vX vW vG n X W S) (i : Nat) (hi : i < n) (k b c : Int) (s t : ByteArray) (hk : 3 ≤ k) (hk5 : k ≤ 5) (hb : 0 ≤ b) (hb2 : b < (n : Int)) (hb3 : b ≠ i) (hck : (S i).clock ≤ 1152921504606846976) (hc : c < 1) :
    Calls Try.prog 25 #[ptr g, .agg #[.int .i64 k, .int .i64 i, .int .i64 b, .int .i64 c, .string s, .string t]] w fun e w' => e = .returned (.int .i64 4) ∧ Quiet w w' := by
  obtain ⟨gb, cg, rfl, m0, m1, m2, m3⟩ := H.mind hi
  obtain ⟨V, hV⟩ : ∃ V, w.alloc (.cells #[.int .i64 k, .int .i64 i, .int .i64 b, .int .i64 c, .string s, .string t] 44) = V := ⟨_, rfl⟩
  have q0 : Quiet w V := by rw [← hV]; exact (Chg.refl _ _).alloc _
  have bo : Blk V w.heap.size 44 [.int .i64 k, .int .i64 i, .int .i64 b, .int .i64 c, .string s, .string t] := by rw [← hV]; exact Blk.new w 44 _
  have c2 := q0.cell (H.blk.cell 2)
  have n0 := q0.cell m0
  have n1 := q0.cell m1
  have n2 := q0.cell m2
  have n3 := q0.cell m3
  have hgl := (q0.blk H.blk).lt
  have hgb : gb < V.heap.size := World.block_lt_of_cell? _ _ n0
  obtain ⟨B, hB⟩ : ∃ B, w.heap.size = B := ⟨_, rfl⟩
  rw [hB] at bo
  have hBl := bo.lt
  have o0 := bo.cell 0
  have o1 := bo.cell 1
  simp at o0 o1 c2
  have i0 : (0 : Int) ≤ (i : Int) := by omega
  have i1 : (i : Int) < (n : Int) := by omega
  have hpre : Hid (OwR ((V.alloc (.cells #[.int .i64 (S i).clock, .int .i64 (S i).phase, .int .i64 (S i).mine, .int .i64 (S i).acks] 80)).drew) B V.heap.size g gb n cg k i b c s t (S i)) :=
    ⟨(bo.alloc _).drew, (Blk.new V 80 _).drew, Quiet.cell (((Chg.refl _ V).alloc _).drew) c2⟩
  have Q0 := hide q0
  have k1 : decide (k < 1) = false := by simp; omega
  have k5 : decide (5 < k) = false := by simp; omega
  have k3 : decide (3 ≤ k) = true := by simp; omega
  have e1 : (k == 1) = false := by simp; omega
  have e2 : (k == 2) = false := by simp; omega
  have b1 : decide (b < 0) = false := by simp; omega
  have b2 : decide ((n : Int) ≤ b) = false := by simp; omega
  have b3 : (b == (i : Int)) = false := by simpa using hb3
  have x1 : decide (1152921504606846976 < (S i).clock) = false := by simp; omega
  have z1 : decide (c < 1) = true := by simpa using hc
  clear hk hk5 hb hb2 hb3 hck hc
  clear H q0 bo m0 m1 m2 m3
  unfold ptr
  go_enter Try.func25, Try.ntmps25
  go_wp2
  clear hV hB
  go_region_law (fail)
  all_goals
    have al : Quiet V ((V.alloc (.cells #[.int .i64 (S i).clock, .int .i64 (S i).phase, .int .i64 (S i).mine, .int .i64 (S i).acks] 80)).drew) := ((Chg.refl _ _).alloc _).drew
    have Q1 := hide (Quiet.trans (unhide Q0) al)
    have hMl := (unhide hpre).mi.lt
    have hgl2 : g < ((V.alloc (.cells #[.int .i64 (S i).clock, .int .i64 (S i).phase, .int .i64 (S i).mine, .int .i64 (S i).acks] 80)).drew).heap.size := by have := al.size; omega
    clear n0 n1 n2 n3 o0 o1 c2 al Q0 hgl hgb hBl
    generalize ((V.alloc (.cells #[.int .i64 (S i).clock, .int .i64 (S i).phase, .int .i64 (S i).mine, .int .i64 (S i).acks] 80)).drew) = V1 at *
    generalize V.heap.size = M at *
    have p0 : V1.cell? ⟨B, 0, none⟩ = some (.int .i64 k) := (unhide hpre).op.cell 0
    have p1 : V1.cell? ⟨B, 1, none⟩ = some (.int .i64 i) := (unhide hpre).op.cell 1
    have p2 : V1.cell? ⟨B, 2, none⟩ = some (.int .i64 b) := (unhide hpre).op.cell 2
    have p3 : V1.cell? ⟨B, 3, none⟩ = some (.int .i64 c) := (unhide hpre).op.cell 3
    have d0 : V1.cell? ⟨M, 0, none⟩ = some (.int .i64 (S i).clock) := (unhide hpre).mi.cell 0
    have d1 : V1.cell? ⟨M, 1, none⟩ = some (.int .i64 (S i).phase) := (unhide hpre).mi.cell 1
    have cc := (unhide hpre).c2
    go_wp2
    go_big_quiet (fail)
    have qd : Quiet V1 (V1.drewN nq) := (Chg.refl _ _).drewN nq
    have Q2 := hide (Quiet.trans (unhide Q1) qd)
    have hpre2 := hide ((unhide hpre).quiet qd)
    clear p0 p1 p2 p3 d0 d1 cc hpre Q1
    generalize V1.drewN nq = V2 at *
    have p0 : V2.cell? ⟨B, 0, none⟩ = some (.int .i64 k) := (unhide hpre2).op.cell 0
    have p3 : V2.cell? ⟨B, 3, none⟩ = some (.int .i64 c) := (unhide hpre2).op.cell 3
    have d0 : V2.cell? ⟨M, 0, none⟩ = some (.int .i64 (S i).clock) := (unhide hpre2).mi.cell 0
    have d1 : V2.cell? ⟨M, 1, none⟩ = some (.int .i64 (S i).phase) := (unhide hpre2).mi.cell 1
    clear qd nq
    go_wp2
    go_ret
    exact ⟨rfl, unhide Q2⟩

set_option maxHeartbeats 8000000 in
set_option maxRecDepth 100000 in
theorem owed_time2 (w : World) (g : Nat) (vX vW vG : Value) (n : Nat) (h4 : n ≤ 4) (X : List Value) (W : List M4) (S : Nat → Nd) (H : GR w g vX vW vG n X W S) (i : Nat) (hi : i < n) (k b c : Int) (s t : ByteArray) (hk : 3 ≤ k) (hk5 : k ≤ 5) (hb : 0 ≤ b) (hb2 : b < (n : Int)) (hb3 : b ≠ i) (hck : (S i).clock ≤ 1152921504606846976) (hc : 1 ≤ c) (hc2 : 1152921504606846976 < c) :
    Calls Try.prog 25 #[ptr g, .agg #[.int .i64 k, .int .i64 i, .int .i64 b, .int .i64 c, .string s, .string t]] w fun e w' => e = .returned (.int .i64 4) ∧ Quiet w w' := by
  obtain ⟨gb, cg, rfl, m0, m1, m2, m3⟩ := H.mind hi
  obtain ⟨V, hV⟩ : ∃ V, w.alloc (.cells #[.int .i64 k, .int .i64 i, .int .i64 b, .int .i64 c, .string s, .string t] 44) = V := ⟨_, rfl⟩
  have q0 : Quiet w V := by rw [← hV]; exact (Chg.refl _ _).alloc _
  have bo : Blk V w.heap.size 44 [.int .i64 k, .int .i64 i, .int .i64 b, .int .i64 c, .string s, .string t] := by rw [← hV]; exact Blk.new w 44 _
  have c2 := q0.cell (H.blk.cell 2)
  have n0 := q0.cell m0
  have n1 := q0.cell m1
  have n2 := q0.cell m2
  have n3 := q0.cell m3
  have hgl := (q0.blk H.blk).lt
  have hgb : gb < V.heap.size := World.block_lt_of_cell? _ _ n0
  obtain ⟨B, hB⟩ : ∃ B, w.heap.size = B := ⟨_, rfl⟩
  rw [hB] at bo
  have hBl := bo.lt
  have o0 := bo.cell 0
  have o1 := bo.cell 1
  simp at o0 o1 c2
  have i0 : (0 : Int) ≤ (i : Int) := by omega
  have i1 : (i : Int) < (n : Int) := by omega
  have hpre : Hid (OwR ((V.alloc (.cells #[.int .i64 (S i).clock, .int .i64 (S i).phase, .int .i64 (S i).mine, .int .i64 (S i).acks] 80)).drew) B V.heap.size g gb n cg k i b c s t (S i)) :=
    ⟨(bo.alloc _).drew, (Blk.new V 80 _).drew, Quiet.cell (((Chg.refl _ V).alloc _).drew) c2⟩
  have Q0 := hide q0
  have k1 : decide (k < 1) = false := by simp; omega
  have k5 : decide (5 < k) = false := by simp; omega
  have k3 : decide (3 ≤ k) = true := by simp; omega
  have e1 : (k == 1) = false := by simp; omega
  have e2 : (k == 2) = false := by simp; omega
  have b1 : decide (b < 0) = false := by simp; omega
  have b2 : decide ((n : Int) ≤ b) = false := by simp; omega
  have b3 : (b == (i : Int)) = false := by simpa using hb3
  have x1 : decide (1152921504606846976 < (S i).clock) = false := by simp; omega
  have z1 : decide (c < 1) = false := by simp; omega
  have z2 : decide (1152921504606846976 < c) = true := by simpa using hc2
  clear hk hk5 hb hb2 hb3 hck hc hc2
  clear H q0 bo m0 m1 m2 m3
  unfold ptr
  go_enter Try.func25, Try.ntmps25
  go_wp2
  clear hV hB
  go_region_law (fail)
  all_goals
    have al : Quiet V ((V.alloc (.cells #[.int .i64 (S i).clock, .int .i64 (S i).phase, .int .i64 (S i).mine, .int .i64 (S i).acks] 80)).drew) := ((Chg.refl _ _).alloc _).drew
    have Q1 := hide (Quiet.trans (unhide Q0) al)
    have hMl := (unhide hpre).mi.lt
    have hgl2 : g < ((V.alloc (.cells #[.int .i64 (S i).clock, .int .i64 (S i).phase, .int .i64 (S i).mine, .int .i64 (S i).acks] 80)).drew).heap.size := by have := al.size; omega
    clear n0 n1 n2 n3 o0 o1 c2 al Q0 hgl hgb hBl
    generalize ((V.alloc (.cells #[.int .i64 (S i).clock, .int .i64 (S i).phase, .int .i64 (S i).mine, .int .i64 (S i).acks] 80)).drew) = V1 at *
    generalize V.heap.size = M at *
    have p0 : V1.cell? ⟨B, 0, none⟩ = some (.int .i64 k) := (unhide hpre).op.cell 0
    have p1 : V1.cell? ⟨B, 1, none⟩ = some (.int .i64 i) := (unhide hpre).op.cell 1
    have p2 : V1.cell? ⟨B, 2, none⟩ = some (.int .i64 b) := (unhide hpre).op.cell 2
    have p3 : V1.cell? ⟨B, 3, none⟩ = some (.int .i64 c) := (unhide hpre).op.cell 3
    have d0 : V1.cell? ⟨M, 0, none⟩ = some (.int .i64 (S i).clock) := (unhide hpre).mi.cell 0
    have d1 : V1.cell? ⟨M, 1, none⟩ = some (.int .i64 (S i).phase) := (unhide hpre).mi.cell 1
    have cc := (unhide hpre).c2
    go_wp2
    go_big_quiet (fail)
    have qd : Quiet V1 (V1.drewN nq) := (Chg.refl _ _).drewN nq
    have Q2 := hide (Quiet.trans (unhide Q1) qd)
    have hpre2 := hide ((unhide hpre).quiet qd)
    clear p0 p1 p2 p3 d0 d1 cc hpre Q1
    generalize V1.drewN nq = V2 at *
    have p0 : V2.cell? ⟨B, 0, none⟩ = some (.int .i64 k) := (unhide hpre2).op.cell 0
    have p3 : V2.cell? ⟨B, 3, none⟩ = some (.int .i64 c) := (unhide hpre2).op.cell 3
    have d0 : V2.cell? ⟨M, 0, none⟩ = some (.int .i64 (S i).clock) := (unhide hpre2).mi.cell 0
    have d1 : V2.cell? ⟨M, 1, none⟩ = some (.int .i64 (S i).phase) := (unhide hpre2).mi.cell 1
    clear qd nq
    go_wp2
    go_ret
    exact ⟨rfl, unhide Q2⟩

set_option maxHeartbeats 8000000 in
set_option maxRecDepth 100000 in
theorem owed_msg (w : World) (g : Nat) (vX vW vG : Value) (n : Nat) (h4 : n ≤ 4) (X : List Value) (W : List M4) (S : Nat → Nd) (H : GR w g vX vW vG n X W S) (i : Nat) (hi : i < n) (k b c : Int) (s t : ByteArray) (hk : 3 ≤ k) (hk5 : k ≤ 5) (hb : 0 ≤ b) (hb2 : b < (n : Int)) (hb3 : b ≠ i) (hck : (S i).clock ≤ 1152921504606846976) (hc : 1 ≤ c) (hc2 : c ≤ 1152921504606846976) :
    Calls Try.prog 25 #[ptr g, .agg #[.int .i64 k, .int .i64 i, .int .i64 b, .int .i64 c, .string s, .string t]] w fun e w' => e = .returned (.int .i64 0) ∧ Quiet w w' := by
  obtain ⟨gb, cg, rfl, m0, m1, m2, m3⟩ := H.mind hi
  obtain ⟨V, hV⟩ : ∃ V, w.alloc (.cells #[.int .i64 k, .int .i64 i, .int .i64 b, .int .i64 c, .string s, .string t] 44) = V := ⟨_, rfl⟩
  have q0 : Quiet w V := by rw [← hV]; exact (Chg.refl _ _).alloc _
  have bo : Blk V w.heap.size 44 [.int .i64 k, .int .i64 i, .int .i64 b, .int .i64 c, .string s, .string t] := by rw [← hV]; exact Blk.new w 44 _
  have c2 := q0.cell (H.blk.cell 2)
  have n0 := q0.cell m0
  have n1 := q0.cell m1
  have n2 := q0.cell m2
  have n3 := q0.cell m3
  have hgl := (q0.blk H.blk).lt
  have hgb : gb < V.heap.size := World.block_lt_of_cell? _ _ n0
  obtain ⟨B, hB⟩ : ∃ B, w.heap.size = B := ⟨_, rfl⟩
  rw [hB] at bo
  have hBl := bo.lt
  have o0 := bo.cell 0
  have o1 := bo.cell 1
  simp at o0 o1 c2
  have i0 : (0 : Int) ≤ (i : Int) := by omega
  have i1 : (i : Int) < (n : Int) := by omega
  have hpre : Hid (OwR ((V.alloc (.cells #[.int .i64 (S i).clock, .int .i64 (S i).phase, .int .i64 (S i).mine, .int .i64 (S i).acks] 80)).drew) B V.heap.size g gb n cg k i b c s t (S i)) :=
    ⟨(bo.alloc _).drew, (Blk.new V 80 _).drew, Quiet.cell (((Chg.refl _ V).alloc _).drew) c2⟩
  have Q0 := hide q0
  have k1 : decide (k < 1) = false := by simp; omega
  have k5 : decide (5 < k) = false := by simp; omega
  have k3 : decide (3 ≤ k) = true := by simp; omega
  have e1 : (k == 1) = false := by simp; omega
  have e2 : (k == 2) = false := by simp; omega
  have b1 : decide (b < 0) = false := by simp; omega
  have b2 : decide ((n : Int) ≤ b) = false := by simp; omega
  have b3 : (b == (i : Int)) = false := by simpa using hb3
  have x1 : decide (1152921504606846976 < (S i).clock) = false := by simp; omega
  have z1 : decide (c < 1) = false := by simp; omega
  have z2 : decide (1152921504606846976 < c) = false := by simp; omega
  clear hk hk5 hb hb2 hb3 hck hc hc2
  clear H q0 bo m0 m1 m2 m3
  unfold ptr
  go_enter Try.func25, Try.ntmps25
  go_wp2
  clear hV hB
  go_region_law (fail)
  all_goals
    have al : Quiet V ((V.alloc (.cells #[.int .i64 (S i).clock, .int .i64 (S i).phase, .int .i64 (S i).mine, .int .i64 (S i).acks] 80)).drew) := ((Chg.refl _ _).alloc _).drew
    have Q1 := hide (Quiet.trans (unhide Q0) al)
    have hMl := (unhide hpre).mi.lt
    have hgl2 : g < ((V.alloc (.cells #[.int .i64 (S i).clock, .int .i64 (S i).phase, .int .i64 (S i).mine, .int .i64 (S i).acks] 80)).drew).heap.size := by have := al.size; omega
    clear n0 n1 n2 n3 o0 o1 c2 al Q0 hgl hgb hBl
    generalize ((V.alloc (.cells #[.int .i64 (S i).clock, .int .i64 (S i).phase, .int .i64 (S i).mine, .int .i64 (S i).acks] 80)).drew) = V1 at *
    generalize V.heap.size = M at *
    have p0 : V1.cell? ⟨B, 0, none⟩ = some (.int .i64 k) := (unhide hpre).op.cell 0
    have p1 : V1.cell? ⟨B, 1, none⟩ = some (.int .i64 i) := (unhide hpre).op.cell 1
    have p2 : V1.cell? ⟨B, 2, none⟩ = some (.int .i64 b) := (unhide hpre).op.cell 2
    have p3 : V1.cell? ⟨B, 3, none⟩ = some (.int .i64 c) := (unhide hpre).op.cell 3
    have d0 : V1.cell? ⟨M, 0, none⟩ = some (.int .i64 (S i).clock) := (unhide hpre).mi.cell 0
    have d1 : V1.cell? ⟨M, 1, none⟩ = some (.int .i64 (S i).phase) := (unhide hpre).mi.cell 1
    have cc := (unhide hpre).c2
    go_wp2
    go_big_quiet (fail)
    have qd : Quiet V1 (V1.drewN nq) := (Chg.refl _ _).drewN nq
    have Q2 := hide (Quiet.trans (unhide Q1) qd)
    have hpre2 := hide ((unhide hpre).quiet qd)
    clear p0 p1 p2 p3 d0 d1 cc hpre Q1
    generalize V1.drewN nq = V2 at *
    have p0 : V2.cell? ⟨B, 0, none⟩ = some (.int .i64 k) := (unhide hpre2).op.cell 0
    have p3 : V2.cell? ⟨B, 3, none⟩ = some (.int .i64 c) := (unhide hpre2).op.cell 3
    have d0 : V2.cell? ⟨M, 0, none⟩ = some (.int .i64 (S i).clock) := (unhide hpre2).mi.cell 0
    have d1 : V2.cell? ⟨M, 1, none⟩ = some (.int .i64 (S i).phase) := (unhide hpre2).mi.cell 1
    clear qd nq
    go_wp2
    go_ret
    exact ⟨rfl, unhide Q2⟩

set_option maxHeartbeats 8000000 in
set_option maxRecDepth 100000 in
theorem owed_ask_bad (w : World) (g : Nat) (vX vW vG : Value) (n : Nat) (h4 : n ≤ 4) (X : List Value) (W : List M4) (S : Nat → Nd) (H : GR w g vX vW vG n X W S) (i : Nat) (hi : i < n) (k b c : Int) (s t : ByteArray) (hk : k = 1) (hck : (S i).clock ≤ 1152921504606846976) (hp : (S i).phase ≠ 0) :
    Calls Try.prog 25 #[ptr g, .agg #[.int .i64 k, .int .i64 i, .int .i64 b, .int .i64 c, .string s, .string t]] w fun e w' => e = .returned (.int .i64 5) ∧ Quiet w w' := by
  obtain ⟨gb, cg, rfl, m0, m1, m2, m3⟩ := H.mind hi
  obtain ⟨V, hV⟩ : ∃ V, w.alloc (.cells #[.int .i64 k, .int .i64 i, .int .i64 b, .int .i64 c, .string s, .string t] 44) = V := ⟨_, rfl⟩
  have q0 : Quiet w V := by rw [← hV]; exact (Chg.refl _ _).alloc _
  have bo : Blk V w.heap.size 44 [.int .i64 k, .int .i64 i, .int .i64 b, .int .i64 c, .string s, .string t] := by rw [← hV]; exact Blk.new w 44 _
  have c2 := q0.cell (H.blk.cell 2)
  have n0 := q0.cell m0
  have n1 := q0.cell m1
  have n2 := q0.cell m2
  have n3 := q0.cell m3
  have hgl := (q0.blk H.blk).lt
  have hgb : gb < V.heap.size := World.block_lt_of_cell? _ _ n0
  obtain ⟨B, hB⟩ : ∃ B, w.heap.size = B := ⟨_, rfl⟩
  rw [hB] at bo
  have hBl := bo.lt
  have o0 := bo.cell 0
  have o1 := bo.cell 1
  simp at o0 o1 c2
  have i0 : (0 : Int) ≤ (i : Int) := by omega
  have i1 : (i : Int) < (n : Int) := by omega
  have hpre : Hid (OwR ((V.alloc (.cells #[.int .i64 (S i).clock, .int .i64 (S i).phase, .int .i64 (S i).mine, .int .i64 (S i).acks] 80)).drew) B V.heap.size g gb n cg k i b c s t (S i)) :=
    ⟨(bo.alloc _).drew, (Blk.new V 80 _).drew, Quiet.cell (((Chg.refl _ V).alloc _).drew) c2⟩
  have Q0 := hide q0
  have x1 : decide (1152921504606846976 < (S i).clock) = false := by simp; omega
  have y1 : ((S i).phase == 0) = false := by simpa using hp
  have y2 : ((S i).phase != 0) = true := by rw [bne, y1]; rfl
  clear hck hp
  subst hk
  clear H q0 bo m0 m1 m2 m3
  unfold ptr
  go_enter Try.func25, Try.ntmps25
  go_wp2
  clear hV hB
  go_region_law (fail)
  all_goals
    have al : Quiet V ((V.alloc (.cells #[.int .i64 (S i).clock, .int .i64 (S i).phase, .int .i64 (S i).mine, .int .i64 (S i).acks] 80)).drew) := ((Chg.refl _ _).alloc _).drew
    have Q1 := hide (Quiet.trans (unhide Q0) al)
    have hMl := (unhide hpre).mi.lt
    have hgl2 : g < ((V.alloc (.cells #[.int .i64 (S i).clock, .int .i64 (S i).phase, .int .i64 (S i).mine, .int .i64 (S i).acks] 80)).drew).heap.size := by have := al.size; omega
    clear n0 n1 n2 n3 o0 o1 c2 al Q0 hgl hgb hBl
    generalize ((V.alloc (.cells #[.int .i64 (S i).clock, .int .i64 (S i).phase, .int .i64 (S i).mine, .int .i64 (S i).acks] 80)).drew) = V1 at *
    generalize V.heap.size = M at *
    have p0 : V1.cell? ⟨B, 0, none⟩ = some (.int .i64 1) := (unhide hpre).op.cell 0
    have p1 : V1.cell? ⟨B, 1, none⟩ = some (.int .i64 i) := (unhide hpre).op.cell 1
    have p2 : V1.cell? ⟨B, 2, none⟩ = some (.int .i64 b) := (unhide hpre).op.cell 2
    have p3 : V1.cell? ⟨B, 3, none⟩ = some (.int .i64 c) := (unhide hpre).op.cell 3
    have d0 : V1.cell? ⟨M, 0, none⟩ = some (.int .i64 (S i).clock) := (unhide hpre).mi.cell 0
    have d1 : V1.cell? ⟨M, 1, none⟩ = some (.int .i64 (S i).phase) := (unhide hpre).mi.cell 1
    have cc := (unhide hpre).c2
    go_wp2
    go_ret
    exact ⟨rfl, unhide Q1⟩

set_option maxHeartbeats 8000000 in
set_option maxRecDepth 100000 in
theorem owed_ask (w : World) (g : Nat) (vX vW vG : Value) (n : Nat) (h4 : n ≤ 4) (X : List Value) (W : List M4) (S : Nat → Nd) (H : GR w g vX vW vG n X W S) (i : Nat) (hi : i < n) (k b c : Int) (s t : ByteArray) (hk : k = 1) (hck : (S i).clock ≤ 1152921504606846976) (hp : (S i).phase = 0) :
    Calls Try.prog 25 #[ptr g, .agg #[.int .i64 k, .int .i64 i, .int .i64 b, .int .i64 c, .string s, .string t]] w fun e w' => e = .returned (.int .i64 0) ∧ Quiet w w' := by
  obtain ⟨gb, cg, rfl, m0, m1, m2, m3⟩ := H.mind hi
  obtain ⟨V, hV⟩ : ∃ V, w.alloc (.cells #[.int .i64 k, .int .i64 i, .int .i64 b, .int .i64 c, .string s, .string t] 44) = V := ⟨_, rfl⟩
  have q0 : Quiet w V := by rw [← hV]; exact (Chg.refl _ _).alloc _
  have bo : Blk V w.heap.size 44 [.int .i64 k, .int .i64 i, .int .i64 b, .int .i64 c, .string s, .string t] := by rw [← hV]; exact Blk.new w 44 _
  have c2 := q0.cell (H.blk.cell 2)
  have n0 := q0.cell m0
  have n1 := q0.cell m1
  have n2 := q0.cell m2
  have n3 := q0.cell m3
  have hgl := (q0.blk H.blk).lt
  have hgb : gb < V.heap.size := World.block_lt_of_cell? _ _ n0
  obtain ⟨B, hB⟩ : ∃ B, w.heap.size = B := ⟨_, rfl⟩
  rw [hB] at bo
  have hBl := bo.lt
  have o0 := bo.cell 0
  have o1 := bo.cell 1
  simp at o0 o1 c2
  have i0 : (0 : Int) ≤ (i : Int) := by omega
  have i1 : (i : Int) < (n : Int) := by omega
  have hpre : Hid (OwR ((V.alloc (.cells #[.int .i64 (S i).clock, .int .i64 (S i).phase, .int .i64 (S i).mine, .int .i64 (S i).acks] 80)).drew) B V.heap.size g gb n cg k i b c s t (S i)) :=
    ⟨(bo.alloc _).drew, (Blk.new V 80 _).drew, Quiet.cell (((Chg.refl _ V).alloc _).drew) c2⟩
  have Q0 := hide q0
  have x1 : decide (1152921504606846976 < (S i).clock) = false := by simp; omega
  have y1 : ((S i).phase == 0) = true := by simpa using hp
  have y2 : ((S i).phase != 0) = false := by rw [bne, y1]; rfl
  clear hck hp
  subst hk
  clear H q0 bo m0 m1 m2 m3
  unfold ptr
  go_enter Try.func25, Try.ntmps25
  go_wp2
  clear hV hB
  go_region_law (fail)
  all_goals
    have al : Quiet V ((V.alloc (.cells #[.int .i64 (S i).clock, .int .i64 (S i).phase, .int .i64 (S i).mine, .int .i64 (S i).acks] 80)).drew) := ((Chg.refl _ _).alloc _).drew
    have Q1 := hide (Quiet.trans (unhide Q0) al)
    have hMl := (unhide hpre).mi.lt
    have hgl2 : g < ((V.alloc (.cells #[.int .i64 (S i).clock, .int .i64 (S i).phase, .int .i64 (S i).mine, .int .i64 (S i).acks] 80)).drew).heap.size := by have := al.size; omega
    clear n0 n1 n2 n3 o0 o1 c2 al Q0 hgl hgb hBl
    generalize ((V.alloc (.cells #[.int .i64 (S i).clock, .int .i64 (S i).phase, .int .i64 (S i).mine, .int .i64 (S i).acks] 80)).drew) = V1 at *
    generalize V.heap.size = M at *
    have p0 : V1.cell? ⟨B, 0, none⟩ = some (.int .i64 1) := (unhide hpre).op.cell 0
    have p1 : V1.cell? ⟨B, 1, none⟩ = some (.int .i64 i) := (unhide hpre).op.cell 1
    have p2 : V1.cell? ⟨B, 2, none⟩ = some (.int .i64 b) := (unhide hpre).op.cell 2
    have p3 : V1.cell? ⟨B, 3, none⟩ = some (.int .i64 c) := (unhide hpre).op.cell 3
    have d0 : V1.cell? ⟨M, 0, none⟩ = some (.int .i64 (S i).clock) := (unhide hpre).mi.cell 0
    have d1 : V1.cell? ⟨M, 1, none⟩ = some (.int .i64 (S i).phase) := (unhide hpre).mi.cell 1
    have cc := (unhide hpre).c2
    go_wp2
    go_ret
    exact ⟨rfl, unhide Q1⟩

set_option maxHeartbeats 8000000 in
set_option maxRecDepth 100000 in
theorem owed_quit_bad (w : World) (g : Nat) (vX vW vG : Value) (n : Nat) (h4 : n ≤ 4) (X : List Value) (W : List M4) (S : Nat → Nd) (H : GR w g vX vW vG n X W S) (i : Nat) (hi : i < n) (k b c : Int) (s t : ByteArray) (hk : k = 2) (hck : (S i).clock ≤ 1152921504606846976) (hp : (S i).phase ≠ 2) :
    Calls Try.prog 25 #[ptr g, .agg #[.int .i64 k, .int .i64 i, .int .i64 b, .int .i64 c, .string s, .string t]] w fun e w' => e = .returned (.int .i64 5) ∧ Quiet w w' := by
  obtain ⟨gb, cg, rfl, m0, m1, m2, m3⟩ := H.mind hi
  obtain ⟨V, hV⟩ : ∃ V, w.alloc (.cells #[.int .i64 k, .int .i64 i, .int .i64 b, .int .i64 c, .string s, .string t] 44) = V := ⟨_, rfl⟩
  have q0 : Quiet w V := by rw [← hV]; exact (Chg.refl _ _).alloc _
  have bo : Blk V w.heap.size 44 [.int .i64 k, .int .i64 i, .int .i64 b, .int .i64 c, .string s, .string t] := by rw [← hV]; exact Blk.new w 44 _
  have c2 := q0.cell (H.blk.cell 2)
  have n0 := q0.cell m0
  have n1 := q0.cell m1
  have n2 := q0.cell m2
  have n3 := q0.cell m3
  have hgl := (q0.blk H.blk).lt
  have hgb : gb < V.heap.size := World.block_lt_of_cell? _ _ n0
  obtain ⟨B, hB⟩ : ∃ B, w.heap.size = B := ⟨_, rfl⟩
  rw [hB] at bo
  have hBl := bo.lt
  have o0 := bo.cell 0
  have o1 := bo.cell 1
  simp at o0 o1 c2
  have i0 : (0 : Int) ≤ (i : Int) := by omega
  have i1 : (i : Int) < (n : Int) := by omega
  have hpre : Hid (OwR ((V.alloc (.cells #[.int .i64 (S i).clock, .int .i64 (S i).phase, .int .i64 (S i).mine, .int .i64 (S i).acks] 80)).drew) B V.heap.size g gb n cg k i b c s t (S i)) :=
    ⟨(bo.alloc _).drew, (Blk.new V 80 _).drew, Quiet.cell (((Chg.refl _ V).alloc _).drew) c2⟩
  have Q0 := hide q0
  have x1 : decide (1152921504606846976 < (S i).clock) = false := by simp; omega
  have y1 : ((S i).phase == 2) = false := by simpa using hp
  have y2 : ((S i).phase != 2) = true := by rw [bne, y1]; rfl
  clear hck hp
  subst hk
  clear H q0 bo m0 m1 m2 m3
  unfold ptr
  go_enter Try.func25, Try.ntmps25
  go_wp2
  clear hV hB
  go_region_law (fail)
  all_goals
    have al : Quiet V ((V.alloc (.cells #[.int .i64 (S i).clock, .int .i64 (S i).phase, .int .i64 (S i).mine, .int .i64 (S i).acks] 80)).drew) := ((Chg.refl _ _).alloc _).drew
    have Q1 := hide (Quiet.trans (unhide Q0) al)
    have hMl := (unhide hpre).mi.lt
    have hgl2 : g < ((V.alloc (.cells #[.int .i64 (S i).clock, .int .i64 (S i).phase, .int .i64 (S i).mine, .int .i64 (S i).acks] 80)).drew).heap.size := by have := al.size; omega
    clear n0 n1 n2 n3 o0 o1 c2 al Q0 hgl hgb hBl
    generalize ((V.alloc (.cells #[.int .i64 (S i).clock, .int .i64 (S i).phase, .int .i64 (S i).mine, .int .i64 (S i).acks] 80)).drew) = V1 at *
    generalize V.heap.size = M at *
    have p0 : V1.cell? ⟨B, 0, none⟩ = some (.int .i64 2) := (unhide hpre).op.cell 0
    have p1 : V1.cell? ⟨B, 1, none⟩ = some (.int .i64 i) := (unhide hpre).op.cell 1
    have p2 : V1.cell? ⟨B, 2, none⟩ = some (.int .i64 b) := (unhide hpre).op.cell 2
    have p3 : V1.cell? ⟨B, 3, none⟩ = some (.int .i64 c) := (unhide hpre).op.cell 3
    have d0 : V1.cell? ⟨M, 0, none⟩ = some (.int .i64 (S i).clock) := (unhide hpre).mi.cell 0
    have d1 : V1.cell? ⟨M, 1, none⟩ = some (.int .i64 (S i).phase) := (unhide hpre).mi.cell 1
    have cc := (unhide hpre).c2
    go_wp2
    go_ret
    exact ⟨rfl, unhide Q1⟩

set_option maxHeartbeats 8000000 in
set_option maxRecDepth 100000 in
theorem owed_quit (w : World) (g : Nat) (vX vW vG : Value) (n : Nat) (h4 : n ≤ 4) (X : List Value) (W : List M4) (S : Nat → Nd) (H : GR w g vX vW vG n X W S) (i : Nat) (hi : i < n) (k b c : Int) (s t : ByteArray) (hk : k = 2) (hck : (S i).clock ≤ 1152921504606846976) (hp : (S i).phase = 2) :
    Calls Try.prog 25 #[ptr g, .agg #[.int .i64 k, .int .i64 i, .int .i64 b, .int .i64 c, .string s, .string t]] w fun e w' => e = .returned (.int .i64 0) ∧ Quiet w w' := by
  obtain ⟨gb, cg, rfl, m0, m1, m2, m3⟩ := H.mind hi
  obtain ⟨V, hV⟩ : ∃ V, w.alloc (.cells #[.int .i64 k, .int .i64 i, .int .i64 b, .int .i64 c, .string s, .string t] 44) = V := ⟨_, rfl⟩
  have q0 : Quiet w V := by rw [← hV]; exact (Chg.refl _ _).alloc _
  have bo : Blk V w.heap.size 44 [.int .i64 k, .int .i64 i, .int .i64 b, .int .i64 c, .string s, .string t] := by rw [← hV]; exact Blk.new w 44 _
  have c2 := q0.cell (H.blk.cell 2)
  have n0 := q0.cell m0
  have n1 := q0.cell m1
  have n2 := q0.cell m2
  have n3 := q0.cell m3
  have hgl := (q0.blk H.blk).lt
  have hgb : gb < V.heap.size := World.block_lt_of_cell? _ _ n0
  obtain ⟨B, hB⟩ : ∃ B, w.heap.size = B := ⟨_, rfl⟩
  rw [hB] at bo
  have hBl := bo.lt
  have o0 := bo.cell 0
  have o1 := bo.cell 1
  simp at o0 o1 c2
  have i0 : (0 : Int) ≤ (i : Int) := by omega
  have i1 : (i : Int) < (n : Int) := by omega
  have hpre : Hid (OwR ((V.alloc (.cells #[.int .i64 (S i).clock, .int .i64 (S i).phase, .int .i64 (S i).mine, .int .i64 (S i).acks] 80)).drew) B V.heap.size g gb n cg k i b c s t (S i)) :=
    ⟨(bo.alloc _).drew, (Blk.new V 80 _).drew, Quiet.cell (((Chg.refl _ V).alloc _).drew) c2⟩
  have Q0 := hide q0
  have x1 : decide (1152921504606846976 < (S i).clock) = false := by simp; omega
  have y1 : ((S i).phase == 2) = true := by simpa using hp
  have y2 : ((S i).phase != 2) = false := by rw [bne, y1]; rfl
  clear hck hp
  subst hk
  clear H q0 bo m0 m1 m2 m3
  unfold ptr
  go_enter Try.func25, Try.ntmps25
  go_wp2
  clear hV hB
  go_region_law (fail)
  all_goals
    have al : Quiet V ((V.alloc (.cells #[.int .i64 (S i).clock, .int .i64 (S i).phase, .int .i64 (S i).mine, .int .i64 (S i).acks] 80)).drew) := ((Chg.refl _ _).alloc _).drew
    have Q1 := hide (Quiet.trans (unhide Q0) al)
    have hMl := (unhide hpre).mi.lt
    have hgl2 : g < ((V.alloc (.cells #[.int .i64 (S i).clock, .int .i64 (S i).phase, .int .i64 (S i).mine, .int .i64 (S i).acks] 80)).drew).heap.size := by have := al.size; omega
    clear n0 n1 n2 n3 o0 o1 c2 al Q0 hgl hgb hBl
    generalize ((V.alloc (.cells #[.int .i64 (S i).clock, .int .i64 (S i).phase, .int .i64 (S i).mine, .int .i64 (S i).acks] 80)).drew) = V1 at *
    generalize V.heap.size = M at *
    have p0 : V1.cell? ⟨B, 0, none⟩ = some (.int .i64 2) := (unhide hpre).op.cell 0
    have p1 : V1.cell? ⟨B, 1, none⟩ = some (.int .i64 i) := (unhide hpre).op.cell 1
    have p2 : V1.cell? ⟨B, 2, none⟩ = some (.int .i64 b) := (unhide hpre).op.cell 2
    have p3 : V1.cell? ⟨B, 3, none⟩ = some (.int .i64 c) := (unhide hpre).op.cell 3
    have d0 : V1.cell? ⟨M, 0, none⟩ = some (.int .i64 (S i).clock) := (unhide hpre).mi.cell 0
    have d1 : V1.cell? ⟨M, 1, none⟩ = some (.int .i64 (S i).phase) := (unhide hpre).mi.cell 1
    have cc := (unhide hpre).c2
    go_wp2
    go_ret
    exact ⟨rfl, unhide Q1⟩

/-- What Owed answers. -/
def owedP (n i : Nat) (d : Nd) (k b c : Int) : Int :=
  if k < 1 ∨ 5 < k then 2
  else if 3 ≤ k ∧ (b < 0 ∨ (n : Int) ≤ b ∨ b = i) then 3
  else if 3 ≤ k ∧ (c < 1 ∨ 1152921504606846976 < c) then 4
  else if k = 1 ∧ d.phase ≠ 0 then 5
  else if k = 2 ∧ d.phase ≠ 2 then 5
  else 0
theorem owed_any (w : World) (g : Nat) (vX vW vG : Value) (n : Nat) (h4 : n ≤ 4) (X : List Value) (W : List M4) (S : Nat → Nd) (H : GR w g vX vW vG n X W S) (i : Nat) (hi : i < n) (hck : (S i).clock ≤ 1152921504606846976) (k b c : Int) (s t : ByteArray) :
    Calls Try.prog 25 #[ptr g, .agg #[.int .i64 k, .int .i64 i, .int .i64 b, .int .i64 c, .string s, .string t]] w fun e w' => e = .returned (.int .i64 (owedP n i (S i) k b c)) ∧ Quiet w w' := by
  unfold owedP
  split
  · rename_i h; exact owed_kind w g vX vW vG n h4 X W S H i hi k b c s t h
  · split
    · rename_i h0 h
      by_cases h1 : b < 0
      · exact owed_peer1 w g vX vW vG n h4 X W S H i hi k b c s t h.1 (by omega) h1
      by_cases h2 : (n : Int) ≤ b
      · exact owed_peer2 w g vX vW vG n h4 X W S H i hi k b c s t h.1 (by omega) (by omega) h2
      · exact owed_peer3 w g vX vW vG n h4 X W S H i hi k b c s t h.1 (by omega) (by omega)
    · split
      · rename_i h0 h1 h
        by_cases h2 : c < 1
        · exact owed_time1 w g vX vW vG n h4 X W S H i hi k b c s t h.1 (by omega) (by omega) (by omega) (by omega) hck h2
        · exact owed_time2 w g vX vW vG n h4 X W S H i hi k b c s t h.1 (by omega) (by omega) (by omega) (by omega) hck (by omega) (by omega)
      · rename_i h0 h1 h2
        by_cases h3 : 3 ≤ k
        · rw [if_neg (by omega), if_neg (by omega)]
          exact owed_msg w g vX vW vG n h4 X W S H i hi k b c s t h3 (by omega) (by omega) (by omega) (by omega) hck (by omega) (by omega)
        · by_cases h5 : k = 1
          · split
            · rename_i h; exact owed_ask_bad w g vX vW vG n h4 X W S H i hi k b c s t h5 hck h.2
            · rename_i h
              rw [if_neg (by omega)]
              exact owed_ask w g vX vW vG n h4 X W S H i hi k b c s t h5 hck (by omega)
          · rw [if_neg (by omega)]
            split
            · rename_i h; exact owed_quit_bad w g vX vW vG n h4 X W S H i hi k b c s t h.1 hck h.2
            · rename_i h
              exact owed_quit w g vX vW vG n h4 X W S H i hi k b c s t (by omega) hck (by omega)
end Go.Proofs.Qxb6500367a
