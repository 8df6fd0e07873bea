/-
  367 Keeps: Event's tail and middle. (gen7ev.py)
-/
import Derived.Test.Qxb6500367aKHeld
import Derived.Test.Qxb6500367aKSight
import Derived.Test.Qxb6500367aKSlack
import Derived.Test.Qxb6500367aQq
namespace Go.Proofs.Qxb6500367a
open Go.RowKit Go.Qx
set_option linter.unusedSimpArgs false
set_option linter.unusedVariables false

noncomputable def body26 : Code := match Try.f26.body with
  | some c => c
  | none => .skip
/-- Event behind its test of what a link brings. -/
noncomputable def mid26 : Code := cSnd (cSnd (cSnd (cSnd (cSnd (cSnd (cSnd body26))))))
/-- Event from Slack on. -/
noncomputable def tail26 : Code := cSnd mid26

/-- All that the law owns. -/
def OW (g : Nat) (vX vW vG : Value) (n : Nat) (P : Nat → Nat × Nat × Nat) (k : Nat) : Prop := ownR g vX vW vG k ∨ ∃ i, i < n ∧ ownP P i k
/-- What Event holds: the state, its boxes of the step and the answer. -/
structure EvIn (B : Nat) (V : World) (g : Nat) (vX vW vG : Value) (n : Nat) (P : Nat → Nat × Nat × Nat) (G S : Nat → Nd) (W : List M4) (Bo A : Nat) (k i b c : Int) (s t : ByteArray) (E N Mm : Int) (R : ByteArray) : Prop where
  ks : KS B V g vX vW vG n P G S W
  op : Blk V Bo 44 [.int .i64 k, .int .i64 i, .int .i64 b, .int .i64 c, .string s, .string t]
  an : Blk V A 65 [.int .i64 E, .int .i64 N, .int .i64 Mm, .string R]
  nB : ¬ OW g vX vW vG n P Bo
  nA : ¬ OW g vX vW vG n P A
section
variable {B : Nat} {V V' : World} {g : Nat} {vX vW vG : Value} {n : Nat} {P : Nat → Nat × Nat × Nat} {G S : Nat → Nd} {W : List M4} {Bo A : Nat} {k i b c : Int} {s t : ByteArray} {E N Mm : Int} {R : ByteArray}
theorem EvIn.quiet (h : EvIn B V g vX vW vG n P G S W Bo A k i b c s t E N Mm R) (q : Quiet V V') : EvIn B V' g vX vW vG n P G S W Bo A k i b c s t E N Mm R :=
  { h with ks := h.ks.quiet q, op := q.blk h.op, an := q.blk h.an }
/-- The wire turned, behind a call and the store of its field. -/
theorem EvIn.wire (h : EvIn B V g vX vW vG n P G S W Bo A k i b c s t E N Mm R) {u : Value} {W' : List M4} (hw : PW V vW V' u W') : EvIn B (V'.setCell ⟨g, 1, none⟩ u) g vX u vG n P G S W' Bo A k i b c s t E N Mm R ∧ Chg (fun k => B ≤ k) V (V'.setCell ⟨g, 1, none⟩ u) := by
  obtain ⟨hr, hc, hg⟩ := hw
  have hg' : ∀ b, u.ownBlock = some b → vW.ownBlock = some b ∨ V.heap.size ≤ b := fun b hb => by
    rcases hg b hb with h1 | h1
    · exact .inl h1
    · exact .inr (by omega)
  have ng : ∀ z, ¬ OW g vX vW vG n P z → z ≠ g ∧ vW.ownBlock ≠ some z := fun z hz => ⟨fun e => hz (.inl (.inl e)), fun e => hz (.inl (.inr (.inr (.inl e))))⟩
  have keep : ∀ z, z < V.heap.size → ¬ OW g vX vW vG n P z → ¬ OW g vX u vG n P z := by
    intro z hl hz h2
    rcases h2 with (e | e | e | e) | e
    · exact hz (.inl (.inl e))
    · exact hz (.inl (.inr (.inl e)))
    · rcases hg' z e with h1 | h1
      · exact hz (.inl (.inr (.inr (.inl h1))))
      · omega
    · exact hz (.inl (.inr (.inr (.inr e))))
    · exact hz (.inr e)
  have c2 : Chg (fun x => x = g) V' (V'.setCell ⟨g, 1, none⟩ u) := Chg.setCell (S := fun x => x = g) (p := ⟨g, 1, none⟩) (Chg.refl _ V') (.inl rfl) u
  refine ⟨⟨h.ks.wire hr hc hg', c2.blk (hc.blk h.op (ng Bo h.nB).2) (ng Bo h.nB).1, c2.blk (hc.blk h.an (ng A h.nA).2) (ng A h.nA).1, keep Bo h.op.lt h.nB, keep A h.an.lt h.nA⟩, ?_⟩
  exact (hc.mono (fun k _ hk => h.ks.lo k (.inr (.inr (.inl hk))))).trans (c2.mono (fun k _ hk => by rw [hk]; exact h.ks.lo g (.inl rfl)))
end

set_option maxHeartbeats 8000000 in
set_option maxRecDepth 100000 in
theorem evT_quiet (B : Nat) (V : World) (g : Nat) (vX vW vG : Value) (n : Nat) (h4 : n ≤ 4) (P : Nat → Nat × Nat × Nat) (S : Nat → Nd) (W : List M4) (Bo A : Nat) (k b c : Int) (i : Nat) (hi : i < n) (s t : ByteArray) (E N Mm : Int) (R : ByteArray)
    (Hn : EvIn B V g vX vW vG n P S S W Bo A k i b c s t E N Mm R) (hI : ∀ j, j < n → Inv (S j)) (h36 : W.length ≤ 36) (hs : ∀ j, W.countP (onLink i j) ≤ 3) (x : Nat) (hx : x = (P i).1) (ow rs : ByteArray) 
    (u1 u3 u4 u6 u7 u13 u14 u15 u16 u17 u18 u19 u20 u21 u22 u23 u24 u25 u26 u27 u28 u29 u30 u31 u32 u33 u34 u35 u36 u37 u38 u39 u40 u41 u42 u43 u44 u45 u46 u47 u48 u49 u50 u51 u52 u53 u54 u55 u56 u57 u58 u59 u60 u61 u62 u63 u64 u65 u66 u67 u68 u69 u70 u71 u72 u73 u74 u75 u76 u77 u78 u79 u80 u81 u82 u83 u84 u85 u86 u87 u88 u89 u90 u91 u92 u93 u94 u95 u96 u97 u98 u99 u100 u101 u102 u103 u104 u105 u106 u107 u108 u109 u110 u111 u112 u113 u114 u115 u116 u117 u118 u119 u120 u121 u122 u123 u124 u125 u126 u127 u128 u129 u130 u131 u132 u133 u134 u135 u136 u137 u138 u139 u140 u141 : Value) (Q : Ending → World → Prop)
    (hQ : ∀ wx, Quiet V wx → Q (.returned (.bool true)) wx) :
    Code.wp Try.prog tail26 (bodyPost Try.prog Try.f26 Q) ⟨(Value.pointer (some ⟨g, 0, none⟩) :: u1 :: Value.bool true :: u3 :: u4 :: Value.pointer (some ⟨Bo, 0, none⟩) :: u6 :: u7 :: Value.bool false :: Value.pointer (some ⟨x, 0, none⟩) :: Value.string ow :: Value.string rs :: Value.pointer (some ⟨A, 0, none⟩) :: u13 :: u14 :: u15 :: u16 :: u17 :: u18 :: u19 :: u20 :: u21 :: u22 :: u23 :: u24 :: u25 :: u26 :: u27 :: u28 :: u29 :: u30 :: u31 :: u32 :: u33 :: u34 :: u35 :: u36 :: u37 :: u38 :: u39 :: u40 :: u41 :: u42 :: u43 :: u44 :: u45 :: u46 :: u47 :: u48 :: u49 :: u50 :: u51 :: u52 :: u53 :: u54 :: u55 :: u56 :: u57 :: u58 :: u59 :: u60 :: u61 :: u62 :: u63 :: u64 :: u65 :: u66 :: u67 :: u68 :: u69 :: u70 :: u71 :: u72 :: u73 :: u74 :: u75 :: u76 :: u77 :: u78 :: u79 :: u80 :: u81 :: u82 :: u83 :: u84 :: u85 :: u86 :: u87 :: u88 :: u89 :: u90 :: u91 :: u92 :: u93 :: u94 :: u95 :: u96 :: u97 :: u98 :: u99 :: u100 :: u101 :: u102 :: u103 :: u104 :: u105 :: u106 :: u107 :: u108 :: u109 :: u110 :: u111 :: u112 :: u113 :: u114 :: u115 :: u116 :: u117 :: u118 :: u119 :: u120 :: u121 :: u122 :: u123 :: u124 :: u125 :: u126 :: u127 :: u128 :: u129 :: u130 :: u131 :: u132 :: u133 :: u134 :: u135 :: u136 :: u137 :: u138 :: u139 :: u140 :: u141 :: ([] : List Value)).toArray, []⟩ V := by
  conv => arg 2; whnf
  subst hx
  have o0 : V.cell? ⟨Bo, 0, none⟩ = some (.int .i64 k) := Hn.op.cell 0
  have o1 : V.cell? ⟨Bo, 1, none⟩ = some (.int .i64 i) := Hn.op.cell 1
  have hsl := hide (slack_any V g vX vW vG n h4 _ W S Hn.ks.gr h36 i hs)
  have HnH := hide Hn
  have hQH := hide hQ
  have hIH := hide hI
  unfold ptr at hsl
  clear Hn hQ hI hs
  go_wp2_with fail
  refine (unhide hsl).mono ?_
  clear hsl
  rintro e V1 ⟨rfl, rfl⟩
  go_wp2
  exact unhide hQH _ (Quiet.refl _)

set_option maxHeartbeats 8000000 in
set_option maxRecDepth 100000 in
theorem evT_err (B : Nat) (V : World) (g : Nat) (vX vW vG : Value) (n : Nat) (h4 : n ≤ 4) (P : Nat → Nat × Nat × Nat) (S : Nat → Nd) (W : List M4) (Bo A : Nat) (k b c : Int) (i : Nat) (hi : i < n) (s t : ByteArray) (E N Mm : Int) (R : ByteArray)
    (Hn : EvIn B V g vX vW vG n P S S W Bo A k i b c s t E N Mm R) (hI : ∀ j, j < n → Inv (S j)) (h36 : W.length ≤ 36) (hs : ∀ j, W.countP (onLink i j) ≤ 3) (x : Nat) (hx : x = (P i).1) (ow rs : ByteArray) (hE : E ≠ 0) (hk9 : k ≠ 9) (hk10 : k ≠ 10) (hL : str (showP (S i)) = ow) (hR : str (sightP S i n) = rs)
    (u1 u3 u4 u6 u7 u13 u14 u15 u16 u17 u18 u19 u20 u21 u22 u23 u24 u25 u26 u27 u28 u29 u30 u31 u32 u33 u34 u35 u36 u37 u38 u39 u40 u41 u42 u43 u44 u45 u46 u47 u48 u49 u50 u51 u52 u53 u54 u55 u56 u57 u58 u59 u60 u61 u62 u63 u64 u65 u66 u67 u68 u69 u70 u71 u72 u73 u74 u75 u76 u77 u78 u79 u80 u81 u82 u83 u84 u85 u86 u87 u88 u89 u90 u91 u92 u93 u94 u95 u96 u97 u98 u99 u100 u101 u102 u103 u104 u105 u106 u107 u108 u109 u110 u111 u112 u113 u114 u115 u116 u117 u118 u119 u120 u121 u122 u123 u124 u125 u126 u127 u128 u129 u130 u131 u132 u133 u134 u135 u136 u137 u138 u139 u140 u141 : Value) (Q : Ending → World → Prop)
    (hQ : ∀ wx, Quiet V wx → Q (.returned (.bool true)) wx) :
    Code.wp Try.prog tail26 (bodyPost Try.prog Try.f26 Q) ⟨(Value.pointer (some ⟨g, 0, none⟩) :: u1 :: Value.bool false :: u3 :: u4 :: Value.pointer (some ⟨Bo, 0, none⟩) :: u6 :: u7 :: Value.bool false :: Value.pointer (some ⟨x, 0, none⟩) :: Value.string ow :: Value.string rs :: Value.pointer (some ⟨A, 0, none⟩) :: u13 :: u14 :: u15 :: u16 :: u17 :: u18 :: u19 :: u20 :: u21 :: u22 :: u23 :: u24 :: u25 :: u26 :: u27 :: u28 :: u29 :: u30 :: u31 :: u32 :: u33 :: u34 :: u35 :: u36 :: u37 :: u38 :: u39 :: u40 :: u41 :: u42 :: u43 :: u44 :: u45 :: u46 :: u47 :: u48 :: u49 :: u50 :: u51 :: u52 :: u53 :: u54 :: u55 :: u56 :: u57 :: u58 :: u59 :: u60 :: u61 :: u62 :: u63 :: u64 :: u65 :: u66 :: u67 :: u68 :: u69 :: u70 :: u71 :: u72 :: u73 :: u74 :: u75 :: u76 :: u77 :: u78 :: u79 :: u80 :: u81 :: u82 :: u83 :: u84 :: u85 :: u86 :: u87 :: u88 :: u89 :: u90 :: u91 :: u92 :: u93 :: u94 :: u95 :: u96 :: u97 :: u98 :: u99 :: u100 :: u101 :: u102 :: u103 :: u104 :: u105 :: u106 :: u107 :: u108 :: u109 :: u110 :: u111 :: u112 :: u113 :: u114 :: u115 :: u116 :: u117 :: u118 :: u119 :: u120 :: u121 :: u122 :: u123 :: u124 :: u125 :: u126 :: u127 :: u128 :: u129 :: u130 :: u131 :: u132 :: u133 :: u134 :: u135 :: u136 :: u137 :: u138 :: u139 :: u140 :: u141 :: ([] : List Value)).toArray, []⟩ V := by
  conv => arg 2; whnf
  subst hx
  have o0 : V.cell? ⟨Bo, 0, none⟩ = some (.int .i64 k) := Hn.op.cell 0
  have o1 : V.cell? ⟨Bo, 1, none⟩ = some (.int .i64 i) := Hn.op.cell 1
  have hsl := hide (slack_any V g vX vW vG n h4 _ W S Hn.ks.gr h36 i hs)
  have HnH := hide Hn
  have hQH := hide hQ
  have hIH := hide hI
  unfold ptr at hsl
  have e1 : (E == 0) = false := by simpa using hE
  have e2 : (E != 0) = true := by rw [bne, e1]; rfl
  have k9 : (k == 9) = false := by simpa using hk9
  have k10 : (k == 10) = false := by simpa using hk10
  clear hE hk9 hk10
  have hLe : str (showP (S i)) = ow := hL
  have hRe : str (sightP S i n) = rs := hR
  have hLH := hide hLe
  have hRH := hide hRe
  clear hL hR hLe hRe
  clear Hn hQ hI hs
  go_wp2_with fail
  refine (unhide hsl).mono ?_
  clear hsl
  rintro e V1 ⟨rfl, rfl⟩
  have a0 : V1.cell? ⟨A, 0, none⟩ = some (.int .i64 E) := (unhide HnH).an.cell 0
  have a3 : V1.cell? ⟨A, 3, none⟩ = some (.string R) := (unhide HnH).an.cell 3
  have hsh := hide (show_any V1 _ _ _ _ ((unhide HnH).ks.rep i hi) (unhide hIH i hi).shows)
  unfold ptr at hsh
  go_wp2_with fail
  rw [unhide hLH] at hsh
  refine (unhide hsh).mono ?_
  clear hsh
  rintro e V2 ⟨rfl, q2⟩
  have H2 := hide ((unhide HnH).quiet q2)
  have Q2 := hide q2
  clear q2 HnH o0 o1 a0 a3
  have o0 : V2.cell? ⟨Bo, 0, none⟩ = some (.int .i64 k) := (unhide H2).op.cell 0
  have o1 : V2.cell? ⟨Bo, 1, none⟩ = some (.int .i64 i) := (unhide H2).op.cell 1
  have a0 : V2.cell? ⟨A, 0, none⟩ = some (.int .i64 E) := (unhide H2).an.cell 0
  have hsi := hide (sight_any B V2 g vX vW vG n P S S W (unhide H2).ks h4 (fun j hj => (unhide hIH j hj).shows) i)
  unfold ptr at hsi
  rw [unhide hRH] at hsi
  go_wp2_with fail
  refine (unhide hsi).mono ?_
  clear hsi
  rintro e V3 ⟨rfl, q3⟩
  have H3 := hide ((unhide H2).quiet q3)
  have Q3 := hide (Quiet.trans (unhide Q2) q3)
  clear q3 H2 Q2 o0 o1 a0
  have hck := hide (check_any V3 _ _ _ _ ((unhide H3).ks.rep i hi) (unhide hIH i hi))
  unfold ptr at hck
  go_wp2_with fail
  refine (unhide hck).mono ?_
  clear hck
  rintro e V4 ⟨rfl, q4⟩
  go_wp2
  exact unhide hQH _ (Quiet.trans (unhide Q3) q4)

set_option maxHeartbeats 8000000 in
set_option maxRecDepth 100000 in
theorem evT_show (B : Nat) (V : World) (g : Nat) (vX vW vG : Value) (n : Nat) (h4 : n ≤ 4) (P : Nat → Nat × Nat × Nat) (S : Nat → Nd) (W : List M4) (Bo A : Nat) (k b c : Int) (i : Nat) (hi : i < n) (s t : ByteArray) (E N Mm : Int) (R : ByteArray)
    (Hn : EvIn B V g vX vW vG n P S S W Bo A k i b c s t E N Mm R) (hI : ∀ j, j < n → Inv (S j)) (h36 : W.length ≤ 36) (hs : ∀ j, W.countP (onLink i j) ≤ 3) (x : Nat) (hx : x = (P i).1) (ow rs : ByteArray) (hE : E = 0) (hk9 : k = 9) (hRR : ow = R) (hL : str (showP (S i)) = ow) (hR : str (sightP S i n) = rs)
    (u1 u3 u4 u6 u7 u13 u14 u15 u16 u17 u18 u19 u20 u21 u22 u23 u24 u25 u26 u27 u28 u29 u30 u31 u32 u33 u34 u35 u36 u37 u38 u39 u40 u41 u42 u43 u44 u45 u46 u47 u48 u49 u50 u51 u52 u53 u54 u55 u56 u57 u58 u59 u60 u61 u62 u63 u64 u65 u66 u67 u68 u69 u70 u71 u72 u73 u74 u75 u76 u77 u78 u79 u80 u81 u82 u83 u84 u85 u86 u87 u88 u89 u90 u91 u92 u93 u94 u95 u96 u97 u98 u99 u100 u101 u102 u103 u104 u105 u106 u107 u108 u109 u110 u111 u112 u113 u114 u115 u116 u117 u118 u119 u120 u121 u122 u123 u124 u125 u126 u127 u128 u129 u130 u131 u132 u133 u134 u135 u136 u137 u138 u139 u140 u141 : Value) (Q : Ending → World → Prop)
    (hQ : ∀ wx, Quiet V wx → Q (.returned (.bool true)) wx) :
    Code.wp Try.prog tail26 (bodyPost Try.prog Try.f26 Q) ⟨(Value.pointer (some ⟨g, 0, none⟩) :: u1 :: Value.bool false :: u3 :: u4 :: Value.pointer (some ⟨Bo, 0, none⟩) :: u6 :: u7 :: Value.bool false :: Value.pointer (some ⟨x, 0, none⟩) :: Value.string ow :: Value.string rs :: Value.pointer (some ⟨A, 0, none⟩) :: u13 :: u14 :: u15 :: u16 :: u17 :: u18 :: u19 :: u20 :: u21 :: u22 :: u23 :: u24 :: u25 :: u26 :: u27 :: u28 :: u29 :: u30 :: u31 :: u32 :: u33 :: u34 :: u35 :: u36 :: u37 :: u38 :: u39 :: u40 :: u41 :: u42 :: u43 :: u44 :: u45 :: u46 :: u47 :: u48 :: u49 :: u50 :: u51 :: u52 :: u53 :: u54 :: u55 :: u56 :: u57 :: u58 :: u59 :: u60 :: u61 :: u62 :: u63 :: u64 :: u65 :: u66 :: u67 :: u68 :: u69 :: u70 :: u71 :: u72 :: u73 :: u74 :: u75 :: u76 :: u77 :: u78 :: u79 :: u80 :: u81 :: u82 :: u83 :: u84 :: u85 :: u86 :: u87 :: u88 :: u89 :: u90 :: u91 :: u92 :: u93 :: u94 :: u95 :: u96 :: u97 :: u98 :: u99 :: u100 :: u101 :: u102 :: u103 :: u104 :: u105 :: u106 :: u107 :: u108 :: u109 :: u110 :: u111 :: u112 :: u113 :: u114 :: u115 :: u116 :: u117 :: u118 :: u119 :: u120 :: u121 :: u122 :: u123 :: u124 :: u125 :: u126 :: u127 :: u128 :: u129 :: u130 :: u131 :: u132 :: u133 :: u134 :: u135 :: u136 :: u137 :: u138 :: u139 :: u140 :: u141 :: ([] : List Value)).toArray, []⟩ V := by
  conv => arg 2; whnf
  subst hx
  have o0 : V.cell? ⟨Bo, 0, none⟩ = some (.int .i64 k) := Hn.op.cell 0
  have o1 : V.cell? ⟨Bo, 1, none⟩ = some (.int .i64 i) := Hn.op.cell 1
  have hsl := hide (slack_any V g vX vW vG n h4 _ W S Hn.ks.gr h36 i hs)
  have HnH := hide Hn
  have hQH := hide hQ
  have hIH := hide hI
  unfold ptr at hsl
  subst hE hRR hk9
  have hLe : str (showP (S i)) = ow := hL
  have hRe : str (sightP S i n) = rs := hR
  have hLH := hide hLe
  have hRH := hide hRe
  clear hL hR hLe hRe
  clear Hn hQ hI hs
  go_wp2_with fail
  refine (unhide hsl).mono ?_
  clear hsl
  rintro e V1 ⟨rfl, rfl⟩
  have a0 : V1.cell? ⟨A, 0, none⟩ = some (.int .i64 0) := (unhide HnH).an.cell 0
  have a3 : V1.cell? ⟨A, 3, none⟩ = some (.string ow) := (unhide HnH).an.cell 3
  have hsh := hide (show_any V1 _ _ _ _ ((unhide HnH).ks.rep i hi) (unhide hIH i hi).shows)
  unfold ptr at hsh
  go_wp2_with fail
  rw [unhide hLH] at hsh
  refine (unhide hsh).mono ?_
  clear hsh
  rintro e V2 ⟨rfl, q2⟩
  have H2 := hide ((unhide HnH).quiet q2)
  have Q2 := hide q2
  clear q2 HnH o0 o1 a0 a3
  have o0 : V2.cell? ⟨Bo, 0, none⟩ = some (.int .i64 9) := (unhide H2).op.cell 0
  have o1 : V2.cell? ⟨Bo, 1, none⟩ = some (.int .i64 i) := (unhide H2).op.cell 1
  have a0 : V2.cell? ⟨A, 0, none⟩ = some (.int .i64 0) := (unhide H2).an.cell 0
  have hsi := hide (sight_any B V2 g vX vW vG n P S S W (unhide H2).ks h4 (fun j hj => (unhide hIH j hj).shows) i)
  unfold ptr at hsi
  rw [unhide hRH] at hsi
  go_wp2_with fail
  refine (unhide hsi).mono ?_
  clear hsi
  rintro e V3 ⟨rfl, q3⟩
  have H3 := hide ((unhide H2).quiet q3)
  have Q3 := hide (Quiet.trans (unhide Q2) q3)
  clear q3 H2 Q2 o0 o1 a0
  have hck := hide (check_any V3 _ _ _ _ ((unhide H3).ks.rep i hi) (unhide hIH i hi))
  unfold ptr at hck
  go_wp2_with fail
  refine (unhide hck).mono ?_
  clear hck
  rintro e V4 ⟨rfl, q4⟩
  go_wp2
  exact unhide hQH _ (Quiet.trans (unhide Q3) q4)

set_option maxHeartbeats 8000000 in
set_option maxRecDepth 100000 in
theorem evT_check (B : Nat) (V : World) (g : Nat) (vX vW vG : Value) (n : Nat) (h4 : n ≤ 4) (P : Nat → Nat × Nat × Nat) (S : Nat → Nd) (W : List M4) (Bo A : Nat) (k b c : Int) (i : Nat) (hi : i < n) (s t : ByteArray) (E N Mm : Int) (R : ByteArray)
    (Hn : EvIn B V g vX vW vG n P S S W Bo A k i b c s t E N Mm R) (hI : ∀ j, j < n → Inv (S j)) (h36 : W.length ≤ 36) (hs : ∀ j, W.countP (onLink i j) ≤ 3) (x : Nat) (hx : x = (P i).1) (ow rs : ByteArray) (hE : E = 0) (hk9 : k = 10) (hL : str (showP (S i)) = ow) (hR : str (sightP S i n) = rs)
    (u1 u3 u4 u6 u7 u13 u14 u15 u16 u17 u18 u19 u20 u21 u22 u23 u24 u25 u26 u27 u28 u29 u30 u31 u32 u33 u34 u35 u36 u37 u38 u39 u40 u41 u42 u43 u44 u45 u46 u47 u48 u49 u50 u51 u52 u53 u54 u55 u56 u57 u58 u59 u60 u61 u62 u63 u64 u65 u66 u67 u68 u69 u70 u71 u72 u73 u74 u75 u76 u77 u78 u79 u80 u81 u82 u83 u84 u85 u86 u87 u88 u89 u90 u91 u92 u93 u94 u95 u96 u97 u98 u99 u100 u101 u102 u103 u104 u105 u106 u107 u108 u109 u110 u111 u112 u113 u114 u115 u116 u117 u118 u119 u120 u121 u122 u123 u124 u125 u126 u127 u128 u129 u130 u131 u132 u133 u134 u135 u136 u137 u138 u139 u140 u141 : Value) (Q : Ending → World → Prop)
    (hQ : ∀ wx, Quiet V wx → Q (.returned (.bool true)) wx) :
    Code.wp Try.prog tail26 (bodyPost Try.prog Try.f26 Q) ⟨(Value.pointer (some ⟨g, 0, none⟩) :: u1 :: Value.bool false :: u3 :: u4 :: Value.pointer (some ⟨Bo, 0, none⟩) :: u6 :: u7 :: Value.bool false :: Value.pointer (some ⟨x, 0, none⟩) :: Value.string ow :: Value.string rs :: Value.pointer (some ⟨A, 0, none⟩) :: u13 :: u14 :: u15 :: u16 :: u17 :: u18 :: u19 :: u20 :: u21 :: u22 :: u23 :: u24 :: u25 :: u26 :: u27 :: u28 :: u29 :: u30 :: u31 :: u32 :: u33 :: u34 :: u35 :: u36 :: u37 :: u38 :: u39 :: u40 :: u41 :: u42 :: u43 :: u44 :: u45 :: u46 :: u47 :: u48 :: u49 :: u50 :: u51 :: u52 :: u53 :: u54 :: u55 :: u56 :: u57 :: u58 :: u59 :: u60 :: u61 :: u62 :: u63 :: u64 :: u65 :: u66 :: u67 :: u68 :: u69 :: u70 :: u71 :: u72 :: u73 :: u74 :: u75 :: u76 :: u77 :: u78 :: u79 :: u80 :: u81 :: u82 :: u83 :: u84 :: u85 :: u86 :: u87 :: u88 :: u89 :: u90 :: u91 :: u92 :: u93 :: u94 :: u95 :: u96 :: u97 :: u98 :: u99 :: u100 :: u101 :: u102 :: u103 :: u104 :: u105 :: u106 :: u107 :: u108 :: u109 :: u110 :: u111 :: u112 :: u113 :: u114 :: u115 :: u116 :: u117 :: u118 :: u119 :: u120 :: u121 :: u122 :: u123 :: u124 :: u125 :: u126 :: u127 :: u128 :: u129 :: u130 :: u131 :: u132 :: u133 :: u134 :: u135 :: u136 :: u137 :: u138 :: u139 :: u140 :: u141 :: ([] : List Value)).toArray, []⟩ V := by
  conv => arg 2; whnf
  subst hx
  have o0 : V.cell? ⟨Bo, 0, none⟩ = some (.int .i64 k) := Hn.op.cell 0
  have o1 : V.cell? ⟨Bo, 1, none⟩ = some (.int .i64 i) := Hn.op.cell 1
  have hsl := hide (slack_any V g vX vW vG n h4 _ W S Hn.ks.gr h36 i hs)
  have HnH := hide Hn
  have hQH := hide hQ
  have hIH := hide hI
  unfold ptr at hsl
  subst hE hk9
  have hLe : str (showP (S i)) = ow := hL
  have hRe : str (sightP S i n) = rs := hR
  have hLH := hide hLe
  have hRH := hide hRe
  clear hL hR hLe hRe
  clear Hn hQ hI hs
  go_wp2_with fail
  refine (unhide hsl).mono ?_
  clear hsl
  rintro e V1 ⟨rfl, rfl⟩
  have a0 : V1.cell? ⟨A, 0, none⟩ = some (.int .i64 0) := (unhide HnH).an.cell 0
  have a3 : V1.cell? ⟨A, 3, none⟩ = some (.string R) := (unhide HnH).an.cell 3
  have hsh := hide (show_any V1 _ _ _ _ ((unhide HnH).ks.rep i hi) (unhide hIH i hi).shows)
  unfold ptr at hsh
  go_wp2_with fail
  rw [unhide hLH] at hsh
  refine (unhide hsh).mono ?_
  clear hsh
  rintro e V2 ⟨rfl, q2⟩
  have H2 := hide ((unhide HnH).quiet q2)
  have Q2 := hide q2
  clear q2 HnH o0 o1 a0 a3
  have o0 : V2.cell? ⟨Bo, 0, none⟩ = some (.int .i64 10) := (unhide H2).op.cell 0
  have o1 : V2.cell? ⟨Bo, 1, none⟩ = some (.int .i64 i) := (unhide H2).op.cell 1
  have a0 : V2.cell? ⟨A, 0, none⟩ = some (.int .i64 0) := (unhide H2).an.cell 0
  have hsi := hide (sight_any B V2 g vX vW vG n P S S W (unhide H2).ks h4 (fun j hj => (unhide hIH j hj).shows) i)
  unfold ptr at hsi
  rw [unhide hRH] at hsi
  go_wp2_with fail
  refine (unhide hsi).mono ?_
  clear hsi
  rintro e V3 ⟨rfl, q3⟩
  have H3 := hide ((unhide H2).quiet q3)
  have Q3 := hide (Quiet.trans (unhide Q2) q3)
  clear q3 H2 Q2 o0 o1 a0
  have hck := hide (check_any V3 _ _ _ _ ((unhide H3).ks.rep i hi) (unhide hIH i hi))
  unfold ptr at hck
  go_wp2_with fail
  refine (unhide hck).mono ?_
  clear hck
  rintro e V4 ⟨rfl, q4⟩
  go_wp2
  exact unhide hQH _ (Quiet.trans (unhide Q3) q4)

set_option maxHeartbeats 8000000 in
set_option maxRecDepth 100000 in
theorem evT_take (B : Nat) (V : World) (g : Nat) (vX vW vG : Value) (n : Nat) (h4 : n ≤ 4) (P : Nat → Nat × Nat × Nat) (S : Nat → Nd) (W : List M4) (Bo A : Nat) (k b c : Int) (i : Nat) (hi : i < n) (s t : ByteArray) (E N Mm : Int) (R : ByteArray)
    (Hn : EvIn B V g vX vW vG n P S S W Bo A k i b c s t E N Mm R) (hI : ∀ j, j < n → Inv (S j)) (h36 : W.length ≤ 36) (hs : ∀ j, W.countP (onLink i j) ≤ 3) (x : Nat) (hx : x = (P i).1) (ow rs : ByteArray) (hE : E = 0) (hk9 : k ≠ 9) (hk10 : k ≠ 10) (hL : str (showP (S i)) ≠ ow) (hR : str (sightP S i n) = rs)
    (u1 u3 u4 u6 u7 u13 u14 u15 u16 u17 u18 u19 u20 u21 u22 u23 u24 u25 u26 u27 u28 u29 u30 u31 u32 u33 u34 u35 u36 u37 u38 u39 u40 u41 u42 u43 u44 u45 u46 u47 u48 u49 u50 u51 u52 u53 u54 u55 u56 u57 u58 u59 u60 u61 u62 u63 u64 u65 u66 u67 u68 u69 u70 u71 u72 u73 u74 u75 u76 u77 u78 u79 u80 u81 u82 u83 u84 u85 u86 u87 u88 u89 u90 u91 u92 u93 u94 u95 u96 u97 u98 u99 u100 u101 u102 u103 u104 u105 u106 u107 u108 u109 u110 u111 u112 u113 u114 u115 u116 u117 u118 u119 u120 u121 u122 u123 u124 u125 u126 u127 u128 u129 u130 u131 u132 u133 u134 u135 u136 u137 u138 u139 u140 u141 : Value) (Q : Ending → World → Prop)
    (hQ : ∀ wx, Quiet V wx → Q (.returned (.bool true)) wx) :
    Code.wp Try.prog tail26 (bodyPost Try.prog Try.f26 Q) ⟨(Value.pointer (some ⟨g, 0, none⟩) :: u1 :: Value.bool false :: u3 :: u4 :: Value.pointer (some ⟨Bo, 0, none⟩) :: u6 :: u7 :: Value.bool false :: Value.pointer (some ⟨x, 0, none⟩) :: Value.string ow :: Value.string rs :: Value.pointer (some ⟨A, 0, none⟩) :: u13 :: u14 :: u15 :: u16 :: u17 :: u18 :: u19 :: u20 :: u21 :: u22 :: u23 :: u24 :: u25 :: u26 :: u27 :: u28 :: u29 :: u30 :: u31 :: u32 :: u33 :: u34 :: u35 :: u36 :: u37 :: u38 :: u39 :: u40 :: u41 :: u42 :: u43 :: u44 :: u45 :: u46 :: u47 :: u48 :: u49 :: u50 :: u51 :: u52 :: u53 :: u54 :: u55 :: u56 :: u57 :: u58 :: u59 :: u60 :: u61 :: u62 :: u63 :: u64 :: u65 :: u66 :: u67 :: u68 :: u69 :: u70 :: u71 :: u72 :: u73 :: u74 :: u75 :: u76 :: u77 :: u78 :: u79 :: u80 :: u81 :: u82 :: u83 :: u84 :: u85 :: u86 :: u87 :: u88 :: u89 :: u90 :: u91 :: u92 :: u93 :: u94 :: u95 :: u96 :: u97 :: u98 :: u99 :: u100 :: u101 :: u102 :: u103 :: u104 :: u105 :: u106 :: u107 :: u108 :: u109 :: u110 :: u111 :: u112 :: u113 :: u114 :: u115 :: u116 :: u117 :: u118 :: u119 :: u120 :: u121 :: u122 :: u123 :: u124 :: u125 :: u126 :: u127 :: u128 :: u129 :: u130 :: u131 :: u132 :: u133 :: u134 :: u135 :: u136 :: u137 :: u138 :: u139 :: u140 :: u141 :: ([] : List Value)).toArray, []⟩ V := by
  conv => arg 2; whnf
  subst hx
  have o0 : V.cell? ⟨Bo, 0, none⟩ = some (.int .i64 k) := Hn.op.cell 0
  have o1 : V.cell? ⟨Bo, 1, none⟩ = some (.int .i64 i) := Hn.op.cell 1
  have hsl := hide (slack_any V g vX vW vG n h4 _ W S Hn.ks.gr h36 i hs)
  have HnH := hide Hn
  have hQH := hide hQ
  have hIH := hide hI
  unfold ptr at hsl
  subst hE
  have k9 : (k == 9) = false := by simpa using hk9
  have k10 : (k == 10) = false := by simpa using hk10
  clear hk9 hk10
  have hLe : str (showP (S i)) ≠ ow := hL
  have hRe : str (sightP S i n) = rs := hR
  have hLH := hide hLe
  have hRH := hide hRe
  obtain ⟨nw, hnw⟩ : ∃ nw, str (showP (S i)) = nw := ⟨_, rfl⟩
  have hne : nw ≠ ow := by rw [← hnw]; exact hL
  have hnwH := hide hnw
  have d1 : decide (nw = ow) = false := by simpa using hne
  have d2 : (nw.toList == ow.toList) = false := by rw [toList_beq]; exact d1
  clear hL hR hLe hRe hLH hnw
  clear Hn hQ hI hs
  go_wp2_with fail
  refine (unhide hsl).mono ?_
  clear hsl
  rintro e V1 ⟨rfl, rfl⟩
  have a0 : V1.cell? ⟨A, 0, none⟩ = some (.int .i64 0) := (unhide HnH).an.cell 0
  have a3 : V1.cell? ⟨A, 3, none⟩ = some (.string R) := (unhide HnH).an.cell 3
  have hsh := hide (show_any V1 _ _ _ _ ((unhide HnH).ks.rep i hi) (unhide hIH i hi).shows)
  unfold ptr at hsh
  go_wp2_with fail
  rw [unhide hnwH] at hsh
  refine (unhide hsh).mono ?_
  clear hsh
  rintro e V2 ⟨rfl, q2⟩
  have H2 := hide ((unhide HnH).quiet q2)
  have Q2 := hide q2
  clear q2 HnH o0 o1 a0 a3
  have o0 : V2.cell? ⟨Bo, 0, none⟩ = some (.int .i64 k) := (unhide H2).op.cell 0
  have o1 : V2.cell? ⟨Bo, 1, none⟩ = some (.int .i64 i) := (unhide H2).op.cell 1
  have a0 : V2.cell? ⟨A, 0, none⟩ = some (.int .i64 0) := (unhide H2).an.cell 0
  have hsi := hide (sight_any B V2 g vX vW vG n P S S W (unhide H2).ks h4 (fun j hj => (unhide hIH j hj).shows) i)
  unfold ptr at hsi
  rw [unhide hRH] at hsi
  go_wp2_with fail
  refine (unhide hsi).mono ?_
  clear hsi
  rintro e V3 ⟨rfl, q3⟩
  have H3 := hide ((unhide H2).quiet q3)
  have Q3 := hide (Quiet.trans (unhide Q2) q3)
  clear q3 H2 Q2 o0 o1 a0
  have hck := hide (check_any V3 _ _ _ _ ((unhide H3).ks.rep i hi) (unhide hIH i hi))
  unfold ptr at hck
  go_wp2_with fail
  refine (unhide hck).mono ?_
  clear hck
  rintro e V4 ⟨rfl, q4⟩
  go_wp2
  exact unhide hQH _ (Quiet.trans (unhide Q3) q4)

set_option maxHeartbeats 8000000 in
set_option maxRecDepth 100000 in
theorem evM_err (B : Nat) (V : World) (g : Nat) (vX vW vG : Value) (n : Nat) (h1 : 1 ≤ n) (h4 : n ≤ 4) (P : Nat → Nat × Nat × Nat) (S : Nat → Nd) (W : List M4) (Bo A : Nat) (k b c : Int) (i : Nat) (s t : ByteArray) (E N Mm : Int) (R : ByteArray)
    (Hn : EvIn B V g vX vW vG n P S S W Bo A k i b c s t E N Mm R) (hE : E ≠ 0) (x : Nat) (qu : Bool) (ow rs : ByteArray)
    (u1 u3 u4 u6 u7 u13 u14 u15 u16 u17 u18 u19 u20 u21 u22 u23 u24 u25 u26 u27 u28 u29 u30 u31 u32 u33 u34 u35 u36 u37 u38 u39 u40 u41 u42 u43 u44 u45 u46 u47 u48 u49 u50 u51 u52 u53 u54 u55 u56 u57 u58 u59 u60 u61 u62 u63 u64 u65 u66 u67 u68 u69 u70 u71 u72 u73 u74 u75 u76 u77 u78 u79 u80 u81 u82 u83 u84 u85 u86 u87 u88 u89 u90 u91 u92 u93 u94 u95 u96 u97 u98 u99 u100 u101 u102 u103 u104 u105 u106 u107 u108 u109 u110 u111 u112 u113 u114 u115 u116 u117 u118 u119 u120 u121 u122 u123 u124 u125 u126 u127 u128 u129 u130 u131 u132 u133 u134 u135 u136 u137 u138 u139 u140 u141 : Value) (Q : Ending → World → Prop)
    (ht : Hid (∀ (V2 : World) (vW2 : Value) (y1 y3 y4 y6 y7 y13 y14 y15 y16 y17 y18 y19 y20 y21 y22 y23 y24 y25 y26 y27 y28 y29 y30 y31 y32 y33 y34 y35 y36 y37 y38 y39 y40 y41 y42 y43 y44 y45 y46 y47 y48 y49 y50 y51 y52 y53 y54 y55 y56 y57 y58 y59 y60 y61 y62 y63 y64 y65 y66 y67 y68 y69 y70 y71 y72 y73 y74 y75 y76 y77 y78 y79 y80 y81 y82 y83 y84 y85 y86 y87 y88 y89 y90 y91 y92 y93 y94 y95 y96 y97 y98 y99 y100 y101 y102 y103 y104 y105 y106 y107 y108 y109 y110 y111 y112 y113 y114 y115 y116 y117 y118 y119 y120 y121 y122 y123 y124 y125 y126 y127 y128 y129 y130 y131 y132 y133 y134 y135 y136 y137 y138 y139 y140 y141 : Value), Chg (fun k => B ≤ k) V V2 → EvIn B V2 g vX vW2 vG n P S S W Bo A k i b c s t E N Mm R → Code.wp Try.prog tail26 (bodyPost Try.prog Try.f26 Q) ⟨(Value.pointer (some ⟨g, 0, none⟩) :: y1 :: Value.bool qu :: y3 :: y4 :: Value.pointer (some ⟨Bo, 0, none⟩) :: y6 :: y7 :: Value.bool false :: Value.pointer (some ⟨x, 0, none⟩) :: Value.string ow :: Value.string rs :: Value.pointer (some ⟨A, 0, none⟩) :: y13 :: y14 :: y15 :: y16 :: y17 :: y18 :: y19 :: y20 :: y21 :: y22 :: y23 :: y24 :: y25 :: y26 :: y27 :: y28 :: y29 :: y30 :: y31 :: y32 :: y33 :: y34 :: y35 :: y36 :: y37 :: y38 :: y39 :: y40 :: y41 :: y42 :: y43 :: y44 :: y45 :: y46 :: y47 :: y48 :: y49 :: y50 :: y51 :: y52 :: y53 :: y54 :: y55 :: y56 :: y57 :: y58 :: y59 :: y60 :: y61 :: y62 :: y63 :: y64 :: y65 :: y66 :: y67 :: y68 :: y69 :: y70 :: y71 :: y72 :: y73 :: y74 :: y75 :: y76 :: y77 :: y78 :: y79 :: y80 :: y81 :: y82 :: y83 :: y84 :: y85 :: y86 :: y87 :: y88 :: y89 :: y90 :: y91 :: y92 :: y93 :: y94 :: y95 :: y96 :: y97 :: y98 :: y99 :: y100 :: y101 :: y102 :: y103 :: y104 :: y105 :: y106 :: y107 :: y108 :: y109 :: y110 :: y111 :: y112 :: y113 :: y114 :: y115 :: y116 :: y117 :: y118 :: y119 :: y120 :: y121 :: y122 :: y123 :: y124 :: y125 :: y126 :: y127 :: y128 :: y129 :: y130 :: y131 :: y132 :: y133 :: y134 :: y135 :: y136 :: y137 :: y138 :: y139 :: y140 :: y141 :: ([] : List Value)).toArray, []⟩ V2)) :
    Code.wp Try.prog mid26 (bodyPost Try.prog Try.f26 Q) ⟨(Value.pointer (some ⟨g, 0, none⟩) :: u1 :: Value.bool qu :: u3 :: u4 :: Value.pointer (some ⟨Bo, 0, none⟩) :: u6 :: u7 :: Value.bool false :: Value.pointer (some ⟨x, 0, none⟩) :: Value.string ow :: Value.string rs :: Value.pointer (some ⟨A, 0, none⟩) :: u13 :: u14 :: u15 :: u16 :: u17 :: u18 :: u19 :: u20 :: u21 :: u22 :: u23 :: u24 :: u25 :: u26 :: u27 :: u28 :: u29 :: u30 :: u31 :: u32 :: u33 :: u34 :: u35 :: u36 :: u37 :: u38 :: u39 :: u40 :: u41 :: u42 :: u43 :: u44 :: u45 :: u46 :: u47 :: u48 :: u49 :: u50 :: u51 :: u52 :: u53 :: u54 :: u55 :: u56 :: u57 :: u58 :: u59 :: u60 :: u61 :: u62 :: u63 :: u64 :: u65 :: u66 :: u67 :: u68 :: u69 :: u70 :: u71 :: u72 :: u73 :: u74 :: u75 :: u76 :: u77 :: u78 :: u79 :: u80 :: u81 :: u82 :: u83 :: u84 :: u85 :: u86 :: u87 :: u88 :: u89 :: u90 :: u91 :: u92 :: u93 :: u94 :: u95 :: u96 :: u97 :: u98 :: u99 :: u100 :: u101 :: u102 :: u103 :: u104 :: u105 :: u106 :: u107 :: u108 :: u109 :: u110 :: u111 :: u112 :: u113 :: u114 :: u115 :: u116 :: u117 :: u118 :: u119 :: u120 :: u121 :: u122 :: u123 :: u124 :: u125 :: u126 :: u127 :: u128 :: u129 :: u130 :: u131 :: u132 :: u133 :: u134 :: u135 :: u136 :: u137 :: u138 :: u139 :: u140 :: u141 :: ([] : List Value)).toArray, []⟩ V := by
  conv => arg 2; whnf
  have a0 : V.cell? ⟨A, 0, none⟩ = some (.int .i64 E) := Hn.an.cell 0
  have e1 : (E == 0) = false := by simpa using hE
  have e2 : (E != 0) = true := by rw [bne, e1]; rfl
  have HnH := hide Hn
  clear Hn hE
  go_upto_region 11 with fail
  rename_i hK KI hKI
  have hKH := hide hK
  clear hK
  go_wp2_with fail
  refine unhide hKH _ _ ?_
  exact unhide ht _ vW _ _ _ _ _ _ _ _ _ _ _ _ _ _ _ _ _ _ _ _ _ _ _ _ _ _ _ _ _ _ _ _ _ _ _ _ _ _ _ _ _ _ _ _ _ _ _ _ _ _ _ _ _ _ _ _ _ _ _ _ _ _ _ _ _ _ _ _ _ _ _ _ _ _ _ _ _ _ _ _ _ _ _ _ _ _ _ _ _ _ _ _ _ _ _ _ _ _ _ _ _ _ _ _ _ _ _ _ _ _ _ _ _ _ _ _ _ _ _ _ _ _ _ _ _ _ _ _ _ _ _ _ _ _ (Chg.refl _ _) (unhide HnH)

set_option maxHeartbeats 8000000 in
set_option maxRecDepth 100000 in
theorem evM_1 (B : Nat) (V : World) (g : Nat) (vX vW vG : Value) (n : Nat) (h1 : 1 ≤ n) (h4 : n ≤ 4) (P : Nat → Nat × Nat × Nat) (S : Nat → Nd) (W : List M4) (Bo A : Nat) (k b c : Int) (i : Nat) (s t : ByteArray) (E N Mm : Int) (R : ByteArray)
    (Hn : EvIn B V g vX vW vG n P S S W Bo A k i b c s t E N Mm R) (hk : k = 1) (hE : E = 0) (W2 : List M4) (h36 : W2.length ≤ 36) (hlen : W2.length = W.length + (n - 1)) (hpost : ∀ V', Quiet V V' → Calls Try.prog 32 #[vW, .int .i64 n, .agg #[.int .i64 k, .int .i64 i, .int .i64 b, .int .i64 c, .string s, .string t], .int .i64 N] V' fun e w' => ∃ v', e = .returned v' ∧ PW V' vW w' v' W2) (x : Nat) (qu : Bool) (ow rs : ByteArray)
    (u1 u3 u4 u6 u7 u13 u14 u15 u16 u17 u18 u19 u20 u21 u22 u23 u24 u25 u26 u27 u28 u29 u30 u31 u32 u33 u34 u35 u36 u37 u38 u39 u40 u41 u42 u43 u44 u45 u46 u47 u48 u49 u50 u51 u52 u53 u54 u55 u56 u57 u58 u59 u60 u61 u62 u63 u64 u65 u66 u67 u68 u69 u70 u71 u72 u73 u74 u75 u76 u77 u78 u79 u80 u81 u82 u83 u84 u85 u86 u87 u88 u89 u90 u91 u92 u93 u94 u95 u96 u97 u98 u99 u100 u101 u102 u103 u104 u105 u106 u107 u108 u109 u110 u111 u112 u113 u114 u115 u116 u117 u118 u119 u120 u121 u122 u123 u124 u125 u126 u127 u128 u129 u130 u131 u132 u133 u134 u135 u136 u137 u138 u139 u140 u141 : Value) (Q : Ending → World → Prop)
    (ht : Hid (∀ (V2 : World) (vW2 : Value) (y1 y3 y4 y6 y7 y13 y14 y15 y16 y17 y18 y19 y20 y21 y22 y23 y24 y25 y26 y27 y28 y29 y30 y31 y32 y33 y34 y35 y36 y37 y38 y39 y40 y41 y42 y43 y44 y45 y46 y47 y48 y49 y50 y51 y52 y53 y54 y55 y56 y57 y58 y59 y60 y61 y62 y63 y64 y65 y66 y67 y68 y69 y70 y71 y72 y73 y74 y75 y76 y77 y78 y79 y80 y81 y82 y83 y84 y85 y86 y87 y88 y89 y90 y91 y92 y93 y94 y95 y96 y97 y98 y99 y100 y101 y102 y103 y104 y105 y106 y107 y108 y109 y110 y111 y112 y113 y114 y115 y116 y117 y118 y119 y120 y121 y122 y123 y124 y125 y126 y127 y128 y129 y130 y131 y132 y133 y134 y135 y136 y137 y138 y139 y140 y141 : Value), Chg (fun k => B ≤ k) V V2 → EvIn B V2 g vX vW2 vG n P S S W2 Bo A k i b c s t E N Mm R → Code.wp Try.prog tail26 (bodyPost Try.prog Try.f26 Q) ⟨(Value.pointer (some ⟨g, 0, none⟩) :: y1 :: Value.bool qu :: y3 :: y4 :: Value.pointer (some ⟨Bo, 0, none⟩) :: y6 :: y7 :: Value.bool false :: Value.pointer (some ⟨x, 0, none⟩) :: Value.string ow :: Value.string rs :: Value.pointer (some ⟨A, 0, none⟩) :: y13 :: y14 :: y15 :: y16 :: y17 :: y18 :: y19 :: y20 :: y21 :: y22 :: y23 :: y24 :: y25 :: y26 :: y27 :: y28 :: y29 :: y30 :: y31 :: y32 :: y33 :: y34 :: y35 :: y36 :: y37 :: y38 :: y39 :: y40 :: y41 :: y42 :: y43 :: y44 :: y45 :: y46 :: y47 :: y48 :: y49 :: y50 :: y51 :: y52 :: y53 :: y54 :: y55 :: y56 :: y57 :: y58 :: y59 :: y60 :: y61 :: y62 :: y63 :: y64 :: y65 :: y66 :: y67 :: y68 :: y69 :: y70 :: y71 :: y72 :: y73 :: y74 :: y75 :: y76 :: y77 :: y78 :: y79 :: y80 :: y81 :: y82 :: y83 :: y84 :: y85 :: y86 :: y87 :: y88 :: y89 :: y90 :: y91 :: y92 :: y93 :: y94 :: y95 :: y96 :: y97 :: y98 :: y99 :: y100 :: y101 :: y102 :: y103 :: y104 :: y105 :: y106 :: y107 :: y108 :: y109 :: y110 :: y111 :: y112 :: y113 :: y114 :: y115 :: y116 :: y117 :: y118 :: y119 :: y120 :: y121 :: y122 :: y123 :: y124 :: y125 :: y126 :: y127 :: y128 :: y129 :: y130 :: y131 :: y132 :: y133 :: y134 :: y135 :: y136 :: y137 :: y138 :: y139 :: y140 :: y141 :: ([] : List Value)).toArray, []⟩ V2)) :
    Code.wp Try.prog mid26 (bodyPost Try.prog Try.f26 Q) ⟨(Value.pointer (some ⟨g, 0, none⟩) :: u1 :: Value.bool qu :: u3 :: u4 :: Value.pointer (some ⟨Bo, 0, none⟩) :: u6 :: u7 :: Value.bool false :: Value.pointer (some ⟨x, 0, none⟩) :: Value.string ow :: Value.string rs :: Value.pointer (some ⟨A, 0, none⟩) :: u13 :: u14 :: u15 :: u16 :: u17 :: u18 :: u19 :: u20 :: u21 :: u22 :: u23 :: u24 :: u25 :: u26 :: u27 :: u28 :: u29 :: u30 :: u31 :: u32 :: u33 :: u34 :: u35 :: u36 :: u37 :: u38 :: u39 :: u40 :: u41 :: u42 :: u43 :: u44 :: u45 :: u46 :: u47 :: u48 :: u49 :: u50 :: u51 :: u52 :: u53 :: u54 :: u55 :: u56 :: u57 :: u58 :: u59 :: u60 :: u61 :: u62 :: u63 :: u64 :: u65 :: u66 :: u67 :: u68 :: u69 :: u70 :: u71 :: u72 :: u73 :: u74 :: u75 :: u76 :: u77 :: u78 :: u79 :: u80 :: u81 :: u82 :: u83 :: u84 :: u85 :: u86 :: u87 :: u88 :: u89 :: u90 :: u91 :: u92 :: u93 :: u94 :: u95 :: u96 :: u97 :: u98 :: u99 :: u100 :: u101 :: u102 :: u103 :: u104 :: u105 :: u106 :: u107 :: u108 :: u109 :: u110 :: u111 :: u112 :: u113 :: u114 :: u115 :: u116 :: u117 :: u118 :: u119 :: u120 :: u121 :: u122 :: u123 :: u124 :: u125 :: u126 :: u127 :: u128 :: u129 :: u130 :: u131 :: u132 :: u133 :: u134 :: u135 :: u136 :: u137 :: u138 :: u139 :: u140 :: u141 :: ([] : List Value)).toArray, []⟩ V := by
  conv => arg 2; whnf
  have a0 : V.cell? ⟨A, 0, none⟩ = some (.int .i64 E) := Hn.an.cell 0
  subst hE
  obtain ⟨ax, cx, rfl⟩ := Hn.ks.gr.rX.shape
  obtain ⟨aw, cw, rfl⟩ := Hn.ks.gr.rW.shape
  have o0 : V.cell? ⟨Bo, 0, none⟩ = some (.int .i64 k) := Hn.op.cell 0
  have o1 : V.cell? ⟨Bo, 1, none⟩ = some (.int .i64 i) := Hn.op.cell 1
  have o2 : V.cell? ⟨Bo, 2, none⟩ = some (.int .i64 b) := Hn.op.cell 2
  have o3 : V.cell? ⟨Bo, 3, none⟩ = some (.int .i64 c) := Hn.op.cell 3
  have o4 : V.cell? ⟨Bo, 4, none⟩ = some (.string s) := Hn.op.cell 4
  have o5 : V.cell? ⟨Bo, 5, none⟩ = some (.string t) := Hn.op.cell 5
  have a1 : V.cell? ⟨A, 1, none⟩ = some (.int .i64 N) := Hn.an.cell 1
  have c0 : V.cell? ⟨g, 0, none⟩ = some (.slice ax n cx) := Hn.ks.gr.blk.cell 0
  have c1 : V.cell? ⟨g, 1, none⟩ = some (.slice aw W.length cw) := Hn.ks.gr.blk.cell 1
  have hgl := Hn.ks.gr.blk.lt
  have f1 := Hn.ks.gr.blk.frozen 1
  have hposH := hide hpost
  have HnH := hide Hn
  have wn : IntKind.i64.wrap ((n : Int) - 1) = (n : Int) - 1 := by rw [IntKind.wrap_i64]; omega
  have wl : IntKind.i64.wrap ((W.length : Int) + ((n : Int) - 1)) = (W.length : Int) + ((n : Int) - 1) := by rw [IntKind.wrap_i64]; omega
  have hl1 : ((W2.length : Int) == (W.length : Int) + ((n : Int) - 1)) = true := by simp; omega
  have hl2 : ((W2.length : Int) != (W.length : Int) + ((n : Int) - 1)) = false := by rw [bne, hl1]; rfl
  have hW0 : W.length ≤ 36 := by omega
  clear Hn hpost hlen hl1 h36
  have k1 : (k == 1) = true := by simpa using hk
  have k3 : (k == 3) = false := by simp; omega
  clear hk
  go_upto_region 11 with fail
  rename_i hK KI hKI
  have hKH := hide hK
  clear hK
  generalize W.length = wl0 at *
  go_wp2
  refine wp_region_noPanic ?_
  try simp only [List.append_eq, List.cons_append, List.nil_append]
  refine wp_region_mix [(0, false), (1, true), (2, true), (3, true), (4, true), (5, true), (6, true), (7, true), (8, true), (9, true), (10, true), (11, true), (12, true)] [13, 14, 15, 16] (by kernel_rfl) (by kernel_rfl) (fun _ _ _ _ _ h => h) ?_
  simp only [pickM, pickO, List.getElem?_cons_zero, List.getElem?_cons_succ]
  repeat (first | (refine wpMix_read rfl (fun K hK => ?_)) | (refine wpMix_pure rfl (fun K hK => ?_))
          go_big_quiet_op
          first | (refine hK _ ?_; clear hK K))
  refine wpMix_nil ?_
  intro _ hw'
  obtain ⟨nq, hw''⟩ := hw'
  subst hw''
  have qd : Quiet V (V.drewN nq) := (Chg.refl _ _).drewN nq
  have hp2 := hide (unhide hposH _ qd)
  have H2 := hide ((unhide HnH).quiet qd)
  have chd : Hid (Chg (fun k => B ≤ k) V (V.drewN nq)) := qd.chg _
  clear o0 o1 o2 o3 o4 o5 a0 a1 c0 c1 hposH HnH f1 hgl qd
  generalize V.drewN nq = V1 at *
  go_wp2_with fail
  refine (unhide hp2).mono ?_
  clear hp2
  rintro e V2 ⟨v', rfl, pw⟩
  obtain ⟨av, cv, rfl⟩ := pw.1.shape
  have hbV := pw.2.1.blk (unhide H2).ks.gr.blk (unhide H2).ks.gr.gw
  have c1 := hbV.cell 1
  have f1 := hbV.frozen 1
  simp at c1
  have hgl := hbV.lt
  obtain ⟨H3, ch3⟩ := (unhide H2).wire pw
  have c1' : (V2.setCell ⟨g, 1, none⟩ (.slice av W2.length cv)).cell? ⟨g, 1, none⟩ = some (.slice av W2.length cv) := H3.ks.gr.blk.cell 1
  have hgl3 := H3.ks.gr.blk.lt
  have H3H := hide H3
  have ch3H := hide ((unhide chd).trans ch3)
  clear hbV pw H3 ch3 H2 chd
  go_wp2
  refine NoPanic.normal ?_
  clear c1 f1 hgl
  generalize V2.setCell ⟨g, 1, none⟩ (.slice av W2.length cv) = V3 at *
  generalize W2.length = wl2 at *
  go_wp2_with fail
  refine unhide hKH _ _ ?_
  exact unhide ht _ _ _ _ _ _ _ _ _ _ _ _ _ _ _ _ _ _ _ _ _ _ _ _ _ _ _ _ _ _ _ _ _ _ _ _ _ _ _ _ _ _ _ _ _ _ _ _ _ _ _ _ _ _ _ _ _ _ _ _ _ _ _ _ _ _ _ _ _ _ _ _ _ _ _ _ _ _ _ _ _ _ _ _ _ _ _ _ _ _ _ _ _ _ _ _ _ _ _ _ _ _ _ _ _ _ _ _ _ _ _ _ _ _ _ _ _ _ _ _ _ _ _ _ _ _ _ _ _ _ _ _ _ _ _ _ (unhide ch3H) (unhide H3H)

set_option maxHeartbeats 8000000 in
set_option maxRecDepth 100000 in
theorem evM_2 (B : Nat) (V : World) (g : Nat) (vX vW vG : Value) (n : Nat) (h1 : 1 ≤ n) (h4 : n ≤ 4) (P : Nat → Nat × Nat × Nat) (S : Nat → Nd) (W : List M4) (Bo A : Nat) (k b c : Int) (i : Nat) (s t : ByteArray) (E N Mm : Int) (R : ByteArray)
    (Hn : EvIn B V g vX vW vG n P S S W Bo A k i b c s t E N Mm R) (hk : k = 2) (hE : E = 0) (W2 : List M4) (h36 : W2.length ≤ 36) (hlen : W2.length = W.length + (n - 1)) (hpost : ∀ V', Quiet V V' → Calls Try.prog 32 #[vW, .int .i64 n, .agg #[.int .i64 k, .int .i64 i, .int .i64 b, .int .i64 c, .string s, .string t], .int .i64 N] V' fun e w' => ∃ v', e = .returned v' ∧ PW V' vW w' v' W2) (x : Nat) (qu : Bool) (ow rs : ByteArray)
    (u1 u3 u4 u6 u7 u13 u14 u15 u16 u17 u18 u19 u20 u21 u22 u23 u24 u25 u26 u27 u28 u29 u30 u31 u32 u33 u34 u35 u36 u37 u38 u39 u40 u41 u42 u43 u44 u45 u46 u47 u48 u49 u50 u51 u52 u53 u54 u55 u56 u57 u58 u59 u60 u61 u62 u63 u64 u65 u66 u67 u68 u69 u70 u71 u72 u73 u74 u75 u76 u77 u78 u79 u80 u81 u82 u83 u84 u85 u86 u87 u88 u89 u90 u91 u92 u93 u94 u95 u96 u97 u98 u99 u100 u101 u102 u103 u104 u105 u106 u107 u108 u109 u110 u111 u112 u113 u114 u115 u116 u117 u118 u119 u120 u121 u122 u123 u124 u125 u126 u127 u128 u129 u130 u131 u132 u133 u134 u135 u136 u137 u138 u139 u140 u141 : Value) (Q : Ending → World → Prop)
    (ht : Hid (∀ (V2 : World) (vW2 : Value) (y1 y3 y4 y6 y7 y13 y14 y15 y16 y17 y18 y19 y20 y21 y22 y23 y24 y25 y26 y27 y28 y29 y30 y31 y32 y33 y34 y35 y36 y37 y38 y39 y40 y41 y42 y43 y44 y45 y46 y47 y48 y49 y50 y51 y52 y53 y54 y55 y56 y57 y58 y59 y60 y61 y62 y63 y64 y65 y66 y67 y68 y69 y70 y71 y72 y73 y74 y75 y76 y77 y78 y79 y80 y81 y82 y83 y84 y85 y86 y87 y88 y89 y90 y91 y92 y93 y94 y95 y96 y97 y98 y99 y100 y101 y102 y103 y104 y105 y106 y107 y108 y109 y110 y111 y112 y113 y114 y115 y116 y117 y118 y119 y120 y121 y122 y123 y124 y125 y126 y127 y128 y129 y130 y131 y132 y133 y134 y135 y136 y137 y138 y139 y140 y141 : Value), Chg (fun k => B ≤ k) V V2 → EvIn B V2 g vX vW2 vG n P S S W2 Bo A k i b c s t E N Mm R → Code.wp Try.prog tail26 (bodyPost Try.prog Try.f26 Q) ⟨(Value.pointer (some ⟨g, 0, none⟩) :: y1 :: Value.bool qu :: y3 :: y4 :: Value.pointer (some ⟨Bo, 0, none⟩) :: y6 :: y7 :: Value.bool false :: Value.pointer (some ⟨x, 0, none⟩) :: Value.string ow :: Value.string rs :: Value.pointer (some ⟨A, 0, none⟩) :: y13 :: y14 :: y15 :: y16 :: y17 :: y18 :: y19 :: y20 :: y21 :: y22 :: y23 :: y24 :: y25 :: y26 :: y27 :: y28 :: y29 :: y30 :: y31 :: y32 :: y33 :: y34 :: y35 :: y36 :: y37 :: y38 :: y39 :: y40 :: y41 :: y42 :: y43 :: y44 :: y45 :: y46 :: y47 :: y48 :: y49 :: y50 :: y51 :: y52 :: y53 :: y54 :: y55 :: y56 :: y57 :: y58 :: y59 :: y60 :: y61 :: y62 :: y63 :: y64 :: y65 :: y66 :: y67 :: y68 :: y69 :: y70 :: y71 :: y72 :: y73 :: y74 :: y75 :: y76 :: y77 :: y78 :: y79 :: y80 :: y81 :: y82 :: y83 :: y84 :: y85 :: y86 :: y87 :: y88 :: y89 :: y90 :: y91 :: y92 :: y93 :: y94 :: y95 :: y96 :: y97 :: y98 :: y99 :: y100 :: y101 :: y102 :: y103 :: y104 :: y105 :: y106 :: y107 :: y108 :: y109 :: y110 :: y111 :: y112 :: y113 :: y114 :: y115 :: y116 :: y117 :: y118 :: y119 :: y120 :: y121 :: y122 :: y123 :: y124 :: y125 :: y126 :: y127 :: y128 :: y129 :: y130 :: y131 :: y132 :: y133 :: y134 :: y135 :: y136 :: y137 :: y138 :: y139 :: y140 :: y141 :: ([] : List Value)).toArray, []⟩ V2)) :
    Code.wp Try.prog mid26 (bodyPost Try.prog Try.f26 Q) ⟨(Value.pointer (some ⟨g, 0, none⟩) :: u1 :: Value.bool qu :: u3 :: u4 :: Value.pointer (some ⟨Bo, 0, none⟩) :: u6 :: u7 :: Value.bool false :: Value.pointer (some ⟨x, 0, none⟩) :: Value.string ow :: Value.string rs :: Value.pointer (some ⟨A, 0, none⟩) :: u13 :: u14 :: u15 :: u16 :: u17 :: u18 :: u19 :: u20 :: u21 :: u22 :: u23 :: u24 :: u25 :: u26 :: u27 :: u28 :: u29 :: u30 :: u31 :: u32 :: u33 :: u34 :: u35 :: u36 :: u37 :: u38 :: u39 :: u40 :: u41 :: u42 :: u43 :: u44 :: u45 :: u46 :: u47 :: u48 :: u49 :: u50 :: u51 :: u52 :: u53 :: u54 :: u55 :: u56 :: u57 :: u58 :: u59 :: u60 :: u61 :: u62 :: u63 :: u64 :: u65 :: u66 :: u67 :: u68 :: u69 :: u70 :: u71 :: u72 :: u73 :: u74 :: u75 :: u76 :: u77 :: u78 :: u79 :: u80 :: u81 :: u82 :: u83 :: u84 :: u85 :: u86 :: u87 :: u88 :: u89 :: u90 :: u91 :: u92 :: u93 :: u94 :: u95 :: u96 :: u97 :: u98 :: u99 :: u100 :: u101 :: u102 :: u103 :: u104 :: u105 :: u106 :: u107 :: u108 :: u109 :: u110 :: u111 :: u112 :: u113 :: u114 :: u115 :: u116 :: u117 :: u118 :: u119 :: u120 :: u121 :: u122 :: u123 :: u124 :: u125 :: u126 :: u127 :: u128 :: u129 :: u130 :: u131 :: u132 :: u133 :: u134 :: u135 :: u136 :: u137 :: u138 :: u139 :: u140 :: u141 :: ([] : List Value)).toArray, []⟩ V := by
  conv => arg 2; whnf
  have a0 : V.cell? ⟨A, 0, none⟩ = some (.int .i64 E) := Hn.an.cell 0
  subst hE
  obtain ⟨ax, cx, rfl⟩ := Hn.ks.gr.rX.shape
  obtain ⟨aw, cw, rfl⟩ := Hn.ks.gr.rW.shape
  have o0 : V.cell? ⟨Bo, 0, none⟩ = some (.int .i64 k) := Hn.op.cell 0
  have o1 : V.cell? ⟨Bo, 1, none⟩ = some (.int .i64 i) := Hn.op.cell 1
  have o2 : V.cell? ⟨Bo, 2, none⟩ = some (.int .i64 b) := Hn.op.cell 2
  have o3 : V.cell? ⟨Bo, 3, none⟩ = some (.int .i64 c) := Hn.op.cell 3
  have o4 : V.cell? ⟨Bo, 4, none⟩ = some (.string s) := Hn.op.cell 4
  have o5 : V.cell? ⟨Bo, 5, none⟩ = some (.string t) := Hn.op.cell 5
  have a1 : V.cell? ⟨A, 1, none⟩ = some (.int .i64 N) := Hn.an.cell 1
  have c0 : V.cell? ⟨g, 0, none⟩ = some (.slice ax n cx) := Hn.ks.gr.blk.cell 0
  have c1 : V.cell? ⟨g, 1, none⟩ = some (.slice aw W.length cw) := Hn.ks.gr.blk.cell 1
  have hgl := Hn.ks.gr.blk.lt
  have f1 := Hn.ks.gr.blk.frozen 1
  have hposH := hide hpost
  have HnH := hide Hn
  have wn : IntKind.i64.wrap ((n : Int) - 1) = (n : Int) - 1 := by rw [IntKind.wrap_i64]; omega
  have wl : IntKind.i64.wrap ((W.length : Int) + ((n : Int) - 1)) = (W.length : Int) + ((n : Int) - 1) := by rw [IntKind.wrap_i64]; omega
  have hl1 : ((W2.length : Int) == (W.length : Int) + ((n : Int) - 1)) = true := by simp; omega
  have hl2 : ((W2.length : Int) != (W.length : Int) + ((n : Int) - 1)) = false := by rw [bne, hl1]; rfl
  have hW0 : W.length ≤ 36 := by omega
  clear Hn hpost hlen hl1 h36
  have k1 : (k == 1) = false := by simp; omega
  have k2 : (k == 2) = true := by simpa using hk
  have k3 : (k == 3) = false := by simp; omega
  clear hk
  go_upto_region 11 with fail
  rename_i hK KI hKI
  have hKH := hide hK
  clear hK
  generalize W.length = wl0 at *
  go_wp2
  refine wp_region_noPanic ?_
  try simp only [List.append_eq, List.cons_append, List.nil_append]
  refine wp_region_mix [(0, false), (1, true), (2, true), (3, true), (4, true), (5, true), (6, true), (7, true), (8, true), (9, true), (10, true), (11, true), (12, true)] [13, 14, 15, 16] (by kernel_rfl) (by kernel_rfl) (fun _ _ _ _ _ h => h) ?_
  simp only [pickM, pickO, List.getElem?_cons_zero, List.getElem?_cons_succ]
  repeat (first | (refine wpMix_read rfl (fun K hK => ?_)) | (refine wpMix_pure rfl (fun K hK => ?_))
          go_big_quiet_op
          first | (refine hK _ ?_; clear hK K))
  refine wpMix_nil ?_
  intro _ hw'
  obtain ⟨nq, hw''⟩ := hw'
  subst hw''
  have qd : Quiet V (V.drewN nq) := (Chg.refl _ _).drewN nq
  have hp2 := hide (unhide hposH _ qd)
  have H2 := hide ((unhide HnH).quiet qd)
  have chd : Hid (Chg (fun k => B ≤ k) V (V.drewN nq)) := qd.chg _
  clear o0 o1 o2 o3 o4 o5 a0 a1 c0 c1 hposH HnH f1 hgl qd
  generalize V.drewN nq = V1 at *
  go_wp2_with fail
  refine (unhide hp2).mono ?_
  clear hp2
  rintro e V2 ⟨v', rfl, pw⟩
  obtain ⟨av, cv, rfl⟩ := pw.1.shape
  have hbV := pw.2.1.blk (unhide H2).ks.gr.blk (unhide H2).ks.gr.gw
  have c1 := hbV.cell 1
  have f1 := hbV.frozen 1
  simp at c1
  have hgl := hbV.lt
  obtain ⟨H3, ch3⟩ := (unhide H2).wire pw
  have c1' : (V2.setCell ⟨g, 1, none⟩ (.slice av W2.length cv)).cell? ⟨g, 1, none⟩ = some (.slice av W2.length cv) := H3.ks.gr.blk.cell 1
  have hgl3 := H3.ks.gr.blk.lt
  have H3H := hide H3
  have ch3H := hide ((unhide chd).trans ch3)
  clear hbV pw H3 ch3 H2 chd
  go_wp2
  refine NoPanic.normal ?_
  clear c1 f1 hgl
  generalize V2.setCell ⟨g, 1, none⟩ (.slice av W2.length cv) = V3 at *
  generalize W2.length = wl2 at *
  go_wp2_with fail
  refine unhide hKH _ _ ?_
  exact unhide ht _ _ _ _ _ _ _ _ _ _ _ _ _ _ _ _ _ _ _ _ _ _ _ _ _ _ _ _ _ _ _ _ _ _ _ _ _ _ _ _ _ _ _ _ _ _ _ _ _ _ _ _ _ _ _ _ _ _ _ _ _ _ _ _ _ _ _ _ _ _ _ _ _ _ _ _ _ _ _ _ _ _ _ _ _ _ _ _ _ _ _ _ _ _ _ _ _ _ _ _ _ _ _ _ _ _ _ _ _ _ _ _ _ _ _ _ _ _ _ _ _ _ _ _ _ _ _ _ _ _ _ _ _ _ _ _ (unhide ch3H) (unhide H3H)

set_option maxHeartbeats 8000000 in
set_option maxRecDepth 100000 in
theorem evM_3 (B : Nat) (V : World) (g : Nat) (vX vW vG : Value) (n : Nat) (h1 : 1 ≤ n) (h4 : n ≤ 4) (P : Nat → Nat × Nat × Nat) (S : Nat → Nd) (W : List M4) (Bo A : Nat) (k b c : Int) (i : Nat) (s t : ByteArray) (E N Mm : Int) (R : ByteArray)
    (Hn : EvIn B V g vX vW vG n P S S W Bo A k i b c s t E N Mm R) (hk : k = 3) (hE : E = 0) (W2 : List M4) (h36 : W2.length ≤ 36) (hlen : W2.length = W.length + 1) (hpost : ∀ V', Quiet V V' → Calls Try.prog 32 #[vW, .int .i64 n, .agg #[.int .i64 k, .int .i64 i, .int .i64 b, .int .i64 c, .string s, .string t], .int .i64 N] V' fun e w' => ∃ v', e = .returned v' ∧ PW V' vW w' v' W2) (x : Nat) (qu : Bool) (ow rs : ByteArray)
    (u1 u3 u4 u6 u7 u13 u14 u15 u16 u17 u18 u19 u20 u21 u22 u23 u24 u25 u26 u27 u28 u29 u30 u31 u32 u33 u34 u35 u36 u37 u38 u39 u40 u41 u42 u43 u44 u45 u46 u47 u48 u49 u50 u51 u52 u53 u54 u55 u56 u57 u58 u59 u60 u61 u62 u63 u64 u65 u66 u67 u68 u69 u70 u71 u72 u73 u74 u75 u76 u77 u78 u79 u80 u81 u82 u83 u84 u85 u86 u87 u88 u89 u90 u91 u92 u93 u94 u95 u96 u97 u98 u99 u100 u101 u102 u103 u104 u105 u106 u107 u108 u109 u110 u111 u112 u113 u114 u115 u116 u117 u118 u119 u120 u121 u122 u123 u124 u125 u126 u127 u128 u129 u130 u131 u132 u133 u134 u135 u136 u137 u138 u139 u140 u141 : Value) (Q : Ending → World → Prop)
    (ht : Hid (∀ (V2 : World) (vW2 : Value) (y1 y3 y4 y6 y7 y13 y14 y15 y16 y17 y18 y19 y20 y21 y22 y23 y24 y25 y26 y27 y28 y29 y30 y31 y32 y33 y34 y35 y36 y37 y38 y39 y40 y41 y42 y43 y44 y45 y46 y47 y48 y49 y50 y51 y52 y53 y54 y55 y56 y57 y58 y59 y60 y61 y62 y63 y64 y65 y66 y67 y68 y69 y70 y71 y72 y73 y74 y75 y76 y77 y78 y79 y80 y81 y82 y83 y84 y85 y86 y87 y88 y89 y90 y91 y92 y93 y94 y95 y96 y97 y98 y99 y100 y101 y102 y103 y104 y105 y106 y107 y108 y109 y110 y111 y112 y113 y114 y115 y116 y117 y118 y119 y120 y121 y122 y123 y124 y125 y126 y127 y128 y129 y130 y131 y132 y133 y134 y135 y136 y137 y138 y139 y140 y141 : Value), Chg (fun k => B ≤ k) V V2 → EvIn B V2 g vX vW2 vG n P S S W2 Bo A k i b c s t E N Mm R → Code.wp Try.prog tail26 (bodyPost Try.prog Try.f26 Q) ⟨(Value.pointer (some ⟨g, 0, none⟩) :: y1 :: Value.bool qu :: y3 :: y4 :: Value.pointer (some ⟨Bo, 0, none⟩) :: y6 :: y7 :: Value.bool false :: Value.pointer (some ⟨x, 0, none⟩) :: Value.string ow :: Value.string rs :: Value.pointer (some ⟨A, 0, none⟩) :: y13 :: y14 :: y15 :: y16 :: y17 :: y18 :: y19 :: y20 :: y21 :: y22 :: y23 :: y24 :: y25 :: y26 :: y27 :: y28 :: y29 :: y30 :: y31 :: y32 :: y33 :: y34 :: y35 :: y36 :: y37 :: y38 :: y39 :: y40 :: y41 :: y42 :: y43 :: y44 :: y45 :: y46 :: y47 :: y48 :: y49 :: y50 :: y51 :: y52 :: y53 :: y54 :: y55 :: y56 :: y57 :: y58 :: y59 :: y60 :: y61 :: y62 :: y63 :: y64 :: y65 :: y66 :: y67 :: y68 :: y69 :: y70 :: y71 :: y72 :: y73 :: y74 :: y75 :: y76 :: y77 :: y78 :: y79 :: y80 :: y81 :: y82 :: y83 :: y84 :: y85 :: y86 :: y87 :: y88 :: y89 :: y90 :: y91 :: y92 :: y93 :: y94 :: y95 :: y96 :: y97 :: y98 :: y99 :: y100 :: y101 :: y102 :: y103 :: y104 :: y105 :: y106 :: y107 :: y108 :: y109 :: y110 :: y111 :: y112 :: y113 :: y114 :: y115 :: y116 :: y117 :: y118 :: y119 :: y120 :: y121 :: y122 :: y123 :: y124 :: y125 :: y126 :: y127 :: y128 :: y129 :: y130 :: y131 :: y132 :: y133 :: y134 :: y135 :: y136 :: y137 :: y138 :: y139 :: y140 :: y141 :: ([] : List Value)).toArray, []⟩ V2)) :
    Code.wp Try.prog mid26 (bodyPost Try.prog Try.f26 Q) ⟨(Value.pointer (some ⟨g, 0, none⟩) :: u1 :: Value.bool qu :: u3 :: u4 :: Value.pointer (some ⟨Bo, 0, none⟩) :: u6 :: u7 :: Value.bool false :: Value.pointer (some ⟨x, 0, none⟩) :: Value.string ow :: Value.string rs :: Value.pointer (some ⟨A, 0, none⟩) :: u13 :: u14 :: u15 :: u16 :: u17 :: u18 :: u19 :: u20 :: u21 :: u22 :: u23 :: u24 :: u25 :: u26 :: u27 :: u28 :: u29 :: u30 :: u31 :: u32 :: u33 :: u34 :: u35 :: u36 :: u37 :: u38 :: u39 :: u40 :: u41 :: u42 :: u43 :: u44 :: u45 :: u46 :: u47 :: u48 :: u49 :: u50 :: u51 :: u52 :: u53 :: u54 :: u55 :: u56 :: u57 :: u58 :: u59 :: u60 :: u61 :: u62 :: u63 :: u64 :: u65 :: u66 :: u67 :: u68 :: u69 :: u70 :: u71 :: u72 :: u73 :: u74 :: u75 :: u76 :: u77 :: u78 :: u79 :: u80 :: u81 :: u82 :: u83 :: u84 :: u85 :: u86 :: u87 :: u88 :: u89 :: u90 :: u91 :: u92 :: u93 :: u94 :: u95 :: u96 :: u97 :: u98 :: u99 :: u100 :: u101 :: u102 :: u103 :: u104 :: u105 :: u106 :: u107 :: u108 :: u109 :: u110 :: u111 :: u112 :: u113 :: u114 :: u115 :: u116 :: u117 :: u118 :: u119 :: u120 :: u121 :: u122 :: u123 :: u124 :: u125 :: u126 :: u127 :: u128 :: u129 :: u130 :: u131 :: u132 :: u133 :: u134 :: u135 :: u136 :: u137 :: u138 :: u139 :: u140 :: u141 :: ([] : List Value)).toArray, []⟩ V := by
  conv => arg 2; whnf
  have a0 : V.cell? ⟨A, 0, none⟩ = some (.int .i64 E) := Hn.an.cell 0
  subst hE
  obtain ⟨ax, cx, rfl⟩ := Hn.ks.gr.rX.shape
  obtain ⟨aw, cw, rfl⟩ := Hn.ks.gr.rW.shape
  have o0 : V.cell? ⟨Bo, 0, none⟩ = some (.int .i64 k) := Hn.op.cell 0
  have o1 : V.cell? ⟨Bo, 1, none⟩ = some (.int .i64 i) := Hn.op.cell 1
  have o2 : V.cell? ⟨Bo, 2, none⟩ = some (.int .i64 b) := Hn.op.cell 2
  have o3 : V.cell? ⟨Bo, 3, none⟩ = some (.int .i64 c) := Hn.op.cell 3
  have o4 : V.cell? ⟨Bo, 4, none⟩ = some (.string s) := Hn.op.cell 4
  have o5 : V.cell? ⟨Bo, 5, none⟩ = some (.string t) := Hn.op.cell 5
  have a1 : V.cell? ⟨A, 1, none⟩ = some (.int .i64 N) := Hn.an.cell 1
  have c0 : V.cell? ⟨g, 0, none⟩ = some (.slice ax n cx) := Hn.ks.gr.blk.cell 0
  have c1 : V.cell? ⟨g, 1, none⟩ = some (.slice aw W.length cw) := Hn.ks.gr.blk.cell 1
  have hgl := Hn.ks.gr.blk.lt
  have f1 := Hn.ks.gr.blk.frozen 1
  have hposH := hide hpost
  have HnH := hide Hn
  have wn : IntKind.i64.wrap ((n : Int) - 1) = (n : Int) - 1 := by rw [IntKind.wrap_i64]; omega
  have wl : IntKind.i64.wrap ((W.length : Int) + 1) = (W.length : Int) + 1 := by rw [IntKind.wrap_i64]; omega
  have hl1 : ((W2.length : Int) == (W.length : Int) + 1) = true := by simp; omega
  have hl2 : ((W2.length : Int) != (W.length : Int) + 1) = false := by rw [bne, hl1]; rfl
  have hW0 : W.length ≤ 36 := by omega
  clear Hn hpost hlen hl1 h36
  have k1 : (k == 1) = false := by simp; omega
  have k2 : (k == 2) = false := by simp; omega
  have k3 : (k == 3) = true := by simpa using hk
  clear hk
  go_upto_region 11 with fail
  rename_i hK KI hKI
  have hKH := hide hK
  clear hK
  generalize W.length = wl0 at *
  go_wp2
  refine wp_region_noPanic ?_
  try simp only [List.append_eq, List.cons_append, List.nil_append]
  refine wp_region_mix [(0, false), (1, true), (2, true), (3, true), (4, true), (5, true), (6, true), (7, true), (8, true), (9, true), (10, true), (11, true), (12, true)] [13, 14, 15, 16] (by kernel_rfl) (by kernel_rfl) (fun _ _ _ _ _ h => h) ?_
  simp only [pickM, pickO, List.getElem?_cons_zero, List.getElem?_cons_succ]
  repeat (first | (refine wpMix_read rfl (fun K hK => ?_)) | (refine wpMix_pure rfl (fun K hK => ?_))
          go_big_quiet_op
          first | (refine hK _ ?_; clear hK K))
  refine wpMix_nil ?_
  intro _ hw'
  obtain ⟨nq, hw''⟩ := hw'
  subst hw''
  have qd : Quiet V (V.drewN nq) := (Chg.refl _ _).drewN nq
  have hp2 := hide (unhide hposH _ qd)
  have H2 := hide ((unhide HnH).quiet qd)
  have chd : Hid (Chg (fun k => B ≤ k) V (V.drewN nq)) := qd.chg _
  clear o0 o1 o2 o3 o4 o5 a0 a1 c0 c1 hposH HnH f1 hgl qd
  generalize V.drewN nq = V1 at *
  go_wp2_with fail
  refine (unhide hp2).mono ?_
  clear hp2
  rintro e V2 ⟨v', rfl, pw⟩
  obtain ⟨av, cv, rfl⟩ := pw.1.shape
  have hbV := pw.2.1.blk (unhide H2).ks.gr.blk (unhide H2).ks.gr.gw
  have c1 := hbV.cell 1
  have f1 := hbV.frozen 1
  simp at c1
  have hgl := hbV.lt
  obtain ⟨H3, ch3⟩ := (unhide H2).wire pw
  have c1' : (V2.setCell ⟨g, 1, none⟩ (.slice av W2.length cv)).cell? ⟨g, 1, none⟩ = some (.slice av W2.length cv) := H3.ks.gr.blk.cell 1
  have hgl3 := H3.ks.gr.blk.lt
  have H3H := hide H3
  have ch3H := hide ((unhide chd).trans ch3)
  clear hbV pw H3 ch3 H2 chd
  go_wp2
  refine NoPanic.normal ?_
  clear c1 f1 hgl
  generalize V2.setCell ⟨g, 1, none⟩ (.slice av W2.length cv) = V3 at *
  generalize W2.length = wl2 at *
  go_wp2_with fail
  refine unhide hKH _ _ ?_
  exact unhide ht _ _ _ _ _ _ _ _ _ _ _ _ _ _ _ _ _ _ _ _ _ _ _ _ _ _ _ _ _ _ _ _ _ _ _ _ _ _ _ _ _ _ _ _ _ _ _ _ _ _ _ _ _ _ _ _ _ _ _ _ _ _ _ _ _ _ _ _ _ _ _ _ _ _ _ _ _ _ _ _ _ _ _ _ _ _ _ _ _ _ _ _ _ _ _ _ _ _ _ _ _ _ _ _ _ _ _ _ _ _ _ _ _ _ _ _ _ _ _ _ _ _ _ _ _ _ _ _ _ _ _ _ _ _ _ _ (unhide ch3H) (unhide H3H)

set_option maxHeartbeats 8000000 in
set_option maxRecDepth 100000 in
theorem evM_o (B : Nat) (V : World) (g : Nat) (vX vW vG : Value) (n : Nat) (h1 : 1 ≤ n) (h4 : n ≤ 4) (P : Nat → Nat × Nat × Nat) (S : Nat → Nd) (W : List M4) (Bo A : Nat) (k b c : Int) (i : Nat) (s t : ByteArray) (E N Mm : Int) (R : ByteArray)
    (Hn : EvIn B V g vX vW vG n P S S W Bo A k i b c s t E N Mm R) (hk1 : k ≠ 1) (hk2 : k ≠ 2) (hk3 : k ≠ 3) (hE : E = 0) (W2 : List M4) (h36 : W2.length ≤ 36) (hlen : W2.length = W.length + 0) (hpost : ∀ V', Quiet V V' → Calls Try.prog 32 #[vW, .int .i64 n, .agg #[.int .i64 k, .int .i64 i, .int .i64 b, .int .i64 c, .string s, .string t], .int .i64 N] V' fun e w' => ∃ v', e = .returned v' ∧ PW V' vW w' v' W2) (x : Nat) (qu : Bool) (ow rs : ByteArray)
    (u1 u3 u4 u6 u7 u13 u14 u15 u16 u17 u18 u19 u20 u21 u22 u23 u24 u25 u26 u27 u28 u29 u30 u31 u32 u33 u34 u35 u36 u37 u38 u39 u40 u41 u42 u43 u44 u45 u46 u47 u48 u49 u50 u51 u52 u53 u54 u55 u56 u57 u58 u59 u60 u61 u62 u63 u64 u65 u66 u67 u68 u69 u70 u71 u72 u73 u74 u75 u76 u77 u78 u79 u80 u81 u82 u83 u84 u85 u86 u87 u88 u89 u90 u91 u92 u93 u94 u95 u96 u97 u98 u99 u100 u101 u102 u103 u104 u105 u106 u107 u108 u109 u110 u111 u112 u113 u114 u115 u116 u117 u118 u119 u120 u121 u122 u123 u124 u125 u126 u127 u128 u129 u130 u131 u132 u133 u134 u135 u136 u137 u138 u139 u140 u141 : Value) (Q : Ending → World → Prop)
    (ht : Hid (∀ (V2 : World) (vW2 : Value) (y1 y3 y4 y6 y7 y13 y14 y15 y16 y17 y18 y19 y20 y21 y22 y23 y24 y25 y26 y27 y28 y29 y30 y31 y32 y33 y34 y35 y36 y37 y38 y39 y40 y41 y42 y43 y44 y45 y46 y47 y48 y49 y50 y51 y52 y53 y54 y55 y56 y57 y58 y59 y60 y61 y62 y63 y64 y65 y66 y67 y68 y69 y70 y71 y72 y73 y74 y75 y76 y77 y78 y79 y80 y81 y82 y83 y84 y85 y86 y87 y88 y89 y90 y91 y92 y93 y94 y95 y96 y97 y98 y99 y100 y101 y102 y103 y104 y105 y106 y107 y108 y109 y110 y111 y112 y113 y114 y115 y116 y117 y118 y119 y120 y121 y122 y123 y124 y125 y126 y127 y128 y129 y130 y131 y132 y133 y134 y135 y136 y137 y138 y139 y140 y141 : Value), Chg (fun k => B ≤ k) V V2 → EvIn B V2 g vX vW2 vG n P S S W2 Bo A k i b c s t E N Mm R → Code.wp Try.prog tail26 (bodyPost Try.prog Try.f26 Q) ⟨(Value.pointer (some ⟨g, 0, none⟩) :: y1 :: Value.bool qu :: y3 :: y4 :: Value.pointer (some ⟨Bo, 0, none⟩) :: y6 :: y7 :: Value.bool false :: Value.pointer (some ⟨x, 0, none⟩) :: Value.string ow :: Value.string rs :: Value.pointer (some ⟨A, 0, none⟩) :: y13 :: y14 :: y15 :: y16 :: y17 :: y18 :: y19 :: y20 :: y21 :: y22 :: y23 :: y24 :: y25 :: y26 :: y27 :: y28 :: y29 :: y30 :: y31 :: y32 :: y33 :: y34 :: y35 :: y36 :: y37 :: y38 :: y39 :: y40 :: y41 :: y42 :: y43 :: y44 :: y45 :: y46 :: y47 :: y48 :: y49 :: y50 :: y51 :: y52 :: y53 :: y54 :: y55 :: y56 :: y57 :: y58 :: y59 :: y60 :: y61 :: y62 :: y63 :: y64 :: y65 :: y66 :: y67 :: y68 :: y69 :: y70 :: y71 :: y72 :: y73 :: y74 :: y75 :: y76 :: y77 :: y78 :: y79 :: y80 :: y81 :: y82 :: y83 :: y84 :: y85 :: y86 :: y87 :: y88 :: y89 :: y90 :: y91 :: y92 :: y93 :: y94 :: y95 :: y96 :: y97 :: y98 :: y99 :: y100 :: y101 :: y102 :: y103 :: y104 :: y105 :: y106 :: y107 :: y108 :: y109 :: y110 :: y111 :: y112 :: y113 :: y114 :: y115 :: y116 :: y117 :: y118 :: y119 :: y120 :: y121 :: y122 :: y123 :: y124 :: y125 :: y126 :: y127 :: y128 :: y129 :: y130 :: y131 :: y132 :: y133 :: y134 :: y135 :: y136 :: y137 :: y138 :: y139 :: y140 :: y141 :: ([] : List Value)).toArray, []⟩ V2)) :
    Code.wp Try.prog mid26 (bodyPost Try.prog Try.f26 Q) ⟨(Value.pointer (some ⟨g, 0, none⟩) :: u1 :: Value.bool qu :: u3 :: u4 :: Value.pointer (some ⟨Bo, 0, none⟩) :: u6 :: u7 :: Value.bool false :: Value.pointer (some ⟨x, 0, none⟩) :: Value.string ow :: Value.string rs :: Value.pointer (some ⟨A, 0, none⟩) :: u13 :: u14 :: u15 :: u16 :: u17 :: u18 :: u19 :: u20 :: u21 :: u22 :: u23 :: u24 :: u25 :: u26 :: u27 :: u28 :: u29 :: u30 :: u31 :: u32 :: u33 :: u34 :: u35 :: u36 :: u37 :: u38 :: u39 :: u40 :: u41 :: u42 :: u43 :: u44 :: u45 :: u46 :: u47 :: u48 :: u49 :: u50 :: u51 :: u52 :: u53 :: u54 :: u55 :: u56 :: u57 :: u58 :: u59 :: u60 :: u61 :: u62 :: u63 :: u64 :: u65 :: u66 :: u67 :: u68 :: u69 :: u70 :: u71 :: u72 :: u73 :: u74 :: u75 :: u76 :: u77 :: u78 :: u79 :: u80 :: u81 :: u82 :: u83 :: u84 :: u85 :: u86 :: u87 :: u88 :: u89 :: u90 :: u91 :: u92 :: u93 :: u94 :: u95 :: u96 :: u97 :: u98 :: u99 :: u100 :: u101 :: u102 :: u103 :: u104 :: u105 :: u106 :: u107 :: u108 :: u109 :: u110 :: u111 :: u112 :: u113 :: u114 :: u115 :: u116 :: u117 :: u118 :: u119 :: u120 :: u121 :: u122 :: u123 :: u124 :: u125 :: u126 :: u127 :: u128 :: u129 :: u130 :: u131 :: u132 :: u133 :: u134 :: u135 :: u136 :: u137 :: u138 :: u139 :: u140 :: u141 :: ([] : List Value)).toArray, []⟩ V := by
  conv => arg 2; whnf
  have a0 : V.cell? ⟨A, 0, none⟩ = some (.int .i64 E) := Hn.an.cell 0
  subst hE
  obtain ⟨ax, cx, rfl⟩ := Hn.ks.gr.rX.shape
  obtain ⟨aw, cw, rfl⟩ := Hn.ks.gr.rW.shape
  have o0 : V.cell? ⟨Bo, 0, none⟩ = some (.int .i64 k) := Hn.op.cell 0
  have o1 : V.cell? ⟨Bo, 1, none⟩ = some (.int .i64 i) := Hn.op.cell 1
  have o2 : V.cell? ⟨Bo, 2, none⟩ = some (.int .i64 b) := Hn.op.cell 2
  have o3 : V.cell? ⟨Bo, 3, none⟩ = some (.int .i64 c) := Hn.op.cell 3
  have o4 : V.cell? ⟨Bo, 4, none⟩ = some (.string s) := Hn.op.cell 4
  have o5 : V.cell? ⟨Bo, 5, none⟩ = some (.string t) := Hn.op.cell 5
  have a1 : V.cell? ⟨A, 1, none⟩ = some (.int .i64 N) := Hn.an.cell 1
  have c0 : V.cell? ⟨g, 0, none⟩ = some (.slice ax n cx) := Hn.ks.gr.blk.cell 0
  have c1 : V.cell? ⟨g, 1, none⟩ = some (.slice aw W.length cw) := Hn.ks.gr.blk.cell 1
  have hgl := Hn.ks.gr.blk.lt
  have f1 := Hn.ks.gr.blk.frozen 1
  have hposH := hide hpost
  have HnH := hide Hn
  have wn : IntKind.i64.wrap ((n : Int) - 1) = (n : Int) - 1 := by rw [IntKind.wrap_i64]; omega
  have wl : IntKind.i64.wrap ((W.length : Int)) = (W.length : Int) := by rw [IntKind.wrap_i64]; omega
  have hl1 : ((W2.length : Int) == (W.length : Int)) = true := by simp; omega
  have hl2 : ((W2.length : Int) != (W.length : Int)) = false := by rw [bne, hl1]; rfl
  have hW0 : W.length ≤ 36 := by omega
  clear Hn hpost hlen hl1 h36
  have k1 : (k == 1) = false := by simpa using hk1
  have k2 : (k == 2) = false := by simpa using hk2
  have k3 : (k == 3) = false := by simpa using hk3
  clear hk1 hk2 hk3
  go_upto_region 11 with fail
  rename_i hK KI hKI
  have hKH := hide hK
  clear hK
  generalize W.length = wl0 at *
  go_wp2
  refine wp_region_noPanic ?_
  try simp only [List.append_eq, List.cons_append, List.nil_append]
  refine wp_region_mix [(0, false), (1, true), (2, true), (3, true), (4, true), (5, true), (6, true), (7, true), (8, true), (9, true), (10, true), (11, true), (12, true)] [13, 14, 15, 16] (by kernel_rfl) (by kernel_rfl) (fun _ _ _ _ _ h => h) ?_
  simp only [pickM, pickO, List.getElem?_cons_zero, List.getElem?_cons_succ]
  repeat (first | (refine wpMix_read rfl (fun K hK => ?_)) | (refine wpMix_pure rfl (fun K hK => ?_))
          go_big_quiet_op
          first | (refine hK _ ?_; clear hK K))
  refine wpMix_nil ?_
  intro _ hw'
  obtain ⟨nq, hw''⟩ := hw'
  subst hw''
  have qd : Quiet V (V.drewN nq) := (Chg.refl _ _).drewN nq
  have hp2 := hide (unhide hposH _ qd)
  have H2 := hide ((unhide HnH).quiet qd)
  have chd : Hid (Chg (fun k => B ≤ k) V (V.drewN nq)) := qd.chg _
  clear o0 o1 o2 o3 o4 o5 a0 a1 c0 c1 hposH HnH f1 hgl qd
  generalize V.drewN nq = V1 at *
  go_wp2_with fail
  refine (unhide hp2).mono ?_
  clear hp2
  rintro e V2 ⟨v', rfl, pw⟩
  obtain ⟨av, cv, rfl⟩ := pw.1.shape
  have hbV := pw.2.1.blk (unhide H2).ks.gr.blk (unhide H2).ks.gr.gw
  have c1 := hbV.cell 1
  have f1 := hbV.frozen 1
  simp at c1
  have hgl := hbV.lt
  obtain ⟨H3, ch3⟩ := (unhide H2).wire pw
  have c1' : (V2.setCell ⟨g, 1, none⟩ (.slice av W2.length cv)).cell? ⟨g, 1, none⟩ = some (.slice av W2.length cv) := H3.ks.gr.blk.cell 1
  have hgl3 := H3.ks.gr.blk.lt
  have H3H := hide H3
  have ch3H := hide ((unhide chd).trans ch3)
  clear hbV pw H3 ch3 H2 chd
  go_wp2
  refine NoPanic.normal ?_
  clear c1 f1 hgl
  generalize V2.setCell ⟨g, 1, none⟩ (.slice av W2.length cv) = V3 at *
  generalize W2.length = wl2 at *
  go_wp2_with fail
  refine unhide hKH _ _ ?_
  exact unhide ht _ _ _ _ _ _ _ _ _ _ _ _ _ _ _ _ _ _ _ _ _ _ _ _ _ _ _ _ _ _ _ _ _ _ _ _ _ _ _ _ _ _ _ _ _ _ _ _ _ _ _ _ _ _ _ _ _ _ _ _ _ _ _ _ _ _ _ _ _ _ _ _ _ _ _ _ _ _ _ _ _ _ _ _ _ _ _ _ _ _ _ _ _ _ _ _ _ _ _ _ _ _ _ _ _ _ _ _ _ _ _ _ _ _ _ _ _ _ _ _ _ _ _ _ _ _ _ _ _ _ _ _ _ _ _ _ (unhide ch3H) (unhide H3H)
end Go.Proofs.Qxb6500367a
