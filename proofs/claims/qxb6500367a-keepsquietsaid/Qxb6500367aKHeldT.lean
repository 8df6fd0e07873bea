/-
  367 Keeps: Held's tail and middle. (gen7held.py)
-/
import Derived.Test.Qxb6500367aKSt
import Derived.Test.Qxb6500367aKFirst
import Derived.Deep.CutBlock
import Derived.Deep.CutRange
import Derived.BigQuiet
namespace Go.Proofs.Qxb6500367a
open Go.RowKit Go.Qx
set_option linter.unusedSimpArgs false
set_option linter.unusedVariables false

def cSnd : Code → Code
  | .seq _ b => b
  | c => c
def cFst : Code → Code
  | .seq a _ => a
  | c => c
def cBlk : Code → Code
  | .block _ c => c
  | c => c
def cLoop : Code → Code
  | .loop c => c
  | c => c
noncomputable def body45 : Code := match Try.f45.body with
  | some c => c
  | none => .skip
/-- Held behind its load of the mind. -/
noncomputable def mid45 : Code := cSnd (cSnd (cSnd (cSnd (cSnd (cSnd (cSnd body45))))))
/-- Held from its store of the mind on. -/
noncomputable def tail45 : Code := cSnd (cSnd (cSnd (cSnd (cSnd (cSnd (cSnd (cSnd mid45)))))))

theorem GR.minds {w w' : World} {g : Nat} {vX vW vG : Value} {n : Nat} {X : List Value} {W : List M4} {G : Nat → Nd} (h : GR w g vX vW vG n X W G) (c : Chg (fun k => vG.ownBlock = some k) w w') {G' : Nat → Nd} (r : Row w' 80 4 vG n (gcells G' n)) : GR w' g vX vW vG n X W G' :=
  { h with
      blk := c.blk h.blk h.gg
      rX := h.rX.of_chg c (fun b hb => h.xg b hb)
      rW := h.rW.of_chg c (fun b hb => h.wg b hb)
      rG := r }

/-- What Held holds behind its load of the mind: its boxes of the step, the answer, the mind. -/
structure HIn (V : World) (g gb cg : Nat) (vX vW : Value) (n : Nat) (X : List Value) (W : List M4) (G : Nat → Nd) (B A M : Nat) (k i b c : Int) (s t : ByteArray) (N Mm : Int) (mc : List Value) : Prop where
  gr : GR V g vX vW (.slice (some ⟨gb, 0, none⟩) n cg) n X W G
  op : Blk V B 44 [.int .i64 k, .int .i64 i, .int .i64 b, .int .i64 c, .string s, .string t]
  an : Blk V A 65 [.int .i64 0, .int .i64 N, .int .i64 Mm, .string ⟨#[]⟩]
  mi : Blk V M 80 mc
  nB : ¬ ownR g vX vW (.slice (some ⟨gb, 0, none⟩) n cg) B
  nA : ¬ ownR g vX vW (.slice (some ⟨gb, 0, none⟩) n cg) A
  nM : ¬ ownR g vX vW (.slice (some ⟨gb, 0, none⟩) n cg) M
  bm : B ≠ M
  am : A ≠ M
section
variable {V V' : World} {g gb cg : Nat} {vX vW : Value} {n : Nat} {X : List Value} {W : List M4} {G : Nat → Nd} {B A M : Nat} {k i b c : Int} {s t : ByteArray} {N Mm : Int} {mc : List Value}
theorem HIn.quiet (h : HIn V g gb cg vX vW n X W G B A M k i b c s t N Mm mc) (q : Quiet V V') : HIn V' g gb cg vX vW n X W G B A M k i b c s t N Mm mc :=
  { h with gr := h.gr.quiet q, op := q.blk h.op, an := q.blk h.an, mi := q.blk h.mi }
theorem HIn.setM (h : HIn V g gb cg vX vW n X W G B A M k i b c s t N Mm mc) (o : Nat) (v : Value) : HIn (V.setCell ⟨M, o, none⟩ v) g gb cg vX vW n X W G B A M k i b c s t N Mm (mc.set o v) := by
  have c2 : Chg (fun x => x = M) V (V.setCell ⟨M, o, none⟩ v) := Chg.setCell (S := fun x => x = M) (p := ⟨M, o, none⟩) (Chg.refl _ V) (.inl rfl) v
  exact { h with gr := h.gr.of_chg c2 (fun x hx e => h.nM (e ▸ hx)), op := c2.blk h.op h.bm, an := c2.blk h.an h.am, mi := h.mi.set o v }
theorem HIn.setM' {mc' : List Value} (h : HIn V g gb cg vX vW n X W G B A M k i b c s t N Mm mc) (o : Nat) (v : Value) (e : mc.set o v = mc') : HIn (V.setCell ⟨M, o, none⟩ v) g gb cg vX vW n X W G B A M k i b c s t N Mm mc' := e ▸ h.setM o v
end
/-- The cells of a mind. -/
def mindC (d : Nd) : List Value := [.int .i64 d.clock, .int .i64 d.phase, .int .i64 d.mine, .int .i64 d.acks]

/-- The store of the mind. -/
theorem HIn.store {V : World} {g gb cg : Nat} {vX vW : Value} {n : Nat} {X : List Value} {W : List M4} {G : Nat → Nd} {B A M : Nat} {k b c : Int} {i : Nat} {s t : ByteArray} {N Mm : Int} {mc : List Value} (h : HIn V g gb cg vX vW n X W G B A M k i b c s t N Mm mc) (hi : i < n) (s' : Nd) :
    HIn ((((V.setCell ⟨gb, i * 4, none⟩ (.int .i64 s'.clock)).setCell ⟨gb, i * 4 + 1, none⟩ (.int .i64 s'.phase)).setCell ⟨gb, i * 4 + 2, none⟩ (.int .i64 s'.mine)).setCell ⟨gb, i * 4 + 3, none⟩ (.int .i64 s'.acks)) g gb cg vX vW n X W (upS G i s') B A M k i b c s t N Mm mc
    ∧ Chg (fun k => k = gb) V ((((V.setCell ⟨gb, i * 4, none⟩ (.int .i64 s'.clock)).setCell ⟨gb, i * 4 + 1, none⟩ (.int .i64 s'.phase)).setCell ⟨gb, i * 4 + 2, none⟩ (.int .i64 s'.mine)).setCell ⟨gb, i * 4 + 3, none⟩ (.int .i64 s'.acks)) := by
  obtain ⟨sp, hb, hn, hm, hl⟩ := h.gr.rG.some_form
  have hgl := gcells_length G n
  have c1 : Chg (fun k => k = gb) V ((((V.setCell ⟨gb, i * 4, none⟩ (.int .i64 s'.clock)).setCell ⟨gb, i * 4 + 1, none⟩ (.int .i64 s'.phase)).setCell ⟨gb, i * 4 + 2, none⟩ (.int .i64 s'.mine)).setCell ⟨gb, i * 4 + 3, none⟩ (.int .i64 s'.acks)) :=
    Chg.setCell (S := fun k => k = gb) (p := ⟨gb, i * 4 + 3, none⟩) (Chg.setCell (S := fun k => k = gb) (p := ⟨gb, i * 4 + 2, none⟩) (Chg.setCell (S := fun k => k = gb) (p := ⟨gb, i * 4 + 1, none⟩) (Chg.setCell (S := fun k => k = gb) (p := ⟨gb, i * 4, none⟩) (Chg.refl _ V) (.inl rfl) _) (.inl rfl) _) (.inl rfl) _) (.inl rfl) _
  have hr : Row ((((V.setCell ⟨gb, i * 4, none⟩ (.int .i64 s'.clock)).setCell ⟨gb, i * 4 + 1, none⟩ (.int .i64 s'.phase)).setCell ⟨gb, i * 4 + 2, none⟩ (.int .i64 s'.mine)).setCell ⟨gb, i * 4 + 3, none⟩ (.int .i64 s'.acks)) 80 4 (.slice (some ⟨gb, 0, none⟩) n cg) n (gcells (upS G i s') n) := by
    refine Row.of_blk (spare := sp) ?_ (gcells_length _ _) hn hm (by rw [List.length_append, gcells_length]; rw [List.length_append, gcells_length] at hl; exact hl)
    have := (((hb.set (i * 4) (.int .i64 s'.clock)).set (i * 4 + 1) (.int .i64 s'.phase)).set (i * 4 + 2) (.int .i64 s'.mine)).set (i * 4 + 3) (.int .i64 s'.acks)
    rw [List.set_append_left _ _ (by omega), List.set_append_left _ _ (by simp; omega), List.set_append_left _ _ (by simp; omega), List.set_append_left _ _ (by simp; omega), ← gcells_set G i s' n hi] at this
    exact this
  have og : ownR g vX vW (.slice (some ⟨gb, 0, none⟩) n cg) gb := .inr (.inr (.inr rfl))
  refine ⟨{ h with gr := h.gr.minds (c1.mono (fun k' _ e => by subst e; rfl)) hr, op := c1.blk h.op (fun e => h.nB (by rw [e]; exact og)), an := c1.blk h.an (fun e => h.nA (by rw [e]; exact og)), mi := c1.blk h.mi (fun e => h.nM (by rw [e]; exact og)) }, c1⟩

set_option maxHeartbeats 8000000 in
set_option maxRecDepth 100000 in
theorem tail45_no (V : World) (g gb cg : Nat) (vX vW : Value) (n : Nat) (h4 : n ≤ 4) (X : List Value) (W : List M4) (G : Nat → Nd) (B A M : Nat) (k b c : Int) (i : Nat) (hi : i < n) (s t : ByteArray) (N : Int) (s' : Nd) (was want : Int)
    (Hn : HIn V g gb cg vX vW n X W G B A M k i b c s t N s'.phase (mindC s')) (hw : s'.phase = want) (hp : s'.phase ≠ 2) (hk : k ≠ 1)
    (u1 u2 u3 u7 u11 u12 u13 u14 u15 u16 u17 u18 u19 u20 u21 u22 u23 u24 u25 u26 u27 u28 u29 u30 u31 u32 u33 u34 u35 u36 u37 u38 u39 u40 u41 u42 u43 u44 u45 u46 u47 u48 u49 u50 u51 u52 u53 u54 u55 u56 u57 u58 u59 u60 u61 u62 u63 u64 u65 u66 u67 u68 u69 u70 u71 u72 u73 u74 u75 u76 u77 u78 u79 u80 u81 u82 u83 u84 u85 u86 u87 u88 u89 u90 u91 u92 u93 u94 u95 u96 u97 u98 u99 u100 u101 u102 u103 u104 u105 u106 u107 u108 u109 u110 u111 u112 u113 u114 u115 u116 u117 u118 u119 u120 u121 u122 u123 u124 u125 u126 u127 u128 u129 u130 u131 u132 u133 u134 u135 u136 u137 u138 u139 u140 u141 u142 u143 u144 u145 u146 u147 u148 u149 : Value) (Q : Ending → World → Prop)
    (hQ : ∀ wx, Chg (fun k => k = gb) V wx → Row wx 80 4 (.slice (some ⟨gb, 0, none⟩) n cg) n (gcells (upS G i s') n) → Q (.returned (.bool true)) wx) :
    Code.wp Try.prog tail45 (bodyPost Try.prog Try.f45 Q) ⟨(Value.pointer (some ⟨g, 0, none⟩) :: u1 :: u2 :: u3 :: Value.pointer (some ⟨B, 0, none⟩) :: Value.pointer (some ⟨A, 0, none⟩) :: Value.bool false :: u7 :: Value.pointer (some ⟨M, 0, none⟩) :: Value.int .i64 was :: Value.int .i64 want :: u11 :: u12 :: u13 :: u14 :: u15 :: u16 :: u17 :: u18 :: u19 :: u20 :: u21 :: u22 :: u23 :: u24 :: u25 :: u26 :: u27 :: u28 :: u29 :: u30 :: u31 :: u32 :: u33 :: u34 :: u35 :: u36 :: u37 :: u38 :: u39 :: u40 :: u41 :: u42 :: u43 :: u44 :: u45 :: u46 :: u47 :: u48 :: u49 :: u50 :: u51 :: u52 :: u53 :: u54 :: u55 :: u56 :: u57 :: u58 :: u59 :: u60 :: u61 :: u62 :: u63 :: u64 :: u65 :: u66 :: u67 :: u68 :: u69 :: u70 :: u71 :: u72 :: u73 :: u74 :: u75 :: u76 :: u77 :: u78 :: u79 :: u80 :: u81 :: u82 :: u83 :: u84 :: u85 :: u86 :: u87 :: u88 :: u89 :: u90 :: u91 :: u92 :: u93 :: u94 :: u95 :: u96 :: u97 :: u98 :: u99 :: u100 :: u101 :: u102 :: u103 :: u104 :: u105 :: u106 :: u107 :: u108 :: u109 :: u110 :: u111 :: u112 :: u113 :: u114 :: u115 :: u116 :: u117 :: u118 :: u119 :: u120 :: u121 :: u122 :: u123 :: u124 :: u125 :: u126 :: u127 :: u128 :: u129 :: u130 :: u131 :: u132 :: u133 :: u134 :: u135 :: u136 :: u137 :: u138 :: u139 :: u140 :: u141 :: u142 :: u143 :: u144 :: u145 :: u146 :: u147 :: u148 :: u149 :: ([] : List Value)).toArray, []⟩ V := by
  conv => arg 2; whnf
  have c2 : V.cell? ⟨g, 2, none⟩ = some (.slice (some ⟨gb, 0, none⟩) n cg) := Hn.gr.blk.cell 2
  have o0 : V.cell? ⟨B, 0, none⟩ = some (.int .i64 k) := Hn.op.cell 0
  have o1 : V.cell? ⟨B, 1, none⟩ = some (.int .i64 i) := Hn.op.cell 1
  have m0 : V.cell? ⟨M, 0, none⟩ = some (.int .i64 s'.clock) := Hn.mi.cell 0
  have m1 : V.cell? ⟨M, 1, none⟩ = some (.int .i64 s'.phase) := Hn.mi.cell 1
  have m2 : V.cell? ⟨M, 2, none⟩ = some (.int .i64 s'.mine) := Hn.mi.cell 2
  have m3 : V.cell? ⟨M, 3, none⟩ = some (.int .i64 s'.acks) := Hn.mi.cell 3
  obtain ⟨gb', cg', hv, g0, g1, g2, g3⟩ := Hn.gr.mind hi
  cases hv
  obtain ⟨sp, hb, _⟩ := Hn.gr.rG.some_form
  have f0 := hb.frozen (i * 4)
  have f1 := hb.frozen (i * 4 + 1)
  have f2 := hb.frozen (i * 4 + 2)
  have f3 := hb.frozen (i * 4 + 3)
  have hgl := Hn.gr.blk.lt
  have hbl := hb.lt
  have i0 : (0 : Int) ≤ (i : Int) := by omega
  have i1 : (i : Int) < (n : Int) := by omega
  obtain ⟨Hn2, ch⟩ := Hn.store hi s'
  have Hn2H := hide Hn2
  have chH := hide ch
  have hQH := hide hQ
  have w1 : (s'.phase == want) = true := by simpa using hw
  have p1 : (s'.phase == 2) = false := by simpa using hp
  have p2 : (s'.phase != 2) = true := by rw [bne, p1]; rfl
  have k1 : (k == 1) = false := by simpa using hk
  have k2 : (k != 1) = true := by rw [bne, k1]; rfl
  clear hw hp hk
  clear Hn Hn2 ch hb hQ
  go_wp2
  go_region_law (fail)
  all_goals
    have H3 := hide ((unhide Hn2H).quiet ((Chg.refl _ _).drew))
    have ch3 := hide ((unhide chH).trans ((Quiet.chg ((Chg.refl _ _).drew) _)))
    clear c2 o0 o1 m0 m1 m2 m3 g0 g1 g2 g3 f0 f1 f2 f3 hgl hbl Hn2H chH
    generalize ((((V.setCell ⟨gb, i * 4, none⟩ (.int .i64 s'.clock)).setCell ⟨gb, i * 4 + 1, none⟩ (.int .i64 s'.phase)).setCell ⟨gb, i * 4 + 2, none⟩ (.int .i64 s'.mine)).setCell ⟨gb, i * 4 + 3, none⟩ (.int .i64 s'.acks)).drew = V1 at *
    have c2 : V1.cell? ⟨g, 2, none⟩ = some (.slice (some ⟨gb, 0, none⟩) n cg) := (unhide H3).gr.blk.cell 2
    have o0 : V1.cell? ⟨B, 0, none⟩ = some (.int .i64 k) := (unhide H3).op.cell 0
    have o1 : V1.cell? ⟨B, 1, none⟩ = some (.int .i64 i) := (unhide H3).op.cell 1
    have a2 : V1.cell? ⟨A, 2, none⟩ = some (.int .i64 s'.phase) := (unhide H3).an.cell 2
    have m3 : V1.cell? ⟨M, 3, none⟩ = some (.int .i64 s'.acks) := (unhide H3).mi.cell 3
    have hgl := (unhide H3).gr.blk.lt
    go_wp2
    exact unhide hQH _ (unhide ch3) (unhide H3).gr.rG

set_option maxHeartbeats 8000000 in
set_option maxRecDepth 100000 in
theorem tail45_in2 (V : World) (g gb cg : Nat) (vX vW : Value) (n : Nat) (h4 : n ≤ 4) (X : List Value) (W : List M4) (G : Nat → Nd) (B A M : Nat) (k b c : Int) (i : Nat) (hi : i < n) (s t : ByteArray) (N : Int) (s' : Nd) (was want : Int)
    (Hn : HIn V g gb cg vX vW n X W G B A M k i b c s t N s'.phase (mindC s')) (hw : s'.phase = want) (hp : was = 2) (hk : k ≠ 1)
    (u1 u2 u3 u7 u11 u12 u13 u14 u15 u16 u17 u18 u19 u20 u21 u22 u23 u24 u25 u26 u27 u28 u29 u30 u31 u32 u33 u34 u35 u36 u37 u38 u39 u40 u41 u42 u43 u44 u45 u46 u47 u48 u49 u50 u51 u52 u53 u54 u55 u56 u57 u58 u59 u60 u61 u62 u63 u64 u65 u66 u67 u68 u69 u70 u71 u72 u73 u74 u75 u76 u77 u78 u79 u80 u81 u82 u83 u84 u85 u86 u87 u88 u89 u90 u91 u92 u93 u94 u95 u96 u97 u98 u99 u100 u101 u102 u103 u104 u105 u106 u107 u108 u109 u110 u111 u112 u113 u114 u115 u116 u117 u118 u119 u120 u121 u122 u123 u124 u125 u126 u127 u128 u129 u130 u131 u132 u133 u134 u135 u136 u137 u138 u139 u140 u141 u142 u143 u144 u145 u146 u147 u148 u149 : Value) (Q : Ending → World → Prop)
    (hQ : ∀ wx, Chg (fun k => k = gb) V wx → Row wx 80 4 (.slice (some ⟨gb, 0, none⟩) n cg) n (gcells (upS G i s') n) → Q (.returned (.bool true)) wx) :
    Code.wp Try.prog tail45 (bodyPost Try.prog Try.f45 Q) ⟨(Value.pointer (some ⟨g, 0, none⟩) :: u1 :: u2 :: u3 :: Value.pointer (some ⟨B, 0, none⟩) :: Value.pointer (some ⟨A, 0, none⟩) :: Value.bool false :: u7 :: Value.pointer (some ⟨M, 0, none⟩) :: Value.int .i64 was :: Value.int .i64 want :: u11 :: u12 :: u13 :: u14 :: u15 :: u16 :: u17 :: u18 :: u19 :: u20 :: u21 :: u22 :: u23 :: u24 :: u25 :: u26 :: u27 :: u28 :: u29 :: u30 :: u31 :: u32 :: u33 :: u34 :: u35 :: u36 :: u37 :: u38 :: u39 :: u40 :: u41 :: u42 :: u43 :: u44 :: u45 :: u46 :: u47 :: u48 :: u49 :: u50 :: u51 :: u52 :: u53 :: u54 :: u55 :: u56 :: u57 :: u58 :: u59 :: u60 :: u61 :: u62 :: u63 :: u64 :: u65 :: u66 :: u67 :: u68 :: u69 :: u70 :: u71 :: u72 :: u73 :: u74 :: u75 :: u76 :: u77 :: u78 :: u79 :: u80 :: u81 :: u82 :: u83 :: u84 :: u85 :: u86 :: u87 :: u88 :: u89 :: u90 :: u91 :: u92 :: u93 :: u94 :: u95 :: u96 :: u97 :: u98 :: u99 :: u100 :: u101 :: u102 :: u103 :: u104 :: u105 :: u106 :: u107 :: u108 :: u109 :: u110 :: u111 :: u112 :: u113 :: u114 :: u115 :: u116 :: u117 :: u118 :: u119 :: u120 :: u121 :: u122 :: u123 :: u124 :: u125 :: u126 :: u127 :: u128 :: u129 :: u130 :: u131 :: u132 :: u133 :: u134 :: u135 :: u136 :: u137 :: u138 :: u139 :: u140 :: u141 :: u142 :: u143 :: u144 :: u145 :: u146 :: u147 :: u148 :: u149 :: ([] : List Value)).toArray, []⟩ V := by
  conv => arg 2; whnf
  have c2 : V.cell? ⟨g, 2, none⟩ = some (.slice (some ⟨gb, 0, none⟩) n cg) := Hn.gr.blk.cell 2
  have o0 : V.cell? ⟨B, 0, none⟩ = some (.int .i64 k) := Hn.op.cell 0
  have o1 : V.cell? ⟨B, 1, none⟩ = some (.int .i64 i) := Hn.op.cell 1
  have m0 : V.cell? ⟨M, 0, none⟩ = some (.int .i64 s'.clock) := Hn.mi.cell 0
  have m1 : V.cell? ⟨M, 1, none⟩ = some (.int .i64 s'.phase) := Hn.mi.cell 1
  have m2 : V.cell? ⟨M, 2, none⟩ = some (.int .i64 s'.mine) := Hn.mi.cell 2
  have m3 : V.cell? ⟨M, 3, none⟩ = some (.int .i64 s'.acks) := Hn.mi.cell 3
  obtain ⟨gb', cg', hv, g0, g1, g2, g3⟩ := Hn.gr.mind hi
  cases hv
  obtain ⟨sp, hb, _⟩ := Hn.gr.rG.some_form
  have f0 := hb.frozen (i * 4)
  have f1 := hb.frozen (i * 4 + 1)
  have f2 := hb.frozen (i * 4 + 2)
  have f3 := hb.frozen (i * 4 + 3)
  have hgl := Hn.gr.blk.lt
  have hbl := hb.lt
  have i0 : (0 : Int) ≤ (i : Int) := by omega
  have i1 : (i : Int) < (n : Int) := by omega
  obtain ⟨Hn2, ch⟩ := Hn.store hi s'
  have Hn2H := hide Hn2
  have chH := hide ch
  have hQH := hide hQ
  have w1 : (s'.phase == want) = true := by simpa using hw
  have p1 : (was == 2) = true := by simpa using hp
  have k1 : (k == 1) = false := by simpa using hk
  have k2 : (k != 1) = true := by rw [bne, k1]; rfl
  have hph : s'.phase = 2 ∨ s'.phase ≠ 2 := by omega
  clear hw hp hk
  clear Hn Hn2 ch hb hQ
  go_wp2
  go_region_law (fail)
  all_goals
    have H3 := hide ((unhide Hn2H).quiet ((Chg.refl _ _).drew))
    have ch3 := hide ((unhide chH).trans ((Quiet.chg ((Chg.refl _ _).drew) _)))
    clear c2 o0 o1 m0 m1 m2 m3 g0 g1 g2 g3 f0 f1 f2 f3 hgl hbl Hn2H chH
    generalize ((((V.setCell ⟨gb, i * 4, none⟩ (.int .i64 s'.clock)).setCell ⟨gb, i * 4 + 1, none⟩ (.int .i64 s'.phase)).setCell ⟨gb, i * 4 + 2, none⟩ (.int .i64 s'.mine)).setCell ⟨gb, i * 4 + 3, none⟩ (.int .i64 s'.acks)).drew = V1 at *
    have c2 : V1.cell? ⟨g, 2, none⟩ = some (.slice (some ⟨gb, 0, none⟩) n cg) := (unhide H3).gr.blk.cell 2
    have o0 : V1.cell? ⟨B, 0, none⟩ = some (.int .i64 k) := (unhide H3).op.cell 0
    have o1 : V1.cell? ⟨B, 1, none⟩ = some (.int .i64 i) := (unhide H3).op.cell 1
    have a2 : V1.cell? ⟨A, 2, none⟩ = some (.int .i64 s'.phase) := (unhide H3).an.cell 2
    have m3 : V1.cell? ⟨M, 3, none⟩ = some (.int .i64 s'.acks) := (unhide H3).mi.cell 3
    have hgl := (unhide H3).gr.blk.lt
    rcases hph with e | e
    · have p3 : (s'.phase == 2) = true := by simpa using e
      have p4 : (s'.phase != 2) = false := by rw [bne, p3]; rfl
      clear e
      go_wp2
      exact unhide hQH _ (unhide ch3) (unhide H3).gr.rG
    · have p3 : (s'.phase == 2) = false := by simpa using e
      have p4 : (s'.phase != 2) = true := by rw [bne, p3]; rfl
      clear e
      go_wp2
      exact unhide hQH _ (unhide ch3) (unhide H3).gr.rG

set_option maxHeartbeats 8000000 in
set_option maxRecDepth 100000 in
theorem tail45_ask (V : World) (g gb cg : Nat) (vX vW : Value) (n : Nat) (h4 : n ≤ 4) (X : List Value) (W : List M4) (G : Nat → Nd) (B A M : Nat) (k b c : Int) (i : Nat) (hi : i < n) (s t : ByteArray) (N : Int) (s' : Nd) (was want : Int)
    (Hn : HIn V g gb cg vX vW n X W G B A M k i b c s t N s'.phase (mindC s')) (hw : s'.phase = want) (hp : s'.phase ≠ 2) (hk : k = 1) (hn : 1 < n)
    (u1 u2 u3 u7 u11 u12 u13 u14 u15 u16 u17 u18 u19 u20 u21 u22 u23 u24 u25 u26 u27 u28 u29 u30 u31 u32 u33 u34 u35 u36 u37 u38 u39 u40 u41 u42 u43 u44 u45 u46 u47 u48 u49 u50 u51 u52 u53 u54 u55 u56 u57 u58 u59 u60 u61 u62 u63 u64 u65 u66 u67 u68 u69 u70 u71 u72 u73 u74 u75 u76 u77 u78 u79 u80 u81 u82 u83 u84 u85 u86 u87 u88 u89 u90 u91 u92 u93 u94 u95 u96 u97 u98 u99 u100 u101 u102 u103 u104 u105 u106 u107 u108 u109 u110 u111 u112 u113 u114 u115 u116 u117 u118 u119 u120 u121 u122 u123 u124 u125 u126 u127 u128 u129 u130 u131 u132 u133 u134 u135 u136 u137 u138 u139 u140 u141 u142 u143 u144 u145 u146 u147 u148 u149 : Value) (Q : Ending → World → Prop)
    (hQ : ∀ wx, Chg (fun k => k = gb) V wx → Row wx 80 4 (.slice (some ⟨gb, 0, none⟩) n cg) n (gcells (upS G i s') n) → Q (.returned (.bool true)) wx) :
    Code.wp Try.prog tail45 (bodyPost Try.prog Try.f45 Q) ⟨(Value.pointer (some ⟨g, 0, none⟩) :: u1 :: u2 :: u3 :: Value.pointer (some ⟨B, 0, none⟩) :: Value.pointer (some ⟨A, 0, none⟩) :: Value.bool false :: u7 :: Value.pointer (some ⟨M, 0, none⟩) :: Value.int .i64 was :: Value.int .i64 want :: u11 :: u12 :: u13 :: u14 :: u15 :: u16 :: u17 :: u18 :: u19 :: u20 :: u21 :: u22 :: u23 :: u24 :: u25 :: u26 :: u27 :: u28 :: u29 :: u30 :: u31 :: u32 :: u33 :: u34 :: u35 :: u36 :: u37 :: u38 :: u39 :: u40 :: u41 :: u42 :: u43 :: u44 :: u45 :: u46 :: u47 :: u48 :: u49 :: u50 :: u51 :: u52 :: u53 :: u54 :: u55 :: u56 :: u57 :: u58 :: u59 :: u60 :: u61 :: u62 :: u63 :: u64 :: u65 :: u66 :: u67 :: u68 :: u69 :: u70 :: u71 :: u72 :: u73 :: u74 :: u75 :: u76 :: u77 :: u78 :: u79 :: u80 :: u81 :: u82 :: u83 :: u84 :: u85 :: u86 :: u87 :: u88 :: u89 :: u90 :: u91 :: u92 :: u93 :: u94 :: u95 :: u96 :: u97 :: u98 :: u99 :: u100 :: u101 :: u102 :: u103 :: u104 :: u105 :: u106 :: u107 :: u108 :: u109 :: u110 :: u111 :: u112 :: u113 :: u114 :: u115 :: u116 :: u117 :: u118 :: u119 :: u120 :: u121 :: u122 :: u123 :: u124 :: u125 :: u126 :: u127 :: u128 :: u129 :: u130 :: u131 :: u132 :: u133 :: u134 :: u135 :: u136 :: u137 :: u138 :: u139 :: u140 :: u141 :: u142 :: u143 :: u144 :: u145 :: u146 :: u147 :: u148 :: u149 :: ([] : List Value)).toArray, []⟩ V := by
  conv => arg 2; whnf
  have c2 : V.cell? ⟨g, 2, none⟩ = some (.slice (some ⟨gb, 0, none⟩) n cg) := Hn.gr.blk.cell 2
  have o0 : V.cell? ⟨B, 0, none⟩ = some (.int .i64 k) := Hn.op.cell 0
  have o1 : V.cell? ⟨B, 1, none⟩ = some (.int .i64 i) := Hn.op.cell 1
  have m0 : V.cell? ⟨M, 0, none⟩ = some (.int .i64 s'.clock) := Hn.mi.cell 0
  have m1 : V.cell? ⟨M, 1, none⟩ = some (.int .i64 s'.phase) := Hn.mi.cell 1
  have m2 : V.cell? ⟨M, 2, none⟩ = some (.int .i64 s'.mine) := Hn.mi.cell 2
  have m3 : V.cell? ⟨M, 3, none⟩ = some (.int .i64 s'.acks) := Hn.mi.cell 3
  obtain ⟨gb', cg', hv, g0, g1, g2, g3⟩ := Hn.gr.mind hi
  cases hv
  obtain ⟨sp, hb, _⟩ := Hn.gr.rG.some_form
  have f0 := hb.frozen (i * 4)
  have f1 := hb.frozen (i * 4 + 1)
  have f2 := hb.frozen (i * 4 + 2)
  have f3 := hb.frozen (i * 4 + 3)
  have hgl := Hn.gr.blk.lt
  have hbl := hb.lt
  have i0 : (0 : Int) ≤ (i : Int) := by omega
  have i1 : (i : Int) < (n : Int) := by omega
  obtain ⟨Hn2, ch⟩ := Hn.store hi s'
  have Hn2H := hide Hn2
  have chH := hide ch
  have hQH := hide hQ
  have w1 : (s'.phase == want) = true := by simpa using hw
  have p1 : (s'.phase == 2) = false := by simpa using hp
  have p2 : (s'.phase != 2) = true := by rw [bne, p1]; rfl
  have n1 : (1 : Int) < (n : Int) := by omega
  have n2 : decide ((1 : Int) < (n : Int)) = true := by simpa using n1
  clear hw hp
  subst hk
  clear Hn Hn2 ch hb hQ
  go_wp2
  go_region_law (fail)
  all_goals
    have H3 := hide ((unhide Hn2H).quiet ((Chg.refl _ _).drew))
    have ch3 := hide ((unhide chH).trans ((Quiet.chg ((Chg.refl _ _).drew) _)))
    clear c2 o0 o1 m0 m1 m2 m3 g0 g1 g2 g3 f0 f1 f2 f3 hgl hbl Hn2H chH
    generalize ((((V.setCell ⟨gb, i * 4, none⟩ (.int .i64 s'.clock)).setCell ⟨gb, i * 4 + 1, none⟩ (.int .i64 s'.phase)).setCell ⟨gb, i * 4 + 2, none⟩ (.int .i64 s'.mine)).setCell ⟨gb, i * 4 + 3, none⟩ (.int .i64 s'.acks)).drew = V1 at *
    have c2 : V1.cell? ⟨g, 2, none⟩ = some (.slice (some ⟨gb, 0, none⟩) n cg) := (unhide H3).gr.blk.cell 2
    have o0 : V1.cell? ⟨B, 0, none⟩ = some (.int .i64 1) := (unhide H3).op.cell 0
    have o1 : V1.cell? ⟨B, 1, none⟩ = some (.int .i64 i) := (unhide H3).op.cell 1
    have a2 : V1.cell? ⟨A, 2, none⟩ = some (.int .i64 s'.phase) := (unhide H3).an.cell 2
    have m3 : V1.cell? ⟨M, 3, none⟩ = some (.int .i64 s'.acks) := (unhide H3).mi.cell 3
    have hgl := (unhide H3).gr.blk.lt
    go_wp2
    exact unhide hQH _ (unhide ch3) (unhide H3).gr.rG

set_option maxHeartbeats 8000000 in
set_option maxRecDepth 100000 in
theorem tail45_entry (V : World) (g gb cg : Nat) (vX vW : Value) (n : Nat) (h4 : n ≤ 4) (X : List Value) (W : List M4) (G : Nat → Nd) (B A M : Nat) (k b c : Int) (i : Nat) (hi : i < n) (s t : ByteArray) (N : Int) (s' : Nd) (was want : Int)
    (Hn : HIn V g gb cg vX vW n X W G B A M k i b c s t N s'.phase (mindC s')) (hw : s'.phase = 2) (hp : was ≠ 2) (hwn : want = 1) (ha : s'.acks = (n : Int) - 1) (hf : firstTo (fun j => (upS G i s' j).mine) n = i) (hins : insTo (fun j => (upS G i s' j).phase) n = 1)
    (u1 u2 u3 u7 u11 u12 u13 u14 u15 u16 u17 u18 u19 u20 u21 u22 u23 u24 u25 u26 u27 u28 u29 u30 u31 u32 u33 u34 u35 u36 u37 u38 u39 u40 u41 u42 u43 u44 u45 u46 u47 u48 u49 u50 u51 u52 u53 u54 u55 u56 u57 u58 u59 u60 u61 u62 u63 u64 u65 u66 u67 u68 u69 u70 u71 u72 u73 u74 u75 u76 u77 u78 u79 u80 u81 u82 u83 u84 u85 u86 u87 u88 u89 u90 u91 u92 u93 u94 u95 u96 u97 u98 u99 u100 u101 u102 u103 u104 u105 u106 u107 u108 u109 u110 u111 u112 u113 u114 u115 u116 u117 u118 u119 u120 u121 u122 u123 u124 u125 u126 u127 u128 u129 u130 u131 u132 u133 u134 u135 u136 u137 u138 u139 u140 u141 u142 u143 u144 u145 u146 u147 u148 u149 : Value) (Q : Ending → World → Prop)
    (hQ : ∀ wx, Chg (fun k => k = gb) V wx → Row wx 80 4 (.slice (some ⟨gb, 0, none⟩) n cg) n (gcells (upS G i s') n) → Q (.returned (.bool true)) wx) :
    Code.wp Try.prog tail45 (bodyPost Try.prog Try.f45 Q) ⟨(Value.pointer (some ⟨g, 0, none⟩) :: u1 :: u2 :: u3 :: Value.pointer (some ⟨B, 0, none⟩) :: Value.pointer (some ⟨A, 0, none⟩) :: Value.bool false :: u7 :: Value.pointer (some ⟨M, 0, none⟩) :: Value.int .i64 was :: Value.int .i64 want :: u11 :: u12 :: u13 :: u14 :: u15 :: u16 :: u17 :: u18 :: u19 :: u20 :: u21 :: u22 :: u23 :: u24 :: u25 :: u26 :: u27 :: u28 :: u29 :: u30 :: u31 :: u32 :: u33 :: u34 :: u35 :: u36 :: u37 :: u38 :: u39 :: u40 :: u41 :: u42 :: u43 :: u44 :: u45 :: u46 :: u47 :: u48 :: u49 :: u50 :: u51 :: u52 :: u53 :: u54 :: u55 :: u56 :: u57 :: u58 :: u59 :: u60 :: u61 :: u62 :: u63 :: u64 :: u65 :: u66 :: u67 :: u68 :: u69 :: u70 :: u71 :: u72 :: u73 :: u74 :: u75 :: u76 :: u77 :: u78 :: u79 :: u80 :: u81 :: u82 :: u83 :: u84 :: u85 :: u86 :: u87 :: u88 :: u89 :: u90 :: u91 :: u92 :: u93 :: u94 :: u95 :: u96 :: u97 :: u98 :: u99 :: u100 :: u101 :: u102 :: u103 :: u104 :: u105 :: u106 :: u107 :: u108 :: u109 :: u110 :: u111 :: u112 :: u113 :: u114 :: u115 :: u116 :: u117 :: u118 :: u119 :: u120 :: u121 :: u122 :: u123 :: u124 :: u125 :: u126 :: u127 :: u128 :: u129 :: u130 :: u131 :: u132 :: u133 :: u134 :: u135 :: u136 :: u137 :: u138 :: u139 :: u140 :: u141 :: u142 :: u143 :: u144 :: u145 :: u146 :: u147 :: u148 :: u149 :: ([] : List Value)).toArray, []⟩ V := by
  conv => arg 2; whnf
  have c2 : V.cell? ⟨g, 2, none⟩ = some (.slice (some ⟨gb, 0, none⟩) n cg) := Hn.gr.blk.cell 2
  have o0 : V.cell? ⟨B, 0, none⟩ = some (.int .i64 k) := Hn.op.cell 0
  have o1 : V.cell? ⟨B, 1, none⟩ = some (.int .i64 i) := Hn.op.cell 1
  have m0 : V.cell? ⟨M, 0, none⟩ = some (.int .i64 s'.clock) := Hn.mi.cell 0
  have m1 : V.cell? ⟨M, 1, none⟩ = some (.int .i64 s'.phase) := Hn.mi.cell 1
  have m2 : V.cell? ⟨M, 2, none⟩ = some (.int .i64 s'.mine) := Hn.mi.cell 2
  have m3 : V.cell? ⟨M, 3, none⟩ = some (.int .i64 s'.acks) := Hn.mi.cell 3
  obtain ⟨gb', cg', hv, g0, g1, g2, g3⟩ := Hn.gr.mind hi
  cases hv
  obtain ⟨sp, hb, _⟩ := Hn.gr.rG.some_form
  have f0 := hb.frozen (i * 4)
  have f1 := hb.frozen (i * 4 + 1)
  have f2 := hb.frozen (i * 4 + 2)
  have f3 := hb.frozen (i * 4 + 3)
  have hgl := Hn.gr.blk.lt
  have hbl := hb.lt
  have i0 : (0 : Int) ≤ (i : Int) := by omega
  have i1 : (i : Int) < (n : Int) := by omega
  obtain ⟨Hn2, ch⟩ := Hn.store hi s'
  have Hn2H := hide Hn2
  have chH := hide ch
  have hQH := hide hQ
  have p1 : (was == 2) = false := by simpa using hp
  have p3 : (s'.phase == 2) = true := by simpa using hw
  have p4 : (s'.phase != 2) = false := by rw [bne, p3]; rfl
  have ww : ((1 : Int) == 1) = true := rfl
  have w1 : IntKind.i64.wrap ((n : Int) - 1) = (n : Int) - 1 := by rw [IntKind.wrap_i64]; omega
  have a1 : (s'.acks == (n : Int) - 1) = true := by simpa using ha
  have a2' : (s'.acks != (n : Int) - 1) = false := by rw [bne, a1]; rfl
  have hfr : firstTo (fun j => (upS G i s' j).mine) n = i := hf
  have hin : insTo (fun j => (upS G i s' j).phase) n = 1 := hins
  have hfrH := hide hfr
  have hinH := hide hin
  clear hw hp ha hf hins hfr hin
  subst hwn
  clear Hn Hn2 ch hb hQ
  go_wp2
  go_region_law (fail)
  all_goals
    have H3 := hide ((unhide Hn2H).quiet ((Chg.refl _ _).drew))
    have ch3 := hide ((unhide chH).trans ((Quiet.chg ((Chg.refl _ _).drew) _)))
    clear c2 o0 o1 m0 m1 m2 m3 g0 g1 g2 g3 f0 f1 f2 f3 hgl hbl Hn2H chH
    generalize ((((V.setCell ⟨gb, i * 4, none⟩ (.int .i64 s'.clock)).setCell ⟨gb, i * 4 + 1, none⟩ (.int .i64 s'.phase)).setCell ⟨gb, i * 4 + 2, none⟩ (.int .i64 s'.mine)).setCell ⟨gb, i * 4 + 3, none⟩ (.int .i64 s'.acks)).drew = V1 at *
    have c2 : V1.cell? ⟨g, 2, none⟩ = some (.slice (some ⟨gb, 0, none⟩) n cg) := (unhide H3).gr.blk.cell 2
    have o0 : V1.cell? ⟨B, 0, none⟩ = some (.int .i64 k) := (unhide H3).op.cell 0
    have o1 : V1.cell? ⟨B, 1, none⟩ = some (.int .i64 i) := (unhide H3).op.cell 1
    have a2 : V1.cell? ⟨A, 2, none⟩ = some (.int .i64 s'.phase) := (unhide H3).an.cell 2
    have m3 : V1.cell? ⟨M, 3, none⟩ = some (.int .i64 s'.acks) := (unhide H3).mi.cell 3
    have hgl := (unhide H3).gr.blk.lt
    go_wp2
    go_big_quiet (fail)
    have qd : Quiet V1 (V1.drewN nq) := (Chg.refl _ _).drewN nq
    have H4 := hide ((unhide H3).quiet qd)
    have ch4 := hide ((unhide ch3).trans (qd.chg _))
    clear c2 o0 o1 a2 m3 H3 ch3 hgl
    generalize V1.drewN nq = V2 at *
    clear qd nq
    have o1 : V2.cell? ⟨B, 1, none⟩ = some (.int .i64 i) := (unhide H4).op.cell 1
    have hc1 := hide (first_any V2 g vX vW _ n h4 X W _ (unhide H4).gr)
    unfold ptr at hc1
    rw [unhide hfrH] at hc1
    go_wp2_with fail
    refine (unhide hc1).mono ?_
    clear hc1 o1
    rintro e V3 ⟨rfl, q3⟩
    have H5 := hide ((unhide H4).quiet q3)
    have ch5 := hide ((unhide ch4).trans (q3.chg _))
    clear q3 H4 ch4
    have o1 : V3.cell? ⟨B, 1, none⟩ = some (.int .i64 i) := (unhide H5).op.cell 1
    have hc2 := hide (insiders_any V3 g vX vW _ n h4 X W _ (unhide H5).gr)
    unfold ptr at hc2
    rw [unhide hinH] at hc2
    have ii : ((i : Int) == (i : Int)) = true := by simp
    have ii2 : ((i : Int) != (i : Int)) = false := by simp
    go_wp2_with fail
    refine (unhide hc2).mono ?_
    clear hc2 o1
    rintro e V4 ⟨rfl, rfl⟩
    go_wp2
    exact unhide hQH _ (unhide ch5) (unhide H5).gr.rG

set_option maxHeartbeats 8000000 in
set_option maxRecDepth 100000 in
theorem mid45_1 (V : World) (g gb cg : Nat) (vX vW : Value) (n : Nat) (X : List Value) (W : List M4) (G : Nat → Nd) (B A M : Nat) (b c : Int) (i : Nat) (s t : ByteArray) (d s' : Nd) (hck : 0 ≤ d.clock ∧ d.clock ≤ 1152921504606846976) (hc1 : s'.clock = d.clock + 1) (hmn : s'.mine = d.clock + 1) (hak : s'.acks = d.acks)
    (Hn : HIn V g gb cg vX vW n X W G B A M 1 i b c s t s'.clock s'.phase (mindC d))
    (u1 u2 u3 u7 u9 u10 u11 u12 u13 u14 u15 u16 u17 u18 u19 u20 u21 u22 u23 u24 u25 u26 u27 u28 u29 u30 u31 u32 u33 u34 u35 u36 u37 u38 u39 u40 u41 u42 u43 u44 u45 u46 u47 u48 u49 u50 u51 u52 u53 u54 u55 u56 u57 u58 u59 u60 u61 u62 u63 u64 u65 u66 u67 u68 u69 u70 u71 u72 u73 u74 u75 u76 u77 u78 u79 u80 u81 u82 u83 u84 u85 u86 u87 u88 u89 u90 u91 u92 u93 u94 u95 u96 u97 u98 u99 u100 u101 u102 u103 u104 u105 u106 u107 u108 u109 u110 u111 u112 u113 u114 u115 u116 u117 u118 u119 u120 u121 u122 u123 u124 u125 u126 u127 u128 u129 u130 u131 u132 u133 u134 u135 u136 u137 u138 u139 u140 u141 u142 u143 u144 u145 u146 u147 u148 u149 : Value) (Q : Ending → World → Prop)
    (ht : Hid (∀ (V2 : World) (y1 y2 y3 y7 y11 y12 y13 y14 y15 y16 y17 y18 y19 y20 y21 y22 y23 y24 y25 y26 y27 y28 y29 y30 y31 y32 y33 y34 y35 y36 y37 y38 y39 y40 y41 y42 y43 y44 y45 y46 y47 y48 y49 y50 y51 y52 y53 y54 y55 y56 y57 y58 y59 y60 y61 y62 y63 y64 y65 y66 y67 y68 y69 y70 y71 y72 y73 y74 y75 y76 y77 y78 y79 y80 y81 y82 y83 y84 y85 y86 y87 y88 y89 y90 y91 y92 y93 y94 y95 y96 y97 y98 y99 y100 y101 y102 y103 y104 y105 y106 y107 y108 y109 y110 y111 y112 y113 y114 y115 y116 y117 y118 y119 y120 y121 y122 y123 y124 y125 y126 y127 y128 y129 y130 y131 y132 y133 y134 y135 y136 y137 y138 y139 y140 y141 y142 y143 y144 y145 y146 y147 y148 y149 : Value), Chg (fun x => x = M) V V2 → HIn V2 g gb cg vX vW n X W G B A M 1 i b c s t s'.clock s'.phase (mindC s') → Code.wp Try.prog tail45 (bodyPost Try.prog Try.f45 Q) ⟨(Value.pointer (some ⟨g, 0, none⟩) :: y1 :: y2 :: y3 :: Value.pointer (some ⟨B, 0, none⟩) :: Value.pointer (some ⟨A, 0, none⟩) :: Value.bool false :: y7 :: Value.pointer (some ⟨M, 0, none⟩) :: Value.int .i64 d.phase :: Value.int .i64 1 :: y11 :: y12 :: y13 :: y14 :: y15 :: y16 :: y17 :: y18 :: y19 :: y20 :: y21 :: y22 :: y23 :: y24 :: y25 :: y26 :: y27 :: y28 :: y29 :: y30 :: y31 :: y32 :: y33 :: y34 :: y35 :: y36 :: y37 :: y38 :: y39 :: y40 :: y41 :: y42 :: y43 :: y44 :: y45 :: y46 :: y47 :: y48 :: y49 :: y50 :: y51 :: y52 :: y53 :: y54 :: y55 :: y56 :: y57 :: y58 :: y59 :: y60 :: y61 :: y62 :: y63 :: y64 :: y65 :: y66 :: y67 :: y68 :: y69 :: y70 :: y71 :: y72 :: y73 :: y74 :: y75 :: y76 :: y77 :: y78 :: y79 :: y80 :: y81 :: y82 :: y83 :: y84 :: y85 :: y86 :: y87 :: y88 :: y89 :: y90 :: y91 :: y92 :: y93 :: y94 :: y95 :: y96 :: y97 :: y98 :: y99 :: y100 :: y101 :: y102 :: y103 :: y104 :: y105 :: y106 :: y107 :: y108 :: y109 :: y110 :: y111 :: y112 :: y113 :: y114 :: y115 :: y116 :: y117 :: y118 :: y119 :: y120 :: y121 :: y122 :: y123 :: y124 :: y125 :: y126 :: y127 :: y128 :: y129 :: y130 :: y131 :: y132 :: y133 :: y134 :: y135 :: y136 :: y137 :: y138 :: y139 :: y140 :: y141 :: y142 :: y143 :: y144 :: y145 :: y146 :: y147 :: y148 :: y149 :: ([] : List Value)).toArray, []⟩ V2)) :
    Code.wp Try.prog mid45 (bodyPost Try.prog Try.f45 Q) ⟨(Value.pointer (some ⟨g, 0, none⟩) :: u1 :: u2 :: u3 :: Value.pointer (some ⟨B, 0, none⟩) :: Value.pointer (some ⟨A, 0, none⟩) :: Value.bool false :: u7 :: Value.pointer (some ⟨M, 0, none⟩) :: u9 :: u10 :: u11 :: u12 :: u13 :: u14 :: u15 :: u16 :: u17 :: u18 :: u19 :: u20 :: u21 :: u22 :: u23 :: u24 :: u25 :: u26 :: u27 :: u28 :: u29 :: u30 :: u31 :: u32 :: u33 :: u34 :: u35 :: u36 :: u37 :: u38 :: u39 :: u40 :: u41 :: u42 :: u43 :: u44 :: u45 :: u46 :: u47 :: u48 :: u49 :: u50 :: u51 :: u52 :: u53 :: u54 :: u55 :: u56 :: u57 :: u58 :: u59 :: u60 :: u61 :: u62 :: u63 :: u64 :: u65 :: u66 :: u67 :: u68 :: u69 :: u70 :: u71 :: u72 :: u73 :: u74 :: u75 :: u76 :: u77 :: u78 :: u79 :: u80 :: u81 :: u82 :: u83 :: u84 :: u85 :: u86 :: u87 :: u88 :: u89 :: u90 :: u91 :: u92 :: u93 :: u94 :: u95 :: u96 :: u97 :: u98 :: u99 :: u100 :: u101 :: u102 :: u103 :: u104 :: u105 :: u106 :: u107 :: u108 :: u109 :: u110 :: u111 :: u112 :: u113 :: u114 :: u115 :: u116 :: u117 :: u118 :: u119 :: u120 :: u121 :: u122 :: u123 :: u124 :: u125 :: u126 :: u127 :: u128 :: u129 :: u130 :: u131 :: u132 :: u133 :: u134 :: u135 :: u136 :: u137 :: u138 :: u139 :: u140 :: u141 :: u142 :: u143 :: u144 :: u145 :: u146 :: u147 :: u148 :: u149 :: ([] : List Value)).toArray, []⟩ V := by
  conv => arg 2; whnf
  have o0 : V.cell? ⟨B, 0, none⟩ = some (.int .i64 1) := Hn.op.cell 0
  have o3 : V.cell? ⟨B, 3, none⟩ = some (.int .i64 c) := Hn.op.cell 3
  have a1 : V.cell? ⟨A, 1, none⟩ = some (.int .i64 s'.clock) := Hn.an.cell 1
  have a2 : V.cell? ⟨A, 2, none⟩ = some (.int .i64 s'.phase) := Hn.an.cell 2
  have m0 : V.cell? ⟨M, 0, none⟩ = some (.int .i64 d.clock) := Hn.mi.cell 0
  have m1 : V.cell? ⟨M, 1, none⟩ = some (.int .i64 d.phase) := Hn.mi.cell 1
  have m2 : V.cell? ⟨M, 2, none⟩ = some (.int .i64 d.mine) := Hn.mi.cell 2
  have m3 : V.cell? ⟨M, 3, none⟩ = some (.int .i64 d.acks) := Hn.mi.cell 3
  have f0 := Hn.mi.frozen 0
  have f1 := Hn.mi.frozen 1
  have f2 := Hn.mi.frozen 2
  have f3 := Hn.mi.frozen 3
  have bm := Hn.bm
  have bm' := Ne.symm Hn.bm
  have am := Hn.am
  have am' := Ne.symm Hn.am
  have HnH := hide Hn
  clear Hn
  have w1 : IntKind.i64.wrap (d.clock + 1) = d.clock + 1 := by rw [IntKind.wrap_i64]; omega
  have x1 : (s'.clock == d.clock + 1) = true := by simpa using hc1
  have x2 : (s'.clock != d.clock + 1) = false := by rw [bne, x1]; rfl
  have hc1H := hide hc1
  have hmnH := hide hmn
  have hakH := hide hak
  clear hc1 hmn hak hck
  go_upto_region 21 with fail
  rename_i hK KI hKI
  have hKH := hide hK
  clear hK
  go_wp2_with fail
  refine unhide hKH _ _ ?_
  refine unhide ht _ _ _ _ _ _ _ _ _ _ _ _ _ _ _ _ _ _ _ _ _ _ _ _ _ _ _ _ _ _ _ _ _ _ _ _ _ _ _ _ _ _ _ _ _ _ _ _ _ _ _ _ _ _ _ _ _ _ _ _ _ _ _ _ _ _ _ _ _ _ _ _ _ _ _ _ _ _ _ _ _ _ _ _ _ _ _ _ _ _ _ _ _ _ _ _ _ _ _ _ _ _ _ _ _ _ _ _ _ _ _ _ _ _ _ _ _ _ _ _ _ _ _ _ _ _ _ _ _ _ _ _ _ _ _ _ _ _ _ _ _ _ _ _ (Chg.setCell (S := fun x => x = M) (p := ⟨M, 2, none⟩) (Chg.setCell (S := fun x => x = M) (p := ⟨M, 1, none⟩) (Chg.setCell (S := fun x => x = M) (p := ⟨M, 0, none⟩) (Chg.refl _ _) (.inl rfl) _) (.inl rfl) _) (.inl rfl) _) ?_
  rw [show mindC s' = [.int .i64 (d.clock + 1), .int .i64 s'.phase, .int .i64 (d.clock + 1), .int .i64 (d.acks)] by unfold mindC; rw [unhide hc1H, unhide hmnH, unhide hakH]]
  exact ((((unhide HnH).setM 0 _).setM 1 _).setM 2 _)

set_option maxHeartbeats 8000000 in
set_option maxRecDepth 100000 in
theorem mid45_2 (V : World) (g gb cg : Nat) (vX vW : Value) (n : Nat) (X : List Value) (W : List M4) (G : Nat → Nd) (B A M : Nat) (b c : Int) (i : Nat) (s t : ByteArray) (d s' : Nd) (hck : 0 ≤ d.clock ∧ d.clock ≤ 1152921504606846976) (hc1 : s'.clock = d.clock + 1) (hmn : s'.mine = 0) (hak : s'.acks = 0)
    (Hn : HIn V g gb cg vX vW n X W G B A M 2 i b c s t s'.clock s'.phase (mindC d))
    (u1 u2 u3 u7 u9 u10 u11 u12 u13 u14 u15 u16 u17 u18 u19 u20 u21 u22 u23 u24 u25 u26 u27 u28 u29 u30 u31 u32 u33 u34 u35 u36 u37 u38 u39 u40 u41 u42 u43 u44 u45 u46 u47 u48 u49 u50 u51 u52 u53 u54 u55 u56 u57 u58 u59 u60 u61 u62 u63 u64 u65 u66 u67 u68 u69 u70 u71 u72 u73 u74 u75 u76 u77 u78 u79 u80 u81 u82 u83 u84 u85 u86 u87 u88 u89 u90 u91 u92 u93 u94 u95 u96 u97 u98 u99 u100 u101 u102 u103 u104 u105 u106 u107 u108 u109 u110 u111 u112 u113 u114 u115 u116 u117 u118 u119 u120 u121 u122 u123 u124 u125 u126 u127 u128 u129 u130 u131 u132 u133 u134 u135 u136 u137 u138 u139 u140 u141 u142 u143 u144 u145 u146 u147 u148 u149 : Value) (Q : Ending → World → Prop)
    (ht : Hid (∀ (V2 : World) (y1 y2 y3 y7 y11 y12 y13 y14 y15 y16 y17 y18 y19 y20 y21 y22 y23 y24 y25 y26 y27 y28 y29 y30 y31 y32 y33 y34 y35 y36 y37 y38 y39 y40 y41 y42 y43 y44 y45 y46 y47 y48 y49 y50 y51 y52 y53 y54 y55 y56 y57 y58 y59 y60 y61 y62 y63 y64 y65 y66 y67 y68 y69 y70 y71 y72 y73 y74 y75 y76 y77 y78 y79 y80 y81 y82 y83 y84 y85 y86 y87 y88 y89 y90 y91 y92 y93 y94 y95 y96 y97 y98 y99 y100 y101 y102 y103 y104 y105 y106 y107 y108 y109 y110 y111 y112 y113 y114 y115 y116 y117 y118 y119 y120 y121 y122 y123 y124 y125 y126 y127 y128 y129 y130 y131 y132 y133 y134 y135 y136 y137 y138 y139 y140 y141 y142 y143 y144 y145 y146 y147 y148 y149 : Value), Chg (fun x => x = M) V V2 → HIn V2 g gb cg vX vW n X W G B A M 2 i b c s t s'.clock s'.phase (mindC s') → Code.wp Try.prog tail45 (bodyPost Try.prog Try.f45 Q) ⟨(Value.pointer (some ⟨g, 0, none⟩) :: y1 :: y2 :: y3 :: Value.pointer (some ⟨B, 0, none⟩) :: Value.pointer (some ⟨A, 0, none⟩) :: Value.bool false :: y7 :: Value.pointer (some ⟨M, 0, none⟩) :: Value.int .i64 d.phase :: Value.int .i64 0 :: y11 :: y12 :: y13 :: y14 :: y15 :: y16 :: y17 :: y18 :: y19 :: y20 :: y21 :: y22 :: y23 :: y24 :: y25 :: y26 :: y27 :: y28 :: y29 :: y30 :: y31 :: y32 :: y33 :: y34 :: y35 :: y36 :: y37 :: y38 :: y39 :: y40 :: y41 :: y42 :: y43 :: y44 :: y45 :: y46 :: y47 :: y48 :: y49 :: y50 :: y51 :: y52 :: y53 :: y54 :: y55 :: y56 :: y57 :: y58 :: y59 :: y60 :: y61 :: y62 :: y63 :: y64 :: y65 :: y66 :: y67 :: y68 :: y69 :: y70 :: y71 :: y72 :: y73 :: y74 :: y75 :: y76 :: y77 :: y78 :: y79 :: y80 :: y81 :: y82 :: y83 :: y84 :: y85 :: y86 :: y87 :: y88 :: y89 :: y90 :: y91 :: y92 :: y93 :: y94 :: y95 :: y96 :: y97 :: y98 :: y99 :: y100 :: y101 :: y102 :: y103 :: y104 :: y105 :: y106 :: y107 :: y108 :: y109 :: y110 :: y111 :: y112 :: y113 :: y114 :: y115 :: y116 :: y117 :: y118 :: y119 :: y120 :: y121 :: y122 :: y123 :: y124 :: y125 :: y126 :: y127 :: y128 :: y129 :: y130 :: y131 :: y132 :: y133 :: y134 :: y135 :: y136 :: y137 :: y138 :: y139 :: y140 :: y141 :: y142 :: y143 :: y144 :: y145 :: y146 :: y147 :: y148 :: y149 :: ([] : List Value)).toArray, []⟩ V2)) :
    Code.wp Try.prog mid45 (bodyPost Try.prog Try.f45 Q) ⟨(Value.pointer (some ⟨g, 0, none⟩) :: u1 :: u2 :: u3 :: Value.pointer (some ⟨B, 0, none⟩) :: Value.pointer (some ⟨A, 0, none⟩) :: Value.bool false :: u7 :: Value.pointer (some ⟨M, 0, none⟩) :: u9 :: u10 :: u11 :: u12 :: u13 :: u14 :: u15 :: u16 :: u17 :: u18 :: u19 :: u20 :: u21 :: u22 :: u23 :: u24 :: u25 :: u26 :: u27 :: u28 :: u29 :: u30 :: u31 :: u32 :: u33 :: u34 :: u35 :: u36 :: u37 :: u38 :: u39 :: u40 :: u41 :: u42 :: u43 :: u44 :: u45 :: u46 :: u47 :: u48 :: u49 :: u50 :: u51 :: u52 :: u53 :: u54 :: u55 :: u56 :: u57 :: u58 :: u59 :: u60 :: u61 :: u62 :: u63 :: u64 :: u65 :: u66 :: u67 :: u68 :: u69 :: u70 :: u71 :: u72 :: u73 :: u74 :: u75 :: u76 :: u77 :: u78 :: u79 :: u80 :: u81 :: u82 :: u83 :: u84 :: u85 :: u86 :: u87 :: u88 :: u89 :: u90 :: u91 :: u92 :: u93 :: u94 :: u95 :: u96 :: u97 :: u98 :: u99 :: u100 :: u101 :: u102 :: u103 :: u104 :: u105 :: u106 :: u107 :: u108 :: u109 :: u110 :: u111 :: u112 :: u113 :: u114 :: u115 :: u116 :: u117 :: u118 :: u119 :: u120 :: u121 :: u122 :: u123 :: u124 :: u125 :: u126 :: u127 :: u128 :: u129 :: u130 :: u131 :: u132 :: u133 :: u134 :: u135 :: u136 :: u137 :: u138 :: u139 :: u140 :: u141 :: u142 :: u143 :: u144 :: u145 :: u146 :: u147 :: u148 :: u149 :: ([] : List Value)).toArray, []⟩ V := by
  conv => arg 2; whnf
  have o0 : V.cell? ⟨B, 0, none⟩ = some (.int .i64 2) := Hn.op.cell 0
  have o3 : V.cell? ⟨B, 3, none⟩ = some (.int .i64 c) := Hn.op.cell 3
  have a1 : V.cell? ⟨A, 1, none⟩ = some (.int .i64 s'.clock) := Hn.an.cell 1
  have a2 : V.cell? ⟨A, 2, none⟩ = some (.int .i64 s'.phase) := Hn.an.cell 2
  have m0 : V.cell? ⟨M, 0, none⟩ = some (.int .i64 d.clock) := Hn.mi.cell 0
  have m1 : V.cell? ⟨M, 1, none⟩ = some (.int .i64 d.phase) := Hn.mi.cell 1
  have m2 : V.cell? ⟨M, 2, none⟩ = some (.int .i64 d.mine) := Hn.mi.cell 2
  have m3 : V.cell? ⟨M, 3, none⟩ = some (.int .i64 d.acks) := Hn.mi.cell 3
  have f0 := Hn.mi.frozen 0
  have f1 := Hn.mi.frozen 1
  have f2 := Hn.mi.frozen 2
  have f3 := Hn.mi.frozen 3
  have bm := Hn.bm
  have bm' := Ne.symm Hn.bm
  have am := Hn.am
  have am' := Ne.symm Hn.am
  have HnH := hide Hn
  clear Hn
  have w1 : IntKind.i64.wrap (d.clock + 1) = d.clock + 1 := by rw [IntKind.wrap_i64]; omega
  have x1 : (s'.clock == d.clock + 1) = true := by simpa using hc1
  have x2 : (s'.clock != d.clock + 1) = false := by rw [bne, x1]; rfl
  have hc1H := hide hc1
  have hmnH := hide hmn
  have hakH := hide hak
  clear hc1 hmn hak hck
  go_upto_region 21 with fail
  rename_i hK KI hKI
  have hKH := hide hK
  clear hK
  go_wp2_with fail
  refine unhide hKH _ _ ?_
  refine unhide ht _ _ _ _ _ _ _ _ _ _ _ _ _ _ _ _ _ _ _ _ _ _ _ _ _ _ _ _ _ _ _ _ _ _ _ _ _ _ _ _ _ _ _ _ _ _ _ _ _ _ _ _ _ _ _ _ _ _ _ _ _ _ _ _ _ _ _ _ _ _ _ _ _ _ _ _ _ _ _ _ _ _ _ _ _ _ _ _ _ _ _ _ _ _ _ _ _ _ _ _ _ _ _ _ _ _ _ _ _ _ _ _ _ _ _ _ _ _ _ _ _ _ _ _ _ _ _ _ _ _ _ _ _ _ _ _ _ _ _ _ _ _ _ _ (Chg.setCell (S := fun x => x = M) (p := ⟨M, 3, none⟩) (Chg.setCell (S := fun x => x = M) (p := ⟨M, 2, none⟩) (Chg.setCell (S := fun x => x = M) (p := ⟨M, 1, none⟩) (Chg.setCell (S := fun x => x = M) (p := ⟨M, 0, none⟩) (Chg.refl _ _) (.inl rfl) _) (.inl rfl) _) (.inl rfl) _) (.inl rfl) _) ?_
  rw [show mindC s' = [.int .i64 (d.clock + 1), .int .i64 s'.phase, .int .i64 (0), .int .i64 (0)] by unfold mindC; rw [unhide hc1H, unhide hmnH, unhide hakH]]
  exact (((((unhide HnH).setM 0 _).setM 1 _).setM 2 _).setM 3 _)

set_option maxHeartbeats 8000000 in
set_option maxRecDepth 100000 in
theorem mid45_3 (V : World) (g gb cg : Nat) (vX vW : Value) (n : Nat) (X : List Value) (W : List M4) (G : Nat → Nd) (B A M : Nat) (b c : Int) (i : Nat) (s t : ByteArray) (d s' : Nd) (hck : 0 ≤ d.clock ∧ d.clock ≤ 1152921504606846976) (hc0 : 1 ≤ c ∧ c ≤ 1152921504606846976) (hac : 0 ≤ d.acks ∧ d.acks ≤ 4) (hc1 : s'.clock = max d.clock c + 1 + 1) (hmn : s'.mine = d.mine) (hak : s'.acks = d.acks)
    (Hn : HIn V g gb cg vX vW n X W G B A M 3 i b c s t s'.clock s'.phase (mindC d))
    (u1 u2 u3 u7 u9 u10 u11 u12 u13 u14 u15 u16 u17 u18 u19 u20 u21 u22 u23 u24 u25 u26 u27 u28 u29 u30 u31 u32 u33 u34 u35 u36 u37 u38 u39 u40 u41 u42 u43 u44 u45 u46 u47 u48 u49 u50 u51 u52 u53 u54 u55 u56 u57 u58 u59 u60 u61 u62 u63 u64 u65 u66 u67 u68 u69 u70 u71 u72 u73 u74 u75 u76 u77 u78 u79 u80 u81 u82 u83 u84 u85 u86 u87 u88 u89 u90 u91 u92 u93 u94 u95 u96 u97 u98 u99 u100 u101 u102 u103 u104 u105 u106 u107 u108 u109 u110 u111 u112 u113 u114 u115 u116 u117 u118 u119 u120 u121 u122 u123 u124 u125 u126 u127 u128 u129 u130 u131 u132 u133 u134 u135 u136 u137 u138 u139 u140 u141 u142 u143 u144 u145 u146 u147 u148 u149 : Value) (Q : Ending → World → Prop)
    (ht : Hid (∀ (V2 : World) (y1 y2 y3 y7 y11 y12 y13 y14 y15 y16 y17 y18 y19 y20 y21 y22 y23 y24 y25 y26 y27 y28 y29 y30 y31 y32 y33 y34 y35 y36 y37 y38 y39 y40 y41 y42 y43 y44 y45 y46 y47 y48 y49 y50 y51 y52 y53 y54 y55 y56 y57 y58 y59 y60 y61 y62 y63 y64 y65 y66 y67 y68 y69 y70 y71 y72 y73 y74 y75 y76 y77 y78 y79 y80 y81 y82 y83 y84 y85 y86 y87 y88 y89 y90 y91 y92 y93 y94 y95 y96 y97 y98 y99 y100 y101 y102 y103 y104 y105 y106 y107 y108 y109 y110 y111 y112 y113 y114 y115 y116 y117 y118 y119 y120 y121 y122 y123 y124 y125 y126 y127 y128 y129 y130 y131 y132 y133 y134 y135 y136 y137 y138 y139 y140 y141 y142 y143 y144 y145 y146 y147 y148 y149 : Value), Chg (fun x => x = M) V V2 → HIn V2 g gb cg vX vW n X W G B A M 3 i b c s t s'.clock s'.phase (mindC s') → Code.wp Try.prog tail45 (bodyPost Try.prog Try.f45 Q) ⟨(Value.pointer (some ⟨g, 0, none⟩) :: y1 :: y2 :: y3 :: Value.pointer (some ⟨B, 0, none⟩) :: Value.pointer (some ⟨A, 0, none⟩) :: Value.bool false :: y7 :: Value.pointer (some ⟨M, 0, none⟩) :: Value.int .i64 d.phase :: Value.int .i64 d.phase :: y11 :: y12 :: y13 :: y14 :: y15 :: y16 :: y17 :: y18 :: y19 :: y20 :: y21 :: y22 :: y23 :: y24 :: y25 :: y26 :: y27 :: y28 :: y29 :: y30 :: y31 :: y32 :: y33 :: y34 :: y35 :: y36 :: y37 :: y38 :: y39 :: y40 :: y41 :: y42 :: y43 :: y44 :: y45 :: y46 :: y47 :: y48 :: y49 :: y50 :: y51 :: y52 :: y53 :: y54 :: y55 :: y56 :: y57 :: y58 :: y59 :: y60 :: y61 :: y62 :: y63 :: y64 :: y65 :: y66 :: y67 :: y68 :: y69 :: y70 :: y71 :: y72 :: y73 :: y74 :: y75 :: y76 :: y77 :: y78 :: y79 :: y80 :: y81 :: y82 :: y83 :: y84 :: y85 :: y86 :: y87 :: y88 :: y89 :: y90 :: y91 :: y92 :: y93 :: y94 :: y95 :: y96 :: y97 :: y98 :: y99 :: y100 :: y101 :: y102 :: y103 :: y104 :: y105 :: y106 :: y107 :: y108 :: y109 :: y110 :: y111 :: y112 :: y113 :: y114 :: y115 :: y116 :: y117 :: y118 :: y119 :: y120 :: y121 :: y122 :: y123 :: y124 :: y125 :: y126 :: y127 :: y128 :: y129 :: y130 :: y131 :: y132 :: y133 :: y134 :: y135 :: y136 :: y137 :: y138 :: y139 :: y140 :: y141 :: y142 :: y143 :: y144 :: y145 :: y146 :: y147 :: y148 :: y149 :: ([] : List Value)).toArray, []⟩ V2)) :
    Code.wp Try.prog mid45 (bodyPost Try.prog Try.f45 Q) ⟨(Value.pointer (some ⟨g, 0, none⟩) :: u1 :: u2 :: u3 :: Value.pointer (some ⟨B, 0, none⟩) :: Value.pointer (some ⟨A, 0, none⟩) :: Value.bool false :: u7 :: Value.pointer (some ⟨M, 0, none⟩) :: u9 :: u10 :: u11 :: u12 :: u13 :: u14 :: u15 :: u16 :: u17 :: u18 :: u19 :: u20 :: u21 :: u22 :: u23 :: u24 :: u25 :: u26 :: u27 :: u28 :: u29 :: u30 :: u31 :: u32 :: u33 :: u34 :: u35 :: u36 :: u37 :: u38 :: u39 :: u40 :: u41 :: u42 :: u43 :: u44 :: u45 :: u46 :: u47 :: u48 :: u49 :: u50 :: u51 :: u52 :: u53 :: u54 :: u55 :: u56 :: u57 :: u58 :: u59 :: u60 :: u61 :: u62 :: u63 :: u64 :: u65 :: u66 :: u67 :: u68 :: u69 :: u70 :: u71 :: u72 :: u73 :: u74 :: u75 :: u76 :: u77 :: u78 :: u79 :: u80 :: u81 :: u82 :: u83 :: u84 :: u85 :: u86 :: u87 :: u88 :: u89 :: u90 :: u91 :: u92 :: u93 :: u94 :: u95 :: u96 :: u97 :: u98 :: u99 :: u100 :: u101 :: u102 :: u103 :: u104 :: u105 :: u106 :: u107 :: u108 :: u109 :: u110 :: u111 :: u112 :: u113 :: u114 :: u115 :: u116 :: u117 :: u118 :: u119 :: u120 :: u121 :: u122 :: u123 :: u124 :: u125 :: u126 :: u127 :: u128 :: u129 :: u130 :: u131 :: u132 :: u133 :: u134 :: u135 :: u136 :: u137 :: u138 :: u139 :: u140 :: u141 :: u142 :: u143 :: u144 :: u145 :: u146 :: u147 :: u148 :: u149 :: ([] : List Value)).toArray, []⟩ V := by
  conv => arg 2; whnf
  have o0 : V.cell? ⟨B, 0, none⟩ = some (.int .i64 3) := Hn.op.cell 0
  have o3 : V.cell? ⟨B, 3, none⟩ = some (.int .i64 c) := Hn.op.cell 3
  have a1 : V.cell? ⟨A, 1, none⟩ = some (.int .i64 s'.clock) := Hn.an.cell 1
  have a2 : V.cell? ⟨A, 2, none⟩ = some (.int .i64 s'.phase) := Hn.an.cell 2
  have m0 : V.cell? ⟨M, 0, none⟩ = some (.int .i64 d.clock) := Hn.mi.cell 0
  have m1 : V.cell? ⟨M, 1, none⟩ = some (.int .i64 d.phase) := Hn.mi.cell 1
  have m2 : V.cell? ⟨M, 2, none⟩ = some (.int .i64 d.mine) := Hn.mi.cell 2
  have m3 : V.cell? ⟨M, 3, none⟩ = some (.int .i64 d.acks) := Hn.mi.cell 3
  have f0 := Hn.mi.frozen 0
  have f1 := Hn.mi.frozen 1
  have f2 := Hn.mi.frozen 2
  have f3 := Hn.mi.frozen 3
  have bm := Hn.bm
  have bm' := Ne.symm Hn.bm
  have am := Hn.am
  have am' := Ne.symm Hn.am
  have HnH := hide Hn
  clear Hn

  rcases (by omega : c ≤ d.clock ∨ d.clock < c) with hcc | hcc
  · have hmx : max d.clock c = d.clock := by omega
    have dc : decide (d.clock < c) = false := by simp; omega
    rw [hmx] at hc1
    have w1 : IntKind.i64.wrap (d.clock + 1) = d.clock + 1 := by rw [IntKind.wrap_i64]; omega
    have w2 : IntKind.i64.wrap (d.clock + 1 + 1) = d.clock + 1 + 1 := by rw [IntKind.wrap_i64]; omega
    have x1 : (s'.clock == d.clock + 1 + 1) = true := by simpa using hc1
    have x2 : (s'.clock != d.clock + 1 + 1) = false := by rw [bne, x1]; rfl
    have hc1H := hide hc1
    have hmnH := hide hmn
    have hakH := hide hak
    clear hc1 hmn hak hck
    clear hmx hcc hc0 hac
    go_upto_region 21 with fail
    rename_i hK KI hKI
    have hKH := hide hK
    clear hK
    go_wp2_with fail
    refine unhide hKH _ _ ?_
    refine unhide ht _ _ _ _ _ _ _ _ _ _ _ _ _ _ _ _ _ _ _ _ _ _ _ _ _ _ _ _ _ _ _ _ _ _ _ _ _ _ _ _ _ _ _ _ _ _ _ _ _ _ _ _ _ _ _ _ _ _ _ _ _ _ _ _ _ _ _ _ _ _ _ _ _ _ _ _ _ _ _ _ _ _ _ _ _ _ _ _ _ _ _ _ _ _ _ _ _ _ _ _ _ _ _ _ _ _ _ _ _ _ _ _ _ _ _ _ _ _ _ _ _ _ _ _ _ _ _ _ _ _ _ _ _ _ _ _ _ _ _ _ _ _ _ _ (Chg.setCell (S := fun x => x = M) (p := ⟨M, 1, none⟩) (Chg.setCell (S := fun x => x = M) (p := ⟨M, 0, none⟩) (Chg.setCell (S := fun x => x = M) (p := ⟨M, 0, none⟩) (Chg.refl _ _) (.inl rfl) _) (.inl rfl) _) (.inl rfl) _) ?_
    rw [show mindC s' = [.int .i64 (d.clock + 1 + 1), .int .i64 s'.phase, .int .i64 (d.mine), .int .i64 (d.acks)] by unfold mindC; rw [unhide hc1H, unhide hmnH, unhide hakH]]
    exact ((((unhide HnH).setM 0 _).setM 0 _).setM 1 _)
  · have hmx : max d.clock c = c := by omega
    have dc : decide (d.clock < c) = true := by simp; omega
    rw [hmx] at hc1
    have w1 : IntKind.i64.wrap (c + 1) = c + 1 := by rw [IntKind.wrap_i64]; omega
    have w2 : IntKind.i64.wrap (c + 1 + 1) = c + 1 + 1 := by rw [IntKind.wrap_i64]; omega
    have x1 : (s'.clock == c + 1 + 1) = true := by simpa using hc1
    have x2 : (s'.clock != c + 1 + 1) = false := by rw [bne, x1]; rfl
    have hc1H := hide hc1
    have hmnH := hide hmn
    have hakH := hide hak
    clear hc1 hmn hak hck
    clear hmx hcc hc0 hac
    have h3 := (((unhide HnH).setM 0 (.int .i64 c)).setM 0 (.int .i64 (c + 1))).setM 0 (.int .i64 (c + 1 + 1))
    have z0 : (((V.setCell ⟨M, 0, none⟩ (.int .i64 c)).setCell ⟨M, 0, none⟩ (.int .i64 (c + 1))).setCell ⟨M, 0, none⟩ (.int .i64 (c + 1 + 1))).cell? ⟨M, 0, none⟩ = some (.int .i64 (c + 1 + 1)) := h3.mi.cell 0
    have z1 : (((V.setCell ⟨M, 0, none⟩ (.int .i64 c)).setCell ⟨M, 0, none⟩ (.int .i64 (c + 1))).setCell ⟨M, 0, none⟩ (.int .i64 (c + 1 + 1))).cell? ⟨M, 1, none⟩ = some (.int .i64 d.phase) := h3.mi.cell 1
    have z2 : (((V.setCell ⟨M, 0, none⟩ (.int .i64 c)).setCell ⟨M, 0, none⟩ (.int .i64 (c + 1))).setCell ⟨M, 0, none⟩ (.int .i64 (c + 1 + 1))).frozen? ⟨M, 1, none⟩ = false := h3.mi.frozen 1
    have z3 : (((V.setCell ⟨M, 0, none⟩ (.int .i64 c)).setCell ⟨M, 0, none⟩ (.int .i64 (c + 1))).setCell ⟨M, 0, none⟩ (.int .i64 (c + 1 + 1))).cell? ⟨A, 1, none⟩ = some (.int .i64 s'.clock) := h3.an.cell 1
    have z4 : (((V.setCell ⟨M, 0, none⟩ (.int .i64 c)).setCell ⟨M, 0, none⟩ (.int .i64 (c + 1))).setCell ⟨M, 0, none⟩ (.int .i64 (c + 1 + 1))).cell? ⟨A, 2, none⟩ = some (.int .i64 s'.phase) := h3.an.cell 2
    have z5 : (((V.setCell ⟨M, 0, none⟩ (.int .i64 c)).setCell ⟨M, 0, none⟩ (.int .i64 (c + 1))).setCell ⟨M, 0, none⟩ (.int .i64 (c + 1 + 1))).cell? ⟨B, 0, none⟩ = some (.int .i64 3) := h3.op.cell 0
    have z6 : ((((V.setCell ⟨M, 0, none⟩ (.int .i64 c)).setCell ⟨M, 0, none⟩ (.int .i64 (c + 1))).setCell ⟨M, 0, none⟩ (.int .i64 (c + 1 + 1))).setCell ⟨M, 1, none⟩ (.int .i64 s'.phase)).cell? ⟨B, 0, none⟩ = some (.int .i64 3) := (h3.setM 1 _).op.cell 0
    clear h3
    go_upto_region 21 with fail
    rename_i hK KI hKI
    have hKH := hide hK
    clear hK
    go_wp2_with fail
    refine unhide hKH _ _ ?_
    refine unhide ht _ _ _ _ _ _ _ _ _ _ _ _ _ _ _ _ _ _ _ _ _ _ _ _ _ _ _ _ _ _ _ _ _ _ _ _ _ _ _ _ _ _ _ _ _ _ _ _ _ _ _ _ _ _ _ _ _ _ _ _ _ _ _ _ _ _ _ _ _ _ _ _ _ _ _ _ _ _ _ _ _ _ _ _ _ _ _ _ _ _ _ _ _ _ _ _ _ _ _ _ _ _ _ _ _ _ _ _ _ _ _ _ _ _ _ _ _ _ _ _ _ _ _ _ _ _ _ _ _ _ _ _ _ _ _ _ _ _ _ _ _ _ _ _ (Chg.setCell (S := fun x => x = M) (p := ⟨M, 1, none⟩) (Chg.setCell (S := fun x => x = M) (p := ⟨M, 0, none⟩) (Chg.setCell (S := fun x => x = M) (p := ⟨M, 0, none⟩) (Chg.setCell (S := fun x => x = M) (p := ⟨M, 0, none⟩) (Chg.refl _ _) (.inl rfl) _) (.inl rfl) _) (.inl rfl) _) (.inl rfl) _) ?_
    rw [show mindC s' = [.int .i64 (c + 1 + 1), .int .i64 s'.phase, .int .i64 (d.mine), .int .i64 (d.acks)] by unfold mindC; rw [unhide hc1H, unhide hmnH, unhide hakH]]
    exact (((((unhide HnH).setM 0 _).setM 0 _).setM 0 _).setM 1 _)

set_option maxHeartbeats 8000000 in
set_option maxRecDepth 100000 in
theorem mid45_4 (V : World) (g gb cg : Nat) (vX vW : Value) (n : Nat) (X : List Value) (W : List M4) (G : Nat → Nd) (B A M : Nat) (b c : Int) (i : Nat) (s t : ByteArray) (d s' : Nd) (hck : 0 ≤ d.clock ∧ d.clock ≤ 1152921504606846976) (hc0 : 1 ≤ c ∧ c ≤ 1152921504606846976) (hac : 0 ≤ d.acks ∧ d.acks ≤ 4) (hc1 : s'.clock = max d.clock c + 1) (hmn : s'.mine = d.mine) (hak : s'.acks = d.acks + 1)
    (Hn : HIn V g gb cg vX vW n X W G B A M 4 i b c s t s'.clock s'.phase (mindC d))
    (u1 u2 u3 u7 u9 u10 u11 u12 u13 u14 u15 u16 u17 u18 u19 u20 u21 u22 u23 u24 u25 u26 u27 u28 u29 u30 u31 u32 u33 u34 u35 u36 u37 u38 u39 u40 u41 u42 u43 u44 u45 u46 u47 u48 u49 u50 u51 u52 u53 u54 u55 u56 u57 u58 u59 u60 u61 u62 u63 u64 u65 u66 u67 u68 u69 u70 u71 u72 u73 u74 u75 u76 u77 u78 u79 u80 u81 u82 u83 u84 u85 u86 u87 u88 u89 u90 u91 u92 u93 u94 u95 u96 u97 u98 u99 u100 u101 u102 u103 u104 u105 u106 u107 u108 u109 u110 u111 u112 u113 u114 u115 u116 u117 u118 u119 u120 u121 u122 u123 u124 u125 u126 u127 u128 u129 u130 u131 u132 u133 u134 u135 u136 u137 u138 u139 u140 u141 u142 u143 u144 u145 u146 u147 u148 u149 : Value) (Q : Ending → World → Prop)
    (ht : Hid (∀ (V2 : World) (y1 y2 y3 y7 y11 y12 y13 y14 y15 y16 y17 y18 y19 y20 y21 y22 y23 y24 y25 y26 y27 y28 y29 y30 y31 y32 y33 y34 y35 y36 y37 y38 y39 y40 y41 y42 y43 y44 y45 y46 y47 y48 y49 y50 y51 y52 y53 y54 y55 y56 y57 y58 y59 y60 y61 y62 y63 y64 y65 y66 y67 y68 y69 y70 y71 y72 y73 y74 y75 y76 y77 y78 y79 y80 y81 y82 y83 y84 y85 y86 y87 y88 y89 y90 y91 y92 y93 y94 y95 y96 y97 y98 y99 y100 y101 y102 y103 y104 y105 y106 y107 y108 y109 y110 y111 y112 y113 y114 y115 y116 y117 y118 y119 y120 y121 y122 y123 y124 y125 y126 y127 y128 y129 y130 y131 y132 y133 y134 y135 y136 y137 y138 y139 y140 y141 y142 y143 y144 y145 y146 y147 y148 y149 : Value), Chg (fun x => x = M) V V2 → HIn V2 g gb cg vX vW n X W G B A M 4 i b c s t s'.clock s'.phase (mindC s') → Code.wp Try.prog tail45 (bodyPost Try.prog Try.f45 Q) ⟨(Value.pointer (some ⟨g, 0, none⟩) :: y1 :: y2 :: y3 :: Value.pointer (some ⟨B, 0, none⟩) :: Value.pointer (some ⟨A, 0, none⟩) :: Value.bool false :: y7 :: Value.pointer (some ⟨M, 0, none⟩) :: Value.int .i64 d.phase :: Value.int .i64 d.phase :: y11 :: y12 :: y13 :: y14 :: y15 :: y16 :: y17 :: y18 :: y19 :: y20 :: y21 :: y22 :: y23 :: y24 :: y25 :: y26 :: y27 :: y28 :: y29 :: y30 :: y31 :: y32 :: y33 :: y34 :: y35 :: y36 :: y37 :: y38 :: y39 :: y40 :: y41 :: y42 :: y43 :: y44 :: y45 :: y46 :: y47 :: y48 :: y49 :: y50 :: y51 :: y52 :: y53 :: y54 :: y55 :: y56 :: y57 :: y58 :: y59 :: y60 :: y61 :: y62 :: y63 :: y64 :: y65 :: y66 :: y67 :: y68 :: y69 :: y70 :: y71 :: y72 :: y73 :: y74 :: y75 :: y76 :: y77 :: y78 :: y79 :: y80 :: y81 :: y82 :: y83 :: y84 :: y85 :: y86 :: y87 :: y88 :: y89 :: y90 :: y91 :: y92 :: y93 :: y94 :: y95 :: y96 :: y97 :: y98 :: y99 :: y100 :: y101 :: y102 :: y103 :: y104 :: y105 :: y106 :: y107 :: y108 :: y109 :: y110 :: y111 :: y112 :: y113 :: y114 :: y115 :: y116 :: y117 :: y118 :: y119 :: y120 :: y121 :: y122 :: y123 :: y124 :: y125 :: y126 :: y127 :: y128 :: y129 :: y130 :: y131 :: y132 :: y133 :: y134 :: y135 :: y136 :: y137 :: y138 :: y139 :: y140 :: y141 :: y142 :: y143 :: y144 :: y145 :: y146 :: y147 :: y148 :: y149 :: ([] : List Value)).toArray, []⟩ V2)) :
    Code.wp Try.prog mid45 (bodyPost Try.prog Try.f45 Q) ⟨(Value.pointer (some ⟨g, 0, none⟩) :: u1 :: u2 :: u3 :: Value.pointer (some ⟨B, 0, none⟩) :: Value.pointer (some ⟨A, 0, none⟩) :: Value.bool false :: u7 :: Value.pointer (some ⟨M, 0, none⟩) :: u9 :: u10 :: u11 :: u12 :: u13 :: u14 :: u15 :: u16 :: u17 :: u18 :: u19 :: u20 :: u21 :: u22 :: u23 :: u24 :: u25 :: u26 :: u27 :: u28 :: u29 :: u30 :: u31 :: u32 :: u33 :: u34 :: u35 :: u36 :: u37 :: u38 :: u39 :: u40 :: u41 :: u42 :: u43 :: u44 :: u45 :: u46 :: u47 :: u48 :: u49 :: u50 :: u51 :: u52 :: u53 :: u54 :: u55 :: u56 :: u57 :: u58 :: u59 :: u60 :: u61 :: u62 :: u63 :: u64 :: u65 :: u66 :: u67 :: u68 :: u69 :: u70 :: u71 :: u72 :: u73 :: u74 :: u75 :: u76 :: u77 :: u78 :: u79 :: u80 :: u81 :: u82 :: u83 :: u84 :: u85 :: u86 :: u87 :: u88 :: u89 :: u90 :: u91 :: u92 :: u93 :: u94 :: u95 :: u96 :: u97 :: u98 :: u99 :: u100 :: u101 :: u102 :: u103 :: u104 :: u105 :: u106 :: u107 :: u108 :: u109 :: u110 :: u111 :: u112 :: u113 :: u114 :: u115 :: u116 :: u117 :: u118 :: u119 :: u120 :: u121 :: u122 :: u123 :: u124 :: u125 :: u126 :: u127 :: u128 :: u129 :: u130 :: u131 :: u132 :: u133 :: u134 :: u135 :: u136 :: u137 :: u138 :: u139 :: u140 :: u141 :: u142 :: u143 :: u144 :: u145 :: u146 :: u147 :: u148 :: u149 :: ([] : List Value)).toArray, []⟩ V := by
  conv => arg 2; whnf
  have o0 : V.cell? ⟨B, 0, none⟩ = some (.int .i64 4) := Hn.op.cell 0
  have o3 : V.cell? ⟨B, 3, none⟩ = some (.int .i64 c) := Hn.op.cell 3
  have a1 : V.cell? ⟨A, 1, none⟩ = some (.int .i64 s'.clock) := Hn.an.cell 1
  have a2 : V.cell? ⟨A, 2, none⟩ = some (.int .i64 s'.phase) := Hn.an.cell 2
  have m0 : V.cell? ⟨M, 0, none⟩ = some (.int .i64 d.clock) := Hn.mi.cell 0
  have m1 : V.cell? ⟨M, 1, none⟩ = some (.int .i64 d.phase) := Hn.mi.cell 1
  have m2 : V.cell? ⟨M, 2, none⟩ = some (.int .i64 d.mine) := Hn.mi.cell 2
  have m3 : V.cell? ⟨M, 3, none⟩ = some (.int .i64 d.acks) := Hn.mi.cell 3
  have f0 := Hn.mi.frozen 0
  have f1 := Hn.mi.frozen 1
  have f2 := Hn.mi.frozen 2
  have f3 := Hn.mi.frozen 3
  have bm := Hn.bm
  have bm' := Ne.symm Hn.bm
  have am := Hn.am
  have am' := Ne.symm Hn.am
  have HnH := hide Hn
  clear Hn

  rcases (by omega : c ≤ d.clock ∨ d.clock < c) with hcc | hcc
  · have hmx : max d.clock c = d.clock := by omega
    have dc : decide (d.clock < c) = false := by simp; omega
    rw [hmx] at hc1
    have w1 : IntKind.i64.wrap (d.clock + 1) = d.clock + 1 := by rw [IntKind.wrap_i64]; omega
    have w3 : IntKind.i64.wrap (d.acks + 1) = d.acks + 1 := by rw [IntKind.wrap_i64]; omega
    have x1 : (s'.clock == d.clock + 1) = true := by simpa using hc1
    have x2 : (s'.clock != d.clock + 1) = false := by rw [bne, x1]; rfl
    have hc1H := hide hc1
    have hmnH := hide hmn
    have hakH := hide hak
    clear hc1 hmn hak hck
    clear hmx hcc hc0 hac
    go_upto_region 21 with fail
    rename_i hK KI hKI
    have hKH := hide hK
    clear hK
    go_wp2_with fail
    refine unhide hKH _ _ ?_
    refine unhide ht _ _ _ _ _ _ _ _ _ _ _ _ _ _ _ _ _ _ _ _ _ _ _ _ _ _ _ _ _ _ _ _ _ _ _ _ _ _ _ _ _ _ _ _ _ _ _ _ _ _ _ _ _ _ _ _ _ _ _ _ _ _ _ _ _ _ _ _ _ _ _ _ _ _ _ _ _ _ _ _ _ _ _ _ _ _ _ _ _ _ _ _ _ _ _ _ _ _ _ _ _ _ _ _ _ _ _ _ _ _ _ _ _ _ _ _ _ _ _ _ _ _ _ _ _ _ _ _ _ _ _ _ _ _ _ _ _ _ _ _ _ _ _ _ (Chg.setCell (S := fun x => x = M) (p := ⟨M, 3, none⟩) (Chg.setCell (S := fun x => x = M) (p := ⟨M, 1, none⟩) (Chg.setCell (S := fun x => x = M) (p := ⟨M, 0, none⟩) (Chg.refl _ _) (.inl rfl) _) (.inl rfl) _) (.inl rfl) _) ?_
    rw [show mindC s' = [.int .i64 (d.clock + 1), .int .i64 s'.phase, .int .i64 (d.mine), .int .i64 (d.acks + 1)] by unfold mindC; rw [unhide hc1H, unhide hmnH, unhide hakH]]
    exact ((((unhide HnH).setM 0 _).setM 1 _).setM 3 _)
  · have hmx : max d.clock c = c := by omega
    have dc : decide (d.clock < c) = true := by simp; omega
    rw [hmx] at hc1
    have w1 : IntKind.i64.wrap (c + 1) = c + 1 := by rw [IntKind.wrap_i64]; omega
    have w3 : IntKind.i64.wrap (d.acks + 1) = d.acks + 1 := by rw [IntKind.wrap_i64]; omega
    have x1 : (s'.clock == c + 1) = true := by simpa using hc1
    have x2 : (s'.clock != c + 1) = false := by rw [bne, x1]; rfl
    have hc1H := hide hc1
    have hmnH := hide hmn
    have hakH := hide hak
    clear hc1 hmn hak hck
    clear hmx hcc hc0 hac
    go_upto_region 21 with fail
    rename_i hK KI hKI
    have hKH := hide hK
    clear hK
    go_wp2_with fail
    refine unhide hKH _ _ ?_
    refine unhide ht _ _ _ _ _ _ _ _ _ _ _ _ _ _ _ _ _ _ _ _ _ _ _ _ _ _ _ _ _ _ _ _ _ _ _ _ _ _ _ _ _ _ _ _ _ _ _ _ _ _ _ _ _ _ _ _ _ _ _ _ _ _ _ _ _ _ _ _ _ _ _ _ _ _ _ _ _ _ _ _ _ _ _ _ _ _ _ _ _ _ _ _ _ _ _ _ _ _ _ _ _ _ _ _ _ _ _ _ _ _ _ _ _ _ _ _ _ _ _ _ _ _ _ _ _ _ _ _ _ _ _ _ _ _ _ _ _ _ _ _ _ _ _ _ (Chg.setCell (S := fun x => x = M) (p := ⟨M, 3, none⟩) (Chg.setCell (S := fun x => x = M) (p := ⟨M, 1, none⟩) (Chg.setCell (S := fun x => x = M) (p := ⟨M, 0, none⟩) (Chg.setCell (S := fun x => x = M) (p := ⟨M, 0, none⟩) (Chg.refl _ _) (.inl rfl) _) (.inl rfl) _) (.inl rfl) _) (.inl rfl) _) ?_
    rw [show mindC s' = [.int .i64 (c + 1), .int .i64 s'.phase, .int .i64 (d.mine), .int .i64 (d.acks + 1)] by unfold mindC; rw [unhide hc1H, unhide hmnH, unhide hakH]]
    exact (((((unhide HnH).setM 0 _).setM 0 _).setM 1 _).setM 3 _)

set_option maxHeartbeats 8000000 in
set_option maxRecDepth 100000 in
theorem mid45_5 (V : World) (g gb cg : Nat) (vX vW : Value) (n : Nat) (X : List Value) (W : List M4) (G : Nat → Nd) (B A M : Nat) (b c : Int) (i : Nat) (s t : ByteArray) (d s' : Nd) (hck : 0 ≤ d.clock ∧ d.clock ≤ 1152921504606846976) (hc0 : 1 ≤ c ∧ c ≤ 1152921504606846976) (hac : 0 ≤ d.acks ∧ d.acks ≤ 4) (hc1 : s'.clock = max d.clock c + 1) (hmn : s'.mine = d.mine) (hak : s'.acks = d.acks)
    (Hn : HIn V g gb cg vX vW n X W G B A M 5 i b c s t s'.clock s'.phase (mindC d))
    (u1 u2 u3 u7 u9 u10 u11 u12 u13 u14 u15 u16 u17 u18 u19 u20 u21 u22 u23 u24 u25 u26 u27 u28 u29 u30 u31 u32 u33 u34 u35 u36 u37 u38 u39 u40 u41 u42 u43 u44 u45 u46 u47 u48 u49 u50 u51 u52 u53 u54 u55 u56 u57 u58 u59 u60 u61 u62 u63 u64 u65 u66 u67 u68 u69 u70 u71 u72 u73 u74 u75 u76 u77 u78 u79 u80 u81 u82 u83 u84 u85 u86 u87 u88 u89 u90 u91 u92 u93 u94 u95 u96 u97 u98 u99 u100 u101 u102 u103 u104 u105 u106 u107 u108 u109 u110 u111 u112 u113 u114 u115 u116 u117 u118 u119 u120 u121 u122 u123 u124 u125 u126 u127 u128 u129 u130 u131 u132 u133 u134 u135 u136 u137 u138 u139 u140 u141 u142 u143 u144 u145 u146 u147 u148 u149 : Value) (Q : Ending → World → Prop)
    (ht : Hid (∀ (V2 : World) (y1 y2 y3 y7 y11 y12 y13 y14 y15 y16 y17 y18 y19 y20 y21 y22 y23 y24 y25 y26 y27 y28 y29 y30 y31 y32 y33 y34 y35 y36 y37 y38 y39 y40 y41 y42 y43 y44 y45 y46 y47 y48 y49 y50 y51 y52 y53 y54 y55 y56 y57 y58 y59 y60 y61 y62 y63 y64 y65 y66 y67 y68 y69 y70 y71 y72 y73 y74 y75 y76 y77 y78 y79 y80 y81 y82 y83 y84 y85 y86 y87 y88 y89 y90 y91 y92 y93 y94 y95 y96 y97 y98 y99 y100 y101 y102 y103 y104 y105 y106 y107 y108 y109 y110 y111 y112 y113 y114 y115 y116 y117 y118 y119 y120 y121 y122 y123 y124 y125 y126 y127 y128 y129 y130 y131 y132 y133 y134 y135 y136 y137 y138 y139 y140 y141 y142 y143 y144 y145 y146 y147 y148 y149 : Value), Chg (fun x => x = M) V V2 → HIn V2 g gb cg vX vW n X W G B A M 5 i b c s t s'.clock s'.phase (mindC s') → Code.wp Try.prog tail45 (bodyPost Try.prog Try.f45 Q) ⟨(Value.pointer (some ⟨g, 0, none⟩) :: y1 :: y2 :: y3 :: Value.pointer (some ⟨B, 0, none⟩) :: Value.pointer (some ⟨A, 0, none⟩) :: Value.bool false :: y7 :: Value.pointer (some ⟨M, 0, none⟩) :: Value.int .i64 d.phase :: Value.int .i64 d.phase :: y11 :: y12 :: y13 :: y14 :: y15 :: y16 :: y17 :: y18 :: y19 :: y20 :: y21 :: y22 :: y23 :: y24 :: y25 :: y26 :: y27 :: y28 :: y29 :: y30 :: y31 :: y32 :: y33 :: y34 :: y35 :: y36 :: y37 :: y38 :: y39 :: y40 :: y41 :: y42 :: y43 :: y44 :: y45 :: y46 :: y47 :: y48 :: y49 :: y50 :: y51 :: y52 :: y53 :: y54 :: y55 :: y56 :: y57 :: y58 :: y59 :: y60 :: y61 :: y62 :: y63 :: y64 :: y65 :: y66 :: y67 :: y68 :: y69 :: y70 :: y71 :: y72 :: y73 :: y74 :: y75 :: y76 :: y77 :: y78 :: y79 :: y80 :: y81 :: y82 :: y83 :: y84 :: y85 :: y86 :: y87 :: y88 :: y89 :: y90 :: y91 :: y92 :: y93 :: y94 :: y95 :: y96 :: y97 :: y98 :: y99 :: y100 :: y101 :: y102 :: y103 :: y104 :: y105 :: y106 :: y107 :: y108 :: y109 :: y110 :: y111 :: y112 :: y113 :: y114 :: y115 :: y116 :: y117 :: y118 :: y119 :: y120 :: y121 :: y122 :: y123 :: y124 :: y125 :: y126 :: y127 :: y128 :: y129 :: y130 :: y131 :: y132 :: y133 :: y134 :: y135 :: y136 :: y137 :: y138 :: y139 :: y140 :: y141 :: y142 :: y143 :: y144 :: y145 :: y146 :: y147 :: y148 :: y149 :: ([] : List Value)).toArray, []⟩ V2)) :
    Code.wp Try.prog mid45 (bodyPost Try.prog Try.f45 Q) ⟨(Value.pointer (some ⟨g, 0, none⟩) :: u1 :: u2 :: u3 :: Value.pointer (some ⟨B, 0, none⟩) :: Value.pointer (some ⟨A, 0, none⟩) :: Value.bool false :: u7 :: Value.pointer (some ⟨M, 0, none⟩) :: u9 :: u10 :: u11 :: u12 :: u13 :: u14 :: u15 :: u16 :: u17 :: u18 :: u19 :: u20 :: u21 :: u22 :: u23 :: u24 :: u25 :: u26 :: u27 :: u28 :: u29 :: u30 :: u31 :: u32 :: u33 :: u34 :: u35 :: u36 :: u37 :: u38 :: u39 :: u40 :: u41 :: u42 :: u43 :: u44 :: u45 :: u46 :: u47 :: u48 :: u49 :: u50 :: u51 :: u52 :: u53 :: u54 :: u55 :: u56 :: u57 :: u58 :: u59 :: u60 :: u61 :: u62 :: u63 :: u64 :: u65 :: u66 :: u67 :: u68 :: u69 :: u70 :: u71 :: u72 :: u73 :: u74 :: u75 :: u76 :: u77 :: u78 :: u79 :: u80 :: u81 :: u82 :: u83 :: u84 :: u85 :: u86 :: u87 :: u88 :: u89 :: u90 :: u91 :: u92 :: u93 :: u94 :: u95 :: u96 :: u97 :: u98 :: u99 :: u100 :: u101 :: u102 :: u103 :: u104 :: u105 :: u106 :: u107 :: u108 :: u109 :: u110 :: u111 :: u112 :: u113 :: u114 :: u115 :: u116 :: u117 :: u118 :: u119 :: u120 :: u121 :: u122 :: u123 :: u124 :: u125 :: u126 :: u127 :: u128 :: u129 :: u130 :: u131 :: u132 :: u133 :: u134 :: u135 :: u136 :: u137 :: u138 :: u139 :: u140 :: u141 :: u142 :: u143 :: u144 :: u145 :: u146 :: u147 :: u148 :: u149 :: ([] : List Value)).toArray, []⟩ V := by
  conv => arg 2; whnf
  have o0 : V.cell? ⟨B, 0, none⟩ = some (.int .i64 5) := Hn.op.cell 0
  have o3 : V.cell? ⟨B, 3, none⟩ = some (.int .i64 c) := Hn.op.cell 3
  have a1 : V.cell? ⟨A, 1, none⟩ = some (.int .i64 s'.clock) := Hn.an.cell 1
  have a2 : V.cell? ⟨A, 2, none⟩ = some (.int .i64 s'.phase) := Hn.an.cell 2
  have m0 : V.cell? ⟨M, 0, none⟩ = some (.int .i64 d.clock) := Hn.mi.cell 0
  have m1 : V.cell? ⟨M, 1, none⟩ = some (.int .i64 d.phase) := Hn.mi.cell 1
  have m2 : V.cell? ⟨M, 2, none⟩ = some (.int .i64 d.mine) := Hn.mi.cell 2
  have m3 : V.cell? ⟨M, 3, none⟩ = some (.int .i64 d.acks) := Hn.mi.cell 3
  have f0 := Hn.mi.frozen 0
  have f1 := Hn.mi.frozen 1
  have f2 := Hn.mi.frozen 2
  have f3 := Hn.mi.frozen 3
  have bm := Hn.bm
  have bm' := Ne.symm Hn.bm
  have am := Hn.am
  have am' := Ne.symm Hn.am
  have HnH := hide Hn
  clear Hn

  rcases (by omega : c ≤ d.clock ∨ d.clock < c) with hcc | hcc
  · have hmx : max d.clock c = d.clock := by omega
    have dc : decide (d.clock < c) = false := by simp; omega
    rw [hmx] at hc1
    have w1 : IntKind.i64.wrap (d.clock + 1) = d.clock + 1 := by rw [IntKind.wrap_i64]; omega
    have x1 : (s'.clock == d.clock + 1) = true := by simpa using hc1
    have x2 : (s'.clock != d.clock + 1) = false := by rw [bne, x1]; rfl
    have hc1H := hide hc1
    have hmnH := hide hmn
    have hakH := hide hak
    clear hc1 hmn hak hck
    clear hmx hcc hc0 hac
    go_upto_region 21 with fail
    rename_i hK KI hKI
    have hKH := hide hK
    clear hK
    go_wp2_with fail
    refine unhide hKH _ _ ?_
    refine unhide ht _ _ _ _ _ _ _ _ _ _ _ _ _ _ _ _ _ _ _ _ _ _ _ _ _ _ _ _ _ _ _ _ _ _ _ _ _ _ _ _ _ _ _ _ _ _ _ _ _ _ _ _ _ _ _ _ _ _ _ _ _ _ _ _ _ _ _ _ _ _ _ _ _ _ _ _ _ _ _ _ _ _ _ _ _ _ _ _ _ _ _ _ _ _ _ _ _ _ _ _ _ _ _ _ _ _ _ _ _ _ _ _ _ _ _ _ _ _ _ _ _ _ _ _ _ _ _ _ _ _ _ _ _ _ _ _ _ _ _ _ _ _ _ _ (Chg.setCell (S := fun x => x = M) (p := ⟨M, 1, none⟩) (Chg.setCell (S := fun x => x = M) (p := ⟨M, 0, none⟩) (Chg.refl _ _) (.inl rfl) _) (.inl rfl) _) ?_
    rw [show mindC s' = [.int .i64 (d.clock + 1), .int .i64 s'.phase, .int .i64 (d.mine), .int .i64 (d.acks)] by unfold mindC; rw [unhide hc1H, unhide hmnH, unhide hakH]]
    exact (((unhide HnH).setM 0 _).setM 1 _)
  · have hmx : max d.clock c = c := by omega
    have dc : decide (d.clock < c) = true := by simp; omega
    rw [hmx] at hc1
    have w1 : IntKind.i64.wrap (c + 1) = c + 1 := by rw [IntKind.wrap_i64]; omega
    have x1 : (s'.clock == c + 1) = true := by simpa using hc1
    have x2 : (s'.clock != c + 1) = false := by rw [bne, x1]; rfl
    have hc1H := hide hc1
    have hmnH := hide hmn
    have hakH := hide hak
    clear hc1 hmn hak hck
    clear hmx hcc hc0 hac
    go_upto_region 21 with fail
    rename_i hK KI hKI
    have hKH := hide hK
    clear hK
    go_wp2_with fail
    refine unhide hKH _ _ ?_
    refine unhide ht _ _ _ _ _ _ _ _ _ _ _ _ _ _ _ _ _ _ _ _ _ _ _ _ _ _ _ _ _ _ _ _ _ _ _ _ _ _ _ _ _ _ _ _ _ _ _ _ _ _ _ _ _ _ _ _ _ _ _ _ _ _ _ _ _ _ _ _ _ _ _ _ _ _ _ _ _ _ _ _ _ _ _ _ _ _ _ _ _ _ _ _ _ _ _ _ _ _ _ _ _ _ _ _ _ _ _ _ _ _ _ _ _ _ _ _ _ _ _ _ _ _ _ _ _ _ _ _ _ _ _ _ _ _ _ _ _ _ _ _ _ _ _ _ (Chg.setCell (S := fun x => x = M) (p := ⟨M, 1, none⟩) (Chg.setCell (S := fun x => x = M) (p := ⟨M, 0, none⟩) (Chg.setCell (S := fun x => x = M) (p := ⟨M, 0, none⟩) (Chg.refl _ _) (.inl rfl) _) (.inl rfl) _) (.inl rfl) _) ?_
    rw [show mindC s' = [.int .i64 (c + 1), .int .i64 s'.phase, .int .i64 (d.mine), .int .i64 (d.acks)] by unfold mindC; rw [unhide hc1H, unhide hmnH, unhide hakH]]
    exact ((((unhide HnH).setM 0 _).setM 0 _).setM 1 _)
end Go.Proofs.Qxb6500367a
