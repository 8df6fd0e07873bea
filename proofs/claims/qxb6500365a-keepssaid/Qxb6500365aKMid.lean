/-
  Keeps: the middle of Kept, case by case. (gen65k2.py)
-/
import Derived.Test.Qxb6500365aKTail
import Derived.BigQuiet
import Derived.Deep.CutBlock
import Derived.Deep.CutRange
namespace Go.Proofs.Qxb6500365a
open Go.RowKit Go.Qx Ieee
set_option linter.unusedSimpArgs false
set_option linter.unusedVariables false

/-- What stands behind the five calls: the gate x holds σ', the ghost g holds σ. -/
structure KV (w V : World) (x g : Nat) (σ σ' : GS) (bn : Nat) : Prop where
  chg : Chg (fun k => k = x ∨ k = g) w V
  rep : Rep V x σ'
  gh : Blk V g 29 (ghC σ)
  now : Blk V bn 42 [.int .i64 σ'.e, .int .i64 σ'.t, .int .i64 0, .string ⟨#[]⟩]
  xg : x ≠ g
  nx : bn ≠ x
  ng : bn ≠ g
theorem KV.kl {w V : World} {x g : Nat} {σ : GS} {bn : Nat} (h : KV w V x g σ σ bn) : KL w V x g σ bn :=
  ⟨h.chg, h.rep, h.gh, h.now, h.xg, h.nx⟩
theorem KV.turn {w V V' : World} {x g : Nat} {σ σ' : GS} {bn : Nat} (h : KV w V x g σ σ' bn) (c : Chg (fun k => k = g) V V') (b : Blk V' g 29 (ghC σ')) : KL w V' x g σ' bn :=
  ⟨h.chg.trans (c.mono (fun k _ h => .inr h)), h.rep.of_chg c h.xg, b, c.blk h.now h.ng, h.xg, h.nx⟩

set_option maxHeartbeats 8000000 in
set_option maxRecDepth 100000 in
theorem mid_p00 (w V : World) (x g bo bw ba bn : Nat) (σ σ' : GS) (S0 S1 Z xs xt : ByteArray) (E N M xk xa xb xc : Int) (k1 : xk < 1) (hE : E = 0)
    (IH : Hid (Inv σ)) (InH : Hid (Inv σ')) (hS0H : Hid (str (showP σ) = S0)) (hS1H : Hid (str (showP σ') = S1))
    (hAnH : Hid (ansP σ ⟨xk, xa, xb, xc, xs, xt⟩ = ⟨E, N, M, Z⟩)) (hNxH : Hid (nextP σ ⟨xk, xa, xb, xc, xs, xt⟩ = σ'))
    (KVH : Hid (KV w V x g σ σ' bn))
    (o0 : V.cell? ⟨bo, 0, none⟩ = some (.int .i64 xk)) (o1 : V.cell? ⟨bo, 1, none⟩ = some (.int .i64 xa)) (o2 : V.cell? ⟨bo, 2, none⟩ = some (.int .i64 xb)) (o3 : V.cell? ⟨bo, 3, none⟩ = some (.int .i64 xc)) (o4 : V.cell? ⟨bo, 4, none⟩ = some (.string xs)) (o5 : V.cell? ⟨bo, 5, none⟩ = some (.string xt)) (p0 : V.cell? ⟨ba, 0, none⟩ = some (.int .i64 E)) (p1 : V.cell? ⟨ba, 1, none⟩ = some (.int .i64 N)) (p2 : V.cell? ⟨ba, 2, none⟩ = some (.int .i64 M)) (p3 : V.cell? ⟨ba, 3, none⟩ = some (.string Z)) (r0 : V.cell? ⟨bw, 0, none⟩ = some (.int .i64 σ.e)) (r1 : V.cell? ⟨bw, 1, none⟩ = some (.int .i64 σ.t)) (r2 : V.cell? ⟨bw, 2, none⟩ = some (.int .i64 0)) (r3 : V.cell? ⟨bw, 3, none⟩ = some (.string ⟨#[]⟩)) (s0 : V.cell? ⟨bn, 0, none⟩ = some (.int .i64 σ'.e)) (s1 : V.cell? ⟨bn, 1, none⟩ = some (.int .i64 σ'.t)) (s2 : V.cell? ⟨bn, 2, none⟩ = some (.int .i64 0)) (s3 : V.cell? ⟨bn, 3, none⟩ = some (.string ⟨#[]⟩))
    (u2 u3 u4 u6 u12 u13 u14 u15 u16 u17 u18 u19 u20 u21 u22 u23 u24 u25 u26 u27 u28 u29 u30 u31 u32 u33 u34 u35 u36 u37 u38 u39 u40 u41 u42 u43 u44 u45 u46 u47 u48 u49 u50 u51 u52 u53 u54 u55 u56 u57 u58 u59 u60 u61 u62 u63 u64 u65 u66 u67 u68 u69 u70 u71 u72 u73 u74 u75 u76 u77 u78 u79 u80 u81 u82 u83 u84 u85 u86 u87 u88 u89 u90 u91 u92 u93 u94 u95 u96 u97 u98 u99 u100 u101 u102 u103 u104 u105 u106 u107 u108 u109 u110 u111 u112 u113 u114 : Value) (R : Ending → World → Prop) (hR : Hid (∀ wx, KL w wx x g σ' bn → R (.returned (.bool true)) wx)) :
    Code.wp Try.prog mid10 (bodyPost Try.prog Try.f10 R) ⟨(Value.pointer (some ⟨x, 0, none⟩) :: Value.pointer (some ⟨g, 0, none⟩) :: u2 :: u3 :: u4 :: Value.pointer (some ⟨bo, 0, none⟩) :: u6 :: Value.string S0 :: Value.pointer (some ⟨bw, 0, none⟩) :: Value.pointer (some ⟨ba, 0, none⟩) :: Value.string S1 :: Value.pointer (some ⟨bn, 0, none⟩) :: u12 :: u13 :: u14 :: u15 :: u16 :: u17 :: u18 :: u19 :: u20 :: u21 :: u22 :: u23 :: u24 :: u25 :: u26 :: u27 :: u28 :: u29 :: u30 :: u31 :: u32 :: u33 :: u34 :: u35 :: u36 :: u37 :: u38 :: u39 :: u40 :: u41 :: u42 :: u43 :: u44 :: u45 :: u46 :: u47 :: u48 :: u49 :: u50 :: u51 :: u52 :: u53 :: u54 :: u55 :: u56 :: u57 :: u58 :: u59 :: u60 :: u61 :: u62 :: u63 :: u64 :: u65 :: u66 :: u67 :: u68 :: u69 :: u70 :: u71 :: u72 :: u73 :: u74 :: u75 :: u76 :: u77 :: u78 :: u79 :: u80 :: u81 :: u82 :: u83 :: u84 :: u85 :: u86 :: u87 :: u88 :: u89 :: u90 :: u91 :: u92 :: u93 :: u94 :: u95 :: u96 :: u97 :: u98 :: u99 :: u100 :: u101 :: u102 :: u103 :: u104 :: u105 :: u106 :: u107 :: u108 :: u109 :: u110 :: u111 :: u112 :: u113 :: u114 :: ([] : List Value)).toArray, []⟩ V := by
  have hp : pureK xk := Or.inl k1
  have hs : σ' = σ := (unhide hNxH).symm.trans (next_pure σ ⟨xk, xa, xb, xc, xs, xt⟩ hp)
  subst hs
  have e3 : S1 = S0 := (unhide hS1H).symm.trans (unhide hS0H)
  subst e3
  have hSS : (S1.toList == S1.toList) = true := by simp
  have hheld := hide (held_any V g σ' (unhide KVH).gh (unhide IH) ⟨xk, xa, xb, xc, xs, xt⟩ hp)
  rw [unhide hAnH] at hheld
  dsimp only at hheld
  unfold ansv ansC at hheld
  have ISH := IH
  have HSH := hS0H
  clear hp
  subst hE
  have kk1 : (xk < 1) = True := eq_true k1
  have kk2 : (xk == 7) = false := by simp; omega
  clear k1
  clear hAnH hNxH hS1H
  conv => arg 2; whnf
  go_wp2_with fail
  refine (unhide hheld).mono ?_
  clear hheld
  rintro e w6 ⟨rfl, q6⟩
  have KLH : Hid (KL w w6 x g σ' bn) := hide ((unhide KVH).kl.quiet q6)
  clear q6 o0 o1 o2 o3 o4 o5 p0 p1 p2 p3 r0 r1 r2 r3 s0 s1 s2 s3 KVH IH InH
  go_upto_if 96 with fail
  go_step
  refine wp_skip ?_
  simp only [Exit.then]
  rename_i hK
  refine hK _ _ ?_
  refine tail_any w w6 x g bn σ' S1 KLH ISH HSH _ _ _ _ _ _ _ _ _ _ _ _ _ _ _ _ _ _ _ _ _ _ _ _ _ _ _ _ _ _ _ _ _ _ _ _ _ _ _ _ _ _ _ _ _ _ _ _ _ _ _ _ _ _ _ _ _ _ _ _ _ _ _ _ _ _ _ _ _ _ _ _ _ _ _ _ _ _ _ _ _ _ _ _ _ _ _ _ _ _ _ _ _ _ _ _ _ _ _ _ _ _ _ _ _ _ _ _ _ _ _ R hR

set_option maxHeartbeats 8000000 in
set_option maxRecDepth 100000 in
theorem mid_p01 (w V : World) (x g bo bw ba bn : Nat) (σ σ' : GS) (S0 S1 Z xs xt : ByteArray) (E N M xk xa xb xc : Int) (k1 : xk < 1) (hE : E ≠ 0)
    (IH : Hid (Inv σ)) (InH : Hid (Inv σ')) (hS0H : Hid (str (showP σ) = S0)) (hS1H : Hid (str (showP σ') = S1))
    (hAnH : Hid (ansP σ ⟨xk, xa, xb, xc, xs, xt⟩ = ⟨E, N, M, Z⟩)) (hNxH : Hid (nextP σ ⟨xk, xa, xb, xc, xs, xt⟩ = σ'))
    (KVH : Hid (KV w V x g σ σ' bn))
    (o0 : V.cell? ⟨bo, 0, none⟩ = some (.int .i64 xk)) (o1 : V.cell? ⟨bo, 1, none⟩ = some (.int .i64 xa)) (o2 : V.cell? ⟨bo, 2, none⟩ = some (.int .i64 xb)) (o3 : V.cell? ⟨bo, 3, none⟩ = some (.int .i64 xc)) (o4 : V.cell? ⟨bo, 4, none⟩ = some (.string xs)) (o5 : V.cell? ⟨bo, 5, none⟩ = some (.string xt)) (p0 : V.cell? ⟨ba, 0, none⟩ = some (.int .i64 E)) (p1 : V.cell? ⟨ba, 1, none⟩ = some (.int .i64 N)) (p2 : V.cell? ⟨ba, 2, none⟩ = some (.int .i64 M)) (p3 : V.cell? ⟨ba, 3, none⟩ = some (.string Z)) (r0 : V.cell? ⟨bw, 0, none⟩ = some (.int .i64 σ.e)) (r1 : V.cell? ⟨bw, 1, none⟩ = some (.int .i64 σ.t)) (r2 : V.cell? ⟨bw, 2, none⟩ = some (.int .i64 0)) (r3 : V.cell? ⟨bw, 3, none⟩ = some (.string ⟨#[]⟩)) (s0 : V.cell? ⟨bn, 0, none⟩ = some (.int .i64 σ'.e)) (s1 : V.cell? ⟨bn, 1, none⟩ = some (.int .i64 σ'.t)) (s2 : V.cell? ⟨bn, 2, none⟩ = some (.int .i64 0)) (s3 : V.cell? ⟨bn, 3, none⟩ = some (.string ⟨#[]⟩))
    (u2 u3 u4 u6 u12 u13 u14 u15 u16 u17 u18 u19 u20 u21 u22 u23 u24 u25 u26 u27 u28 u29 u30 u31 u32 u33 u34 u35 u36 u37 u38 u39 u40 u41 u42 u43 u44 u45 u46 u47 u48 u49 u50 u51 u52 u53 u54 u55 u56 u57 u58 u59 u60 u61 u62 u63 u64 u65 u66 u67 u68 u69 u70 u71 u72 u73 u74 u75 u76 u77 u78 u79 u80 u81 u82 u83 u84 u85 u86 u87 u88 u89 u90 u91 u92 u93 u94 u95 u96 u97 u98 u99 u100 u101 u102 u103 u104 u105 u106 u107 u108 u109 u110 u111 u112 u113 u114 : Value) (R : Ending → World → Prop) (hR : Hid (∀ wx, KL w wx x g σ' bn → R (.returned (.bool true)) wx)) :
    Code.wp Try.prog mid10 (bodyPost Try.prog Try.f10 R) ⟨(Value.pointer (some ⟨x, 0, none⟩) :: Value.pointer (some ⟨g, 0, none⟩) :: u2 :: u3 :: u4 :: Value.pointer (some ⟨bo, 0, none⟩) :: u6 :: Value.string S0 :: Value.pointer (some ⟨bw, 0, none⟩) :: Value.pointer (some ⟨ba, 0, none⟩) :: Value.string S1 :: Value.pointer (some ⟨bn, 0, none⟩) :: u12 :: u13 :: u14 :: u15 :: u16 :: u17 :: u18 :: u19 :: u20 :: u21 :: u22 :: u23 :: u24 :: u25 :: u26 :: u27 :: u28 :: u29 :: u30 :: u31 :: u32 :: u33 :: u34 :: u35 :: u36 :: u37 :: u38 :: u39 :: u40 :: u41 :: u42 :: u43 :: u44 :: u45 :: u46 :: u47 :: u48 :: u49 :: u50 :: u51 :: u52 :: u53 :: u54 :: u55 :: u56 :: u57 :: u58 :: u59 :: u60 :: u61 :: u62 :: u63 :: u64 :: u65 :: u66 :: u67 :: u68 :: u69 :: u70 :: u71 :: u72 :: u73 :: u74 :: u75 :: u76 :: u77 :: u78 :: u79 :: u80 :: u81 :: u82 :: u83 :: u84 :: u85 :: u86 :: u87 :: u88 :: u89 :: u90 :: u91 :: u92 :: u93 :: u94 :: u95 :: u96 :: u97 :: u98 :: u99 :: u100 :: u101 :: u102 :: u103 :: u104 :: u105 :: u106 :: u107 :: u108 :: u109 :: u110 :: u111 :: u112 :: u113 :: u114 :: ([] : List Value)).toArray, []⟩ V := by
  have hp : pureK xk := Or.inl k1
  have hs : σ' = σ := (unhide hNxH).symm.trans (next_pure σ ⟨xk, xa, xb, xc, xs, xt⟩ hp)
  subst hs
  have e3 : S1 = S0 := (unhide hS1H).symm.trans (unhide hS0H)
  subst e3
  have hSS : (S1.toList == S1.toList) = true := by simp
  have hheld := hide (held_any V g σ' (unhide KVH).gh (unhide IH) ⟨xk, xa, xb, xc, xs, xt⟩ hp)
  rw [unhide hAnH] at hheld
  dsimp only at hheld
  unfold ansv ansC at hheld
  have ISH := IH
  have HSH := hS0H
  clear hp
  have ha := ans_err (unhide IH) ⟨xk, xa, xb, xc, xs, xt⟩ (by rw [unhide hAnH]; exact hE)
  rw [unhide hAnH] at ha
  injection ha with a0 a1 a2 a3
  subst a1 a2 a3
  have hE0 : (E == 0) = false := by simp; exact hE
  clear a0
  have kk1 : (xk < 1) = True := eq_true k1
  have kk2 : (xk == 7) = false := by simp; omega
  clear k1
  clear hAnH hNxH hS1H
  conv => arg 2; whnf
  go_wp2_with fail
  refine (unhide hheld).mono ?_
  clear hheld
  rintro e w6 ⟨rfl, q6⟩
  have KLH : Hid (KL w w6 x g σ' bn) := hide ((unhide KVH).kl.quiet q6)
  clear q6 o0 o1 o2 o3 o4 o5 p0 p1 p2 p3 r0 r1 r2 r3 s0 s1 s2 s3 KVH IH InH
  go_upto_if 96 with fail
  go_step
  refine wp_skip ?_
  simp only [Exit.then]
  rename_i hK
  refine hK _ _ ?_
  refine tail_any w w6 x g bn σ' S1 KLH ISH HSH _ _ _ _ _ _ _ _ _ _ _ _ _ _ _ _ _ _ _ _ _ _ _ _ _ _ _ _ _ _ _ _ _ _ _ _ _ _ _ _ _ _ _ _ _ _ _ _ _ _ _ _ _ _ _ _ _ _ _ _ _ _ _ _ _ _ _ _ _ _ _ _ _ _ _ _ _ _ _ _ _ _ _ _ _ _ _ _ _ _ _ _ _ _ _ _ _ _ _ _ _ _ _ _ _ _ _ _ _ _ _ R hR

set_option maxHeartbeats 8000000 in
set_option maxRecDepth 100000 in
theorem mid_p10 (w V : World) (x g bo bw ba bn : Nat) (σ σ' : GS) (S0 S1 Z xs xt : ByteArray) (E N M xk xa xb xc : Int) (k1 : xk = 6) (hE : E = 0)
    (IH : Hid (Inv σ)) (InH : Hid (Inv σ')) (hS0H : Hid (str (showP σ) = S0)) (hS1H : Hid (str (showP σ') = S1))
    (hAnH : Hid (ansP σ ⟨xk, xa, xb, xc, xs, xt⟩ = ⟨E, N, M, Z⟩)) (hNxH : Hid (nextP σ ⟨xk, xa, xb, xc, xs, xt⟩ = σ'))
    (KVH : Hid (KV w V x g σ σ' bn))
    (o0 : V.cell? ⟨bo, 0, none⟩ = some (.int .i64 xk)) (o1 : V.cell? ⟨bo, 1, none⟩ = some (.int .i64 xa)) (o2 : V.cell? ⟨bo, 2, none⟩ = some (.int .i64 xb)) (o3 : V.cell? ⟨bo, 3, none⟩ = some (.int .i64 xc)) (o4 : V.cell? ⟨bo, 4, none⟩ = some (.string xs)) (o5 : V.cell? ⟨bo, 5, none⟩ = some (.string xt)) (p0 : V.cell? ⟨ba, 0, none⟩ = some (.int .i64 E)) (p1 : V.cell? ⟨ba, 1, none⟩ = some (.int .i64 N)) (p2 : V.cell? ⟨ba, 2, none⟩ = some (.int .i64 M)) (p3 : V.cell? ⟨ba, 3, none⟩ = some (.string Z)) (r0 : V.cell? ⟨bw, 0, none⟩ = some (.int .i64 σ.e)) (r1 : V.cell? ⟨bw, 1, none⟩ = some (.int .i64 σ.t)) (r2 : V.cell? ⟨bw, 2, none⟩ = some (.int .i64 0)) (r3 : V.cell? ⟨bw, 3, none⟩ = some (.string ⟨#[]⟩)) (s0 : V.cell? ⟨bn, 0, none⟩ = some (.int .i64 σ'.e)) (s1 : V.cell? ⟨bn, 1, none⟩ = some (.int .i64 σ'.t)) (s2 : V.cell? ⟨bn, 2, none⟩ = some (.int .i64 0)) (s3 : V.cell? ⟨bn, 3, none⟩ = some (.string ⟨#[]⟩))
    (u2 u3 u4 u6 u12 u13 u14 u15 u16 u17 u18 u19 u20 u21 u22 u23 u24 u25 u26 u27 u28 u29 u30 u31 u32 u33 u34 u35 u36 u37 u38 u39 u40 u41 u42 u43 u44 u45 u46 u47 u48 u49 u50 u51 u52 u53 u54 u55 u56 u57 u58 u59 u60 u61 u62 u63 u64 u65 u66 u67 u68 u69 u70 u71 u72 u73 u74 u75 u76 u77 u78 u79 u80 u81 u82 u83 u84 u85 u86 u87 u88 u89 u90 u91 u92 u93 u94 u95 u96 u97 u98 u99 u100 u101 u102 u103 u104 u105 u106 u107 u108 u109 u110 u111 u112 u113 u114 : Value) (R : Ending → World → Prop) (hR : Hid (∀ wx, KL w wx x g σ' bn → R (.returned (.bool true)) wx)) :
    Code.wp Try.prog mid10 (bodyPost Try.prog Try.f10 R) ⟨(Value.pointer (some ⟨x, 0, none⟩) :: Value.pointer (some ⟨g, 0, none⟩) :: u2 :: u3 :: u4 :: Value.pointer (some ⟨bo, 0, none⟩) :: u6 :: Value.string S0 :: Value.pointer (some ⟨bw, 0, none⟩) :: Value.pointer (some ⟨ba, 0, none⟩) :: Value.string S1 :: Value.pointer (some ⟨bn, 0, none⟩) :: u12 :: u13 :: u14 :: u15 :: u16 :: u17 :: u18 :: u19 :: u20 :: u21 :: u22 :: u23 :: u24 :: u25 :: u26 :: u27 :: u28 :: u29 :: u30 :: u31 :: u32 :: u33 :: u34 :: u35 :: u36 :: u37 :: u38 :: u39 :: u40 :: u41 :: u42 :: u43 :: u44 :: u45 :: u46 :: u47 :: u48 :: u49 :: u50 :: u51 :: u52 :: u53 :: u54 :: u55 :: u56 :: u57 :: u58 :: u59 :: u60 :: u61 :: u62 :: u63 :: u64 :: u65 :: u66 :: u67 :: u68 :: u69 :: u70 :: u71 :: u72 :: u73 :: u74 :: u75 :: u76 :: u77 :: u78 :: u79 :: u80 :: u81 :: u82 :: u83 :: u84 :: u85 :: u86 :: u87 :: u88 :: u89 :: u90 :: u91 :: u92 :: u93 :: u94 :: u95 :: u96 :: u97 :: u98 :: u99 :: u100 :: u101 :: u102 :: u103 :: u104 :: u105 :: u106 :: u107 :: u108 :: u109 :: u110 :: u111 :: u112 :: u113 :: u114 :: ([] : List Value)).toArray, []⟩ V := by
  have hp : pureK xk := Or.inr (Or.inl k1)
  have hs : σ' = σ := (unhide hNxH).symm.trans (next_pure σ ⟨xk, xa, xb, xc, xs, xt⟩ hp)
  subst hs
  have e3 : S1 = S0 := (unhide hS1H).symm.trans (unhide hS0H)
  subst e3
  have hSS : (S1.toList == S1.toList) = true := by simp
  have hheld := hide (held_any V g σ' (unhide KVH).gh (unhide IH) ⟨xk, xa, xb, xc, xs, xt⟩ hp)
  rw [unhide hAnH] at hheld
  dsimp only at hheld
  unfold ansv ansC at hheld
  have ISH := IH
  have HSH := hS0H
  clear hp
  subst hE
  subst k1
  clear hAnH hNxH hS1H
  conv => arg 2; whnf
  go_wp2_with fail
  refine (unhide hheld).mono ?_
  clear hheld
  rintro e w6 ⟨rfl, q6⟩
  have KLH : Hid (KL w w6 x g σ' bn) := hide ((unhide KVH).kl.quiet q6)
  clear q6 o0 o1 o2 o3 o4 o5 p0 p1 p2 p3 r0 r1 r2 r3 s0 s1 s2 s3 KVH IH InH
  go_upto_if 96 with fail
  go_step
  refine wp_skip ?_
  simp only [Exit.then]
  rename_i hK
  refine hK _ _ ?_
  refine tail_any w w6 x g bn σ' S1 KLH ISH HSH _ _ _ _ _ _ _ _ _ _ _ _ _ _ _ _ _ _ _ _ _ _ _ _ _ _ _ _ _ _ _ _ _ _ _ _ _ _ _ _ _ _ _ _ _ _ _ _ _ _ _ _ _ _ _ _ _ _ _ _ _ _ _ _ _ _ _ _ _ _ _ _ _ _ _ _ _ _ _ _ _ _ _ _ _ _ _ _ _ _ _ _ _ _ _ _ _ _ _ _ _ _ _ _ _ _ _ _ _ _ _ R hR

set_option maxHeartbeats 8000000 in
set_option maxRecDepth 100000 in
theorem mid_p11 (w V : World) (x g bo bw ba bn : Nat) (σ σ' : GS) (S0 S1 Z xs xt : ByteArray) (E N M xk xa xb xc : Int) (k1 : xk = 6) (hE : E ≠ 0)
    (IH : Hid (Inv σ)) (InH : Hid (Inv σ')) (hS0H : Hid (str (showP σ) = S0)) (hS1H : Hid (str (showP σ') = S1))
    (hAnH : Hid (ansP σ ⟨xk, xa, xb, xc, xs, xt⟩ = ⟨E, N, M, Z⟩)) (hNxH : Hid (nextP σ ⟨xk, xa, xb, xc, xs, xt⟩ = σ'))
    (KVH : Hid (KV w V x g σ σ' bn))
    (o0 : V.cell? ⟨bo, 0, none⟩ = some (.int .i64 xk)) (o1 : V.cell? ⟨bo, 1, none⟩ = some (.int .i64 xa)) (o2 : V.cell? ⟨bo, 2, none⟩ = some (.int .i64 xb)) (o3 : V.cell? ⟨bo, 3, none⟩ = some (.int .i64 xc)) (o4 : V.cell? ⟨bo, 4, none⟩ = some (.string xs)) (o5 : V.cell? ⟨bo, 5, none⟩ = some (.string xt)) (p0 : V.cell? ⟨ba, 0, none⟩ = some (.int .i64 E)) (p1 : V.cell? ⟨ba, 1, none⟩ = some (.int .i64 N)) (p2 : V.cell? ⟨ba, 2, none⟩ = some (.int .i64 M)) (p3 : V.cell? ⟨ba, 3, none⟩ = some (.string Z)) (r0 : V.cell? ⟨bw, 0, none⟩ = some (.int .i64 σ.e)) (r1 : V.cell? ⟨bw, 1, none⟩ = some (.int .i64 σ.t)) (r2 : V.cell? ⟨bw, 2, none⟩ = some (.int .i64 0)) (r3 : V.cell? ⟨bw, 3, none⟩ = some (.string ⟨#[]⟩)) (s0 : V.cell? ⟨bn, 0, none⟩ = some (.int .i64 σ'.e)) (s1 : V.cell? ⟨bn, 1, none⟩ = some (.int .i64 σ'.t)) (s2 : V.cell? ⟨bn, 2, none⟩ = some (.int .i64 0)) (s3 : V.cell? ⟨bn, 3, none⟩ = some (.string ⟨#[]⟩))
    (u2 u3 u4 u6 u12 u13 u14 u15 u16 u17 u18 u19 u20 u21 u22 u23 u24 u25 u26 u27 u28 u29 u30 u31 u32 u33 u34 u35 u36 u37 u38 u39 u40 u41 u42 u43 u44 u45 u46 u47 u48 u49 u50 u51 u52 u53 u54 u55 u56 u57 u58 u59 u60 u61 u62 u63 u64 u65 u66 u67 u68 u69 u70 u71 u72 u73 u74 u75 u76 u77 u78 u79 u80 u81 u82 u83 u84 u85 u86 u87 u88 u89 u90 u91 u92 u93 u94 u95 u96 u97 u98 u99 u100 u101 u102 u103 u104 u105 u106 u107 u108 u109 u110 u111 u112 u113 u114 : Value) (R : Ending → World → Prop) (hR : Hid (∀ wx, KL w wx x g σ' bn → R (.returned (.bool true)) wx)) :
    Code.wp Try.prog mid10 (bodyPost Try.prog Try.f10 R) ⟨(Value.pointer (some ⟨x, 0, none⟩) :: Value.pointer (some ⟨g, 0, none⟩) :: u2 :: u3 :: u4 :: Value.pointer (some ⟨bo, 0, none⟩) :: u6 :: Value.string S0 :: Value.pointer (some ⟨bw, 0, none⟩) :: Value.pointer (some ⟨ba, 0, none⟩) :: Value.string S1 :: Value.pointer (some ⟨bn, 0, none⟩) :: u12 :: u13 :: u14 :: u15 :: u16 :: u17 :: u18 :: u19 :: u20 :: u21 :: u22 :: u23 :: u24 :: u25 :: u26 :: u27 :: u28 :: u29 :: u30 :: u31 :: u32 :: u33 :: u34 :: u35 :: u36 :: u37 :: u38 :: u39 :: u40 :: u41 :: u42 :: u43 :: u44 :: u45 :: u46 :: u47 :: u48 :: u49 :: u50 :: u51 :: u52 :: u53 :: u54 :: u55 :: u56 :: u57 :: u58 :: u59 :: u60 :: u61 :: u62 :: u63 :: u64 :: u65 :: u66 :: u67 :: u68 :: u69 :: u70 :: u71 :: u72 :: u73 :: u74 :: u75 :: u76 :: u77 :: u78 :: u79 :: u80 :: u81 :: u82 :: u83 :: u84 :: u85 :: u86 :: u87 :: u88 :: u89 :: u90 :: u91 :: u92 :: u93 :: u94 :: u95 :: u96 :: u97 :: u98 :: u99 :: u100 :: u101 :: u102 :: u103 :: u104 :: u105 :: u106 :: u107 :: u108 :: u109 :: u110 :: u111 :: u112 :: u113 :: u114 :: ([] : List Value)).toArray, []⟩ V := by
  have hp : pureK xk := Or.inr (Or.inl k1)
  have hs : σ' = σ := (unhide hNxH).symm.trans (next_pure σ ⟨xk, xa, xb, xc, xs, xt⟩ hp)
  subst hs
  have e3 : S1 = S0 := (unhide hS1H).symm.trans (unhide hS0H)
  subst e3
  have hSS : (S1.toList == S1.toList) = true := by simp
  have hheld := hide (held_any V g σ' (unhide KVH).gh (unhide IH) ⟨xk, xa, xb, xc, xs, xt⟩ hp)
  rw [unhide hAnH] at hheld
  dsimp only at hheld
  unfold ansv ansC at hheld
  have ISH := IH
  have HSH := hS0H
  clear hp
  have ha := ans_err (unhide IH) ⟨xk, xa, xb, xc, xs, xt⟩ (by rw [unhide hAnH]; exact hE)
  rw [unhide hAnH] at ha
  injection ha with a0 a1 a2 a3
  subst a1 a2 a3
  have hE0 : (E == 0) = false := by simp; exact hE
  clear a0
  subst k1
  clear hAnH hNxH hS1H
  conv => arg 2; whnf
  go_wp2_with fail
  refine (unhide hheld).mono ?_
  clear hheld
  rintro e w6 ⟨rfl, q6⟩
  have KLH : Hid (KL w w6 x g σ' bn) := hide ((unhide KVH).kl.quiet q6)
  clear q6 o0 o1 o2 o3 o4 o5 p0 p1 p2 p3 r0 r1 r2 r3 s0 s1 s2 s3 KVH IH InH
  go_upto_if 96 with fail
  go_step
  refine wp_skip ?_
  simp only [Exit.then]
  rename_i hK
  refine hK _ _ ?_
  refine tail_any w w6 x g bn σ' S1 KLH ISH HSH _ _ _ _ _ _ _ _ _ _ _ _ _ _ _ _ _ _ _ _ _ _ _ _ _ _ _ _ _ _ _ _ _ _ _ _ _ _ _ _ _ _ _ _ _ _ _ _ _ _ _ _ _ _ _ _ _ _ _ _ _ _ _ _ _ _ _ _ _ _ _ _ _ _ _ _ _ _ _ _ _ _ _ _ _ _ _ _ _ _ _ _ _ _ _ _ _ _ _ _ _ _ _ _ _ _ _ _ _ _ _ R hR

set_option maxHeartbeats 8000000 in
set_option maxRecDepth 100000 in
theorem mid_p20 (w V : World) (x g bo bw ba bn : Nat) (σ σ' : GS) (S0 S1 Z xs xt : ByteArray) (E N M xk xa xb xc : Int) (k1 : 7 < xk) (hE : E = 0)
    (IH : Hid (Inv σ)) (InH : Hid (Inv σ')) (hS0H : Hid (str (showP σ) = S0)) (hS1H : Hid (str (showP σ') = S1))
    (hAnH : Hid (ansP σ ⟨xk, xa, xb, xc, xs, xt⟩ = ⟨E, N, M, Z⟩)) (hNxH : Hid (nextP σ ⟨xk, xa, xb, xc, xs, xt⟩ = σ'))
    (KVH : Hid (KV w V x g σ σ' bn))
    (o0 : V.cell? ⟨bo, 0, none⟩ = some (.int .i64 xk)) (o1 : V.cell? ⟨bo, 1, none⟩ = some (.int .i64 xa)) (o2 : V.cell? ⟨bo, 2, none⟩ = some (.int .i64 xb)) (o3 : V.cell? ⟨bo, 3, none⟩ = some (.int .i64 xc)) (o4 : V.cell? ⟨bo, 4, none⟩ = some (.string xs)) (o5 : V.cell? ⟨bo, 5, none⟩ = some (.string xt)) (p0 : V.cell? ⟨ba, 0, none⟩ = some (.int .i64 E)) (p1 : V.cell? ⟨ba, 1, none⟩ = some (.int .i64 N)) (p2 : V.cell? ⟨ba, 2, none⟩ = some (.int .i64 M)) (p3 : V.cell? ⟨ba, 3, none⟩ = some (.string Z)) (r0 : V.cell? ⟨bw, 0, none⟩ = some (.int .i64 σ.e)) (r1 : V.cell? ⟨bw, 1, none⟩ = some (.int .i64 σ.t)) (r2 : V.cell? ⟨bw, 2, none⟩ = some (.int .i64 0)) (r3 : V.cell? ⟨bw, 3, none⟩ = some (.string ⟨#[]⟩)) (s0 : V.cell? ⟨bn, 0, none⟩ = some (.int .i64 σ'.e)) (s1 : V.cell? ⟨bn, 1, none⟩ = some (.int .i64 σ'.t)) (s2 : V.cell? ⟨bn, 2, none⟩ = some (.int .i64 0)) (s3 : V.cell? ⟨bn, 3, none⟩ = some (.string ⟨#[]⟩))
    (u2 u3 u4 u6 u12 u13 u14 u15 u16 u17 u18 u19 u20 u21 u22 u23 u24 u25 u26 u27 u28 u29 u30 u31 u32 u33 u34 u35 u36 u37 u38 u39 u40 u41 u42 u43 u44 u45 u46 u47 u48 u49 u50 u51 u52 u53 u54 u55 u56 u57 u58 u59 u60 u61 u62 u63 u64 u65 u66 u67 u68 u69 u70 u71 u72 u73 u74 u75 u76 u77 u78 u79 u80 u81 u82 u83 u84 u85 u86 u87 u88 u89 u90 u91 u92 u93 u94 u95 u96 u97 u98 u99 u100 u101 u102 u103 u104 u105 u106 u107 u108 u109 u110 u111 u112 u113 u114 : Value) (R : Ending → World → Prop) (hR : Hid (∀ wx, KL w wx x g σ' bn → R (.returned (.bool true)) wx)) :
    Code.wp Try.prog mid10 (bodyPost Try.prog Try.f10 R) ⟨(Value.pointer (some ⟨x, 0, none⟩) :: Value.pointer (some ⟨g, 0, none⟩) :: u2 :: u3 :: u4 :: Value.pointer (some ⟨bo, 0, none⟩) :: u6 :: Value.string S0 :: Value.pointer (some ⟨bw, 0, none⟩) :: Value.pointer (some ⟨ba, 0, none⟩) :: Value.string S1 :: Value.pointer (some ⟨bn, 0, none⟩) :: u12 :: u13 :: u14 :: u15 :: u16 :: u17 :: u18 :: u19 :: u20 :: u21 :: u22 :: u23 :: u24 :: u25 :: u26 :: u27 :: u28 :: u29 :: u30 :: u31 :: u32 :: u33 :: u34 :: u35 :: u36 :: u37 :: u38 :: u39 :: u40 :: u41 :: u42 :: u43 :: u44 :: u45 :: u46 :: u47 :: u48 :: u49 :: u50 :: u51 :: u52 :: u53 :: u54 :: u55 :: u56 :: u57 :: u58 :: u59 :: u60 :: u61 :: u62 :: u63 :: u64 :: u65 :: u66 :: u67 :: u68 :: u69 :: u70 :: u71 :: u72 :: u73 :: u74 :: u75 :: u76 :: u77 :: u78 :: u79 :: u80 :: u81 :: u82 :: u83 :: u84 :: u85 :: u86 :: u87 :: u88 :: u89 :: u90 :: u91 :: u92 :: u93 :: u94 :: u95 :: u96 :: u97 :: u98 :: u99 :: u100 :: u101 :: u102 :: u103 :: u104 :: u105 :: u106 :: u107 :: u108 :: u109 :: u110 :: u111 :: u112 :: u113 :: u114 :: ([] : List Value)).toArray, []⟩ V := by
  have hp : pureK xk := Or.inr (Or.inr k1)
  have hs : σ' = σ := (unhide hNxH).symm.trans (next_pure σ ⟨xk, xa, xb, xc, xs, xt⟩ hp)
  subst hs
  have e3 : S1 = S0 := (unhide hS1H).symm.trans (unhide hS0H)
  subst e3
  have hSS : (S1.toList == S1.toList) = true := by simp
  have hheld := hide (held_any V g σ' (unhide KVH).gh (unhide IH) ⟨xk, xa, xb, xc, xs, xt⟩ hp)
  rw [unhide hAnH] at hheld
  dsimp only at hheld
  unfold ansv ansC at hheld
  have ISH := IH
  have HSH := hS0H
  clear hp
  subst hE
  have kk1 : (xk < 1) = False := eq_false (by omega)
  have kk3 : (xk == 6) = false := by simp; omega
  have kk4 : (7 < xk) = True := eq_true k1
  have kk2 : (xk == 7) = false := by simp; omega
  clear k1
  clear hAnH hNxH hS1H
  conv => arg 2; whnf
  go_wp2_with fail
  refine (unhide hheld).mono ?_
  clear hheld
  rintro e w6 ⟨rfl, q6⟩
  have KLH : Hid (KL w w6 x g σ' bn) := hide ((unhide KVH).kl.quiet q6)
  clear q6 o0 o1 o2 o3 o4 o5 p0 p1 p2 p3 r0 r1 r2 r3 s0 s1 s2 s3 KVH IH InH
  go_upto_if 96 with fail
  go_step
  refine wp_skip ?_
  simp only [Exit.then]
  rename_i hK
  refine hK _ _ ?_
  refine tail_any w w6 x g bn σ' S1 KLH ISH HSH _ _ _ _ _ _ _ _ _ _ _ _ _ _ _ _ _ _ _ _ _ _ _ _ _ _ _ _ _ _ _ _ _ _ _ _ _ _ _ _ _ _ _ _ _ _ _ _ _ _ _ _ _ _ _ _ _ _ _ _ _ _ _ _ _ _ _ _ _ _ _ _ _ _ _ _ _ _ _ _ _ _ _ _ _ _ _ _ _ _ _ _ _ _ _ _ _ _ _ _ _ _ _ _ _ _ _ _ _ _ _ R hR

set_option maxHeartbeats 8000000 in
set_option maxRecDepth 100000 in
theorem mid_p21 (w V : World) (x g bo bw ba bn : Nat) (σ σ' : GS) (S0 S1 Z xs xt : ByteArray) (E N M xk xa xb xc : Int) (k1 : 7 < xk) (hE : E ≠ 0)
    (IH : Hid (Inv σ)) (InH : Hid (Inv σ')) (hS0H : Hid (str (showP σ) = S0)) (hS1H : Hid (str (showP σ') = S1))
    (hAnH : Hid (ansP σ ⟨xk, xa, xb, xc, xs, xt⟩ = ⟨E, N, M, Z⟩)) (hNxH : Hid (nextP σ ⟨xk, xa, xb, xc, xs, xt⟩ = σ'))
    (KVH : Hid (KV w V x g σ σ' bn))
    (o0 : V.cell? ⟨bo, 0, none⟩ = some (.int .i64 xk)) (o1 : V.cell? ⟨bo, 1, none⟩ = some (.int .i64 xa)) (o2 : V.cell? ⟨bo, 2, none⟩ = some (.int .i64 xb)) (o3 : V.cell? ⟨bo, 3, none⟩ = some (.int .i64 xc)) (o4 : V.cell? ⟨bo, 4, none⟩ = some (.string xs)) (o5 : V.cell? ⟨bo, 5, none⟩ = some (.string xt)) (p0 : V.cell? ⟨ba, 0, none⟩ = some (.int .i64 E)) (p1 : V.cell? ⟨ba, 1, none⟩ = some (.int .i64 N)) (p2 : V.cell? ⟨ba, 2, none⟩ = some (.int .i64 M)) (p3 : V.cell? ⟨ba, 3, none⟩ = some (.string Z)) (r0 : V.cell? ⟨bw, 0, none⟩ = some (.int .i64 σ.e)) (r1 : V.cell? ⟨bw, 1, none⟩ = some (.int .i64 σ.t)) (r2 : V.cell? ⟨bw, 2, none⟩ = some (.int .i64 0)) (r3 : V.cell? ⟨bw, 3, none⟩ = some (.string ⟨#[]⟩)) (s0 : V.cell? ⟨bn, 0, none⟩ = some (.int .i64 σ'.e)) (s1 : V.cell? ⟨bn, 1, none⟩ = some (.int .i64 σ'.t)) (s2 : V.cell? ⟨bn, 2, none⟩ = some (.int .i64 0)) (s3 : V.cell? ⟨bn, 3, none⟩ = some (.string ⟨#[]⟩))
    (u2 u3 u4 u6 u12 u13 u14 u15 u16 u17 u18 u19 u20 u21 u22 u23 u24 u25 u26 u27 u28 u29 u30 u31 u32 u33 u34 u35 u36 u37 u38 u39 u40 u41 u42 u43 u44 u45 u46 u47 u48 u49 u50 u51 u52 u53 u54 u55 u56 u57 u58 u59 u60 u61 u62 u63 u64 u65 u66 u67 u68 u69 u70 u71 u72 u73 u74 u75 u76 u77 u78 u79 u80 u81 u82 u83 u84 u85 u86 u87 u88 u89 u90 u91 u92 u93 u94 u95 u96 u97 u98 u99 u100 u101 u102 u103 u104 u105 u106 u107 u108 u109 u110 u111 u112 u113 u114 : Value) (R : Ending → World → Prop) (hR : Hid (∀ wx, KL w wx x g σ' bn → R (.returned (.bool true)) wx)) :
    Code.wp Try.prog mid10 (bodyPost Try.prog Try.f10 R) ⟨(Value.pointer (some ⟨x, 0, none⟩) :: Value.pointer (some ⟨g, 0, none⟩) :: u2 :: u3 :: u4 :: Value.pointer (some ⟨bo, 0, none⟩) :: u6 :: Value.string S0 :: Value.pointer (some ⟨bw, 0, none⟩) :: Value.pointer (some ⟨ba, 0, none⟩) :: Value.string S1 :: Value.pointer (some ⟨bn, 0, none⟩) :: u12 :: u13 :: u14 :: u15 :: u16 :: u17 :: u18 :: u19 :: u20 :: u21 :: u22 :: u23 :: u24 :: u25 :: u26 :: u27 :: u28 :: u29 :: u30 :: u31 :: u32 :: u33 :: u34 :: u35 :: u36 :: u37 :: u38 :: u39 :: u40 :: u41 :: u42 :: u43 :: u44 :: u45 :: u46 :: u47 :: u48 :: u49 :: u50 :: u51 :: u52 :: u53 :: u54 :: u55 :: u56 :: u57 :: u58 :: u59 :: u60 :: u61 :: u62 :: u63 :: u64 :: u65 :: u66 :: u67 :: u68 :: u69 :: u70 :: u71 :: u72 :: u73 :: u74 :: u75 :: u76 :: u77 :: u78 :: u79 :: u80 :: u81 :: u82 :: u83 :: u84 :: u85 :: u86 :: u87 :: u88 :: u89 :: u90 :: u91 :: u92 :: u93 :: u94 :: u95 :: u96 :: u97 :: u98 :: u99 :: u100 :: u101 :: u102 :: u103 :: u104 :: u105 :: u106 :: u107 :: u108 :: u109 :: u110 :: u111 :: u112 :: u113 :: u114 :: ([] : List Value)).toArray, []⟩ V := by
  have hp : pureK xk := Or.inr (Or.inr k1)
  have hs : σ' = σ := (unhide hNxH).symm.trans (next_pure σ ⟨xk, xa, xb, xc, xs, xt⟩ hp)
  subst hs
  have e3 : S1 = S0 := (unhide hS1H).symm.trans (unhide hS0H)
  subst e3
  have hSS : (S1.toList == S1.toList) = true := by simp
  have hheld := hide (held_any V g σ' (unhide KVH).gh (unhide IH) ⟨xk, xa, xb, xc, xs, xt⟩ hp)
  rw [unhide hAnH] at hheld
  dsimp only at hheld
  unfold ansv ansC at hheld
  have ISH := IH
  have HSH := hS0H
  clear hp
  have ha := ans_err (unhide IH) ⟨xk, xa, xb, xc, xs, xt⟩ (by rw [unhide hAnH]; exact hE)
  rw [unhide hAnH] at ha
  injection ha with a0 a1 a2 a3
  subst a1 a2 a3
  have hE0 : (E == 0) = false := by simp; exact hE
  clear a0
  have kk1 : (xk < 1) = False := eq_false (by omega)
  have kk3 : (xk == 6) = false := by simp; omega
  have kk4 : (7 < xk) = True := eq_true k1
  have kk2 : (xk == 7) = false := by simp; omega
  clear k1
  clear hAnH hNxH hS1H
  conv => arg 2; whnf
  go_wp2_with fail
  refine (unhide hheld).mono ?_
  clear hheld
  rintro e w6 ⟨rfl, q6⟩
  have KLH : Hid (KL w w6 x g σ' bn) := hide ((unhide KVH).kl.quiet q6)
  clear q6 o0 o1 o2 o3 o4 o5 p0 p1 p2 p3 r0 r1 r2 r3 s0 s1 s2 s3 KVH IH InH
  go_upto_if 96 with fail
  go_step
  refine wp_skip ?_
  simp only [Exit.then]
  rename_i hK
  refine hK _ _ ?_
  refine tail_any w w6 x g bn σ' S1 KLH ISH HSH _ _ _ _ _ _ _ _ _ _ _ _ _ _ _ _ _ _ _ _ _ _ _ _ _ _ _ _ _ _ _ _ _ _ _ _ _ _ _ _ _ _ _ _ _ _ _ _ _ _ _ _ _ _ _ _ _ _ _ _ _ _ _ _ _ _ _ _ _ _ _ _ _ _ _ _ _ _ _ _ _ _ _ _ _ _ _ _ _ _ _ _ _ _ _ _ _ _ _ _ _ _ _ _ _ _ _ _ _ _ _ R hR

set_option maxHeartbeats 8000000 in
set_option maxRecDepth 100000 in
theorem mid_te (w V : World) (x g bo bw ba bn : Nat) (σ σ' : GS) (S0 S1 Z xs xt : ByteArray) (E N M xk xa xb xc : Int) (hk : ¬ pureK xk) (hE : E ≠ 0)
    (IH : Hid (Inv σ)) (InH : Hid (Inv σ')) (hS0H : Hid (str (showP σ) = S0)) (hS1H : Hid (str (showP σ') = S1))
    (hAnH : Hid (ansP σ ⟨xk, xa, xb, xc, xs, xt⟩ = ⟨E, N, M, Z⟩)) (hNxH : Hid (nextP σ ⟨xk, xa, xb, xc, xs, xt⟩ = σ'))
    (KVH : Hid (KV w V x g σ σ' bn))
    (o0 : V.cell? ⟨bo, 0, none⟩ = some (.int .i64 xk)) (o1 : V.cell? ⟨bo, 1, none⟩ = some (.int .i64 xa)) (o2 : V.cell? ⟨bo, 2, none⟩ = some (.int .i64 xb)) (o3 : V.cell? ⟨bo, 3, none⟩ = some (.int .i64 xc)) (o4 : V.cell? ⟨bo, 4, none⟩ = some (.string xs)) (o5 : V.cell? ⟨bo, 5, none⟩ = some (.string xt)) (p0 : V.cell? ⟨ba, 0, none⟩ = some (.int .i64 E)) (p1 : V.cell? ⟨ba, 1, none⟩ = some (.int .i64 N)) (p2 : V.cell? ⟨ba, 2, none⟩ = some (.int .i64 M)) (p3 : V.cell? ⟨ba, 3, none⟩ = some (.string Z)) (r0 : V.cell? ⟨bw, 0, none⟩ = some (.int .i64 σ.e)) (r1 : V.cell? ⟨bw, 1, none⟩ = some (.int .i64 σ.t)) (r2 : V.cell? ⟨bw, 2, none⟩ = some (.int .i64 0)) (r3 : V.cell? ⟨bw, 3, none⟩ = some (.string ⟨#[]⟩)) (s0 : V.cell? ⟨bn, 0, none⟩ = some (.int .i64 σ'.e)) (s1 : V.cell? ⟨bn, 1, none⟩ = some (.int .i64 σ'.t)) (s2 : V.cell? ⟨bn, 2, none⟩ = some (.int .i64 0)) (s3 : V.cell? ⟨bn, 3, none⟩ = some (.string ⟨#[]⟩))
    (u2 u3 u4 u6 u12 u13 u14 u15 u16 u17 u18 u19 u20 u21 u22 u23 u24 u25 u26 u27 u28 u29 u30 u31 u32 u33 u34 u35 u36 u37 u38 u39 u40 u41 u42 u43 u44 u45 u46 u47 u48 u49 u50 u51 u52 u53 u54 u55 u56 u57 u58 u59 u60 u61 u62 u63 u64 u65 u66 u67 u68 u69 u70 u71 u72 u73 u74 u75 u76 u77 u78 u79 u80 u81 u82 u83 u84 u85 u86 u87 u88 u89 u90 u91 u92 u93 u94 u95 u96 u97 u98 u99 u100 u101 u102 u103 u104 u105 u106 u107 u108 u109 u110 u111 u112 u113 u114 : Value) (R : Ending → World → Prop) (hR : Hid (∀ wx, KL w wx x g σ' bn → R (.returned (.bool true)) wx)) :
    Code.wp Try.prog mid10 (bodyPost Try.prog Try.f10 R) ⟨(Value.pointer (some ⟨x, 0, none⟩) :: Value.pointer (some ⟨g, 0, none⟩) :: u2 :: u3 :: u4 :: Value.pointer (some ⟨bo, 0, none⟩) :: u6 :: Value.string S0 :: Value.pointer (some ⟨bw, 0, none⟩) :: Value.pointer (some ⟨ba, 0, none⟩) :: Value.string S1 :: Value.pointer (some ⟨bn, 0, none⟩) :: u12 :: u13 :: u14 :: u15 :: u16 :: u17 :: u18 :: u19 :: u20 :: u21 :: u22 :: u23 :: u24 :: u25 :: u26 :: u27 :: u28 :: u29 :: u30 :: u31 :: u32 :: u33 :: u34 :: u35 :: u36 :: u37 :: u38 :: u39 :: u40 :: u41 :: u42 :: u43 :: u44 :: u45 :: u46 :: u47 :: u48 :: u49 :: u50 :: u51 :: u52 :: u53 :: u54 :: u55 :: u56 :: u57 :: u58 :: u59 :: u60 :: u61 :: u62 :: u63 :: u64 :: u65 :: u66 :: u67 :: u68 :: u69 :: u70 :: u71 :: u72 :: u73 :: u74 :: u75 :: u76 :: u77 :: u78 :: u79 :: u80 :: u81 :: u82 :: u83 :: u84 :: u85 :: u86 :: u87 :: u88 :: u89 :: u90 :: u91 :: u92 :: u93 :: u94 :: u95 :: u96 :: u97 :: u98 :: u99 :: u100 :: u101 :: u102 :: u103 :: u104 :: u105 :: u106 :: u107 :: u108 :: u109 :: u110 :: u111 :: u112 :: u113 :: u114 :: ([] : List Value)).toArray, []⟩ V := by
  have hs : σ' = σ := (unhide hNxH).symm.trans (next_err σ ⟨xk, xa, xb, xc, xs, xt⟩ (by rw [unhide hAnH]; exact hE))
  subst hs
  have e3 : S1 = S0 := (unhide hS1H).symm.trans (unhide hS0H)
  subst e3
  have hSS : (S1.toList == S1.toList) = true := by simp
  have hp : ¬ pureK xk := hk
  have hturn := hide (turned_any V g σ' (unhide KVH).gh (unhide IH) ⟨xk, xa, xb, xc, xs, xt⟩ hp)
  rw [unhide hAnH, unhide hNxH] at hturn
  dsimp only at hturn
  unfold ansv ansC opv at hturn
  have ISH := InH
  have HSH := hS1H
  clear hp
  have ha := ans_err (unhide IH) ⟨xk, xa, xb, xc, xs, xt⟩ (by rw [unhide hAnH]; exact hE)
  rw [unhide hAnH] at ha
  injection ha with a0 a1 a2 a3
  subst a1 a2 a3
  have hE0 : (E == 0) = false := by simp; exact hE
  clear a0
  have kk1 : (xk < 1) = False := eq_false (by unfold pureK at hk; omega)
  have kk3 : (xk == 6) = false := by unfold pureK at hk; simp; omega
  have kk4 : (7 < xk) = False := eq_false (by unfold pureK at hk; omega)
  clear hk
  by_cases k7 : xk = 7
  · subst k7
    clear hAnH hNxH
    conv => arg 2; whnf
    go_wp2_with fail
    refine (unhide hturn).mono ?_
    clear hturn
    rintro e w6 ⟨rfl, c6, b6⟩
    have KLH : Hid (KL w w6 x g σ' bn) := hide ((unhide KVH).turn c6 b6)
    clear c6 b6 o0 o1 o2 o3 o4 o5 p0 p1 p2 p3 r0 r1 r2 r3 s0 s1 s2 s3 KVH IH InH
    go_upto_if 96 with fail
    go_step
    refine wp_skip ?_
    simp only [Exit.then]
    rename_i hK
    refine hK _ _ ?_
    refine tail_any w w6 x g bn σ' S1 KLH ISH HSH _ _ _ _ _ _ _ _ _ _ _ _ _ _ _ _ _ _ _ _ _ _ _ _ _ _ _ _ _ _ _ _ _ _ _ _ _ _ _ _ _ _ _ _ _ _ _ _ _ _ _ _ _ _ _ _ _ _ _ _ _ _ _ _ _ _ _ _ _ _ _ _ _ _ _ _ _ _ _ _ _ _ _ _ _ _ _ _ _ _ _ _ _ _ _ _ _ _ _ _ _ _ _ _ _ _ _ _ _ _ _ R hR
  · have kk2 : (xk == 7) = false := by simp; exact k7
    clear k7
    clear hAnH hNxH
    conv => arg 2; whnf
    go_wp2_with fail
    refine (unhide hturn).mono ?_
    clear hturn
    rintro e w6 ⟨rfl, c6, b6⟩
    have KLH : Hid (KL w w6 x g σ' bn) := hide ((unhide KVH).turn c6 b6)
    clear c6 b6 o0 o1 o2 o3 o4 o5 p0 p1 p2 p3 r0 r1 r2 r3 s0 s1 s2 s3 KVH IH InH
    go_upto_if 96 with fail
    go_step
    refine wp_skip ?_
    simp only [Exit.then]
    rename_i hK
    refine hK _ _ ?_
    refine tail_any w w6 x g bn σ' S1 KLH ISH HSH _ _ _ _ _ _ _ _ _ _ _ _ _ _ _ _ _ _ _ _ _ _ _ _ _ _ _ _ _ _ _ _ _ _ _ _ _ _ _ _ _ _ _ _ _ _ _ _ _ _ _ _ _ _ _ _ _ _ _ _ _ _ _ _ _ _ _ _ _ _ _ _ _ _ _ _ _ _ _ _ _ _ _ _ _ _ _ _ _ _ _ _ _ _ _ _ _ _ _ _ _ _ _ _ _ _ _ _ _ _ _ R hR

set_option maxHeartbeats 8000000 in
set_option maxRecDepth 100000 in
theorem mid_t1 (w V : World) (x g bo bw ba bn : Nat) (σ σ' : GS) (S0 S1 Z xs xt : ByteArray) (E N M xk xa xb xc : Int) (hk : ¬ pureK xk) (k7 : xk ≠ 7) (hE : E = 0)
    (IH : Hid (Inv σ)) (InH : Hid (Inv σ')) (hS0H : Hid (str (showP σ) = S0)) (hS1H : Hid (str (showP σ') = S1))
    (hAnH : Hid (ansP σ ⟨xk, xa, xb, xc, xs, xt⟩ = ⟨E, N, M, Z⟩)) (hNxH : Hid (nextP σ ⟨xk, xa, xb, xc, xs, xt⟩ = σ'))
    (KVH : Hid (KV w V x g σ σ' bn))
    (o0 : V.cell? ⟨bo, 0, none⟩ = some (.int .i64 xk)) (o1 : V.cell? ⟨bo, 1, none⟩ = some (.int .i64 xa)) (o2 : V.cell? ⟨bo, 2, none⟩ = some (.int .i64 xb)) (o3 : V.cell? ⟨bo, 3, none⟩ = some (.int .i64 xc)) (o4 : V.cell? ⟨bo, 4, none⟩ = some (.string xs)) (o5 : V.cell? ⟨bo, 5, none⟩ = some (.string xt)) (p0 : V.cell? ⟨ba, 0, none⟩ = some (.int .i64 E)) (p1 : V.cell? ⟨ba, 1, none⟩ = some (.int .i64 N)) (p2 : V.cell? ⟨ba, 2, none⟩ = some (.int .i64 M)) (p3 : V.cell? ⟨ba, 3, none⟩ = some (.string Z)) (r0 : V.cell? ⟨bw, 0, none⟩ = some (.int .i64 σ.e)) (r1 : V.cell? ⟨bw, 1, none⟩ = some (.int .i64 σ.t)) (r2 : V.cell? ⟨bw, 2, none⟩ = some (.int .i64 0)) (r3 : V.cell? ⟨bw, 3, none⟩ = some (.string ⟨#[]⟩)) (s0 : V.cell? ⟨bn, 0, none⟩ = some (.int .i64 σ'.e)) (s1 : V.cell? ⟨bn, 1, none⟩ = some (.int .i64 σ'.t)) (s2 : V.cell? ⟨bn, 2, none⟩ = some (.int .i64 0)) (s3 : V.cell? ⟨bn, 3, none⟩ = some (.string ⟨#[]⟩))
    (u2 u3 u4 u6 u12 u13 u14 u15 u16 u17 u18 u19 u20 u21 u22 u23 u24 u25 u26 u27 u28 u29 u30 u31 u32 u33 u34 u35 u36 u37 u38 u39 u40 u41 u42 u43 u44 u45 u46 u47 u48 u49 u50 u51 u52 u53 u54 u55 u56 u57 u58 u59 u60 u61 u62 u63 u64 u65 u66 u67 u68 u69 u70 u71 u72 u73 u74 u75 u76 u77 u78 u79 u80 u81 u82 u83 u84 u85 u86 u87 u88 u89 u90 u91 u92 u93 u94 u95 u96 u97 u98 u99 u100 u101 u102 u103 u104 u105 u106 u107 u108 u109 u110 u111 u112 u113 u114 : Value) (R : Ending → World → Prop) (hR : Hid (∀ wx, KL w wx x g σ' bn → R (.returned (.bool true)) wx)) :
    Code.wp Try.prog mid10 (bodyPost Try.prog Try.f10 R) ⟨(Value.pointer (some ⟨x, 0, none⟩) :: Value.pointer (some ⟨g, 0, none⟩) :: u2 :: u3 :: u4 :: Value.pointer (some ⟨bo, 0, none⟩) :: u6 :: Value.string S0 :: Value.pointer (some ⟨bw, 0, none⟩) :: Value.pointer (some ⟨ba, 0, none⟩) :: Value.string S1 :: Value.pointer (some ⟨bn, 0, none⟩) :: u12 :: u13 :: u14 :: u15 :: u16 :: u17 :: u18 :: u19 :: u20 :: u21 :: u22 :: u23 :: u24 :: u25 :: u26 :: u27 :: u28 :: u29 :: u30 :: u31 :: u32 :: u33 :: u34 :: u35 :: u36 :: u37 :: u38 :: u39 :: u40 :: u41 :: u42 :: u43 :: u44 :: u45 :: u46 :: u47 :: u48 :: u49 :: u50 :: u51 :: u52 :: u53 :: u54 :: u55 :: u56 :: u57 :: u58 :: u59 :: u60 :: u61 :: u62 :: u63 :: u64 :: u65 :: u66 :: u67 :: u68 :: u69 :: u70 :: u71 :: u72 :: u73 :: u74 :: u75 :: u76 :: u77 :: u78 :: u79 :: u80 :: u81 :: u82 :: u83 :: u84 :: u85 :: u86 :: u87 :: u88 :: u89 :: u90 :: u91 :: u92 :: u93 :: u94 :: u95 :: u96 :: u97 :: u98 :: u99 :: u100 :: u101 :: u102 :: u103 :: u104 :: u105 :: u106 :: u107 :: u108 :: u109 :: u110 :: u111 :: u112 :: u113 :: u114 :: ([] : List Value)).toArray, []⟩ V := by
  have hp : ¬ pureK xk := hk
  have hturn := hide (turned_any V g σ (unhide KVH).gh (unhide IH) ⟨xk, xa, xb, xc, xs, xt⟩ hp)
  rw [unhide hAnH, unhide hNxH] at hturn
  dsimp only at hturn
  unfold ansv ansC opv at hturn
  have ISH := InH
  have HSH := hS1H
  clear hp
  have kk1 : (xk < 1) = False := eq_false (by unfold pureK at hk; omega)
  have kk3 : (xk == 6) = false := by unfold pureK at hk; simp; omega
  have kk4 : (7 < xk) = False := eq_false (by unfold pureK at hk; omega)
  clear hk
  have kk2 : (xk == 7) = false := by simp; exact k7
  clear k7
  subst hE
  clear hAnH hNxH
  conv => arg 2; whnf
  go_wp2_with fail
  refine (unhide hturn).mono ?_
  clear hturn
  rintro e w6 ⟨rfl, c6, b6⟩
  have KLH : Hid (KL w w6 x g σ' bn) := hide ((unhide KVH).turn c6 b6)
  clear c6 b6 o0 o1 o2 o3 o4 o5 p0 p1 p2 p3 r0 r1 r2 r3 s0 s1 s2 s3 KVH IH InH
  go_upto_if 96 with fail
  go_step
  refine wp_skip ?_
  simp only [Exit.then]
  rename_i hK
  refine hK _ _ ?_
  refine tail_any w w6 x g bn σ' S1 KLH ISH HSH _ _ _ _ _ _ _ _ _ _ _ _ _ _ _ _ _ _ _ _ _ _ _ _ _ _ _ _ _ _ _ _ _ _ _ _ _ _ _ _ _ _ _ _ _ _ _ _ _ _ _ _ _ _ _ _ _ _ _ _ _ _ _ _ _ _ _ _ _ _ _ _ _ _ _ _ _ _ _ _ _ _ _ _ _ _ _ _ _ _ _ _ _ _ _ _ _ _ _ _ _ _ _ _ _ _ _ _ _ _ _ R hR

set_option maxHeartbeats 8000000 in
set_option maxRecDepth 100000 in
theorem mid_t7 (w V : World) (x g bo bw ba bn : Nat) (σ σ' : GS) (S0 S1 Z xs xt : ByteArray) (E N M xk xa xb xc : Int) (k7 : xk = 7) (hE : E = 0)
    (IH : Hid (Inv σ)) (InH : Hid (Inv σ')) (hS0H : Hid (str (showP σ) = S0)) (hS1H : Hid (str (showP σ') = S1))
    (hAnH : Hid (ansP σ ⟨xk, xa, xb, xc, xs, xt⟩ = ⟨E, N, M, Z⟩)) (hNxH : Hid (nextP σ ⟨xk, xa, xb, xc, xs, xt⟩ = σ'))
    (KVH : Hid (KV w V x g σ σ' bn))
    (o0 : V.cell? ⟨bo, 0, none⟩ = some (.int .i64 xk)) (o1 : V.cell? ⟨bo, 1, none⟩ = some (.int .i64 xa)) (o2 : V.cell? ⟨bo, 2, none⟩ = some (.int .i64 xb)) (o3 : V.cell? ⟨bo, 3, none⟩ = some (.int .i64 xc)) (o4 : V.cell? ⟨bo, 4, none⟩ = some (.string xs)) (o5 : V.cell? ⟨bo, 5, none⟩ = some (.string xt)) (p0 : V.cell? ⟨ba, 0, none⟩ = some (.int .i64 E)) (p1 : V.cell? ⟨ba, 1, none⟩ = some (.int .i64 N)) (p2 : V.cell? ⟨ba, 2, none⟩ = some (.int .i64 M)) (p3 : V.cell? ⟨ba, 3, none⟩ = some (.string Z)) (r0 : V.cell? ⟨bw, 0, none⟩ = some (.int .i64 σ.e)) (r1 : V.cell? ⟨bw, 1, none⟩ = some (.int .i64 σ.t)) (r2 : V.cell? ⟨bw, 2, none⟩ = some (.int .i64 0)) (r3 : V.cell? ⟨bw, 3, none⟩ = some (.string ⟨#[]⟩)) (s0 : V.cell? ⟨bn, 0, none⟩ = some (.int .i64 σ'.e)) (s1 : V.cell? ⟨bn, 1, none⟩ = some (.int .i64 σ'.t)) (s2 : V.cell? ⟨bn, 2, none⟩ = some (.int .i64 0)) (s3 : V.cell? ⟨bn, 3, none⟩ = some (.string ⟨#[]⟩))
    (u2 u3 u4 u6 u12 u13 u14 u15 u16 u17 u18 u19 u20 u21 u22 u23 u24 u25 u26 u27 u28 u29 u30 u31 u32 u33 u34 u35 u36 u37 u38 u39 u40 u41 u42 u43 u44 u45 u46 u47 u48 u49 u50 u51 u52 u53 u54 u55 u56 u57 u58 u59 u60 u61 u62 u63 u64 u65 u66 u67 u68 u69 u70 u71 u72 u73 u74 u75 u76 u77 u78 u79 u80 u81 u82 u83 u84 u85 u86 u87 u88 u89 u90 u91 u92 u93 u94 u95 u96 u97 u98 u99 u100 u101 u102 u103 u104 u105 u106 u107 u108 u109 u110 u111 u112 u113 u114 : Value) (R : Ending → World → Prop) (hR : Hid (∀ wx, KL w wx x g σ' bn → R (.returned (.bool true)) wx)) :
    Code.wp Try.prog mid10 (bodyPost Try.prog Try.f10 R) ⟨(Value.pointer (some ⟨x, 0, none⟩) :: Value.pointer (some ⟨g, 0, none⟩) :: u2 :: u3 :: u4 :: Value.pointer (some ⟨bo, 0, none⟩) :: u6 :: Value.string S0 :: Value.pointer (some ⟨bw, 0, none⟩) :: Value.pointer (some ⟨ba, 0, none⟩) :: Value.string S1 :: Value.pointer (some ⟨bn, 0, none⟩) :: u12 :: u13 :: u14 :: u15 :: u16 :: u17 :: u18 :: u19 :: u20 :: u21 :: u22 :: u23 :: u24 :: u25 :: u26 :: u27 :: u28 :: u29 :: u30 :: u31 :: u32 :: u33 :: u34 :: u35 :: u36 :: u37 :: u38 :: u39 :: u40 :: u41 :: u42 :: u43 :: u44 :: u45 :: u46 :: u47 :: u48 :: u49 :: u50 :: u51 :: u52 :: u53 :: u54 :: u55 :: u56 :: u57 :: u58 :: u59 :: u60 :: u61 :: u62 :: u63 :: u64 :: u65 :: u66 :: u67 :: u68 :: u69 :: u70 :: u71 :: u72 :: u73 :: u74 :: u75 :: u76 :: u77 :: u78 :: u79 :: u80 :: u81 :: u82 :: u83 :: u84 :: u85 :: u86 :: u87 :: u88 :: u89 :: u90 :: u91 :: u92 :: u93 :: u94 :: u95 :: u96 :: u97 :: u98 :: u99 :: u100 :: u101 :: u102 :: u103 :: u104 :: u105 :: u106 :: u107 :: u108 :: u109 :: u110 :: u111 :: u112 :: u113 :: u114 :: ([] : List Value)).toArray, []⟩ V := by
  subst k7 hE
  have hSS : (S0.toList == S1.toList) = false := by
    have h0 := unhide hAnH
    have h1 := unhide hNxH
    have h2 : takeE σ = 0 := congrArg (fun a => a.e) h0
    have h3 : takeS σ = σ' := h1
    have h4 := show_take (unhide IH) h2
    rw [h3] at h4
    have h5 := unhide hS0H
    have h6 := unhide hS1H
    rw [← h5, ← h6, str_toList, str_toList]
    exact beq_eq_false_iff_ne.mpr h4
  have hp : ¬ pureK 7 := by unfold pureK; omega
  have hturn := hide (turned_any V g σ (unhide KVH).gh (unhide IH) ⟨7, xa, xb, xc, xs, xt⟩ hp)
  rw [unhide hAnH, unhide hNxH] at hturn
  dsimp only at hturn
  unfold ansv ansC opv at hturn
  have ISH := InH
  have HSH := hS1H
  clear hp
  clear hAnH hNxH
  conv => arg 2; whnf
  go_wp2_with fail
  refine (unhide hturn).mono ?_
  clear hturn
  rintro e w6 ⟨rfl, c6, b6⟩
  have KLH : Hid (KL w w6 x g σ' bn) := hide ((unhide KVH).turn c6 b6)
  clear c6 b6 o0 o1 o2 o3 o4 o5 p0 p1 p2 p3 r0 r1 r2 r3 s0 s1 s2 s3 KVH IH InH
  go_upto_if 96 with fail
  go_step
  refine wp_skip ?_
  simp only [Exit.then]
  rename_i hK
  refine hK _ _ ?_
  refine tail_any w w6 x g bn σ' S1 KLH ISH HSH _ _ _ _ _ _ _ _ _ _ _ _ _ _ _ _ _ _ _ _ _ _ _ _ _ _ _ _ _ _ _ _ _ _ _ _ _ _ _ _ _ _ _ _ _ _ _ _ _ _ _ _ _ _ _ _ _ _ _ _ _ _ _ _ _ _ _ _ _ _ _ _ _ _ _ _ _ _ _ _ _ _ _ _ _ _ _ _ _ _ _ _ _ _ _ _ _ _ _ _ _ _ _ _ _ _ _ _ _ _ _ R hR
end Go.Proofs.Qxb6500365a
