/-
  369 Keeps: keep, Keeps, KeepsQuiet. (gen9keep.py)
-/
import Derived.Test.Qxb6500369aKKeepT
import Derived.Test.Qxb6500369aRefine
namespace Go.Proofs.Qxb6500369a
open Go.RowKit Go.Qx
set_option linter.unusedSimpArgs false
set_option linter.unusedVariables false

/-- The law's state between two steps. -/
def KX (W wr : World) (x g : Nat) : Prop := ∃ a b mode ns ord G O, KS W wr x a b g mode ns ord G O
/-- .. behind a settled wire. -/
def KD (W wr : World) (x g : Nat) (se : Bool) : Prop := ∃ a b mode ns ord G O, KS W wr x a b g mode ns ord G O ∧ (se = true → mode ≠ -1 ∧ G.wire = [] ∧ ∀ i, i < ns.length → (vf ns i).reach ≠ 0)
theorem KX.kd {W wr : World} {x g : Nat} (h : KX W wr x g) : KD W wr x g false := by
  obtain ⟨a, b, mode, ns, ord, G, O, S⟩ := h
  exact ⟨a, b, mode, ns, ord, G, O, S, fun e => by cases e⟩
theorem KD.kx {W wr w' : World} {x g : Nat} {se : Bool} (h : KD W wr x g se) (q : Quiet wr w') : KX W w' x g := by
  obtain ⟨a, b, mode, ns, ord, G, O, S, _⟩ := h
  exact ⟨a, b, mode, ns, ord, G, O, S.quiet q⟩
theorem KX.quiet {W wr w' : World} {x g : Nat} (h : KX W wr x g) (q : Quiet wr w') : KX W w' x g := h.kd.kx q

/-- The tail, over the state. -/
theorem tail8_kd (W V : World) (x g : Nat) (se qu : Bool) (h : KD W V x g se)
    (u0 u2 u3 u4 u7 u8 u10 u11 u12 u13 u14 u15 u16 u17 u18 u19 u20 u21 u22 u23 u24 u25 u26 u27 u28 u29 u30 u31 u32 u33 u34 u35 u36 u37 u38 u39 u40 u41 u42 u43 u44 u45 u46 u47 u48 u49 u50 u51 u52 u53 u54 u55 u56 u57 u58 u59 u60 u61 u62 u63 u64 u65 u66 u67 u68 u69 u70 u71 u72 u73 u74 u75 u76 u77 u78 u79 u80 u81 u82 u83 u84 u85 u86 u87 u88 u89 u90 u91 u92 u93 : Value) (Q : Exit → Act → World → Prop) (hQ : Hid (∀ (y70 y71 y72 y73 y74 y75 y76 y77 y78 y79 y80 y81 y82 y83 y84 y85 y86 y87 y88 y89 y90 y91 y92 y93 : Value) wx, Quiet V wx → Q .normal ⟨(u0 :: Value.bool qu :: u2 :: u3 :: u4 :: Value.pointer (some ⟨x, 0, none⟩) :: Value.pointer (some ⟨g, 0, none⟩) :: u7 :: u8 :: Value.bool se :: u10 :: u11 :: u12 :: u13 :: u14 :: u15 :: u16 :: u17 :: u18 :: u19 :: u20 :: u21 :: u22 :: u23 :: u24 :: u25 :: u26 :: u27 :: u28 :: u29 :: u30 :: u31 :: u32 :: u33 :: u34 :: u35 :: u36 :: u37 :: u38 :: u39 :: u40 :: u41 :: u42 :: u43 :: u44 :: u45 :: u46 :: u47 :: u48 :: u49 :: u50 :: u51 :: u52 :: u53 :: u54 :: u55 :: u56 :: u57 :: u58 :: u59 :: u60 :: u61 :: u62 :: u63 :: u64 :: u65 :: u66 :: u67 :: u68 :: u69 :: y70 :: y71 :: y72 :: y73 :: y74 :: y75 :: y76 :: y77 :: y78 :: y79 :: y80 :: y81 :: y82 :: y83 :: y84 :: y85 :: y86 :: y87 :: y88 :: y89 :: y90 :: y91 :: y92 :: y93 :: ([] : List Value)).toArray, []⟩ wx)) :
    Code.wp Try.prog tail8 Q ⟨(u0 :: Value.bool qu :: u2 :: u3 :: u4 :: Value.pointer (some ⟨x, 0, none⟩) :: Value.pointer (some ⟨g, 0, none⟩) :: u7 :: u8 :: Value.bool se :: u10 :: u11 :: u12 :: u13 :: u14 :: u15 :: u16 :: u17 :: u18 :: u19 :: u20 :: u21 :: u22 :: u23 :: u24 :: u25 :: u26 :: u27 :: u28 :: u29 :: u30 :: u31 :: u32 :: u33 :: u34 :: u35 :: u36 :: u37 :: u38 :: u39 :: u40 :: u41 :: u42 :: u43 :: u44 :: u45 :: u46 :: u47 :: u48 :: u49 :: u50 :: u51 :: u52 :: u53 :: u54 :: u55 :: u56 :: u57 :: u58 :: u59 :: u60 :: u61 :: u62 :: u63 :: u64 :: u65 :: u66 :: u67 :: u68 :: u69 :: u70 :: u71 :: u72 :: u73 :: u74 :: u75 :: u76 :: u77 :: u78 :: u79 :: u80 :: u81 :: u82 :: u83 :: u84 :: u85 :: u86 :: u87 :: u88 :: u89 :: u90 :: u91 :: u92 :: u93 :: ([] : List Value)).toArray, []⟩ V := by
  obtain ⟨a, b, mode, ns, ord, G, O, S, hse⟩ := h
  exact tail8_any W V x a b g mode ns ord G O S se qu hse _ _ _ _ _ _ _ _ _ _ _ _ _ _ _ _ _ _ _ _ _ _ _ _ _ _ _ _ _ _ _ _ _ _ _ _ _ _ _ _ _ _ _ _ _ _ _ _ _ _ _ _ _ _ _ _ _ _ _ _ _ _ _ _ _ _ _ _ _ _ _ _ _ _ _ _ _ _ _ _ _ _ _ _ _ _ _ _ _ _ Q hQ

theorem kx_act {W V : World} {x g : Nat} (h : KX W V x g) (k oa ob oc : Int) (os ot : ByteArray) (hk : k = 1 ∨ k = 2 ∨ k = 3 ∨ k = 4) (ha : In64 oa) :
    Calls Try.prog 14 #[.pointer (some ⟨x, 0, none⟩), .pointer (some ⟨g, 0, none⟩), .agg #[.int .i64 k, .int .i64 oa, .int .i64 ob, .int .i64 oc, .string os, .string ot]] V fun e w' => e = .returned (.tuple #[]) ∧ KD W w' x g false := by
  obtain ⟨a, b, mode, ns, ord, G, O, S⟩ := h
  refine (act_any S k oa ob oc os ot hk ha).mono ?_
  rintro e w' ⟨rfl, ord', G', O', S', _⟩
  exact ⟨rfl, a, b, _, _, ord', G', O', S', fun e => by cases e⟩
theorem kx_deliver {W V : World} {x g : Nat} (h : KX W V x g) (link : Int) :
    Calls Try.prog 15 #[.pointer (some ⟨x, 0, none⟩), .pointer (some ⟨g, 0, none⟩), .int .i64 link] V fun e w' => e = .returned (.tuple #[]) ∧ KD W w' x g false := by
  obtain ⟨a, b, mode, ns, ord, G, O, S⟩ := h
  refine (deliver_any W V x a b g mode ns ord G O S link).mono ?_
  rintro e w' ⟨rfl, ns', G', O', S', _⟩
  exact ⟨rfl, a, b, _, _, ord, G', O', S', fun e => by cases e⟩
theorem kx_worst {W V : World} {x g : Nat} (h : KX W V x g) (top : Int) (ht : In64 top) :
    Calls Try.prog 17 #[.pointer (some ⟨x, 0, none⟩), .pointer (some ⟨g, 0, none⟩), .int .i64 top] V fun e w' => e = .returned (.tuple #[]) ∧ KD W w' x g false := by
  obtain ⟨a, b, mode, ns, ord, G, O, S⟩ := h
  refine (worst_any W V x a b g mode ns ord G O S top ht).mono ?_
  rintro e w' ⟨rfl, mode', ns', ord', G', O', S'⟩
  exact ⟨rfl, a, b, _, _, ord', G', O', S', fun e => by cases e⟩
theorem ks_settle {W V : World} {x a b g : Nat} {mode : Int} {ns : List N5} {ord : List Int} {G : Gh} {O : Nat → Prop} (S : KS W V x a b g mode ns ord G O) (hm : mode ≠ -1) :
    Calls Try.prog 16 #[.pointer (some ⟨x, 0, none⟩), .pointer (some ⟨g, 0, none⟩)] V fun e w' => e = .returned (.tuple #[]) ∧ KD W w' x g true := by
  refine (settle_any W V x a b g mode ns ord G O S hm).mono ?_
  rintro e w' ⟨rfl, ns', ord', G', O', S', hl, ha, _, hw⟩
  exact ⟨rfl, a, b, mode, ns', ord', G', O', S', fun _ => ⟨hm, hw, fun i hi => ha i (by omega) trivial⟩⟩

set_option maxHeartbeats 8000000 in
set_option maxRecDepth 100000 in
theorem keep_any (w : World) (sa : Option Addr) (len cap : Nat) (ops : List Opr) (qu : Bool) (ho : IsOps w sa len cap ops) :
    Calls Try.prog 8 #[.slice sa len cap, .bool qu] w fun e w' => e = .returned (.int .i64 (-1)) ∧ Below w.heap.size w w' := by
  have hlen := ho.small
  have hnew := new_any w
  unfold newPost ptr at hnew
  go_enter Try.func8, Try.ntmps8
  go_wp2_with fail
  refine hnew.mono ?_
  clear hnew
  rintro e w1 ⟨x, a, b, rfl, q1, ho1, R1⟩
  have al1 : Quiet w1 (w1.alloc (.cells #[.slice none 0 0, .slice none 0 0, .int .i64 0, .int .i64 0, .int .i64 0, .int .i64 0, .int .i64 0, .int .i64 (-1), .int .i64 0, .bool false, .bool true] 38)) := (Chg.refl _ _).alloc _
  have bg := Blk.new w1 38 [.slice none 0 0, .slice none 0 0, .int .i64 0, .int .i64 0, .int .i64 0, .int .i64 0, .int .i64 0, .int .i64 (-1), .int .i64 0, .bool false, .bool true]
  have hk1 : KX w (w1.alloc (.cells #[.slice none 0 0, .slice none 0 0, .int .i64 0, .int .i64 0, .int .i64 0, .int .i64 0, .int .i64 0, .int .i64 (-1), .int .i64 0, .bool false, .bool true] 38)) x w1.heap.size := by
    refine ⟨a, b, -1, [], _, gh0, fun k => k = w1.heap.size, (q1.chg _).trans (al1.chg _), R1.quiet al1, inv_first, ⟨.slice none 0 0, .slice none 0 0, ⟨bg, Row.nil _ _ _, Row.nil _ _ _, by simp [Value.ownBlock], by simp [Value.ownBlock], by simp [Value.ownBlock]⟩, ?_⟩, ?_, ?_, ho1, KI.first⟩
    · intro k hk
      rcases hk with h | h | h
      · exact h
      · simp [Value.ownBlock] at h
      · simp [Value.ownBlock] at h
    · intro k hk hr
      have := R1.lts k hr
      omega
    · intro k hk
      have := q1.size
      omega
  have hf := hide (facts_any (w1.alloc (.cells #[.slice none 0 0, .slice none 0 0, .int .i64 0, .int .i64 0, .int .i64 0, .int .i64 0, .int .i64 0, .int .i64 (-1), .int .i64 0, .bool false, .bool true] 38)))
  have hk1H := hide hk1
  clear q1 R1 al1 bg hk1 ho1
  go_wp2_with fail
  refine (unhide hf).mono ?_
  clear hf
  rintro e w2 ⟨rfl, q2⟩
  have hk2 := hide ((unhide hk1H).quiet q2)
  clear hk1H q2
  obtain ⟨g, hg⟩ : ∃ g, w1.heap.size = g := ⟨_, rfl⟩
  rw [hg] at hk2 ⊢
  clear hg
  go_wp2
  go_loopw [7] (fun i wr => ∃ j : Nat, j ≤ len ∧ i = .int .i64 j ∧ KX w wr x g) (fun i _ => len - (intOf i).toNat)
  case atStart => exact ⟨0, Nat.zero_le _, rfl, unhide hk2⟩
  case round =>
    clear hk2
    obtain ⟨j, hj, rfl, hb⟩ := hrel
    have hbel : Below w.heap.size w wr := by
      obtain ⟨a', b', mode, ns, ord, G, O, S⟩ := hb
      exact S.chg.below _ (Nat.le_refl _) (fun _ h => h)
    have hbelH := hide hbel
    clear hbel
    by_cases hlt : j < len
    · by_cases hmax : (j : Int) < 4398046511104
      · have hjo : j < ops.length := by rw [ho.count]; exact hlt
        obtain ⟨sb, so, rfl, hsb, k0, k1, k2, k3, k4, k5⟩ := ho.cells j hjo
        have hfit := ho.fit ops[j] (List.getElem_mem hjo)
        generalize ops[j] = o at *
        obtain ⟨ok, oa, ob, oc, os, ot⟩ := o
        simp only at k0 k1 k2 k3 k4 k5 hfit
        have i1 : (0 : Int) ≤ (j : Int) := by omega
        have i2 : (j : Int) < (len : Int) := by omega
        have g1 : decide (j < len) = true := by simpa using hlt
        have hbl := unhide hbelH
        rw [← hbl.cell (p := ⟨sb, so + j * 6, none⟩) hsb] at k0
        rw [← hbl.cell (p := ⟨sb, so + j * 6 + 1, none⟩) hsb] at k1
        rw [← hbl.cell (p := ⟨sb, so + j * 6 + 2, none⟩) hsb] at k2
        rw [← hbl.cell (p := ⟨sb, so + j * 6 + 3, none⟩) hsb] at k3
        rw [← hbl.cell (p := ⟨sb, so + j * 6 + 4, none⟩) hsb] at k4
        rw [← hbl.cell (p := ⟨sb, so + j * 6 + 5, none⟩) hsb] at k5
        clear hbl
        have jH := hide (And.intro hlt hmax)
        have hfa := hide hfit.1
        clear hfit hj hjo
        have al : Quiet wr (wr.alloc (.cells #[.int .i64 ok, .int .i64 oa, .int .i64 ob, .int .i64 oc, .string os, .string ot] 40)) := (Chg.refl _ _).alloc _
        have hb2 := hide (hb.quiet al)
        have hbo := Blk.new wr 40 [.int .i64 ok, .int .i64 oa, .int .i64 ob, .int .i64 oc, .string os, .string ot]
        obtain ⟨B, hB⟩ : ∃ B, wr.heap.size = B := ⟨_, rfl⟩
        rw [hB] at hbo
        have o0 : (wr.alloc (.cells #[.int .i64 ok, .int .i64 oa, .int .i64 ob, .int .i64 oc, .string os, .string ot] 40)).cell? ⟨B, 0, none⟩ = some (.int .i64 ok) := hbo.cell 0
        have o1 : (wr.alloc (.cells #[.int .i64 ok, .int .i64 oa, .int .i64 ob, .int .i64 oc, .string os, .string ot] 40)).cell? ⟨B, 1, none⟩ = some (.int .i64 oa) := hbo.cell 1
        have o2 : (wr.alloc (.cells #[.int .i64 ok, .int .i64 oa, .int .i64 ob, .int .i64 oc, .string os, .string ot] 40)).cell? ⟨B, 2, none⟩ = some (.int .i64 ob) := hbo.cell 2
        have o3 : (wr.alloc (.cells #[.int .i64 ok, .int .i64 oa, .int .i64 ob, .int .i64 oc, .string os, .string ot] 40)).cell? ⟨B, 3, none⟩ = some (.int .i64 oc) := hbo.cell 3
        have o4 : (wr.alloc (.cells #[.int .i64 ok, .int .i64 oa, .int .i64 ob, .int .i64 oc, .string os, .string ot] 40)).cell? ⟨B, 4, none⟩ = some (.string os) := hbo.cell 4
        have o5 : (wr.alloc (.cells #[.int .i64 ok, .int .i64 oa, .int .i64 ob, .int .i64 oc, .string os, .string ot] 40)).cell? ⟨B, 5, none⟩ = some (.string ot) := hbo.cell 5
        clear al hb hbo
        have wj : IntKind.i64.wrap ((j : Int) + 1) = (j : Int) + 1 := by have := unhide jH; rw [IntKind.wrap_i64]; omega
        by_cases hk1 : ok = 1
        · subst hk1
          have hc := hide (kx_act (unhide hb2) 1 oa ob oc os ot (by decide) (unhide hfa))
          go_upto_region 10 with fail
          rename_i hK KI hKI
          have hKH := hide hK
          clear hK
          go_wp2_with fail
          refine (unhide hc).mono ?_
          clear hc
          rintro e w3 ⟨rfl, hkd⟩
          have KDH := hide hkd
          clear hkd hb2
          clear o0 o1 o2 o3 o4 o5 k0 k1 k2 k3 k4 k5
          clear hB
          go_wp2_with fail
          refine unhide hKH _ _ ?_
          refine tail8_kd w _ x g false qu (unhide KDH) _ _ _ _ _ _ _ _ _ _ _ _ _ _ _ _ _ _ _ _ _ _ _ _ _ _ _ _ _ _ _ _ _ _ _ _ _ _ _ _ _ _ _ _ _ _ _ _ _ _ _ _ _ _ _ _ _ _ _ _ _ _ _ _ _ _ _ _ _ _ _ _ _ _ _ _ _ _ _ _ _ _ _ _ _ _ _ _ _ _ _ ?_
          refine hide ?_
          intro y70 y71 y72 y73 y74 y75 y76 y77 y78 y79 y80 y81 y82 y83 y84 y85 y86 y87 y88 y89 y90 y91 y92 y93 wx qx
          have Kx := hide ((unhide KDH).kx qx)
          clear qx KDH hKH
          go_wp2
          go_roundw
          case rel => exact ⟨j + 1, (unhide jH).1, by go_num, unhide Kx⟩
          case measure =>
            obtain ⟨h1, h2⟩ := unhide jH
            simp [intOf]; omega
        by_cases hk2 : ok = 2
        · subst hk2
          have hc := hide (kx_act (unhide hb2) 2 oa ob oc os ot (by decide) (unhide hfa))
          go_upto_region 10 with fail
          rename_i hK KI hKI
          have hKH := hide hK
          clear hK
          go_wp2_with fail
          refine (unhide hc).mono ?_
          clear hc
          rintro e w3 ⟨rfl, hkd⟩
          have KDH := hide hkd
          clear hkd hb2
          clear o0 o1 o2 o3 o4 o5 k0 k1 k2 k3 k4 k5
          clear hB
          go_wp2_with fail
          refine unhide hKH _ _ ?_
          refine tail8_kd w _ x g false qu (unhide KDH) _ _ _ _ _ _ _ _ _ _ _ _ _ _ _ _ _ _ _ _ _ _ _ _ _ _ _ _ _ _ _ _ _ _ _ _ _ _ _ _ _ _ _ _ _ _ _ _ _ _ _ _ _ _ _ _ _ _ _ _ _ _ _ _ _ _ _ _ _ _ _ _ _ _ _ _ _ _ _ _ _ _ _ _ _ _ _ _ _ _ _ ?_
          refine hide ?_
          intro y70 y71 y72 y73 y74 y75 y76 y77 y78 y79 y80 y81 y82 y83 y84 y85 y86 y87 y88 y89 y90 y91 y92 y93 wx qx
          have Kx := hide ((unhide KDH).kx qx)
          clear qx KDH hKH
          go_wp2
          go_roundw
          case rel => exact ⟨j + 1, (unhide jH).1, by go_num, unhide Kx⟩
          case measure =>
            obtain ⟨h1, h2⟩ := unhide jH
            simp [intOf]; omega
        by_cases hk3 : ok = 3
        · subst hk3
          have hc := hide (kx_act (unhide hb2) 3 oa ob oc os ot (by decide) (unhide hfa))
          go_upto_region 10 with fail
          rename_i hK KI hKI
          have hKH := hide hK
          clear hK
          go_wp2_with fail
          refine (unhide hc).mono ?_
          clear hc
          rintro e w3 ⟨rfl, hkd⟩
          have KDH := hide hkd
          clear hkd hb2
          clear o0 o1 o2 o3 o4 o5 k0 k1 k2 k3 k4 k5
          clear hB
          go_wp2_with fail
          refine unhide hKH _ _ ?_
          refine tail8_kd w _ x g false qu (unhide KDH) _ _ _ _ _ _ _ _ _ _ _ _ _ _ _ _ _ _ _ _ _ _ _ _ _ _ _ _ _ _ _ _ _ _ _ _ _ _ _ _ _ _ _ _ _ _ _ _ _ _ _ _ _ _ _ _ _ _ _ _ _ _ _ _ _ _ _ _ _ _ _ _ _ _ _ _ _ _ _ _ _ _ _ _ _ _ _ _ _ _ _ ?_
          refine hide ?_
          intro y70 y71 y72 y73 y74 y75 y76 y77 y78 y79 y80 y81 y82 y83 y84 y85 y86 y87 y88 y89 y90 y91 y92 y93 wx qx
          have Kx := hide ((unhide KDH).kx qx)
          clear qx KDH hKH
          go_wp2
          go_roundw
          case rel => exact ⟨j + 1, (unhide jH).1, by go_num, unhide Kx⟩
          case measure =>
            obtain ⟨h1, h2⟩ := unhide jH
            simp [intOf]; omega
        by_cases hk4 : ok = 4
        · subst hk4
          have hc := hide (kx_act (unhide hb2) 4 oa ob oc os ot (by decide) (unhide hfa))
          go_upto_region 10 with fail
          rename_i hK KI hKI
          have hKH := hide hK
          clear hK
          go_wp2_with fail
          refine (unhide hc).mono ?_
          clear hc
          rintro e w3 ⟨rfl, hkd⟩
          have KDH := hide hkd
          clear hkd hb2
          clear o0 o1 o2 o3 o4 o5 k0 k1 k2 k3 k4 k5
          clear hB
          go_wp2_with fail
          refine unhide hKH _ _ ?_
          refine tail8_kd w _ x g false qu (unhide KDH) _ _ _ _ _ _ _ _ _ _ _ _ _ _ _ _ _ _ _ _ _ _ _ _ _ _ _ _ _ _ _ _ _ _ _ _ _ _ _ _ _ _ _ _ _ _ _ _ _ _ _ _ _ _ _ _ _ _ _ _ _ _ _ _ _ _ _ _ _ _ _ _ _ _ _ _ _ _ _ _ _ _ _ _ _ _ _ _ _ _ _ ?_
          refine hide ?_
          intro y70 y71 y72 y73 y74 y75 y76 y77 y78 y79 y80 y81 y82 y83 y84 y85 y86 y87 y88 y89 y90 y91 y92 y93 wx qx
          have Kx := hide ((unhide KDH).kx qx)
          clear qx KDH hKH
          go_wp2
          go_roundw
          case rel => exact ⟨j + 1, (unhide jH).1, by go_num, unhide Kx⟩
          case measure =>
            obtain ⟨h1, h2⟩ := unhide jH
            simp [intOf]; omega
        by_cases hk10 : ok = 10
        · subst hk10
          have hc := hide (kx_deliver (unhide hb2) oa)
          go_upto_region 10 with fail
          rename_i hK KI hKI
          have hKH := hide hK
          clear hK
          go_wp2_with fail
          refine (unhide hc).mono ?_
          clear hc
          rintro e w3 ⟨rfl, hkd⟩
          have KDH := hide hkd
          clear hkd hb2
          clear o0 o1 o2 o3 o4 o5 k0 k1 k2 k3 k4 k5
          clear hB
          go_wp2_with fail
          refine unhide hKH _ _ ?_
          refine tail8_kd w _ x g false qu (unhide KDH) _ _ _ _ _ _ _ _ _ _ _ _ _ _ _ _ _ _ _ _ _ _ _ _ _ _ _ _ _ _ _ _ _ _ _ _ _ _ _ _ _ _ _ _ _ _ _ _ _ _ _ _ _ _ _ _ _ _ _ _ _ _ _ _ _ _ _ _ _ _ _ _ _ _ _ _ _ _ _ _ _ _ _ _ _ _ _ _ _ _ _ ?_
          refine hide ?_
          intro y70 y71 y72 y73 y74 y75 y76 y77 y78 y79 y80 y81 y82 y83 y84 y85 y86 y87 y88 y89 y90 y91 y92 y93 wx qx
          have Kx := hide ((unhide KDH).kx qx)
          clear qx KDH hKH
          go_wp2
          go_roundw
          case rel => exact ⟨j + 1, (unhide jH).1, by go_num, unhide Kx⟩
          case measure =>
            obtain ⟨h1, h2⟩ := unhide jH
            simp [intOf]; omega
        by_cases hk11 : ok = 11
        · subst hk11
          have hsp := unhide hb2
          obtain ⟨a', b', mode, ns, ord, G, O, S⟩ := hsp
          have c7 : (wr.alloc (.cells #[.int .i64 11, .int .i64 oa, .int .i64 ob, .int .i64 oc, .string os, .string ot] 40)).cell? ⟨g, 7, none⟩ = some (.int .i64 mode) := by
            obtain ⟨vi, vw, H, _⟩ := S.gh
            have := H.blk.cell 7
            rw [← S.law.mo]
            simpa [gC] using this
          have hgl : g < wr.heap.size + 1 := by
            obtain ⟨vi, vw, H, _⟩ := S.gh
            have := H.blk.lt
            simpa using this
          by_cases hm : mode = -1
          · subst hm
            have hSx := hide S
            clear S
            have KDH := hide (unhide hb2).kd
            clear hb2
            go_upto_region 10 with fail
            rename_i hK KI hKI
            have hKH := hide hK
            clear hK
            go_wp2_with fail
            clear o0 o1 o2 o3 o4 o5 k0 k1 k2 k3 k4 k5
            clear hB
            refine unhide hKH _ _ ?_
            refine tail8_kd w _ x g false qu (unhide KDH) _ _ _ _ _ _ _ _ _ _ _ _ _ _ _ _ _ _ _ _ _ _ _ _ _ _ _ _ _ _ _ _ _ _ _ _ _ _ _ _ _ _ _ _ _ _ _ _ _ _ _ _ _ _ _ _ _ _ _ _ _ _ _ _ _ _ _ _ _ _ _ _ _ _ _ _ _ _ _ _ _ _ _ _ _ _ _ _ _ _ _ ?_
            refine hide ?_
            intro y70 y71 y72 y73 y74 y75 y76 y77 y78 y79 y80 y81 y82 y83 y84 y85 y86 y87 y88 y89 y90 y91 y92 y93 wx qx
            have Kx := hide ((unhide KDH).kx qx)
            clear qx KDH hKH
            go_wp2
            go_roundw
            case rel => exact ⟨j + 1, (unhide jH).1, by go_num, unhide Kx⟩
            case measure =>
              obtain ⟨h1, h2⟩ := unhide jH
              simp [intOf]; omega
          · have m1 : (mode == -1) = false := by simpa using hm
            have m2 : (mode != -1) = true := by rw [bne, m1]; rfl
            have hc := hide (ks_settle S hm)
            clear S hm
            go_upto_region 10 with fail
            rename_i hK KI hKI
            have hKH := hide hK
            clear hK
            go_wp2_with fail
            refine (unhide hc).mono ?_
            clear hc
            rintro e w3 ⟨rfl, hkd⟩
            have KDH := hide hkd
            clear hkd hb2 c7
            clear o0 o1 o2 o3 o4 o5 k0 k1 k2 k3 k4 k5
            clear hB
            go_wp2_with fail
            refine unhide hKH _ _ ?_
            refine tail8_kd w _ x g true qu (unhide KDH) _ _ _ _ _ _ _ _ _ _ _ _ _ _ _ _ _ _ _ _ _ _ _ _ _ _ _ _ _ _ _ _ _ _ _ _ _ _ _ _ _ _ _ _ _ _ _ _ _ _ _ _ _ _ _ _ _ _ _ _ _ _ _ _ _ _ _ _ _ _ _ _ _ _ _ _ _ _ _ _ _ _ _ _ _ _ _ _ _ _ _ ?_
            refine hide ?_
            intro y70 y71 y72 y73 y74 y75 y76 y77 y78 y79 y80 y81 y82 y83 y84 y85 y86 y87 y88 y89 y90 y91 y92 y93 wx qx
            have Kx := hide ((unhide KDH).kx qx)
            clear qx KDH hKH
            go_wp2
            go_roundw
            case rel => exact ⟨j + 1, (unhide jH).1, by go_num, unhide Kx⟩
            case measure =>
              obtain ⟨h1, h2⟩ := unhide jH
              simp [intOf]; omega
        by_cases hk12 : ok = 12
        · subst hk12
          have hc := hide (kx_worst (unhide hb2) oa (unhide hfa))
          go_upto_region 10 with fail
          rename_i hK KI hKI
          have hKH := hide hK
          clear hK
          go_wp2_with fail
          refine (unhide hc).mono ?_
          clear hc
          rintro e w3 ⟨rfl, hkd⟩
          have KDH := hide hkd
          clear hkd hb2
          clear o0 o1 o2 o3 o4 o5 k0 k1 k2 k3 k4 k5
          clear hB
          go_wp2_with fail
          refine unhide hKH _ _ ?_
          refine tail8_kd w _ x g false qu (unhide KDH) _ _ _ _ _ _ _ _ _ _ _ _ _ _ _ _ _ _ _ _ _ _ _ _ _ _ _ _ _ _ _ _ _ _ _ _ _ _ _ _ _ _ _ _ _ _ _ _ _ _ _ _ _ _ _ _ _ _ _ _ _ _ _ _ _ _ _ _ _ _ _ _ _ _ _ _ _ _ _ _ _ _ _ _ _ _ _ _ _ _ _ ?_
          refine hide ?_
          intro y70 y71 y72 y73 y74 y75 y76 y77 y78 y79 y80 y81 y82 y83 y84 y85 y86 y87 y88 y89 y90 y91 y92 y93 wx qx
          have Kx := hide ((unhide KDH).kx qx)
          clear qx KDH hKH
          go_wp2
          go_roundw
          case rel => exact ⟨j + 1, (unhide jH).1, by go_num, unhide Kx⟩
          case measure =>
            obtain ⟨h1, h2⟩ := unhide jH
            simp [intOf]; omega
        · have n1 : (ok == 1) = false := by simpa using hk1
          have n2 : (ok == 2) = false := by simpa using hk2
          have n3 : (ok == 3) = false := by simpa using hk3
          have n4 : (ok == 4) = false := by simpa using hk4
          have n10 : (ok == 10) = false := by simpa using hk10
          have n11 : (ok == 11) = false := by simpa using hk11
          have n12 : (ok == 12) = false := by simpa using hk12
          clear hk1 hk2 hk3 hk4 hk10 hk11 hk12
          have KDH := hide (unhide hb2).kd
          clear hb2
          go_upto_region 10 with fail
          rename_i hK KI hKI
          have hKH := hide hK
          clear hK
          go_wp2_with fail
          clear o0 o1 o2 o3 o4 o5 k0 k1 k2 k3 k4 k5
          clear hB
          refine unhide hKH _ _ ?_
          refine tail8_kd w _ x g false qu (unhide KDH) _ _ _ _ _ _ _ _ _ _ _ _ _ _ _ _ _ _ _ _ _ _ _ _ _ _ _ _ _ _ _ _ _ _ _ _ _ _ _ _ _ _ _ _ _ _ _ _ _ _ _ _ _ _ _ _ _ _ _ _ _ _ _ _ _ _ _ _ _ _ _ _ _ _ _ _ _ _ _ _ _ _ _ _ _ _ _ _ _ _ _ ?_
          refine hide ?_
          intro y70 y71 y72 y73 y74 y75 y76 y77 y78 y79 y80 y81 y82 y83 y84 y85 y86 y87 y88 y89 y90 y91 y92 y93 wx qx
          have Kx := hide ((unhide KDH).kx qx)
          clear qx KDH hKH
          go_wp2
          go_roundw
          case rel => exact ⟨j + 1, (unhide jH).1, by go_num, unhide Kx⟩
          case measure =>
            obtain ⟨h1, h2⟩ := unhide jH
            simp [intOf]; omega
      · have g1 : decide (j < len) = true := by simpa using hlt
        have g2 : ¬ (j : Int) < 4398046511104 := hmax
        have g3 : ¬ (len : Int) < 4398046511104 := by omega
        clear hb hmax
        go_wp2
        go_ret
        exact ⟨rfl, unhide hbelH⟩
    · have g1 : decide (j < len) = false := by simpa using hlt
      have g2 : ¬ (j : Int) < (len : Int) := by omega
      clear hb
      by_cases g3 : (len : Int) < 4398046511104
      · go_wp2
        go_ret
        exact ⟨rfl, unhide hbelH⟩
      · go_wp2
        go_ret
        exact ⟨rfl, unhide hbelH⟩

theorem keeps_any (w : World) (a : Option Addr) (len cap : Nat) (ops : List Opr) (ho : IsOps w a len cap ops) :
    Calls Try.prog 3 #[.slice a len cap] w fun e w' => e = .returned (.bool true) ∧ Below w.heap.size w w' := by
  go_enter Try.func3, Try.ntmps3
  go_wp2_with fail
  refine (keep_any w a len cap ops false ho).mono ?_
  rintro e w1 ⟨rfl, bel⟩
  go_wp2
  go_ret
  exact ⟨rfl, bel⟩
theorem keepsQuiet_any (w : World) (a : Option Addr) (len cap : Nat) (ops : List Opr) (ho : IsOps w a len cap ops) :
    Calls Try.prog 4 #[.slice a len cap] w fun e w' => e = .returned (.bool true) ∧ Below w.heap.size w w' := by
  go_enter Try.func4, Try.ntmps4
  go_wp2_with fail
  refine (keep_any w a len cap ops true ho).mono ?_
  rintro e w1 ⟨rfl, bel⟩
  go_wp2
  go_ret
  exact ⟨rfl, bel⟩
end Go.Proofs.Qxb6500369a
