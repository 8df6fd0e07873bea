/-
  THE ROUND OF Keeps BEHIND THE CASES: settle .. the round's end. (gen63tail2.py)
-/
import Derived.Test.Qxb6500363aKMove
import Derived.BigQuiet
import Derived.Deep.CutBlock
import Derived.Deep.CutRange
namespace Go.Proofs.Qxb6500363a
open Go.RowKit Go.Qx
set_option linter.unusedVariables false
set_option linter.unusedSimpArgs false


set_option maxHeartbeats 40000000 in
set_option maxRecDepth 100000 in
theorem tail_any (w wc : World) (r gb gn gc bo ba j S : Nat) (k : Int) (xs : List Int) (k' : Int) (xs' : List Int) (kk2 v2 aE ok oa ob oc : Int) (os ot S0 : ByteArray) (bv2 : Bool)
    (hnx : Hid (Ok k' xs')) (hokH : Hid (Ok k xs)) (hJH : Hid (Jv k xs S)) (hSH : Hid (S ≤ 100)) (fitH : Hid (In64 oa ∧ In64 ob)) (hS0H : Hid (str (showP k xs) = S0)) (st4H : Hid (Cs2 k xs k' xs' kk2 v2 ob oa os))
    (hb9H : Hid (KB w wc r gb gn gc k' xs' xs)) (bo9H : Hid (Blk wc bo 34 [.int .i64 ok, .int .i64 oa, .int .i64 ob, .int .i64 oc, .string os, .string ot]))
    (u0 u2 u19 u20 u21 u22 u23 u24 u25 u26 u27 u28 u29 u30 u31 u32 u33 u34 u35 u36 u37 u38 u39 u40 u41 u42 u43 u44 u45 u46 u47 u48 u49 u50 u51 u52 u53 u54 u55 u56 u57 u58 u59 u60 u61 u62 u63 u64 u65 u66 u67 u68 u69 u70 u71 u72 u73 u74 u75 u76 u77 u78 u79 u80 u81 u82 u83 u84 u85 u86 u87 u88 u89 u90 u91 u92 u93 u94 u95 u96 u97 u98 u99 u100 u101 u102 u103 u104 u105 u106 u107 u108 u109 u110 u111 u112 u113 u114 u115 u116 u117 u118 u119 u120 u121 u122 u123 u124 u125 u126 u127 u128 u129 u130 u131 u132 u133 u134 u135 u136 u137 u138 u139 u140 u141 u142 u143 u144 u145 u146 u147 u148 u149 u150 u151 u152 u153 u154 u155 u156 u157 u158 u159 u160 u161 u162 u163 u164 u165 u166 u167 u168 u169 u170 u171 u172 u173 u174 u175 u176 u177 u178 u179 u180 u181 u182 u183 u184 u185 u186 u187 u188 u189 u190 u191 u192 u193 u194 u195 u196 u197 u198 u199 u200 u201 u202 u203 u204 u205 u206 u207 u208 u209 u210 u211 u212 u213 u214 u215 u216 u217 u218 u219 u220 u221 u222 u223 u224 u225 u226 u227 u228 u229 u230 u231 u232 u233 u234 u235 u236 u237 u238 u239 u240 u241 u242 u243 u244 u245 u246 u247 u248 u249 u250 u251 u252 u253 u254 u255 u256 : Value) (Q : Exit → Act → World → Prop)
    (hQ : ∀ (g2 m2 d2 S' : Nat) (wx : World) (y19 y20 y21 y22 y23 y24 y25 y26 y27 y28 y50 y51 y52 y53 y54 y55 y56 y57 y58 y59 y60 y61 y62 y63 y64 y65 y66 y67 y68 y69 y70 y71 y72 y73 y74 y75 y76 y77 y78 y79 y80 y81 y82 y83 y84 y85 y86 y87 y88 y89 y90 y91 y92 y93 y94 y95 y96 y97 y98 y99 y100 y101 y102 y103 y104 y105 y106 y107 y108 y109 y110 y111 y112 y113 y114 y115 y116 y117 y118 y119 y120 y121 y122 y123 y124 y125 y126 y127 y128 y129 y130 y131 y132 y133 y134 y135 y136 y137 y138 y139 y140 y141 y142 y143 y144 y145 y146 y147 y148 y149 y150 y151 y152 y153 y154 y155 y156 y157 y158 y159 y160 y161 y162 y163 y164 y165 y166 y167 y168 y169 y170 y171 y172 y173 y174 y175 y176 y177 y178 y179 y180 y181 y182 y183 y184 y185 y186 y187 y188 y189 y190 y191 y192 y193 y194 y195 y196 y197 y198 y199 y200 y201 y202 y203 y204 y205 y206 y207 y208 y209 y210 y211 y212 y213 y214 y215 y216 y217 y218 y219 y220 y221 y222 y223 y224 y225 y226 y227 y228 y229 y230 y231 y232 y233 y234 y235 y236 y237 y238 y239 y240 y241 y242 y243 y244 y245 y246 y247 y248 y249 y250 y251 y252 y253 y254 y255 y256 : Value), Jv k' xs' S' → S' ≤ 100 → KB w wx r g2 m2 d2 k' xs' xs' → Q .normal ⟨(u0 :: (undef : Value) :: u2 :: Value.pointer (some ⟨r, 0, none⟩) :: Value.int .i64 xs'.length :: Value.int .i64 S' :: Value.slice (some ⟨g2, 0, none⟩) m2 d2 :: Value.int .i64 k' :: Value.int .i64 (mk (hots xs')) :: Value.int .i64 (cnt (hots xs')) :: Value.int .i64 (wsum xs'.length (hots xs') 0) :: Value.bool true :: Value.int .i64 j :: Value.pointer (some ⟨bo, 0, none⟩) :: Value.string S0 :: Value.pointer (some ⟨ba, 0, none⟩) :: Value.int .i64 aE :: Value.int .i64 kk2 :: Value.int .i64 v2 :: y19 :: y20 :: y21 :: y22 :: y23 :: y24 :: y25 :: y26 :: y27 :: y28 :: u29 :: u30 :: u31 :: u32 :: u33 :: u34 :: u35 :: u36 :: u37 :: u38 :: u39 :: u40 :: u41 :: u42 :: u43 :: u44 :: u45 :: u46 :: u47 :: u48 :: u49 :: y50 :: y51 :: y52 :: y53 :: y54 :: y55 :: y56 :: y57 :: y58 :: y59 :: y60 :: y61 :: y62 :: y63 :: y64 :: y65 :: y66 :: y67 :: y68 :: y69 :: y70 :: y71 :: y72 :: y73 :: y74 :: y75 :: y76 :: y77 :: y78 :: y79 :: y80 :: y81 :: y82 :: y83 :: y84 :: y85 :: y86 :: y87 :: y88 :: y89 :: y90 :: y91 :: y92 :: y93 :: y94 :: y95 :: y96 :: y97 :: y98 :: y99 :: y100 :: y101 :: y102 :: y103 :: y104 :: y105 :: y106 :: y107 :: y108 :: y109 :: y110 :: y111 :: y112 :: y113 :: y114 :: y115 :: y116 :: y117 :: y118 :: y119 :: y120 :: y121 :: y122 :: y123 :: y124 :: y125 :: y126 :: y127 :: y128 :: y129 :: y130 :: y131 :: y132 :: y133 :: y134 :: y135 :: y136 :: y137 :: y138 :: y139 :: y140 :: y141 :: y142 :: y143 :: y144 :: y145 :: y146 :: y147 :: y148 :: y149 :: y150 :: y151 :: y152 :: y153 :: y154 :: y155 :: y156 :: y157 :: y158 :: y159 :: y160 :: y161 :: y162 :: y163 :: y164 :: y165 :: y166 :: y167 :: y168 :: y169 :: y170 :: y171 :: y172 :: y173 :: y174 :: y175 :: y176 :: y177 :: y178 :: y179 :: y180 :: y181 :: y182 :: y183 :: y184 :: y185 :: y186 :: y187 :: y188 :: y189 :: y190 :: y191 :: y192 :: y193 :: y194 :: y195 :: y196 :: y197 :: y198 :: y199 :: y200 :: y201 :: y202 :: y203 :: y204 :: y205 :: y206 :: y207 :: y208 :: y209 :: y210 :: y211 :: y212 :: y213 :: y214 :: y215 :: y216 :: y217 :: y218 :: y219 :: y220 :: y221 :: y222 :: y223 :: y224 :: y225 :: y226 :: y227 :: y228 :: y229 :: y230 :: y231 :: y232 :: y233 :: y234 :: y235 :: y236 :: y237 :: y238 :: y239 :: y240 :: y241 :: y242 :: y243 :: y244 :: y245 :: y246 :: y247 :: y248 :: y249 :: y250 :: y251 :: y252 :: y253 :: y254 :: y255 :: y256 :: ([] : List Value)).toArray, []⟩ wx) :
    Code.wp Try.prog tail6 Q ⟨(u0 :: (undef : Value) :: u2 :: Value.pointer (some ⟨r, 0, none⟩) :: Value.int .i64 xs'.length :: Value.int .i64 S :: Value.slice (some ⟨gb, 0, none⟩) gn gc :: Value.int .i64 k :: Value.int .i64 (mk (hots xs)) :: Value.int .i64 (cnt (hots xs)) :: Value.int .i64 (wsum xs.length (hots xs) 0) :: Value.bool bv2 :: Value.int .i64 j :: Value.pointer (some ⟨bo, 0, none⟩) :: Value.string S0 :: Value.pointer (some ⟨ba, 0, none⟩) :: Value.int .i64 aE :: Value.int .i64 kk2 :: Value.int .i64 v2 :: u19 :: u20 :: u21 :: u22 :: u23 :: u24 :: u25 :: u26 :: u27 :: u28 :: u29 :: u30 :: u31 :: u32 :: u33 :: u34 :: u35 :: u36 :: u37 :: u38 :: u39 :: u40 :: u41 :: u42 :: u43 :: u44 :: u45 :: u46 :: u47 :: u48 :: u49 :: u50 :: u51 :: u52 :: u53 :: u54 :: u55 :: u56 :: u57 :: u58 :: u59 :: u60 :: u61 :: u62 :: u63 :: u64 :: u65 :: u66 :: u67 :: u68 :: u69 :: u70 :: u71 :: u72 :: u73 :: u74 :: u75 :: u76 :: u77 :: u78 :: u79 :: u80 :: u81 :: u82 :: u83 :: u84 :: u85 :: u86 :: u87 :: u88 :: u89 :: u90 :: u91 :: u92 :: u93 :: u94 :: u95 :: u96 :: u97 :: u98 :: u99 :: u100 :: u101 :: u102 :: u103 :: u104 :: u105 :: u106 :: u107 :: u108 :: u109 :: u110 :: u111 :: u112 :: u113 :: u114 :: u115 :: u116 :: u117 :: u118 :: u119 :: u120 :: u121 :: u122 :: u123 :: u124 :: u125 :: u126 :: u127 :: u128 :: u129 :: u130 :: u131 :: u132 :: u133 :: u134 :: u135 :: u136 :: u137 :: u138 :: u139 :: u140 :: u141 :: u142 :: u143 :: u144 :: u145 :: u146 :: u147 :: u148 :: u149 :: u150 :: u151 :: u152 :: u153 :: u154 :: u155 :: u156 :: u157 :: u158 :: u159 :: u160 :: u161 :: u162 :: u163 :: u164 :: u165 :: u166 :: u167 :: u168 :: u169 :: u170 :: u171 :: u172 :: u173 :: u174 :: u175 :: u176 :: u177 :: u178 :: u179 :: u180 :: u181 :: u182 :: u183 :: u184 :: u185 :: u186 :: u187 :: u188 :: u189 :: u190 :: u191 :: u192 :: u193 :: u194 :: u195 :: u196 :: u197 :: u198 :: u199 :: u200 :: u201 :: u202 :: u203 :: u204 :: u205 :: u206 :: u207 :: u208 :: u209 :: u210 :: u211 :: u212 :: u213 :: u214 :: u215 :: u216 :: u217 :: u218 :: u219 :: u220 :: u221 :: u222 :: u223 :: u224 :: u225 :: u226 :: u227 :: u228 :: u229 :: u230 :: u231 :: u232 :: u233 :: u234 :: u235 :: u236 :: u237 :: u238 :: u239 :: u240 :: u241 :: u242 :: u243 :: u244 :: u245 :: u246 :: u247 :: u248 :: u249 :: u250 :: u251 :: u252 :: u253 :: u254 :: u255 :: u256 :: ([] : List Value)).toArray, []⟩ wc := by
  conv => arg 2; whnf
  have hb9 := unhide hb9H
  have hokN := unhide hnx
  have n2 := hokN.n2
  have n6 := hokN.n6
  have c18 := hide (settle_any wc (xs'.length) n6 n2)
  have c10 := hide (kb_mask hb9 hokN)
  have c11 := hide (sums_any wc (hots (xs')) (by rw [hots_length]; exact n2) (by rw [hots_length]; exact n6))
  have c12 := hide (kb_state hb9 hokN)
  have lmH := hide (lim_small (xs'.length) n6 n2)
  have doneH : Hid (∀ S' : Nat, Jv (k') (xs') S' → 3 * (xs'.length) * (xs'.length - 1) / 2 ≤ S' → cnt (hots (xs')) = 1) := fun S' hj hs => hj.done hokN (by exact hs)
  rw [hots_length] at c11
  clear hb9 n2 n6 hokN
  obtain ⟨lm, hlm⟩ : ∃ m, 3 * (xs'.length) * (xs'.length - 1) / 2 = m := ⟨_, rfl⟩
  rw [hlm] at c18 lmH doneH
  clear hlm
  obtain ⟨LM, hLM⟩ : ∃ z : Int, (lm : Int) = z := ⟨_, rfl⟩
  rw [hLM] at c18
  have hLMH := hide hLM
  clear hLM
  obtain ⟨M', hM⟩ : ∃ m, mk (hots (xs')) = m := ⟨_, rfl⟩
  obtain ⟨T', hT⟩ : ∃ m, cnt (hots (xs')) = m := ⟨_, rfl⟩
  obtain ⟨P', hP⟩ : ∃ m, wsum (xs'.length) (hots (xs')) 0 = m := ⟨_, rfl⟩
  obtain ⟨S1, hS1⟩ : ∃ m, str (showP (k') (xs')) = m := ⟨_, rfl⟩
  rw [hM, hT, hP] at hQ
  have hQH := hide hQ
  clear hQ
  rw [hM] at c10 c11
  rw [hT] at c11 c12 doneH
  rw [hP] at c11 c12
  go_wp2_with fail
  refine (unhide c18).mono ?_
  rintro e w10 ⟨rfl, rfl⟩
  clear c18
  go_wp2_with fail
  refine (unhide c10).mono ?_
  rintro e w10 ⟨rfl, rfl⟩
  clear c10
  go_wp2_with fail
  refine (unhide c11).mono ?_
  rintro e w10 ⟨rfl, rfl⟩
  clear c11
  go_wp2_with fail
  refine (unhide c12).mono ?_
  rintro e w10 ⟨rfl, q10⟩
  clear c12
  have hb10 := (unhide hb9H).quiet q10
  have bo10 := Quiet.blk q10 (unhide bo9H)
  clear hb9H bo9H q10
  have ct := turn_of (unhide st4H) (unhide hokH) (unhide fitH).2 ok oc ot w10 gb gn gc hb10.gv
  unfold opv at ct
  replace ct := hide ct
  have hb10H := hide hb10
  have bo10H := hide bo10
  have co0 : w10.cell? ⟨bo, 0, none⟩ = some (.int .i64 ok) := bo10.cell 0
  have co1 : w10.cell? ⟨bo, 1, none⟩ = some (.int .i64 oa) := bo10.cell 1
  have co2 : w10.cell? ⟨bo, 2, none⟩ = some (.int .i64 ob) := bo10.cell 2
  have co3 : w10.cell? ⟨bo, 3, none⟩ = some (.int .i64 oc) := bo10.cell 3
  have co4 : w10.cell? ⟨bo, 4, none⟩ = some (.string os) := bo10.cell 4
  have co5 : w10.cell? ⟨bo, 5, none⟩ = some (.string ot) := bo10.cell 5
  clear hb10 bo10
  go_wp2_with fail
  refine (unhide ct).mono ?_
  intro e w11 tp
  obtain ⟨g2, m2, d2, rfl, ch, hb11⟩ := kb_turned (unhide hb10H) tp
  clear ct hb10H bo10H co0 co1 co2 co3 co4 co5 tp ch
  have c20 := kb_hold hb11 (unhide hnx)
  rw [hM] at c20
  replace c20 := hide c20
  have hb11H := hide hb11
  clear hb11
  go_wp2_with fail
  refine (unhide c20).mono ?_
  rintro e w12 ⟨rfl, q12⟩
  clear c20
  have hb12 := (unhide hb11H).quiet q12
  clear hb11H q12
  have c21 := kb_spelt hb12 (unhide hnx)
  rw [hT, hM, hS1, hP] at c21
  replace c21 := hide c21
  have hb12H := hide hb12
  clear hb12
  go_wp2_with fail
  refine (unhide c21).mono ?_
  rintro e w13 ⟨rfl, q13⟩
  clear c21
  have hb13 := (unhide hb12H).quiet q13
  clear hb12H q13
  have c13 := kb_show hb13 (unhide hnx)
  rw [hS1] at c13
  replace c13 := hide c13
  have hb13H := hide hb13
  clear hb13
  go_wp2_with fail
  refine (unhide c13).mono ?_
  rintro e w14 ⟨rfl, q14⟩
  clear c13
  have hb14 := hide ((unhide hb13H).quiet q14)
  clear hb13H q14
  have hMH := hide hM
  have hTH := hide hT
  have hPH := hide hP
  have hS1H := hide hS1
  clear hM hT hP hS1
  have hbE := hb14
  clear hb14
  go_upto_block 2 with fail
  go_cut [5, 11] from 50 to 256 (fun s o wx => o = .bool true ∧ (∃ S' : Nat, s = .int .i64 S' ∧ Jv k' xs' S' ∧ S' ≤ 100) ∧ KB w wx r g2 m2 d2 k' xs' xs')
  case first =>
    rcases unhide st4H with ⟨⟨h1, h2, h3⟩, hk', hx'⟩ | ⟨hk2, hf, hk', hx'⟩ | ⟨hk2, v, hv0, hv, hk', hx'⟩ | ⟨hk2, v, hv0, hv, hp, hk', hx'⟩
    · clear st4H
      have hf1 : (kk2 == 1) = false := by simpa using h1
      have hf2 : (kk2 == 2) = false := by simpa using h2
      have hf3 : (kk2 == 3) = false := by simpa using h3
      replace hk' := hk'.symm
      replace hx' := hx'.symm
      subst hk' hx'
      have c13 := kb_show (unhide hbE) (unhide hnx)
      rw [unhide hS1H] at c13
      replace c13 := hide c13
      have s01 : S1 = S0 := (unhide hS1H).symm.trans (unhide hS0H)
      clear h1 h2 h3
      go_wp2_with fail
      refine (unhide c13).mono ?_
      rintro e w15 ⟨rfl, q15⟩
      clear c13
      have hbF := hide ((unhide hbE).quiet q15)
      clear hbE q15 hS1H hS0H
      subst s01
      go_wp2_with fail
      go_meet
      exact ⟨rfl, ⟨S, rfl, unhide hJH, unhide hSH⟩, unhide hbF⟩
    · clear st4H
      subst hk2
      have hJ0 := hide (Jv.start (unhide hnx))
      go_wp2_with fail
      go_meet
      exact ⟨rfl, ⟨0, rfl, unhide hJ0, by omega⟩, unhide hbE⟩
    · clear st4H
      subst hk2 hv0
      have hvH := hide hv
      replace hk' := hk'.symm
      subst hk'
      have n2 := (unhide hokH).n2
      have n6 := (unhide hokH).n6
      have i0 : (0 : Int) ≤ (v : Int) := by omega
      have i1 : (v : Int) < (xs.length : Int) := by omega
      have i6 : (v : Int) < 6 := by omega
      have owv := one_wrap v (by omega)
      obtain ⟨X, may, e2, e3, e1⟩ := may_facts xs v (normP ob k) n2 n6 hv
      have vw : IntKind.i64.wrap ((v : Int) + 1) = (v : Int) + 1 := by rw [IntKind.wrap_i64]; omega
      have hxl : xs'.length = xs.length := by rw [hx', List.length_set]
      have hxlH := hide hxl
      clear hxl
      rw [← hx', unhide hMH] at e2
      have hJ0 := hide (Jv.start (unhide hnx))
      clear hx' hv n2 n6
      by_cases hr : v + 1 = xs.length
      · have e0 : nb xs.length v = 0 := by unfold nb; rw [if_pos hr]
        rw [e0] at e1
        have r1 : ((v : Int) + 1 == (xs'.length : Int)) = true := by have hx := unhide hxlH; simp; omega
        have r2 : ((v : Int) + 1 = (xs'.length : Int)) = True := eq_true (by have hx := unhide hxlH; omega)
        have hrH := hide hr
        have e1' : bits BinOp.or IntKind.i64 ((2 : Int) ^ v) 1 = (may : Int) := e1
        clear hr e1
        go_wp2_with fail
        go_meet
        exact ⟨rfl, ⟨0, rfl, unhide hJ0, by omega⟩, unhide hbE⟩
      · have e0 : nb xs.length v = v + 1 := by unfold nb; rw [if_neg hr]
        rw [e0] at e1
        have r1 : ((v : Int) + 1 == (xs'.length : Int)) = false := by have hx := unhide hxlH; rw [beq_eq_false_iff_ne]; omega
        have r2 : ((v : Int) + 1 = (xs'.length : Int)) = False := eq_false (by have hx := unhide hxlH; omega)
        have owr := one_wrap (v + 1) (by omega)
        have tn : ((v : Int) + 1).toNat = v + 1 := by omega
        clear hr
        go_wp2_with fail
        go_meet
        exact ⟨rfl, ⟨0, rfl, unhide hJ0, by omega⟩, unhide hbE⟩
    · clear st4H
      subst hk2 hv0
      replace hk' := hk'.symm
      subst hk'
      go_upto_region 47 with fail
      go_upto_if 164 with fail
      go_step
      refine move_any w14 r v S lm k xs xs' (mk (hots xs)) M' (cnt (hots xs)) T' (wsum xs.length (hots xs) 0) P' LM hokH hv hp hx' hJH hSH lmH hLMH hMH hTH hPH rfl rfl rfl _ _ _ _ _ _ _ _ _ _ _ _ _ _ _ _ _ _ _ _ _ _ _ _ _ _ _ _ _ _ _ _ _ _ _ _ _ _ _ _ _ _ _ _ _ _ _ _ _ _ _ _ _ _ _ _ _ _ _ _ _ _ _ _ _ _ _ _ _ _ _ _ _ _ _ _ _ _ _ _ _ _ _ _ _ _ _ _ _ _ _ _ _ _ _ _ _ _ _ _ _ _ _ _ _ _ _ _ _ _ _ _ _ _ _ _ _ _ _ _ _ _ _ _ _ _ _ _ _ _ _ _ _ _ _ _ _ _ _ _ _ _ _ _ _ _ _ _ _ _ _ _ _ _ _ _ _ _ _ _ _ _ _ _ _ _ _ _ _ _ _ _ _ _ _ _ _ _ _ _ _ _ _ _ _ _ _ _ _ _ _ _ _ _ _ _ _ _ _ _ _ _ _ _ _ _ _ _ _ _ _ _ _ _ _ _ _ _ _ _ _ _ _ _ _ _ _ _ _ _ _ _ _ _ _ _ _ _ _ _ _ _ _ _ _ ?_
      intro S' y26 y27 y28 y50 y51 y52 y53 y54 y55 y56 y57 y58 y59 y60 y61 y62 y63 y64 y65 y66 y67 y68 y69 y70 y71 y72 y73 y74 y75 y76 y77 y78 y79 y80 y81 y82 y83 y84 y85 y86 y87 y88 y89 y90 y91 y92 y93 y94 y95 y96 y97 y98 y99 y100 y101 y102 y103 y104 y105 y106 y107 y108 y109 y110 y111 y112 y113 y114 y115 y116 y117 y118 y119 y120 y121 y122 y123 y124 y125 y126 y127 y128 y129 y130 y131 y132 y133 y134 y135 y136 y137 y138 y139 y140 y141 y142 y143 y144 y145 y146 y147 y148 y149 y150 y151 y152 y153 y154 y155 y156 y157 y158 y159 y160 y161 y162 y163 y164 y165 y166 y167 y168 y169 y170 y171 y172 y173 y174 y175 y176 y177 y178 y179 y180 y181 y182 y183 y184 y185 y186 y187 y188 y189 y190 y191 y192 y193 y194 y195 y196 y197 y198 y199 y200 y201 y202 y203 y204 y205 y206 y207 y208 y209 y210 y211 y212 y213 y214 y215 y216 y217 y218 y219 y220 y221 y222 y223 y224 y225 y226 y227 y228 y229 y230 y231 y232 y233 y234 y235 y236 y237 y238 y239 y240 y241 y242 y243 y244 y245 y246 y247 y248 y249 y250 y251 y252 y253 y254 y255 y256 hJ' hS'
      have hJ1 := hide hJ'
      have hS2' := hide hS'
      clear hJ' hS' hv hp hx'
      go_wp2_with fail
      go_meet
      exact ⟨rfl, ⟨S', rfl, unhide hJ1, unhide hS2'⟩, unhide hbE⟩
  case rest =>
    obtain ⟨rfl, ⟨S', rfl, hJ', hS'⟩, hbC⟩ := hcut
    clear hbE
    have hbC1 := hide hbC
    have hJ1 := hide hJ'
    have hS1' := hide hS'
    have hLM := unhide hLMH
    by_cases hs : lm ≤ S'
    · have t1 : T' = 1 := unhide doneH S' hJ' hs
      have s1 : (LM ≤ (S' : Int)) = True := eq_true (by omega)
      have t3 : (T' = 1) = True := eq_true t1
      have t4 : (T' != 1) = false := by rw [t1]; rfl
      clear hLM hs t1 hbC hJ' hS'
      go_wp2
      exact unhide hQH g2 m2 d2 S' _ _ _ _ _ _ _ _ _ _ _ _ _ _ _ _ _ _ _ _ _ _ _ _ _ _ _ _ _ _ _ _ _ _ _ _ _ _ _ _ _ _ _ _ _ _ _ _ _ _ _ _ _ _ _ _ _ _ _ _ _ _ _ _ _ _ _ _ _ _ _ _ _ _ _ _ _ _ _ _ _ _ _ _ _ _ _ _ _ _ _ _ _ _ _ _ _ _ _ _ _ _ _ _ _ _ _ _ _ _ _ _ _ _ _ _ _ _ _ _ _ _ _ _ _ _ _ _ _ _ _ _ _ _ _ _ _ _ _ _ _ _ _ _ _ _ _ _ _ _ _ _ _ _ _ _ _ _ _ _ _ _ _ _ _ _ _ _ _ _ _ _ _ _ _ _ _ _ _ _ _ _ _ _ _ _ _ _ _ _ _ _ _ _ _ _ _ _ _ _ _ _ _ _ _ _ _ _ _ _ _ _ _ _ _ _ _ _ (unhide hJ1) (unhide hS1') (unhide hbC1)
    · have s1 : (LM ≤ (S' : Int)) = False := eq_false (by omega)
      clear hLM hs hbC hJ' hS'
      go_wp2
      exact unhide hQH g2 m2 d2 S' _ _ _ _ _ _ _ _ _ _ _ _ _ _ _ _ _ _ _ _ _ _ _ _ _ _ _ _ _ _ _ _ _ _ _ _ _ _ _ _ _ _ _ _ _ _ _ _ _ _ _ _ _ _ _ _ _ _ _ _ _ _ _ _ _ _ _ _ _ _ _ _ _ _ _ _ _ _ _ _ _ _ _ _ _ _ _ _ _ _ _ _ _ _ _ _ _ _ _ _ _ _ _ _ _ _ _ _ _ _ _ _ _ _ _ _ _ _ _ _ _ _ _ _ _ _ _ _ _ _ _ _ _ _ _ _ _ _ _ _ _ _ _ _ _ _ _ _ _ _ _ _ _ _ _ _ _ _ _ _ _ _ _ _ _ _ _ _ _ _ _ _ _ _ _ _ _ _ _ _ _ _ _ _ _ _ _ _ _ _ _ _ _ _ _ _ _ _ _ _ _ _ _ _ _ _ _ _ _ _ _ _ _ _ _ _ _ _ (unhide hJ1) (unhide hS1') (unhide hbC1)
end Go.Proofs.Qxb6500363a
