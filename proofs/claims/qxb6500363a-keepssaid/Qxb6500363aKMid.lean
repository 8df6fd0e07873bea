/-
  THE ROUND OF Keeps FROM 'k, v := o.Kind, o.A' ON. (gen63mid.py)
-/
import Derived.Test.Qxb6500363aKTail
namespace Go.Proofs.Qxb6500363a
open Go.RowKit Go.Qx
set_option linter.unusedVariables false
set_option linter.unusedSimpArgs false

noncomputable def mid6 : Code := cSnd (cSnd (cSnd (cSnd (cSnd (cSnd round6)))))

set_option maxHeartbeats 40000000 in
set_option maxRecDepth 100000 in
theorem mid_any (w w8 : World) (r gb gn gc bo ba j S : Nat) (k : Int) (xs : List Int) (k' : Int) (xs' : List Int) (aE aN ok oa ob oc : Int) (aS os ot S0 : ByteArray) (bv : Bool)
    (hnx : Hid (Ok k' xs')) (hokH : Hid (Ok k xs)) (hJH : Hid (Jv k xs S)) (hSH : Hid (S ≤ 100)) (fitH : Hid (In64 oa ∧ In64 ob)) (hS0H : Hid (str (showP k xs) = S0))
    (hAH : Hid (ansP k xs ⟨ok, oa, ob, oc, os, ot⟩ = ⟨aE, aN, aS⟩)) (hNH : Hid (nextP k xs ⟨ok, oa, ob, oc, os, ot⟩ = (k', xs')))
    (hb8H : Hid (KB w w8 r gb gn gc k' xs' xs)) (bo8H : Hid (Blk w8 bo 34 [.int .i64 ok, .int .i64 oa, .int .i64 ob, .int .i64 oc, .string os, .string ot])) (ba8H : Hid (Blk w8 ba 37 [.int .i64 aE, .int .i64 aN, .string aS]))
    (u0 u2 u17 u18 u19 u20 u21 u22 u23 u24 u25 u26 u27 u28 u29 u30 u31 u32 u33 u34 u35 u36 u37 u38 u39 u40 u41 u42 u43 u44 u45 u46 u47 u48 u49 u50 u51 u52 u53 u54 u55 u56 u57 u58 u59 u60 u61 u62 u63 u64 u65 u66 u67 u68 u69 u70 u71 u72 u73 u74 u75 u76 u77 u78 u79 u80 u81 u82 u83 u84 u85 u86 u87 u88 u89 u90 u91 u92 u93 u94 u95 u96 u97 u98 u99 u100 u101 u102 u103 u104 u105 u106 u107 u108 u109 u110 u111 u112 u113 u114 u115 u116 u117 u118 u119 u120 u121 u122 u123 u124 u125 u126 u127 u128 u129 u130 u131 u132 u133 u134 u135 u136 u137 u138 u139 u140 u141 u142 u143 u144 u145 u146 u147 u148 u149 u150 u151 u152 u153 u154 u155 u156 u157 u158 u159 u160 u161 u162 u163 u164 u165 u166 u167 u168 u169 u170 u171 u172 u173 u174 u175 u176 u177 u178 u179 u180 u181 u182 u183 u184 u185 u186 u187 u188 u189 u190 u191 u192 u193 u194 u195 u196 u197 u198 u199 u200 u201 u202 u203 u204 u205 u206 u207 u208 u209 u210 u211 u212 u213 u214 u215 u216 u217 u218 u219 u220 u221 u222 u223 u224 u225 u226 u227 u228 u229 u230 u231 u232 u233 u234 u235 u236 u237 u238 u239 u240 u241 u242 u243 u244 u245 u246 u247 u248 u249 u250 u251 u252 u253 u254 u255 u256 : Value) (Q : Exit → Act → World → Prop)
    (hQ : ∀ (g2 m2 d2 S' : Nat) (wx : World) (y2 y17 y18 y19 y20 y21 y22 y23 y24 y25 y26 y27 y28 y50 y51 y52 y53 y54 y55 y56 y57 y58 y59 y60 y61 y62 y63 y64 y65 y66 y67 y68 y69 y70 y71 y72 y73 y74 y75 y76 y77 y78 y79 y80 y81 y82 y83 y84 y85 y86 y87 y88 y89 y90 y91 y92 y93 y94 y95 y96 y97 y98 y99 y100 y101 y102 y103 y104 y105 y106 y107 y108 y109 y110 y111 y112 y113 y114 y115 y116 y117 y118 y119 y120 y121 y122 y123 y124 y125 y126 y127 y128 y129 y130 y131 y132 y133 y134 y135 y136 y137 y138 y139 y140 y141 y142 y143 y144 y145 y146 y147 y148 y149 y150 y151 y152 y153 y154 y155 y156 y157 y158 y159 y160 y161 y162 y163 y164 y165 y166 y167 y168 y169 y170 y171 y172 y173 y174 y175 y176 y177 y178 y179 y180 y181 y182 y183 y184 y185 y186 y187 y188 y189 y190 y191 y192 y193 y194 y195 y196 y197 y198 y199 y200 y201 y202 y203 y204 y205 y206 y207 y208 y209 y210 y211 y212 y213 y214 y215 y216 y217 y218 y219 y220 y221 y222 y223 y224 y225 y226 y227 y228 y229 y230 y231 y232 y233 y234 y235 y236 y237 y238 y239 y240 y241 y242 y243 y244 y245 y246 y247 y248 y249 y250 y251 y252 y253 y254 y255 y256 : Value), Jv k' xs' S' → S' ≤ 100 → KB w wx r g2 m2 d2 k' xs' xs' → Q .normal ⟨(u0 :: (undef : Value) :: y2 :: Value.pointer (some ⟨r, 0, none⟩) :: Value.int .i64 xs'.length :: Value.int .i64 S' :: Value.slice (some ⟨g2, 0, none⟩) m2 d2 :: Value.int .i64 k' :: Value.int .i64 (mk (hots xs')) :: Value.int .i64 (cnt (hots xs')) :: Value.int .i64 (wsum xs'.length (hots xs') 0) :: Value.bool true :: Value.int .i64 j :: Value.pointer (some ⟨bo, 0, none⟩) :: Value.string S0 :: Value.pointer (some ⟨ba, 0, none⟩) :: Value.int .i64 aE :: y17 :: y18 :: y19 :: y20 :: y21 :: y22 :: y23 :: y24 :: y25 :: y26 :: y27 :: y28 :: u29 :: u30 :: u31 :: u32 :: u33 :: u34 :: u35 :: u36 :: u37 :: u38 :: u39 :: u40 :: u41 :: u42 :: u43 :: u44 :: u45 :: u46 :: u47 :: u48 :: u49 :: y50 :: y51 :: y52 :: y53 :: y54 :: y55 :: y56 :: y57 :: y58 :: y59 :: y60 :: y61 :: y62 :: y63 :: y64 :: y65 :: y66 :: y67 :: y68 :: y69 :: y70 :: y71 :: y72 :: y73 :: y74 :: y75 :: y76 :: y77 :: y78 :: y79 :: y80 :: y81 :: y82 :: y83 :: y84 :: y85 :: y86 :: y87 :: y88 :: y89 :: y90 :: y91 :: y92 :: y93 :: y94 :: y95 :: y96 :: y97 :: y98 :: y99 :: y100 :: y101 :: y102 :: y103 :: y104 :: y105 :: y106 :: y107 :: y108 :: y109 :: y110 :: y111 :: y112 :: y113 :: y114 :: y115 :: y116 :: y117 :: y118 :: y119 :: y120 :: y121 :: y122 :: y123 :: y124 :: y125 :: y126 :: y127 :: y128 :: y129 :: y130 :: y131 :: y132 :: y133 :: y134 :: y135 :: y136 :: y137 :: y138 :: y139 :: y140 :: y141 :: y142 :: y143 :: y144 :: y145 :: y146 :: y147 :: y148 :: y149 :: y150 :: y151 :: y152 :: y153 :: y154 :: y155 :: y156 :: y157 :: y158 :: y159 :: y160 :: y161 :: y162 :: y163 :: y164 :: y165 :: y166 :: y167 :: y168 :: y169 :: y170 :: y171 :: y172 :: y173 :: y174 :: y175 :: y176 :: y177 :: y178 :: y179 :: y180 :: y181 :: y182 :: y183 :: y184 :: y185 :: y186 :: y187 :: y188 :: y189 :: y190 :: y191 :: y192 :: y193 :: y194 :: y195 :: y196 :: y197 :: y198 :: y199 :: y200 :: y201 :: y202 :: y203 :: y204 :: y205 :: y206 :: y207 :: y208 :: y209 :: y210 :: y211 :: y212 :: y213 :: y214 :: y215 :: y216 :: y217 :: y218 :: y219 :: y220 :: y221 :: y222 :: y223 :: y224 :: y225 :: y226 :: y227 :: y228 :: y229 :: y230 :: y231 :: y232 :: y233 :: y234 :: y235 :: y236 :: y237 :: y238 :: y239 :: y240 :: y241 :: y242 :: y243 :: y244 :: y245 :: y246 :: y247 :: y248 :: y249 :: y250 :: y251 :: y252 :: y253 :: y254 :: y255 :: y256 :: ([] : List Value)).toArray, []⟩ wx) :
    Code.wp Try.prog mid6 Q ⟨(u0 :: (undef : Value) :: u2 :: Value.pointer (some ⟨r, 0, none⟩) :: Value.int .i64 xs.length :: Value.int .i64 S :: Value.slice (some ⟨gb, 0, none⟩) gn gc :: Value.int .i64 k :: Value.int .i64 (mk (hots xs)) :: Value.int .i64 (cnt (hots xs)) :: Value.int .i64 (wsum xs.length (hots xs) 0) :: Value.bool bv :: Value.int .i64 j :: Value.pointer (some ⟨bo, 0, none⟩) :: Value.string S0 :: Value.pointer (some ⟨ba, 0, none⟩) :: Value.int .i64 aE :: u17 :: u18 :: u19 :: u20 :: u21 :: u22 :: u23 :: u24 :: u25 :: u26 :: u27 :: u28 :: u29 :: u30 :: u31 :: u32 :: u33 :: u34 :: u35 :: u36 :: u37 :: u38 :: u39 :: u40 :: u41 :: u42 :: u43 :: u44 :: u45 :: u46 :: u47 :: u48 :: u49 :: u50 :: u51 :: u52 :: u53 :: u54 :: u55 :: u56 :: u57 :: u58 :: u59 :: u60 :: u61 :: u62 :: u63 :: u64 :: u65 :: u66 :: u67 :: u68 :: u69 :: u70 :: u71 :: u72 :: u73 :: u74 :: u75 :: u76 :: u77 :: u78 :: u79 :: u80 :: u81 :: u82 :: u83 :: u84 :: u85 :: u86 :: u87 :: u88 :: u89 :: u90 :: u91 :: u92 :: u93 :: u94 :: u95 :: u96 :: u97 :: u98 :: u99 :: u100 :: u101 :: u102 :: u103 :: u104 :: u105 :: u106 :: u107 :: u108 :: u109 :: u110 :: u111 :: u112 :: u113 :: u114 :: u115 :: u116 :: u117 :: u118 :: u119 :: u120 :: u121 :: u122 :: u123 :: u124 :: u125 :: u126 :: u127 :: u128 :: u129 :: u130 :: u131 :: u132 :: u133 :: u134 :: u135 :: u136 :: u137 :: u138 :: u139 :: u140 :: u141 :: u142 :: u143 :: u144 :: u145 :: u146 :: u147 :: u148 :: u149 :: u150 :: u151 :: u152 :: u153 :: u154 :: u155 :: u156 :: u157 :: u158 :: u159 :: u160 :: u161 :: u162 :: u163 :: u164 :: u165 :: u166 :: u167 :: u168 :: u169 :: u170 :: u171 :: u172 :: u173 :: u174 :: u175 :: u176 :: u177 :: u178 :: u179 :: u180 :: u181 :: u182 :: u183 :: u184 :: u185 :: u186 :: u187 :: u188 :: u189 :: u190 :: u191 :: u192 :: u193 :: u194 :: u195 :: u196 :: u197 :: u198 :: u199 :: u200 :: u201 :: u202 :: u203 :: u204 :: u205 :: u206 :: u207 :: u208 :: u209 :: u210 :: u211 :: u212 :: u213 :: u214 :: u215 :: u216 :: u217 :: u218 :: u219 :: u220 :: u221 :: u222 :: u223 :: u224 :: u225 :: u226 :: u227 :: u228 :: u229 :: u230 :: u231 :: u232 :: u233 :: u234 :: u235 :: u236 :: u237 :: u238 :: u239 :: u240 :: u241 :: u242 :: u243 :: u244 :: u245 :: u246 :: u247 :: u248 :: u249 :: u250 :: u251 :: u252 :: u253 :: u254 :: u255 :: u256 :: ([] : List Value)).toArray, []⟩ w8 := by
  conv => arg 2; whnf
  have hQH := hide hQ
  clear hQ
  have co0 : w8.cell? ⟨bo, 0, none⟩ = some (.int .i64 ok) := (unhide bo8H).cell 0
  have co1 : w8.cell? ⟨bo, 1, none⟩ = some (.int .i64 oa) := (unhide bo8H).cell 1
  go_wp2
  go_quiet (fail)
  have q9 := (Chg.refl (fun _ => False) w8).drewN nq
  have hb9 := (unhide hb8H).quiet q9
  have bo9 := Quiet.blk q9 (unhide bo8H)
  have ba9 := Quiet.blk q9 (unhide ba8H)
  generalize w8.drewN nq = w9 at *
  clear q9 hb8H bo8H ba8H co0 co1
  have hb9H := hide hb9
  have bo9H := hide bo9
  have ba9H := hide ba9
  clear hb9 bo9 ba9
  obtain ⟨kk1, hkk1⟩ : ∃ z : Int, z = if aE = 0 then ok else 0 := ⟨_, rfl⟩
  obtain ⟨kk2, hkk2⟩ : ∃ z : Int, z = if kk1 = 4 then 3 else kk1 := ⟨_, rfl⟩
  obtain ⟨v2, hv2⟩ : ∃ z : Int, z = if kk1 = 4 then aN else oa := ⟨_, rfl⟩
  have st := step_turn (unhide hokH) ⟨ok, oa, ob, oc, os, ot⟩ aE aN aS k' xs' (unhide hAH) (unhide hNH) kk1 kk2 v2 hkk1 hkk2 hv2
  obtain ⟨st1, st2, st3, st4⟩ := st
  dsimp only at st1 st2 st3 st4
  have st1H := hide st1
  have st2H := hide st2
  have st3H := hide st3
  have st4H := hide st4
  have hkk1H := hide hkk1
  have hkk2H := hide hkk2
  have hv2H := hide hv2
  clear st1 st2 st3 st4 hkk1 hkk2 hv2 hAH hNH
  go_upto_if 93 with fail
  go_cut [17] from 50 to 256 (fun kv wx => kv = .int .i64 kk1 ∧ wx = w9)
  case first =>
    by_cases h0 : aE = 0
    · have x1 : (aE != 0) = false := by rw [h0]; rfl
      have x2 : (aE = 0) = True := eq_true h0
      have hz := unhide hkk1H
      rw [if_pos h0] at hz
      have hzH := hide hz
      clear h0 hz
      rw [x1]
      go_wp2_with fail
      go_meet
      exact ⟨by rw [unhide hzH], rfl⟩
    · have x1 : (aE != 0) = true := by simpa using h0
      have x2 : (aE = 0) = False := eq_false h0
      have hz := unhide hkk1H
      rw [if_neg h0] at hz
      have hzH := hide hz
      clear h0 hz
      rw [x1]
      go_wp2_with fail
      go_meet
      exact ⟨by rw [unhide hzH], rfl⟩
  case rest =>
    obtain ⟨rfl, hwc⟩ := hcut
    replace hwc := hwc.symm
    subst hwc
    go_upto_if 95 with fail
    go_cut [11, 17, 18] from 50 to 256 (fun o kv vv wx => (∃ b, o = .bool b) ∧ kv = .int .i64 kk2 ∧ vv = .int .i64 v2 ∧ KB w wx r gb gn gc k' xs' xs ∧ Blk wx bo 34 [.int .i64 ok, .int .i64 oa, .int .i64 ob, .int .i64 oc, .string os, .string ot])
    case first =>
      by_cases h4 : kk1 = 4
      · obtain ⟨v, hv0, hv, hp, hc⟩ := unhide st1H h4
        have hz2 := unhide hkk2H
        have hz3 := unhide hv2H
        rw [if_pos h4] at hz2 hz3
        have hz2H := hide hz2
        have hz3H := hide hz3
        clear hz2 hz3
        have y1 : (kk1 == 4) = true := by rw [h4]; rfl
        have y2 : (kk1 = 4) = True := eq_true h4
        have ca1 : w9.cell? ⟨ba, 1, none⟩ = some (.int .i64 aN) := (unhide ba9H).cell 1
        have hvH := hide hv
        have hv0H := hide hv0
        have hpH := hide hp
        have hcH := hide hc
        clear h4 hv hp hc hv0
        rw [y1]
        go_wp2
        go_quiet (fail)
        have qE := (Chg.refl (fun _ => False) w9).drewN nq
        have hbE0 := (unhide hb9H).quiet qE
        have boE := Quiet.blk qE (unhide bo9H)
        obtain ⟨wE, hwE⟩ : ∃ W, w9.drewN nq = W := ⟨_, rfl⟩
        rw [hwE] at hbE0 boE ⊢
        clear qE hb9H bo9H ba9H ca1 hwE
        have hb9H := hide hbE0
        have bo9H := hide boE
        have co1 : wE.cell? ⟨bo, 1, none⟩ = some (.int .i64 oa) := boE.cell 1
        have c17 := kicked_any wE (hots xs) (by rw [hots_length]; exact (unhide hokH).n2) (by rw [hots_length]; exact (unhide hokH).n6) oa (unhide fitH).1 v (by rw [hots_length]; exact unhide hvH) (by rw [hots_getD' _ _ (unhide hvH)]; exact unhide hpH) (P1 xs (unhide hokH).n2) (unhide hcH)
        rw [hots_length, ← unhide hv0H] at c17
        replace c17 := hide c17
        clear hbE0 boE
        go_wp2_with fail
        refine (unhide c17).mono ?_
        rintro e w10 ⟨rfl, hw10⟩
        replace hw10 := hw10.symm
        subst hw10
        clear c17 co1
        go_wp2_with fail
        go_meet
        exact ⟨⟨true, rfl⟩, by rw [unhide hz2H], by rw [unhide hz3H], unhide hb9H, unhide bo9H⟩
      · have hz2 := unhide hkk2H
        have hz3 := unhide hv2H
        rw [if_neg h4] at hz2 hz3
        have y1 : (kk1 == 4) = false := by simpa using h4
        have y2 : (kk1 = 4) = False := eq_false h4
        have hz2H := hide hz2
        have hz3H := hide hz3
        clear h4 hz2 hz3
        rw [y1]
        go_wp2_with fail
        go_meet
        exact ⟨⟨_, rfl⟩, by rw [unhide hz2H], by rw [unhide hz3H], unhide hb9H, unhide bo9H⟩
    case rest =>
      obtain ⟨⟨bv2, rfl⟩, rfl, rfl, hb9, bo9⟩ := hcut
      clear hb9H bo9H ba9H
      have hb9H := hide hb9
      have bo9H := hide bo9
      clear hb9 bo9
      go_upto_if 109 with fail
      go_cut [4] from 50 to 256 (fun nv wx => nv = .int .i64 xs'.length ∧ KB w wx r gb gn gc k' xs' xs ∧ Blk wx bo 34 [.int .i64 ok, .int .i64 oa, .int .i64 ob, .int .i64 oc, .string os, .string ot])
      case first =>
        by_cases h1 : kk2 = 1
        · have y1 : (kk2 == 1) = true := by rw [h1]; rfl
          have y2 : (kk2 = 1) = True := eq_true h1
          have hl := hide (unhide st2H h1)
          have w94 : wc.cell? ⟨bo, 4, none⟩ = some (.string os) := (unhide bo9H).cell 4
          clear h1
          rw [y1]
          go_wp2_with fail
          go_meet
          exact ⟨by rw [unhide hl], unhide hb9H, unhide bo9H⟩
        · have y1 : (kk2 == 1) = false := by simpa using h1
          have y2 : (kk2 = 1) = False := eq_false h1
          have hl := hide (unhide st3H h1)
          clear h1
          rw [y1]
          go_wp2_with fail
          go_meet
          exact ⟨by rw [unhide hl], unhide hb9H, unhide bo9H⟩
      case rest =>
        obtain ⟨rfl, hb9, bo9⟩ := hcut
        clear hb9H bo9H
        have hb9H := hide hb9
        have bo9H := hide bo9
        clear hb9 bo9 st1H st2H st3H hkk1H hkk2H hv2H
        go_step
        refine tail_any w wc r gb gn gc bo ba j S k xs k' xs' kk2 v2 aE ok oa ob oc os ot S0 bv2 hnx hokH hJH hSH fitH hS0H st4H hb9H bo9H _ _ _ _ _ _ _ _ _ _ _ _ _ _ _ _ _ _ _ _ _ _ _ _ _ _ _ _ _ _ _ _ _ _ _ _ _ _ _ _ _ _ _ _ _ _ _ _ _ _ _ _ _ _ _ _ _ _ _ _ _ _ _ _ _ _ _ _ _ _ _ _ _ _ _ _ _ _ _ _ _ _ _ _ _ _ _ _ _ _ _ _ _ _ _ _ _ _ _ _ _ _ _ _ _ _ _ _ _ _ _ _ _ _ _ _ _ _ _ _ _ _ _ _ _ _ _ _ _ _ _ _ _ _ _ _ _ _ _ _ _ _ _ _ _ _ _ _ _ _ _ _ _ _ _ _ _ _ _ _ _ _ _ _ _ _ _ _ _ _ _ _ _ _ _ _ _ _ _ _ _ _ _ _ _ _ _ _ _ _ _ _ _ _ _ _ _ _ _ _ _ _ _ _ _ _ _ _ _ _ _ _ _ _ _ _ _ _ _ _ _ _ _ _ _ _ _ _ _ _ _ _ _ _ _ _ _ _ _ _ _ ?_
        intro g2 m2 d2 S' wx y19 y20 y21 y22 y23 y24 y25 y26 y27 y28 y50 y51 y52 y53 y54 y55 y56 y57 y58 y59 y60 y61 y62 y63 y64 y65 y66 y67 y68 y69 y70 y71 y72 y73 y74 y75 y76 y77 y78 y79 y80 y81 y82 y83 y84 y85 y86 y87 y88 y89 y90 y91 y92 y93 y94 y95 y96 y97 y98 y99 y100 y101 y102 y103 y104 y105 y106 y107 y108 y109 y110 y111 y112 y113 y114 y115 y116 y117 y118 y119 y120 y121 y122 y123 y124 y125 y126 y127 y128 y129 y130 y131 y132 y133 y134 y135 y136 y137 y138 y139 y140 y141 y142 y143 y144 y145 y146 y147 y148 y149 y150 y151 y152 y153 y154 y155 y156 y157 y158 y159 y160 y161 y162 y163 y164 y165 y166 y167 y168 y169 y170 y171 y172 y173 y174 y175 y176 y177 y178 y179 y180 y181 y182 y183 y184 y185 y186 y187 y188 y189 y190 y191 y192 y193 y194 y195 y196 y197 y198 y199 y200 y201 y202 y203 y204 y205 y206 y207 y208 y209 y210 y211 y212 y213 y214 y215 y216 y217 y218 y219 y220 y221 y222 y223 y224 y225 y226 y227 y228 y229 y230 y231 y232 y233 y234 y235 y236 y237 y238 y239 y240 y241 y242 y243 y244 y245 y246 y247 y248 y249 y250 y251 y252 y253 y254 y255 y256 hJ' hS' hbC
        exact unhide hQH g2 m2 d2 S' wx _ _ _ _ _ _ _ _ _ _ _ _ _ _ _ _ _ _ _ _ _ _ _ _ _ _ _ _ _ _ _ _ _ _ _ _ _ _ _ _ _ _ _ _ _ _ _ _ _ _ _ _ _ _ _ _ _ _ _ _ _ _ _ _ _ _ _ _ _ _ _ _ _ _ _ _ _ _ _ _ _ _ _ _ _ _ _ _ _ _ _ _ _ _ _ _ _ _ _ _ _ _ _ _ _ _ _ _ _ _ _ _ _ _ _ _ _ _ _ _ _ _ _ _ _ _ _ _ _ _ _ _ _ _ _ _ _ _ _ _ _ _ _ _ _ _ _ _ _ _ _ _ _ _ _ _ _ _ _ _ _ _ _ _ _ _ _ _ _ _ _ _ _ _ _ _ _ _ _ _ _ _ _ _ _ _ _ _ _ _ _ _ _ _ _ _ _ _ _ _ _ _ _ _ _ _ _ _ _ _ _ _ _ _ _ _ _ _ _ _ hJ' hS' hbC
end Go.Proofs.Qxb6500363a
