/-
  A MOVE IN Keeps' SWITCH. (gen63move.py)
-/
import Derived.Test.Qxb6500363aKCase
import Derived.BigQuiet
import Derived.Deep.CutBlock
import Derived.Deep.CutRange
namespace Go.Proofs.Qxb6500363a
open Go.RowKit Go.Qx
set_option linter.unusedVariables false
set_option linter.unusedSimpArgs false

def cSnd : Code → Code
  | .seq _ b => b
  | c => c
def cFst : Code → Code
  | .seq a _ => a
  | c => c
def cBlk : Code → Code
  | .block _ c => c
  | c => c
def cLoop : Code → Code
  | .loop c => c
  | c => c
noncomputable def body6 : Code := match Try.f6.body with
  | some c => c
  | none => .skip
/-- KeepsUpTo's loop: its round's body. -/
noncomputable def round6 : Code := cBlk (cFst (cSnd (cLoop (cBlk (cSnd (cFst (cSnd (cSnd (cSnd (cSnd (cSnd (cSnd (cSnd (cSnd (cSnd body6)))))))))))))))
/-- .. from 'lim := api.Settle(n)' on. -/
noncomputable def tail6 : Code := cSnd (cSnd (cSnd (cSnd (cSnd (cSnd (cSnd (cSnd (cSnd (cSnd round6)))))))))

def cThen : Code → Code
  | .cond _ a _ => a
  | c => c
def cElse : Code → Code
  | .cond _ _ b => b
  | c => c
/-- The switch's poke-and-move arm. -/
noncomputable def move6 : Code := cThen (cSnd (cElse (cSnd (cBlk (cSnd (cFst (cSnd (cSnd (cSnd (cSnd (cSnd (cSnd (cSnd (cSnd tail6))))))))))))))

set_option maxHeartbeats 40000000 in
set_option maxRecDepth 100000 in
theorem move_any (w14 : World) (r v S lm : Nat) (k : Int) (xs xs' : List Int) (M0 M' : Nat) (T0 T' P0 P' LM : Int)
    (hokH : Hid (Ok k xs)) (hvv : v < xs.length) (hp : priv xs v = true) (hx' : xs' = moveX k xs v) (hJH : Hid (Jv k xs S)) (hSH : Hid (S ≤ 100)) (lmH : Hid (1 ≤ lm ∧ lm ≤ 45)) (hLMH : Hid ((lm : Int) = LM))
    (hMH : Hid (mk (hots xs') = M')) (hTH : Hid (cnt (hots xs') = T')) (hPH : Hid (wsum xs'.length (hots xs') 0 = P')) (eM0 : mk (hots xs) = M0) (eT0 : cnt (hots xs) = T0) (eP0 : wsum xs.length (hots xs) 0 = P0)
    (u0 u2 u6 u7 u11 u12 u13 u14 u15 u16 u23 u24 u25 u26 u27 u28 u29 u30 u31 u32 u33 u34 u35 u36 u37 u38 u39 u40 u41 u42 u43 u44 u45 u46 u47 u48 u49 u50 u51 u52 u53 u54 u55 u56 u57 u58 u59 u60 u61 u62 u63 u64 u65 u66 u67 u68 u69 u70 u71 u72 u73 u74 u75 u76 u77 u78 u79 u80 u81 u82 u83 u84 u85 u86 u87 u88 u89 u90 u91 u92 u93 u94 u95 u96 u97 u98 u99 u100 u101 u102 u103 u104 u105 u106 u107 u108 u109 u110 u111 u112 u113 u114 u115 u116 u117 u118 u119 u120 u121 u122 u123 u124 u125 u126 u127 u128 u129 u130 u131 u132 u133 u134 u135 u136 u137 u138 u139 u140 u141 u142 u143 u144 u145 u146 u147 u148 u149 u150 u151 u152 u153 u154 u155 u156 u157 u158 u159 u160 u161 u162 u163 u164 u165 u166 u167 u168 u169 u170 u171 u172 u173 u174 u175 u176 u177 u178 u179 u180 u181 u182 u183 u184 u185 u186 u187 u188 u189 u190 u191 u192 u193 u194 u195 u196 u197 u198 u199 u200 u201 u202 u203 u204 u205 u206 u207 u208 u209 u210 u211 u212 u213 u214 u215 u216 u217 u218 u219 u220 u221 u222 u223 u224 u225 u226 u227 u228 u229 u230 u231 u232 u233 u234 u235 u236 u237 u238 u239 u240 u241 u242 u243 u244 u245 u246 u247 u248 u249 u250 u251 u252 u253 u254 u255 u256 : Value) (Q : Exit → Act → World → Prop)
    (hQ : ∀ (S' : Nat) (y26 y27 y28 y50 y51 y52 y53 y54 y55 y56 y57 y58 y59 y60 y61 y62 y63 y64 y65 y66 y67 y68 y69 y70 y71 y72 y73 y74 y75 y76 y77 y78 y79 y80 y81 y82 y83 y84 y85 y86 y87 y88 y89 y90 y91 y92 y93 y94 y95 y96 y97 y98 y99 y100 y101 y102 y103 y104 y105 y106 y107 y108 y109 y110 y111 y112 y113 y114 y115 y116 y117 y118 y119 y120 y121 y122 y123 y124 y125 y126 y127 y128 y129 y130 y131 y132 y133 y134 y135 y136 y137 y138 y139 y140 y141 y142 y143 y144 y145 y146 y147 y148 y149 y150 y151 y152 y153 y154 y155 y156 y157 y158 y159 y160 y161 y162 y163 y164 y165 y166 y167 y168 y169 y170 y171 y172 y173 y174 y175 y176 y177 y178 y179 y180 y181 y182 y183 y184 y185 y186 y187 y188 y189 y190 y191 y192 y193 y194 y195 y196 y197 y198 y199 y200 y201 y202 y203 y204 y205 y206 y207 y208 y209 y210 y211 y212 y213 y214 y215 y216 y217 y218 y219 y220 y221 y222 y223 y224 y225 y226 y227 y228 y229 y230 y231 y232 y233 y234 y235 y236 y237 y238 y239 y240 y241 y242 y243 y244 y245 y246 y247 y248 y249 y250 y251 y252 y253 y254 y255 y256 : Value), Jv k xs' S' → S' ≤ 100 → Q .normal ⟨(u0 :: (undef : Value) :: u2 :: Value.pointer (some ⟨r, 0, none⟩) :: Value.int .i64 xs'.length :: Value.int .i64 S' :: u6 :: u7 :: Value.int .i64 M0 :: Value.int .i64 T0 :: Value.int .i64 P0 :: Value.bool true :: u12 :: u13 :: u14 :: u15 :: u16 :: Value.int .i64 3 :: Value.int .i64 (v : Int) :: Value.int .i64 LM :: Value.int .i64 M' :: Value.int .i64 T' :: Value.int .i64 P' :: u23 :: u24 :: u25 :: y26 :: y27 :: y28 :: u29 :: u30 :: u31 :: u32 :: u33 :: u34 :: u35 :: u36 :: u37 :: u38 :: u39 :: u40 :: u41 :: u42 :: u43 :: u44 :: u45 :: u46 :: u47 :: u48 :: u49 :: y50 :: y51 :: y52 :: y53 :: y54 :: y55 :: y56 :: y57 :: y58 :: y59 :: y60 :: y61 :: y62 :: y63 :: y64 :: y65 :: y66 :: y67 :: y68 :: y69 :: y70 :: y71 :: y72 :: y73 :: y74 :: y75 :: y76 :: y77 :: y78 :: y79 :: y80 :: y81 :: y82 :: y83 :: y84 :: y85 :: y86 :: y87 :: y88 :: y89 :: y90 :: y91 :: y92 :: y93 :: y94 :: y95 :: y96 :: y97 :: y98 :: y99 :: y100 :: y101 :: y102 :: y103 :: y104 :: y105 :: y106 :: y107 :: y108 :: y109 :: y110 :: y111 :: y112 :: y113 :: y114 :: y115 :: y116 :: y117 :: y118 :: y119 :: y120 :: y121 :: y122 :: y123 :: y124 :: y125 :: y126 :: y127 :: y128 :: y129 :: y130 :: y131 :: y132 :: y133 :: y134 :: y135 :: y136 :: y137 :: y138 :: y139 :: y140 :: y141 :: y142 :: y143 :: y144 :: y145 :: y146 :: y147 :: y148 :: y149 :: y150 :: y151 :: y152 :: y153 :: y154 :: y155 :: y156 :: y157 :: y158 :: y159 :: y160 :: y161 :: y162 :: y163 :: y164 :: y165 :: y166 :: y167 :: y168 :: y169 :: y170 :: y171 :: y172 :: y173 :: y174 :: y175 :: y176 :: y177 :: y178 :: y179 :: y180 :: y181 :: y182 :: y183 :: y184 :: y185 :: y186 :: y187 :: y188 :: y189 :: y190 :: y191 :: y192 :: y193 :: y194 :: y195 :: y196 :: y197 :: y198 :: y199 :: y200 :: y201 :: y202 :: y203 :: y204 :: y205 :: y206 :: y207 :: y208 :: y209 :: y210 :: y211 :: y212 :: y213 :: y214 :: y215 :: y216 :: y217 :: y218 :: y219 :: y220 :: y221 :: y222 :: y223 :: y224 :: y225 :: y226 :: y227 :: y228 :: y229 :: y230 :: y231 :: y232 :: y233 :: y234 :: y235 :: y236 :: y237 :: y238 :: y239 :: y240 :: y241 :: y242 :: y243 :: y244 :: y245 :: y246 :: y247 :: y248 :: y249 :: y250 :: y251 :: y252 :: y253 :: y254 :: y255 :: y256 :: ([] : List Value)).toArray, []⟩ w14) :
    Code.wp Try.prog move6 Q ⟨(u0 :: (undef : Value) :: u2 :: Value.pointer (some ⟨r, 0, none⟩) :: Value.int .i64 xs'.length :: Value.int .i64 S :: u6 :: u7 :: Value.int .i64 M0 :: Value.int .i64 T0 :: Value.int .i64 P0 :: u11 :: u12 :: u13 :: u14 :: u15 :: u16 :: Value.int .i64 3 :: Value.int .i64 (v : Int) :: Value.int .i64 LM :: Value.int .i64 M' :: Value.int .i64 T' :: Value.int .i64 P' :: u23 :: u24 :: u25 :: u26 :: u27 :: u28 :: u29 :: u30 :: u31 :: u32 :: u33 :: u34 :: u35 :: u36 :: u37 :: u38 :: u39 :: u40 :: u41 :: u42 :: u43 :: u44 :: u45 :: u46 :: u47 :: u48 :: u49 :: u50 :: u51 :: u52 :: u53 :: u54 :: u55 :: u56 :: u57 :: u58 :: u59 :: u60 :: u61 :: u62 :: u63 :: u64 :: u65 :: u66 :: u67 :: u68 :: u69 :: u70 :: u71 :: u72 :: u73 :: u74 :: u75 :: u76 :: u77 :: u78 :: u79 :: u80 :: u81 :: u82 :: u83 :: u84 :: u85 :: u86 :: u87 :: u88 :: u89 :: u90 :: u91 :: u92 :: u93 :: u94 :: u95 :: u96 :: u97 :: u98 :: u99 :: u100 :: u101 :: u102 :: u103 :: u104 :: u105 :: u106 :: u107 :: u108 :: u109 :: u110 :: u111 :: u112 :: u113 :: u114 :: u115 :: u116 :: u117 :: u118 :: u119 :: u120 :: u121 :: u122 :: u123 :: u124 :: u125 :: u126 :: u127 :: u128 :: u129 :: u130 :: u131 :: u132 :: u133 :: u134 :: u135 :: u136 :: u137 :: u138 :: u139 :: u140 :: u141 :: u142 :: u143 :: u144 :: u145 :: u146 :: u147 :: u148 :: u149 :: u150 :: u151 :: u152 :: u153 :: u154 :: u155 :: u156 :: u157 :: u158 :: u159 :: u160 :: u161 :: u162 :: u163 :: u164 :: u165 :: u166 :: u167 :: u168 :: u169 :: u170 :: u171 :: u172 :: u173 :: u174 :: u175 :: u176 :: u177 :: u178 :: u179 :: u180 :: u181 :: u182 :: u183 :: u184 :: u185 :: u186 :: u187 :: u188 :: u189 :: u190 :: u191 :: u192 :: u193 :: u194 :: u195 :: u196 :: u197 :: u198 :: u199 :: u200 :: u201 :: u202 :: u203 :: u204 :: u205 :: u206 :: u207 :: u208 :: u209 :: u210 :: u211 :: u212 :: u213 :: u214 :: u215 :: u216 :: u217 :: u218 :: u219 :: u220 :: u221 :: u222 :: u223 :: u224 :: u225 :: u226 :: u227 :: u228 :: u229 :: u230 :: u231 :: u232 :: u233 :: u234 :: u235 :: u236 :: u237 :: u238 :: u239 :: u240 :: u241 :: u242 :: u243 :: u244 :: u245 :: u246 :: u247 :: u248 :: u249 :: u250 :: u251 :: u252 :: u253 :: u254 :: u255 :: u256 :: ([] : List Value)).toArray, []⟩ w14 := by
  conv => arg 2; whnf
  have hQH := hide hQ
  clear hQ
  have hv := hvv
  have hvH := hide hv
  have n2 := (unhide hokH).n2
  have n6 := (unhide hokH).n6
  have i0 : (0 : Int) ≤ (v : Int) := by omega
  have i1 : (v : Int) < (xs.length : Int) := by omega
  have i6 : (v : Int) < 6 := by omega
  have owv := one_wrap v (by omega)
  have vw : IntKind.i64.wrap ((v : Int) + 1) = (v : Int) + 1 := by rw [IntKind.wrap_i64]; omega
  obtain ⟨y, hy, _, _⟩ := move_set (unhide hokH) hv
  obtain ⟨X, may, e2, e3, e1⟩ := may_facts xs v y n2 n6 hv
  rw [← hy] at e2
  clear hy
  have off := mkI_shr (hots (moveX k xs v)) (by rw [hots_length, (move_len (unhide hokH) hv)]; exact n6) v
  rw [hots_getD' _ _ (by rw [(move_len (unhide hokH) hv)]; exact hv), move_off (unhide hokH) hv hp] at off
  have off0 : bit false = 0 := rfl
  rw [off0] at off
  clear off0
  have hcn := hide (move_cnt (unhide hokH) hv hp)
  have hon := hide (fun h => move_one (unhide hokH) hv hp h)
  have hps := hide (fun h => move_pass (unhide hokH) hv hp h)
  have hpt := hide (move_pot (unhide hokH) hv hp)
  have hwb := hide (wsum_bound xs.length (hots xs) 0 (by rw [hots_length]; omega))
  have hJN := hide ((unhide hJH).move (unhide hokH) hv hp)
  rw [hots_length] at hwb
  have hpH := hide hp
  clear hv hp
  have hxl : xs'.length = xs.length := by rw [hx']; exact move_len (unhide hokH) (unhide hvH)
  have hxlH := hide hxl
  rw [← hx', unhide hMH] at e2 off hps
  rw [← hx', unhide hTH] at hcn
  have hP2 := unhide hPH
  rw [hxl] at hP2
  rw [← hx', hP2] at hpt
  clear hP2 hxl
  rw [← hx'] at hJN
  clear hx' hon hpH
  rw [eM0] at e2
  rw [eT0] at hcn hps
  rw [eP0] at hpt hwb
  clear eT0 eP0 eM0 hvv
  have tle : (T' ≤ T0) = True := eq_true (unhide hcn)
  have hR1 := hide (nb_lt xs.length v (unhide hvH))
  have hR2 : Hid (v + 1 = xs.length → nb xs.length v = 0) := fun h => by unfold nb; rw [if_pos h]
  have hR3 : Hid (v + 1 ≠ xs.length → nb xs.length v = v + 1) := fun h => by unfold nb; rw [if_neg h]
  generalize nb xs.length v = R at *
  go_upto_if 171 with fail
  go_cut [26] from 50 to 256 (fun rv wx => rv = .int .i64 (R : Int) ∧ wx = w14)
  case first =>
    by_cases hr : v + 1 = xs.length
    · have e0 := unhide hR2 hr
      have r1 : ((v : Int) + 1 == (xs'.length : Int)) = true := by have hx := unhide hxlH; simp; omega
      subst e0
      clear hr
      rw [r1]
      go_wp2_with fail
      go_meet
      exact ⟨rfl, rfl⟩
    · have e0 := hide (unhide hR3 hr)
      have r1 : ((v : Int) + 1 == (xs'.length : Int)) = false := by have hx := unhide hxlH; rw [beq_eq_false_iff_ne]; omega
      clear hr
      rw [r1]
      go_wp2_with fail
      go_meet
      exact ⟨by rw [unhide e0]; rfl, rfl⟩
  case rest =>
    obtain ⟨rfl, hwc⟩ := hcut
    replace hwc := hwc.symm
    subst hwc
    have owr := one_wrap R (by have := unhide hR1; omega)
    have R0 : (0 : Int) ≤ (R : Int) := by omega
    have R6 : (R : Int) < 6 := by have := unhide hR1; omega
    clear hR1 hR2 hR3
    go_upto_region 56 with fail
    go_cut [11] from 50 to 256 (fun o wx => o = .bool true ∧ wx = w14)
    case first =>
      by_cases ht0 : T0 = 1
      · have p0 := unhide hps ht0
        have p1 : (M' : Int) = 2 ^ R := by rw [p0]; simp
        have p2 : ((M' : Int) == 2 ^ R) = true := by rw [p1]; simp
        have p3 : ((M' : Int) = 2 ^ R) = True := eq_true p1
        clear p0 p1
        have z1 : (T0 == 1) = true := by rw [ht0]; rfl
        have z2 : (T0 = 1) = True := eq_true ht0
        have z3 : (T0 != 1) = false := by rw [ht0]; rfl
        clear ht0
        go_wp2_with fail
        go_meet
        exact ⟨rfl, rfl⟩
      · have z1 : (T0 == 1) = false := by simpa using ht0
        have z2 : (T0 = 1) = False := eq_false ht0
        have z3 : (T0 != 1) = true := by simpa using ht0
        clear ht0
        go_wp2_with fail
        go_meet
        exact ⟨rfl, rfl⟩
    case rest =>
      obtain ⟨rfl, hwc⟩ := hcut
      replace hwc := hwc.symm
      subst hwc
      go_upto_region 57 with fail
      go_cut [11] from 50 to 256 (fun o wx => o = .bool true ∧ wx = w14)
      case first =>
        have nw1 : IntKind.i64.wrap (P0 + (xs'.length : Int)) = P0 + (xs'.length : Int) := by
          have hx := unhide hxlH; have := (unhide hwb)
          have h2 : P0 ≤ 36 := Int.le_trans this.2 (by have : (xs.length : Int) * xs.length ≤ 6 * 6 := Int.mul_le_mul (by omega) (by omega) (by omega) (by omega); omega)
          rw [IntKind.wrap_i64]; omega
        have nw2 : IntKind.i64.wrap (P0 + (xs'.length : Int) - 1) = P0 + (xs'.length : Int) - 1 := by
          have hx := unhide hxlH; have := (unhide hwb)
          have h2 : P0 ≤ 36 := Int.le_trans this.2 (by have : (xs.length : Int) * xs.length ≤ 6 * 6 := Int.mul_le_mul (by omega) (by omega) (by omega) (by omega); omega)
          rw [IntKind.wrap_i64]; omega
        have nw3 : IntKind.i64.wrap (P0 - 1) = P0 - 1 := by
          have hx := unhide hxlH; have := (unhide hwb)
          have h2 : P0 ≤ 36 := Int.le_trans this.2 (by have : (xs.length : Int) * xs.length ≤ 6 * 6 := Int.mul_le_mul (by omega) (by omega) (by omega) (by omega); omega)
          rw [IntKind.wrap_i64]; omega
        have nw4 : (P' ≤ P0 + (xs'.length : Int) - 1) = True := eq_true (by have hx := unhide hxlH; have := (unhide hpt).2; omega)
        by_cases hv0 : v = 0
        · have v1 : ((v : Int) == 0) = true := by simpa using hv0
          have v2 : ((v : Int) = 0) = True := eq_true (by omega)
          have v3 : (v = 0) = True := eq_true hv0
          clear hv0
          go_wp2_with fail
          go_meet
          exact ⟨rfl, rfl⟩
        · have v1 : ((v : Int) == 0) = false := by simpa using hv0
          have v2 : ((v : Int) = 0) = False := eq_false (by omega)
          have v3 : (v = 0) = False := eq_false hv0
          have v4 : (P' ≤ P0 - 1) = True := eq_true ((unhide hpt).1 hv0)
          clear hv0
          go_wp2_with fail
          go_meet
          exact ⟨rfl, rfl⟩
      case rest =>
        obtain ⟨rfl, hwc⟩ := hcut
        replace hwc := hwc.symm
        subst hwc
        have lb := unhide lmH
        have hLM := unhide hLMH
        have hS := unhide hSH
        by_cases hs : lm ≤ S
        · have s2 : ((S : Int) < LM) = False := eq_false (by omega)
          have hsH := hide hs
          clear hLM lb hS hs
          go_wp2_with fail
          exact unhide hQH S _ _ _ _ _ _ _ _ _ _ _ _ _ _ _ _ _ _ _ _ _ _ _ _ _ _ _ _ _ _ _ _ _ _ _ _ _ _ _ _ _ _ _ _ _ _ _ _ _ _ _ _ _ _ _ _ _ _ _ _ _ _ _ _ _ _ _ _ _ _ _ _ _ _ _ _ _ _ _ _ _ _ _ _ _ _ _ _ _ _ _ _ _ _ _ _ _ _ _ _ _ _ _ _ _ _ _ _ _ _ _ _ _ _ _ _ _ _ _ _ _ _ _ _ _ _ _ _ _ _ _ _ _ _ _ _ _ _ _ _ _ _ _ _ _ _ _ _ _ _ _ _ _ _ _ _ _ _ _ _ _ _ _ _ _ _ _ _ _ _ _ _ _ _ _ _ _ _ _ _ _ _ _ _ _ _ _ _ _ _ _ _ _ _ _ _ _ _ _ _ _ _ _ _ _ _ _ _ _ _ ((unhide hJN).less (by omega)) (unhide hSH)
        · have s2 : ((S : Int) < LM) = True := eq_true (by omega)
          have hSN := hide (show S + 1 ≤ 100 by omega)
          have s3 : IntKind.i64.wrap ((S : Int) + 1) = (S : Int) + 1 := by rw [IntKind.wrap_i64]; omega
          have hsH := hide hs
          clear hLM lb hS hs
          go_wp2_with fail
          exact unhide hQH (S + 1) _ _ _ _ _ _ _ _ _ _ _ _ _ _ _ _ _ _ _ _ _ _ _ _ _ _ _ _ _ _ _ _ _ _ _ _ _ _ _ _ _ _ _ _ _ _ _ _ _ _ _ _ _ _ _ _ _ _ _ _ _ _ _ _ _ _ _ _ _ _ _ _ _ _ _ _ _ _ _ _ _ _ _ _ _ _ _ _ _ _ _ _ _ _ _ _ _ _ _ _ _ _ _ _ _ _ _ _ _ _ _ _ _ _ _ _ _ _ _ _ _ _ _ _ _ _ _ _ _ _ _ _ _ _ _ _ _ _ _ _ _ _ _ _ _ _ _ _ _ _ _ _ _ _ _ _ _ _ _ _ _ _ _ _ _ _ _ _ _ _ _ _ _ _ _ _ _ _ _ _ _ _ _ _ _ _ _ _ _ _ _ _ _ _ _ _ _ _ _ _ _ _ _ _ _ _ _ _ _ _ (unhide hJN) (unhide hSN)
end Go.Proofs.Qxb6500363a
