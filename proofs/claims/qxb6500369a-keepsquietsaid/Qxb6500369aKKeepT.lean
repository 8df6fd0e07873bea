/-
  369 Keeps: keep's round behind its switch. (gen9keep.py)
-/
import Derived.Test.Qxb6500369aKLook
namespace Go.Proofs.Qxb6500369a
open Go.RowKit Go.Qx
set_option linter.unusedSimpArgs false
set_option linter.unusedVariables false

noncomputable def body8 : Code := match Try.f8.body with
  | some c => c
  | none => .skip
noncomputable def round8 : Code := cBlk (cFst (cSnd (cLoop (cBlk (cSnd (cFst (cSnd (cSnd (cSnd (cSnd body8))))))))))
/-- keep's round behind its switch. -/
noncomputable def tail8 : Code := cSnd (cSnd (cSnd round8))

set_option maxHeartbeats 8000000 in
set_option maxRecDepth 100000 in
theorem tail8_any (W V : World) (x a b g : Nat) (mode : Int) (ns : List N5) (ord : List Int) (G : Gh) (O : Nat → Prop) (S : KS W V x a b g mode ns ord G O) (se qu : Bool) (hse : se = true → mode ≠ -1 ∧ G.wire = [] ∧ ∀ i, i < ns.length → (vf ns i).reach ≠ 0)
    (u0 u2 u3 u4 u7 u8 u10 u11 u12 u13 u14 u15 u16 u17 u18 u19 u20 u21 u22 u23 u24 u25 u26 u27 u28 u29 u30 u31 u32 u33 u34 u35 u36 u37 u38 u39 u40 u41 u42 u43 u44 u45 u46 u47 u48 u49 u50 u51 u52 u53 u54 u55 u56 u57 u58 u59 u60 u61 u62 u63 u64 u65 u66 u67 u68 u69 u70 u71 u72 u73 u74 u75 u76 u77 u78 u79 u80 u81 u82 u83 u84 u85 u86 u87 u88 u89 u90 u91 u92 u93 : Value) (Q : Exit → Act → World → Prop) (hQ : Hid (∀ (y70 y71 y72 y73 y74 y75 y76 y77 y78 y79 y80 y81 y82 y83 y84 y85 y86 y87 y88 y89 y90 y91 y92 y93 : Value) wx, Quiet V wx → Q .normal ⟨(u0 :: Value.bool qu :: u2 :: u3 :: u4 :: Value.pointer (some ⟨x, 0, none⟩) :: Value.pointer (some ⟨g, 0, none⟩) :: u7 :: u8 :: Value.bool se :: u10 :: u11 :: u12 :: u13 :: u14 :: u15 :: u16 :: u17 :: u18 :: u19 :: u20 :: u21 :: u22 :: u23 :: u24 :: u25 :: u26 :: u27 :: u28 :: u29 :: u30 :: u31 :: u32 :: u33 :: u34 :: u35 :: u36 :: u37 :: u38 :: u39 :: u40 :: u41 :: u42 :: u43 :: u44 :: u45 :: u46 :: u47 :: u48 :: u49 :: u50 :: u51 :: u52 :: u53 :: u54 :: u55 :: u56 :: u57 :: u58 :: u59 :: u60 :: u61 :: u62 :: u63 :: u64 :: u65 :: u66 :: u67 :: u68 :: u69 :: y70 :: y71 :: y72 :: y73 :: y74 :: y75 :: y76 :: y77 :: y78 :: y79 :: y80 :: y81 :: y82 :: y83 :: y84 :: y85 :: y86 :: y87 :: y88 :: y89 :: y90 :: y91 :: y92 :: y93 :: ([] : List Value)).toArray, []⟩ wx)) :
    Code.wp Try.prog tail8 Q ⟨(u0 :: Value.bool qu :: u2 :: u3 :: u4 :: Value.pointer (some ⟨x, 0, none⟩) :: Value.pointer (some ⟨g, 0, none⟩) :: u7 :: u8 :: Value.bool se :: u10 :: u11 :: u12 :: u13 :: u14 :: u15 :: u16 :: u17 :: u18 :: u19 :: u20 :: u21 :: u22 :: u23 :: u24 :: u25 :: u26 :: u27 :: u28 :: u29 :: u30 :: u31 :: u32 :: u33 :: u34 :: u35 :: u36 :: u37 :: u38 :: u39 :: u40 :: u41 :: u42 :: u43 :: u44 :: u45 :: u46 :: u47 :: u48 :: u49 :: u50 :: u51 :: u52 :: u53 :: u54 :: u55 :: u56 :: u57 :: u58 :: u59 :: u60 :: u61 :: u62 :: u63 :: u64 :: u65 :: u66 :: u67 :: u68 :: u69 :: u70 :: u71 :: u72 :: u73 :: u74 :: u75 :: u76 :: u77 :: u78 :: u79 :: u80 :: u81 :: u82 :: u83 :: u84 :: u85 :: u86 :: u87 :: u88 :: u89 :: u90 :: u91 :: u92 :: u93 :: ([] : List Value)).toArray, []⟩ V := by
  conv => arg 2; whnf
  obtain ⟨vi, vw, H, hO⟩ := S.gh
  have y10 : V.cell? ⟨g, 10, none⟩ = some (.bool true) := by
    have := H.blk.cell 10
    simpa [gC] using this
  have hgl := H.blk.lt
  have hn : G.ids.length = ns.length := by rw [S.law.ids]; simp
  have hc := hide (counted_any V g vi vw G ns.length H hn S.law.n8 (by rw [S.law.mo]; exact S.law.cnt))
  have hlk : Hid (∀ V', Quiet V V' → Calls Try.prog 19 #[.pointer (some ⟨x, 0, none⟩), .pointer (some ⟨g, 0, none⟩), .bool se] V' fun e w' => e = .returned (.bool true) ∧ Quiet V' w') := fun V' q => looked_any W V' x a b g mode ns ord G O (S.quiet q) se hse
  clear S H hO hn hse
  unfold ptr at hc
  go_wp2_with fail
  refine (unhide hc).mono ?_
  clear hc y10
  rintro e w1 ⟨rfl, q1⟩
  have hl1 := hide (unhide hlk w1 q1)
  have Q1 := hide q1
  clear q1 hlk
  by_cases hq : se = false ∧ qu = true
  · obtain ⟨rfl, rfl⟩ := hq
    go_wp2
    exact unhide hQ _ _ _ _ _ _ _ _ _ _ _ _ _ _ _ _ _ _ _ _ _ _ _ _ _ (unhide Q1)
  · cases se with
    | true =>
      go_wp2_with fail
      refine (unhide hl1).mono ?_
      clear hl1
      rintro e w2 ⟨rfl, q2⟩
      have Q2 := hide (Quiet.trans (unhide Q1) q2)
      clear q2 Q1
      go_wp2
      exact unhide hQ _ _ _ _ _ _ _ _ _ _ _ _ _ _ _ _ _ _ _ _ _ _ _ _ _ (unhide Q2)
    | false =>
      cases qu with
      | true => exact absurd ⟨rfl, rfl⟩ hq
      | false =>
        go_wp2_with fail
        refine (unhide hl1).mono ?_
        clear hl1
        rintro e w2 ⟨rfl, q2⟩
        have Q2 := hide (Quiet.trans (unhide Q1) q2)
        clear q2 Q1
        go_wp2
        exact unhide hQ _ _ _ _ _ _ _ _ _ _ _ _ _ _ _ _ _ _ _ _ _ _ _ _ _ (unhide Q2)
end Go.Proofs.Qxb6500369a
