/-
  367 Keeps: First, Slack. (gen7first.py)
-/
import Derived.Test.Qxb6500367aKGh
import Derived.Deep.CutBlock
import Derived.Deep.CutRange
namespace Go.Proofs.Qxb6500367a
open Go.RowKit Go.Qx
set_option linter.unusedSimpArgs false
set_option linter.unusedVariables false

set_option maxHeartbeats 8000000 in
set_option maxRecDepth 100000 in
theorem first_any (w : World) (g : Nat) (vX vW vG : Value) (n : Nat) (h4 : n ≤ 4) (X : List Value) (W : List M4) (S : Nat → Nd) (H : GR w g vX vW vG n X W S) :
    Calls Try.prog 43 #[ptr g] w fun e w' => e = .returned (.int .i64 (firstTo (fun j => (S j).mine) n)) ∧ Quiet w w' := by
  obtain ⟨ag, cg, rfl⟩ := H.rG.shape
  have HH := hide H
  clear H
  unfold ptr
  go_enter Try.func43, Try.ntmps43
  go_wp2
  go_loopw [3, 4] (fun c i wr => ∃ k : Nat, k ≤ n ∧ i = .int .i64 k ∧ c = .int .i64 (firstTo (fun j => (S j).mine) k) ∧ Quiet w wr) (fun _ i _ => 5 - (intOf i).toNat)
  case atStart => exact ⟨0, Nat.zero_le _, rfl, rfl, Quiet.refl _⟩
  case round =>
    obtain ⟨k, hk, rfl, rfl, hq⟩ := hrel
    have i0 : (0 : Int) ≤ (k : Int) := by omega
    have Hr := (unhide HH).quiet hq
    have c2 : wr.cell? ⟨g, 2, none⟩ = some (.slice ag n cg) := Hr.blk.cell 2
    have hgl := Hr.blk.lt
    have hqH := hide hq
    clear hq
    by_cases hlt : k < n
    · have i1 : (k : Int) < (n : Int) := by omega
      obtain ⟨gb, cg', hv, m0, m1, m2, m3⟩ := Hr.mind hlt
      injection hv with e1 e2 e3
      subst e1 e3
      have hch := firstTo_char (fun j => (S j).mine) k
      have hnx : Hid (firstTo (fun j => (S j).mine) (k + 1) = if (S k).mine = 0 then firstTo (fun j => (S j).mine) k else if firstTo (fun j => (S j).mine) k < 0 then (k : Int) else if beforeP ((S k).mine, (k : Int)) ((S (firstTo (fun j => (S j).mine) k).toNat).mine, firstTo (fun j => (S j).mine) k) then (k : Int) else firstTo (fun j => (S j).mine) k) := by show _ = _; rfl
      clear m0 m1 m3
      by_cases hz : (S k).mine = 0
      · have b1 : ((S k).mine == 0) = true := by simpa using hz
        have hnx2 : Hid (firstTo (fun j => (S j).mine) (k + 1) = firstTo (fun j => (S j).mine) k) := by show _ = _; rw [unhide hnx, if_pos hz]
        clear hch hz Hr
        generalize firstTo (fun j => (S j).mine) k = c at *
        generalize (S k).mine = p at *
        go_wp2
        go_roundw
        case rel => exact ⟨k + 1, by omega, by go_num, by rw [unhide hnx2], unhide hqH⟩
        case measure => simp [intOf]; omega
      · have b1 : ((S k).mine == 0) = false := by simpa using hz
        rcases hch with ⟨h1, _⟩ | ⟨b, hb, h1, h2, _⟩
        · have hnx2 : Hid (firstTo (fun j => (S j).mine) (k + 1) = (k : Int)) := by show _ = _; rw [unhide hnx, if_neg hz, h1, if_pos (by omega)]
          rw [h1]
          clear h1 hz Hr hnx
          generalize (S k).mine = p at *
          go_wp2
          go_roundw
          case rel => exact ⟨k + 1, by omega, by go_num, by rw [unhide hnx2], unhide hqH⟩
          case measure => simp [intOf]; omega
        · have hbn : b < n := by omega
          obtain ⟨gb', cg'', hv', _, _, n2, _⟩ := Hr.mind hbn
          injection hv' with e1 e2 e3
          injection e1 with e1
          injection e1 with e1
          subst e1
          have hnx2 : Hid (firstTo (fun j => (S j).mine) (k + 1) = if beforeP ((S k).mine, (k : Int)) ((S b).mine, (b : Int)) then (k : Int) else (b : Int)) := by
            show _ = _
            rw [unhide hnx, if_neg hz, h1, if_neg (by omega), show ((b : Nat) : Int).toNat = b by omega]
          rw [h1]
          have j0 : (0 : Int) ≤ (b : Int) := by omega
          have j1 : (b : Int) < (n : Int) := by omega
          have j2 : ¬ (b : Int) < 0 := by omega
          have j2d : decide ((b : Int) < 0) = false := by simp
          have hbf := hide (fun V => beforeL_any V (S k).mine k (S b).mine b)
          have y2 : ∀ q : QW wr, q.w.cell? ⟨g, 2, none⟩ = some (.slice (some ⟨gb, 0, none⟩) n cg) := fun q => Quiet.cell (QW.q q) c2
          have ym : ∀ q : QW wr, q.w.cell? ⟨gb, k * 4 + 2, none⟩ = some (.int .i64 (S k).mine) := fun q => Quiet.cell (QW.q q) m2
          have yb : ∀ q : QW wr, q.w.cell? ⟨gb, b * 4 + 2, none⟩ = some (.int .i64 (S b).mine) := fun q => Quiet.cell (QW.q q) n2
          have hgq : ∀ q : QW wr, g < q.w.heap.size := fun q => Nat.lt_of_lt_of_le hgl (QW.q q).size
          clear h1 h2 hz Hr hnx e2 e3
          generalize (S k).mine = p at *
          generalize (S b).mine = p2 at *
          go_wp2
          refine wp_region_noPanic ?_
          try simp only [List.append_eq, List.cons_append, List.nil_append]
          refine wp_region_mixq [(0, true), (1, true), (2, true), (3, true), (4, true), (5, true), (6, true), (7, true), (8, true), (9, true), (10, true), (11, true), (12, true), (13, true), (14, true), (15, true), (16, true), (17, true), (18, true), (19, true), (20, true), (21, true)] [] (by kernel_rfl) (by kernel_rfl) (fun _ _ _ _ _ h => h) ?_
          simp only [pickM, pickO, List.getElem?_cons_zero, List.getElem?_cons_succ]
          repeat (first | (refine wpMix_read rfl (fun K hK => ?_)) | (refine wpMix_pure rfl (fun K hK => ?_))
                  go_big_quiet_op
                  first | (refine hK _ ?_; clear hK K) | (apply Exists.intro; refine ⟨fun _ => ?_, ?_⟩; (· (first | (go_at_call 54; exact Calls.in_qw (unhide hbf _)))); refine hK _ ?_; clear hK K))
          refine wpMix_nil ?_
          intro _ hw'
          obtain ⟨qq, hw''⟩ := hw'
          subst hw''
          have hqq := qq.q
          generalize qq.w = wq at *
          have Q2 := hide (Quiet.trans (unhide hqH) hqq)
          clear y2 ym yb hgq hqq
          cases hbb : beforeP (p, (k : Int)) (p2, (b : Int)) with
          | true =>
            rw [hbb] at hnx2
            go_wp2
            refine NoPanic.normal ?_
            go_wp2
            go_roundw
            case rel => exact ⟨k + 1, by omega, by go_num, by rw [unhide hnx2]; rfl, unhide Q2⟩
            case measure => simp [intOf]; omega
          | false =>
            rw [hbb] at hnx2
            go_wp2
            refine NoPanic.normal ?_
            go_wp2
            go_roundw
            case rel => exact ⟨k + 1, by omega, by go_num, by rw [unhide hnx2]; rfl, unhide Q2⟩
            case measure => simp [intOf]; omega
    · have i1 : ¬ (k : Int) < (n : Int) := by omega
      have hkn : k = n := by omega
      subst hkn
      clear Hr
      go_wp2
      go_ret
      exact ⟨rfl, unhide hqH⟩
end Go.Proofs.Qxb6500367a
