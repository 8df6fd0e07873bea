/-
  The walk.
-/
import Derived.Test.Qxb6500367aWalkR20
import Derived.Test.Qxb6500367aWalkR22
import Derived.Test.Qxb6500367aWalkR23
import Derived.Test.Qxb6500367aWalkR27
namespace Go.Proofs.Qxb6500367a
open Go.RowKit Go.Qx
set_option linter.unusedSimpArgs false
set_option linter.unusedVariables false

def walkPost (w : World) (e : Ending) (w' : World) : Prop := (∃ n : Int, e = .returned (.tuple #[.int .i64 (-1), .int .i64 n])) ∧ Below w.heap.size w w'

set_option maxHeartbeats 4000000 in
set_option maxRecDepth 100000 in
theorem walk_any (w : World) (a : Option Addr) (len cap : Nat) (ops : List Opr) (quiet : Bool) (ho : IsOps w a len cap ops) :
    Calls Try.prog 18 #[.slice a len cap, .bool quiet] w (walkPost w) := by
  have hlen := ho.small
  have hbd := build_any w 4 (by omega) (by omega)
  go_enter Try.func18, Try.ntmps18
  go_wp2_with fail
  refine hbd.mono ?_
  clear hbd
  rintro e w1 ⟨v0, L0, rfl, q1, hL0, hwd⟩
  have hrun : Run w (ptr v0) w1 := ⟨v0, L0, rfl, hwd, by omega, q1.chg _⟩
  have hwdH := hide hwd
  have hrunH := hide hrun
  clear hrun hwd q1
  unfold ptr
  go_upto_region 4 with fail
  go_cut [24] (fun b wx => b = .bool false ∧ Run w (ptr v0) wx)
  case first =>
    cases quiet with
    | true =>
      go_wp2
      go_meet
      case rel => exact ⟨rfl, unhide hrunH⟩
    | false =>
      have hs := seen_any _ w1 v0 L0 (unhide hwdH) (by omega)
      unfold ptr at hs
      go_wp2_with fail
      refine hs.mono ?_
      rintro e w2 ⟨rfl, q2⟩
      go_wp2
      go_meet
      case rel => exact ⟨rfl, (unhide hrunH).quiet q2⟩
  case rest =>
    obtain ⟨rfl, hrun⟩ := hcut
    have hrunC := hide hrun
    clear hrun hrunH hwdH
    go_wp2
    go_loopg [6, 7] len (fun g u i wr => ∃ j : Nat, j ≤ len ∧ g = len - j ∧ i = .int .i64 j ∧ Run w u wr)
    case atStart => exact ⟨0, Nat.zero_le _, rfl, rfl, unhide hrunC⟩
    case round =>
      clear hrunC
      obtain ⟨j, hj, hg, rfl, v, L, rfl, hwd, hL4, hch⟩ := hrel
      have hbel : Below w.heap.size w wr := hch.below _ (Nat.le_refl _) (fun _ h => h)
      have hbelH := hide hbel
      have hgH := hide hg
      clear hbel hg
      by_cases hlt : j < len
      · by_cases hmax : (j : Int) < 4398046511104
        · have hjo : j < ops.length := by rw [ho.count]; exact hlt
          obtain ⟨sb, so, rfl, hsb, k0, k1, k2, k3, k4, k5⟩ := ho.cells j hjo
          generalize ops[j] = o at *
          obtain ⟨ok, oa, ob, oc, os, ot⟩ := o
          simp only at k0 k1 k2 k3 k4 k5
          have i1 : (0 : Int) ≤ (j : Int) := by omega
          have i2 : (j : Int) < (len : Int) := by omega
          have g1 : decide (j < len) = true := by simpa using hlt
          have g1' : decide ((j : Int) < (len : Int)) = true := by simpa using hlt
          have hbl := unhide hbelH
          rw [← hbl.cell (p := ⟨sb, so + j * 6, none⟩) hsb] at k0
          rw [← hbl.cell (p := ⟨sb, so + j * 6 + 1, none⟩) hsb] at k1
          rw [← hbl.cell (p := ⟨sb, so + j * 6 + 2, none⟩) hsb] at k2
          rw [← hbl.cell (p := ⟨sb, so + j * 6 + 3, none⟩) hsb] at k3
          rw [← hbl.cell (p := ⟨sb, so + j * 6 + 4, none⟩) hsb] at k4
          rw [← hbl.cell (p := ⟨sb, so + j * 6 + 5, none⟩) hsb] at k5
          clear hbl
          have hq0 : Quiet wr (wr.alloc (.cells #[.int .i64 ok, .int .i64 oa, .int .i64 ob, .int .i64 oc, .string os, .string ot] 44)) := (Chg.refl _ _).alloc _
          have hmid : Mid w wr.heap.size (ptr v) (wr.alloc (.cells #[.int .i64 ok, .int .i64 oa, .int .i64 ob, .int .i64 oc, .string os, .string ot] 44)) := ⟨v, L, ok, oa, ob, oc, os, ot, rfl, hwd.off hq0, hL4, hch.trans (hq0.chg _), hch.size, Blk.new _ _ _⟩
          have bo := Blk.new wr 44 [.int .i64 ok, .int .i64 oa, .int .i64 ob, .int .i64 oc, .string os, .string ot]
          have hmidH := hide hmid
          clear hmid hq0 hwd hch
          unfold ptr
          go_upto_if 41 with fail
          generalize hWo : wr.alloc (.cells #[.int .i64 ok, .int .i64 oa, .int .i64 ob, .int .i64 oc, .string os, .string ot] 44) = wo at *
          have hzo : wr.heap.size < wo.heap.size := bo.lt
          generalize hO : wr.heap.size = O at *
          have hOH := hide hO
          have hltH := hide hlt
          have hmaxH := hide hmax
          clear hO hWo k0 k1 k2 k3 k4 k5 g1 g1' i1 i2 hlt hmax hjo hsb hlen ho hL0 hj
          go_cut [6, 9, 10, 11, 12] (fun u _ _ _ _ wx => Mid w O u wx)
          case first =>
            have c0 := bo.cell 0
            have c1 := bo.cell 1
            have c2 := bo.cell 2
            simp at c0 c1 c2
            by_cases hk : ok = 7
            · have b1 : (ok == 7) = true := by simpa using hk
              simp only [b1]
              clear hk
              by_cases hr : refuses oa ob
              · have n1 := fun V => new_bad V oa ob hr
                have n2 := fun V => mnew_bad V oa ob hr
                clear hr
                go_wp2_with fail
                refine (n1 _).mono ?_
                rintro e w2 ⟨rfl, q2⟩
                clear n1
                have d1 := Quiet.cell q2 c1
                have d2 := Quiet.cell q2 c2
                go_wp2_with fail
                refine (n2 _).mono ?_
                rintro e w3 ⟨rfl, q3⟩
                clear n2
                go_wp2
                go_meet
                case rel => exact ((unhide hmidH).quiet q2).quiet q3
              · unfold refuses at hr
                obtain ⟨n, rfl⟩ : ∃ n : Nat, oa = n := ⟨oa.toNat, by omega⟩
                obtain ⟨m, rfl⟩ : ∃ m : Nat, ob = m := ⟨ob.toNat, by omega⟩
                have n1 := fun V => new_ok V n m (by omega) (by omega) (by omega)
                have n2 := fun V => mnew_ok V n m (by omega) (by omega) (by omega)
                have n3 := fun V => build_any V n (by omega) (by omega)
                have hn4 : n ≤ 4 := by omega
                clear hr
                unfold ptr at n1 n2
                go_wp2_with fail
                refine (n1 _).mono ?_
                rintro e w2 ⟨_, _, _, rfl, q2, _, _⟩
                clear n1
                have d1 := Quiet.cell q2 c1
                have d2 := Quiet.cell q2 c2
                go_wp2_with fail
                refine (n2 _).mono ?_
                rintro e w3 ⟨_, _, rfl, q3, _, _⟩
                clear n2
                have e1 := Quiet.cell q3 d1
                go_wp2_with fail
                refine (n3 _).mono ?_
                rintro e w4 ⟨v', L', rfl, q4, hL', hwd'⟩
                clear n3
                have q234 := Quiet.trans q2 (Quiet.trans q3 q4)
                have hz : wo.heap.size ≤ w3.heap.size := Nat.le_trans q2.size q3.size
                have hm2 : Mid w O (ptr v') w4 := by
                  obtain ⟨v, L, k, a, b, c, S, T, h1, h2, h3, h4, h5, h6⟩ := (unhide hmidH).quiet q234
                  exact ⟨v', L', k, a, b, c, S, T, rfl, hwd'.above (by omega) (by omega), by omega, h4, h5, h6⟩
                have hm2H := hide hm2
                clear hm2
                unfold ptr
                go_wp2
                go_meet
                case rel => exact unhide hm2H
            · have b1 : (ok == 7) = false := by simpa using hk
              clear hk
              simp only [b1]
              go_wp2
              go_meet
              case rel => exact unhide hmidH
          case rest =>
            clear hmidH bo hzo
            obtain ⟨v, L, k, a, b, c, S, T, rfl, hwo, hL4, hch, hwO, bo⟩ := hcut
            have c0 := bo.cell 0
            have c1 := bo.cell 1
            have c2 := bo.cell 2
            simp at c0 c1 c2
            unfold ptr
            go_upto_if 81 with fail
            obtain ⟨vX, vM, vW, nW, F, o1, o2, o3, o4, o5⟩ := hwo
            go_cut [] (fun wx => Mid w O (ptr v) wx)
            case first =>
              by_cases hk : k = 6
              · have b1 : (k == 6) = true := by simpa using hk
                simp only [b1]
                clear hk
                clear c0 c1 c2
                go_wp2
                refine wp_of_blind ?_
                refine walk_r20 w wc O v L vX vM vW nW F o1 o2 o3 o4 o5 hL4 hch hwO k a b c S T bo _ _ _ _ _ _ _ _ _ _ _ _ _ _ _ _ _ _ _ _ _ _ _ _ _ _ _ _ _ _ _ _ _ _ _ _ _ _ _ _ _ _ _ _ _ _ _ _ _ _ _ _ _ _ _ _ _ _ _ _ _ _ _ _ _ _ _ _ _ _ _ _ _ _ _ _ _ _ _ _ _ _ _ _ _ _ _ _ _ _ _ _ _ _ _ _ _ _ _ _ _ _ _ _ _ _ _ _ _ _ _ _ _ _ _ _ _ _ _ _ _ _ _ _ _ _ _ _ _ _ _ _ _ _ _ _ _ _ _ _ _ _ _ _ _ _ _ _ _ _ _ _ _ _ _ _ _ _ _ _ _ _ _ _ _ _ _ _ ?_
                intro x82 x83 x84 x85 x86 x87 x88 x89 x90 x91 x92 x93 x94 x95 x96 wx hx
                dsimp only
                go_wp2
                go_meet
                case rel => exact hx
              · have b1 : (k == 6) = false := by simpa using hk
                simp only [b1]
                clear hk
                go_wp2
                go_meet
                case rel => exact ⟨v, L, k, a, b, c, S, T, rfl, ⟨vX, vM, vW, nW, F, o1, o2, o3, o4, o5⟩, hL4, hch, hwO, bo⟩
            case rest =>
              clear F bo hch hL4 o1 o2 o3 o4 o5 c0 c1 c2
              obtain ⟨v1, L, k, a, b, c, S, T, hv1, hwo, hL4, hch, hwO2, bo⟩ := hcut
              obtain ⟨vX, vM, vW, nW, F, o1, o2, o3, o4, o5⟩ := hwo
              obtain rfl : v1 = v := by
                have h := hv1
                unfold ptr at h
                cases h; rfl
              have hxl : (pxs L).length = L.length := by simp [pxs]
              obtain ⟨aX, capX, eX⟩ := F.rx.shape
              rw [hxl] at eX
              have hOv := o1
              generalize hN : L.length = N at *
              have hNH := hide hN
              have hxlH := hide hxl
              clear hN hxl hv1 hwO2
              have c0 := bo.cell 0
              have c1 := bo.cell 1
              have c2 := bo.cell 2
              have c3 := bo.cell 3
              have c4 := bo.cell 4
              have c5 := bo.cell 5
              have x0 := F.blk.cell 0
              simp at c0 c1 c2 c3 c4 c5 x0
              rw [eX] at x0
              have hrunN : Run w (ptr v1) wc := ⟨v1, L, rfl, ⟨vX, vM, vW, nW, F⟩, by rw [unhide hNH]; exact hL4, hch⟩
              have hrunH := hide hrunN
              clear hrunN
              go_wp2
              by_cases hin : 0 ≤ a ∧ a < (N : Int)
              · obtain ⟨i, rfl⟩ : ∃ i : Nat, a = i := ⟨a.toNat, by omega⟩
                have hiN : i < N := by omega
                have d0 : decide ((i : Int) < 0) = false := by simp
                have d1 : decide ((0 : Int) ≤ (i : Int)) = true := by simp
                have d2 : decide ((i : Int) < (N : Int)) = true := by simp; omega
                have d3 : (0 : Int) ≤ (i : Int) := by omega
                have d4 : (i : Int) < (N : Int) := by omega
                clear hin
                go_big_quiet (fail)
                have F1 := F.quiet ((Chg.refl _ wc).drewN nq)
                have bo1 := bo.drewN nq
                have hch1 := hch.drewN nq
                clear F bo hch c0 c1 c2 c3 c4 c5 x0 hrunH
                generalize wc.drewN nq = wd at *
                have hil : i < L.length := by rw [unhide hNH]; exact hiN
                obtain ⟨gX, capX', eX', x0⟩ := Row.at1 F1.rx i (by rw [unhide hxlH]; exact hiN)
                have hml : (pms L).length = N := by rw [← unhide hNH]; simp [pms]
                obtain ⟨gM, capM, eM, m0⟩ := Row.at1 F1.rm i (by rw [hml]; exact hiN)
                rw [unhide hxlH] at eX'
                rw [hml] at eM
                have ep : (pxs L)[i]'(by rw [unhide hxlH]; exact hiN) = ptr L[i].x := by simp [pxs]
                have em : (pms L)[i]'(by rw [hml]; exact hiN) = ptr L[i].m := by simp [pms]
                rw [ep] at x0
                rw [em] at m0
                have hpi : L[i]? = some L[i] := List.getElem?_eq_getElem hil
                clear ep em
                generalize L[i] = p at *
                have hp := F1.ok p (List.mem_of_getElem? hpi)
                have bv := F1.blk
                rw [eX', eM] at bv
                have y0 := bv.cell 0
                have c0 := bo1.cell 0
                have c1 := bo1.cell 1
                have c2 := bo1.cell 2
                have c3 := bo1.cell 3
                have c4 := bo1.cell 4
                have c5 := bo1.cell 5
                simp at c0 c1 c2 c3 c4 c5 y0
                have hD := fun V (q : Quiet wd V) => do_any V p.x p.a p.b p.s (hp.r.quiet q) hp.i ⟨k, i, b, c, S, T⟩
                generalize hX : ansP p.s ⟨k, i, b, c, S, T⟩ = X at *
                generalize hs' : nextP p.s ⟨k, i, b, c, S, T⟩ = s' at *
                have hinv : Inv s' := by rw [← hs']; exact inv_next hp.i _
                unfold ptr opv ansv at hD
                simp only at hD
                have hXH := hide hX
                have hsH := hide hs'
                have hpH := hide hp
                have hpiH := hide hpi
                have hinvH := hide hinv
                have F1H := hide F1
                clear hX hs' hp hpi hinv F1 eX
                unfold ptr at x0 m0
                have hm0 := List.mem_of_getElem? (unhide hpiH)
                have nv0 : ¬ own p.x p.a p.b v1 := fun h => (unhide F1H).dv p hm0 (.inl h)
                have nx0 : ¬ own p.x p.a p.b gX := fun h => (unhide F1H).dx p hm0 gX (by rw [eX']; rfl) (.inl h)
                have no0 : ¬ own p.x p.a p.b O := fun h => o5 p hm0 (.inl h)
                have hSr : ∀ k, own p.x p.a p.b k → k < wd.heap.size := fun k hk => (unhide hpH).lt (.inl hk)
                have hD0 := hide (And.intro hD (And.intro hSr (And.intro nv0 (And.intro nx0 no0))))
                have hiNH := hide hiN
                clear hD hSr nv0 nx0 no0 hm0 d0 d1 d2 d3 d4 hiN hil hml bv hOv c0 c1 c2 c3 c4 c5
                go_upto_region 22 with fail
                refine wp_of_blind ?_
                refine walk_r22 wd O v1 gX capX' N i (unhide hiNH) p s' X k b c S T y0 x0 bo1 (unhide hD0).2.2.1 (unhide hD0).2.2.2.1 (unhide hD0).2.2.2.2 (unhide hD0).2.1 (unhide hD0).1 _ _ _ _ _ _ _ _ _ _ _ _ _ _ _ _ _ _ _ _ _ _ _ _ _ _ _ _ _ _ _ _ _ _ _ _ _ _ _ _ _ _ _ _ _ _ _ _ _ _ _ _ _ _ _ _ _ _ _ _ _ _ _ _ _ _ _ _ _ _ _ _ _ _ _ _ _ _ _ _ _ _ _ _ _ _ _ _ _ _ _ _ _ _ _ _ _ _ _ _ _ _ _ _ _ _ _ _ _ _ _ _ _ _ _ _ _ _ _ _ _ _ _ _ _ _ _ _ _ _ _ _ _ _ _ _ _ _ _ _ _ _ _ _ _ _ _ _ _ _ _ _ _ _ _ _ _ _ _ _ _ _ _ _ _ _ _ _ ?_
                intro x13 x110 x111 x112 x113 x114 x115 x116 x117 x118 x119 wc hx
                dsimp only
                clear hD0 y0 x0
                obtain ⟨A, rfl, hA, bA, chR, rR⟩ := hx
                have hm := List.mem_of_getElem? (unhide hpiH)
                have F1 := unhide F1H
                have hp := unhide hpH
                have hp' := F1.ok p hm
                have nv : ¬ own p.x p.a p.b v1 := fun h => F1.dv p hm (.inl h)
                have ng : ¬ own p.x p.a p.b gM := fun h => F1.dm p hm gM (by rw [eM]; rfl) (.inl h)
                have no : ¬ own p.x p.a p.b O := fun h => o5 p hm (.inl h)
                have bv := F1.blk
                rw [eX', eM] at bv
                have bv2 := chR.blk bv nv
                have bo2 := chR.blk bo1 no
                have m1 := Chg.cell chR m0 ng
                have mm1 := hp.m.of_chg chR (fun k hk h => hp.d k hk h)
                have hM := fun V (q : Quiet wc V) => dom_any V p.m p.c p.s (mm1.quiet q) hp.i ⟨k, i, b, c, S, T⟩
                rw [unhide hXH, unhide hsH] at hM
                unfold ptr opv ansv at hM
                simp only at hM
                have hSm0 : ∀ k, ownM p.m p.c k → k < wd.heap.size := fun k hk => hp.lt (.inr hk)
                have hSm : Hid (∀ k, ownM p.m p.c k → k < wc.heap.size) := by
                  intro k hk
                  exact Nat.lt_of_lt_of_le (hSm0 k hk) chR.size
                have nA : ¬ ownM p.m p.c A := fun h => by have := hSm0 A h; omega
                have nv' : ¬ ownM p.m p.c v1 := fun h => F1.dv p hm (.inr h)
                have no' : ¬ ownM p.m p.c O := fun h => o5 p hm (.inr h)
                have ng' : ¬ ownM p.m p.c gM := fun h => F1.dm p hm gM (by rw [eM]; rfl) (.inr h)
                have v1c := bv2.cell 1
                simp at v1c
                have later : Hid (∀ wy, Chg (ownM p.m p.c) wc wy → RepM wy p.m p.c (modelOf s') → Fr w.heap.size wy v1 vX (pxs L) vM (pms L) vW nW (L.set i { p with s := s' }) ∧ Chg (fun k => w.heap.size ≤ k) w wy ∧ Blk wy A 65 [.int .i64 X.e, .int .i64 X.n, .int .i64 X.m, .string X.s] ∧ Blk wy O 44 [.int .i64 k, .int .i64 i, .int .i64 b, .int .i64 c, .string S, .string T] ∧ Blk wy v1 63 [.slice (some ⟨gX, 0, none⟩) N capX', .slice (some ⟨gM, 0, none⟩) N capM, vW]) := by
                  intro wy hy my
                  obtain ⟨z1, z2⟩ := both_played F1 i p (unhide hpiH) s' (unhide hinvH) chR rR hy my
                  exact ⟨z1, hch1.trans (z2.mono (fun k _ h => F1.lp p hm k h)), hy.blk bA nA, hy.blk bo2 no', hy.blk bv2 nv'⟩
                have hMH := hide (And.intro hM (And.intro (unhide hSm) (And.intro nv' (And.intro ng' no'))))
                clear F1 hp hp' bv bv2 mm1 hM hSm0 hSm nv ng no nv' no' ng' nA hch1 bA rR hm F1H m0 bo1
                have hAH := hide hA
                clear hA chR
                go_upto_region 23 with fail
                refine wp_of_blind ?_
                refine walk_r23 wc O v1 gM capM N i (unhide hiNH) p s' X k b c S T v1c m1 bo2 (unhide hMH).2.2.1 (unhide hMH).2.2.2.1 (unhide hMH).2.2.2.2 (unhide hMH).2.1 (unhide hMH).1 _ _ _ _ _ _ _ _ _ _ _ _ _ _ _ _ _ _ _ _ _ _ _ _ _ _ _ _ _ _ _ _ _ _ _ _ _ _ _ _ _ _ _ _ _ _ _ _ _ _ _ _ _ _ _ _ _ _ _ _ _ _ _ _ _ _ _ _ _ _ _ _ _ _ _ _ _ _ _ _ _ _ _ _ _ _ _ _ _ _ _ _ _ _ _ _ _ _ _ _ _ _ _ _ _ _ _ _ _ _ _ _ _ _ _ _ _ _ _ _ _ _ _ _ _ _ _ _ _ _ _ _ _ _ _ _ _ _ _ _ _ _ _ _ _ _ _ _ _ _ _ _ _ _ _ _ _ _ _ _ _ _ _ _ _ _ _ _ ?_
                intro x14 x120 x121 x122 x123 x124 x125 x126 x127 x128 x129 wy hx
                dsimp only
                clear hMH v1c m1 bo2
                obtain ⟨A2, rfl, hA2, bA2, chM, rM⟩ := hx
                obtain ⟨F2, hch2, bA', bo3, bv3⟩ := unhide later _ chM rM
                clear later chM rM hA2 hAH
                obtain ⟨e1, e2⟩ := pxs_set (unhide hpiH) s'
                rw [← e1, ← e2] at F2
                have hLs : (L.set i { p with s := s' }).length = N := by rw [List.length_set, unhide hNH]
                clear e1 e2
                generalize L.set i { p with s := s' } = L' at *
                have hL4' : L'.length ≤ 4 := by rw [hLs]; exact hL4
                have hrun : Run w (ptr v1) wy := ⟨v1, L', rfl, ⟨vX, vM, vW, nW, F2⟩, hL4', hch2⟩
                have hrunH := hide hrun
                have a0 := bA'.cell 0
                have a1 := bA'.cell 1
                have a2 := bA'.cell 2
                have a3 := bA'.cell 3
                have b0 := bA2.cell 0
                have b1 := bA2.cell 1
                have b2 := bA2.cell 2
                have b3 := bA2.cell 3
                simp at a0 a1 a2 a3 b0 b1 b2 b3
                have hF2H := hide F2
                have hch2H := hide hch2
                have hL4H := hide hL4'
                clear hrun hpiH hinvH hsH hXH hpH hLs hL4' hch2
                obtain ⟨Xe, Xn, Xm, Xs⟩ := X
                simp only at a0 a1 a2 a3 b0 b1 b2 b3 bA'
                by_cases hE : Xe = 0
                · subst hE
                  clear a0 a2 a3 b0 b1 b2 b3
                  have a0 := bA'.cell 0
                  have a2 := bA'.cell 2
                  have a3 := bA'.cell 3
                  have b0 := bA2.cell 0
                  have b1 := bA2.cell 1
                  have b2 := bA2.cell 2
                  have b3 := bA2.cell 3
                  simp at a0 a2 a3 b0 b1 b2 b3
                  go_upto_region 27 with fail
                  clear a0 a2 a3 b0 b1 b2 b3
                  refine wp_of_blind ?_
                  refine walk_r27 w wy O v1 A gX capX' N i L' vX vM vW nW eX' F2 (unhide hL4H) hL4 (unhide hch2H) k b c Xn S T bo3 a1 _ _ _ _ _ _ _ _ _ _ _ _ _ _ _ _ _ _ _ _ _ _ _ _ _ _ _ _ _ _ _ _ _ _ _ _ _ _ _ _ _ _ _ _ _ _ _ _ _ _ _ _ _ _ _ _ _ _ _ _ _ _ _ _ _ _ _ _ _ _ _ _ _ _ _ _ _ _ _ _ _ _ _ _ _ _ _ _ _ _ _ _ _ _ _ _ _ _ _ _ _ _ _ _ _ _ _ _ _ _ _ _ _ _ _ _ _ _ _ _ _ _ _ _ _ _ _ _ _ _ _ _ _ _ _ _ _ _ _ _ _ _ _ _ _ _ _ _ _ _ _ _ _ _ _ _ _ _ _ _ _ _ _ _ _ _ _ ?_
                  intro x138 x139 x140 x141 x142 x143 x144 x145 x146 x147 x148 x149 x150 x151 x152 x153 wz hx
                  dsimp only
                  have hrunZ := hide hx
                  clear hx hrunH hF2H hch2H hL4H a1 F2 bv3 bo3 bA' bA2 hL4 eX' eM
                  have hm9 := unhide hmaxH
                  have hj9 : (0 : Int) ≤ (j : Int) := by omega
                  have hrX := hide (unhide hrunZ)
                  cases quiet with
                  | true =>
                    go_wp2
                    go_roundg (len - (j + 1))
                    case measure => have := unhide hgH; have := unhide hltH; omega
                    case rel => exact ⟨j + 1, unhide hltH, rfl, by go_num, unhide hrX⟩
                  | false =>
                    obtain ⟨v9, L9, hv9, hwd9, hL9, _⟩ := unhide hrX
                    obtain rfl : v9 = v1 := by
                      have h := hv9
                      unfold ptr at h
                      cases h; rfl
                    have hs9 := seen_any _ _ _ _ hwd9 hL9
                    unfold ptr at hs9
                    clear hv9 hwd9
                    go_wp2_with fail
                    refine hs9.mono ?_
                    rintro e w9 ⟨rfl, q9⟩
                    clear hs9
                    have hrY := hide ((unhide hrX).quiet q9)
                    go_wp2
                    go_roundg (len - (j + 1))
                    case measure => have := unhide hgH; have := unhide hltH; omega
                    case rel => exact ⟨j + 1, unhide hltH, rfl, by go_num, unhide hrY⟩
                · have hE2 : (Xe == 0) = false := by simpa using hE
                  clear hE
                  have hm9 := unhide hmaxH
                  have hj9 : (0 : Int) ≤ (j : Int) := by omega
                  have hrX := hide (unhide hrunH)
                  cases quiet with
                  | true =>
                    go_wp2
                    go_roundg (len - (j + 1))
                    case measure => have := unhide hgH; have := unhide hltH; omega
                    case rel => exact ⟨j + 1, unhide hltH, rfl, by go_num, unhide hrX⟩
                  | false =>
                    obtain ⟨v9, L9, hv9, hwd9, hL9, _⟩ := unhide hrX
                    obtain rfl : v9 = v1 := by
                      have h := hv9
                      unfold ptr at h
                      cases h; rfl
                    have hs9 := seen_any _ _ _ _ hwd9 hL9
                    unfold ptr at hs9
                    clear hv9 hwd9
                    go_wp2_with fail
                    refine hs9.mono ?_
                    rintro e w9 ⟨rfl, q9⟩
                    clear hs9
                    have hrY := hide ((unhide hrX).quiet q9)
                    go_wp2
                    go_roundg (len - (j + 1))
                    case measure => have := unhide hgH; have := unhide hltH; omega
                    case rel => exact ⟨j + 1, unhide hltH, rfl, by go_num, unhide hrY⟩
              · have hin' : a < 0 ∨ (0 ≤ a ∧ (N : Int) ≤ a) := by omega
                clear hin
                rcases hin' with h | ⟨h, h2⟩
                · have d1 : decide ((0 : Int) ≤ a) = false := by simp; omega
                  go_big_quiet (fail)
                  have hm9 := unhide hmaxH
                  have hj9 : (0 : Int) ≤ (j : Int) := by omega
                  have hrX := hide ((unhide hrunH).quiet ((Chg.refl _ wc).drewN nq))
                  cases quiet with
                  | true =>
                    go_wp2
                    go_roundg (len - (j + 1))
                    case measure => have := unhide hgH; have := unhide hltH; omega
                    case rel => exact ⟨j + 1, unhide hltH, rfl, by go_num, unhide hrX⟩
                  | false =>
                    obtain ⟨v9, L9, hv9, hwd9, hL9, _⟩ := unhide hrX
                    obtain rfl : v9 = v1 := by
                      have h := hv9
                      unfold ptr at h
                      cases h; rfl
                    have hs9 := seen_any _ _ _ _ hwd9 hL9
                    unfold ptr at hs9
                    clear hv9 hwd9
                    go_wp2_with fail
                    refine hs9.mono ?_
                    rintro e w9 ⟨rfl, q9⟩
                    clear hs9
                    have hrY := hide ((unhide hrX).quiet q9)
                    go_wp2
                    go_roundg (len - (j + 1))
                    case measure => have := unhide hgH; have := unhide hltH; omega
                    case rel => exact ⟨j + 1, unhide hltH, rfl, by go_num, unhide hrY⟩
                · have d1 : decide ((0 : Int) ≤ a) = true := by simp; omega
                  have d2 : decide (a < (N : Int)) = false := by simp; omega
                  go_big_quiet (fail)
                  have hm9 := unhide hmaxH
                  have hj9 : (0 : Int) ≤ (j : Int) := by omega
                  have hrX := hide ((unhide hrunH).quiet ((Chg.refl _ wc).drewN nq))
                  cases quiet with
                  | true =>
                    go_wp2
                    go_roundg (len - (j + 1))
                    case measure => have := unhide hgH; have := unhide hltH; omega
                    case rel => exact ⟨j + 1, unhide hltH, rfl, by go_num, unhide hrX⟩
                  | false =>
                    obtain ⟨v9, L9, hv9, hwd9, hL9, _⟩ := unhide hrX
                    obtain rfl : v9 = v1 := by
                      have h := hv9
                      unfold ptr at h
                      cases h; rfl
                    have hs9 := seen_any _ _ _ _ hwd9 hL9
                    unfold ptr at hs9
                    clear hv9 hwd9
                    go_wp2_with fail
                    refine hs9.mono ?_
                    rintro e w9 ⟨rfl, q9⟩
                    clear hs9
                    have hrY := hide ((unhide hrX).quiet q9)
                    go_wp2
                    go_roundg (len - (j + 1))
                    case measure => have := unhide hgH; have := unhide hltH; omega
                    case rel => exact ⟨j + 1, unhide hltH, rfl, by go_num, unhide hrY⟩
        · have g1 : decide (j < len) = true := by simpa using hlt
          have g2 : ¬ (j : Int) < 4398046511104 := hmax
          have g3 : ¬ (len : Int) < 4398046511104 := by omega
          clear hmax
          unfold ptr
          go_wp2
          go_ret2
          exact ⟨⟨_, rfl⟩, unhide hbelH⟩
      · have g1 : decide (j < len) = false := by simpa using hlt
        have g2 : ¬ (j : Int) < (len : Int) := by omega
        unfold ptr
        by_cases g3 : (len : Int) < 4398046511104
        · go_wp2
          go_ret2
          exact ⟨⟨_, rfl⟩, unhide hbelH⟩
        · go_wp2
          go_ret2
          exact ⟨⟨_, rfl⟩, unhide hbelH⟩
end Go.Proofs.Qxb6500367a
