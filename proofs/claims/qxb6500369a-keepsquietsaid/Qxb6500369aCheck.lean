/-
  The real ring: Check.
-/
import Derived.Test.Qxb6500369aSound
import Derived.Test.Qxb6500369aJoin
namespace Go.Proofs.Qxb6500369a
open Go.RowKit Go.Qx
set_option linter.unusedSimpArgs false
set_option linter.unusedVariables false

set_option maxRecDepth 100000 in
set_option maxHeartbeats 4000000 in
theorem check_any (w : World) (x a b : Nat) (mode : Int) (ns : List N5) (ord : List Int) (r : Rep w x a b mode ns ord) (ho : OrdOK ns ord) (hmo : mode = -1 ∨ mode = 0 ∨ mode = 1) (hok : ∀ c ∈ ns, Ok5 mode c) :
    Calls Try.prog 34 #[ptr x] w fun e w' => e = .returned (.bool true) ∧ Quiet w w' := by
  have h8 := r.n8
  have c0 := r.blk.cell 0
  have c1 := r.blk.cell 1
  have c2 := r.blk.cell 2
  have c3 := r.blk.cell 3
  simp at c0 c1 c2 c3
  have m1 : ¬ mode < -1 := by omega
  have m2 : ¬ 1 < mode := by omega
  have n0 : ¬ (ns.length : Int) < 0 := by omega
  have n1 : ¬ (8 : Int) < (ns.length : Int) := by omega
  have hcb : Hid (Blk w a 80 (flat rc (ns ++ List.replicate (8 - ns.length) z5) ++ [])) := by
    have := r.cb
    rw [← flat_append] at this
    rw [List.append_nil]; exact this
  have hob := hide r.ob
  unfold ptr
  have hmoH := hide hmo
  have rH := hide r
  clear hmo r
  go_enter Try.func34, Try.ntmps34
  go_wp2
  go_loopw [3] (fun i wr => ∃ j : Nat, ns.length ≤ j ∧ j ≤ 8 ∧ i = .int .i64 j ∧ wr = w) (fun i _ => 9 - (intOf i).toNat)
  case atStart => exact ⟨ns.length, Nat.le_refl _, h8, rfl, rfl⟩
  case round =>
    obtain ⟨j, hj1, hj2, rfl, rfl⟩ := hrel
    have w0 := wr
    clear w0
    by_cases hlt : j < 8
    · have k0 : (0 : Int) ≤ (j : Int) := by omega
      have k1 : (j : Int) < 8 := by omega
      have hget : (ns ++ List.replicate (8 - ns.length) z5)[j]? = some z5 := by
        rw [List.getElem?_append_right hj1, List.getElem?_replicate, if_pos (by omega)]
      obtain ⟨a0, a1, a2, a3⟩ := cellR_of (unhide hcb) hget
      have bj := (unhide hob).cell j
      rw [mapInt_get ord j (by rw [ho.len]; exact hlt), ho.tail j hj1] at bj
      have a3' : wr.cell? ⟨a, j * 4 + 3, none⟩ = some (.int .u8 0) := a3
      simp only [z5] at a0 a1 a2
      clear a3 hget
      go_wp2
      go_roundw
      case rel => first | exact ⟨j + 1, by omega, by omega, by go_num, rfl⟩ | exact ⟨j + 1, by omega, by omega, by go_num, trivial⟩ | exact ⟨j + 1, by omega, by omega, by go_num⟩
      case measure => simp [intOf]; omega
    · have k1 : ¬ (j : Int) < 8 := by omega
      clear hj1 hj2 m1 m2 n0 n1
      go_wp2
      go_loopw [80] (fun i w2 => ∃ k : Nat, k ≤ ns.length ∧ i = .int .i64 k ∧ Quiet wr w2) (fun i _ => 9 - (intOf i).toNat)
      case atStart => exact ⟨0, Nat.zero_le _, rfl, Chg.refl _ _⟩
      case round =>
        obtain ⟨k, hk, rfl, q⟩ := hrel
        clear k1 hlt
        have r2 := (unhide rH).quiet q
        clear c0 c1 c2 c3
        have x0 := r2.blk.cell 0
        have x1 := r2.blk.cell 1
        have x2 := r2.blk.cell 2
        have x3 := r2.blk.cell 3
        simp at x0 x1 x2 x3
        have qH := hide q
        have bc := q.blk (unhide hcb)
        have bo := q.blk (unhide hob)
        clear r2 q
        by_cases hlt : k < ns.length
        · have k0 : (0 : Int) ≤ (k : Int) := by omega
          have k1 : (k : Int) < (ns.length : Int) := by omega
          have k2 : (k : Int) < 8 := by omega
          have bk := bo.cell k
          rw [mapInt_get ord k (by rw [ho.len]; omega)] at bk
          obtain ⟨r0, r1⟩ := ho.rng k hlt
          obtain ⟨p, c, hp, hpl, hc, hid⟩ := idAt_of r0 r1 (List.replicate (8 - ns.length) z5)
          obtain ⟨p0, _⟩ := cellR_of bc hc
          obtain ⟨d0, d1, d2, d3⟩ := cellR_of bc (c := ns[k]) (i := k) (by rw [List.getElem?_append_left hlt, List.getElem?_eq_getElem hlt])
          have hsnd := fun V => sound_any V ns[k] mode (unhide hmoH) (hok _ (List.getElem_mem hlt))
          unfold rcV at hsnd
          have hinc := fun i (h : i < k) => ho.inc i k h hlt
          rw [hid] at hinc
          rw [hp] at bk
          generalize ns[k] = d at *
          have p1 : ¬ (p : Int) < 0 := by omega
          have p2 : ¬ (ns.length : Int) ≤ (p : Int) := by omega
          have p3 : (p : Int) < 8 := by omega
          have p4 : (0 : Int) ≤ (p : Int) := by omega
          have p5 : decide ((p : Int) < 0) = false := decide_eq_false p1
          have p6 : decide ((ns.length : Int) ≤ (p : Int)) = false := decide_eq_false p2
          have p7 : decide (ns.length ≤ p) = false := decide_eq_false (by omega)
          have p8 : ¬ ns.length ≤ p := by omega
          clear r0 r1 hp hpl hc hid
          go_wp2
          go_region_held3 (fun w' => w'.cell? ⟨x, 0, none⟩ = some (.int .i64 mode) ∧ w'.cell? ⟨x, 1, none⟩ = some (.int .i64 ns.length) ∧ w'.cell? ⟨x, 2, none⟩ = some (.slice (some ⟨a, 0, none⟩) 8 8) ∧ w'.cell? ⟨a, k * 4, none⟩ = some (.int .i64 d.id) ∧ w'.cell? ⟨a, k * 4 + 1, none⟩ = some (.int .i64 d.lead) ∧ w'.cell? ⟨a, k * 4 + 2, none⟩ = some (.int .i64 d.reach) ∧ w'.cell? ⟨a, k * 4 + 3, none⟩ = some (.int .u8 (d.st + 4 * d.got))) (first | exact ⟨Quiet.cell hq3 x0, Quiet.cell hq3 x1, Quiet.cell hq3 x2, Quiet.cell hq3 d0, Quiet.cell hq3 d1, Quiet.cell hq3 d2, Quiet.cell hq3 d3⟩ | go_keep) (first | (go_at_call 50; (with_reducible refine (hsnd _).mono ?_); rintro e w3 ⟨rfl, q3⟩; have hq3 : Quiet wr w3 := Quiet.trans ((Chg.refl _ _).drew) q3))
          rename_i hHeld
          clear hHeld
          have y2 := Quiet.cell hq3 x2
          have y3 := Quiet.cell hq3 x3
          have yp := Quiet.cell hq3 p0
          have yk := Quiet.cell hq3 bk
          have bc3 := hq3.blk bc
          have bo3 := hq3.blk bo
          have q3H := hide (Quiet.trans (unhide qH) hq3)
          clear x0 x1 x2 x3 p0 bk bc bo d0 d1 d2 d3 hq3 q3 hsnd qH p5 p6 p7 p8
          have hincH := hide hinc
          clear hinc
          by_cases hz : 0 < k
          · obtain ⟨k', rfl⟩ : ∃ k', k = k' + 1 := ⟨k - 1, by omega⟩
            have b1 := bo3.cell k'
            rw [mapInt_get ord k' (by rw [ho.len]; omega)] at b1
            obtain ⟨r0, r1⟩ := ho.rng k' (by omega)
            obtain ⟨p', c', hp', hpl', hc', hid'⟩ := idAt_of r0 r1 (List.replicate (8 - ns.length) z5)
            obtain ⟨e0, _⟩ := cellR_of bc3 hc'
            have hlt' := unhide hincH k' (by omega)
            rw [hid'] at hlt'
            rw [hp'] at b1
            have s1 : (0 : Int) ≤ (p' : Int) := by omega
            have s2 : (p' : Int) < 8 := by omega
            have s3 : ¬ c.id ≤ c'.id := by omega
            have s4 : decide (c.id ≤ c'.id) = false := decide_eq_false s3
            have kn : ((k' + 1 : Nat) : Int) = (k' : Int) + 1 := by omega
            clear r0 r1 hp' hpl' hc' hid' hincH bc3 bo3 hz
            rw [kn] at *
            have mw : IntKind.i64.wrap (k' : Int) = k' := by rw [IntKind.wrap_i64]; omega
            have mw1 : IntKind.i64.wrap ((k' : Int) + 1 - 1) = k' := by rw [IntKind.wrap_i64]; omega
            have t1 : (0 : Int) ≤ (k' : Int) := by omega
            have t2 : (k' : Int) < 8 := by omega
            have t3 : (0 : Int) < (k' : Int) + 1 := by omega
            have t4 : decide ((0 : Int) < (k' : Int) + 1) = true := decide_eq_true t3
            clear kn
            go_wp2
            go_big_quiet (fail)
            go_wp2
            go_roundw
            case rel => exact ⟨k' + 1 + 1, by omega, by go_num, Chg.drewN (unhide q3H) _⟩
            case measure => simp [intOf]; omega
          · obtain rfl : k = 0 := by omega
            clear hincH bc3 bo3 hz
            go_wp2
            go_big_quiet (fail)
            go_wp2
            go_roundw
            case rel => exact ⟨1, by omega, by go_num, Chg.drewN (unhide q3H) _⟩
            case measure => simp [intOf]
        · have k1 : ¬ (k : Int) < (ns.length : Int) := by omega
          go_wp2
          go_ret
          exact ⟨rfl, unhide qH⟩
end Go.Proofs.Qxb6500369a
