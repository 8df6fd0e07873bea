/-
  369 Keeps: settle.
-/
import Derived.Test.Qxb6500369aKActA
namespace Go.Proofs.Qxb6500369a
open Go.RowKit Go.Qx
set_option linter.unusedSimpArgs false
set_option linter.unusedVariables false

/-- The law's state within settle: the nodes of A are awake, r deliveries are done. -/
def SI (W wr : World) (x a b g : Nat) (mode : Int) (NN : Nat) (A : Nat → Prop) (r : Nat) (P : Gh → Prop) : Prop :=
  ∃ ns ord G O, KS W wr x a b g mode ns ord G O ∧ ns.length = NN ∧ (∀ i, i < NN → A i → (vf ns i).reach ≠ 0) ∧ r ≤ G.done ∧ P G

theorem SI.deliver {W w' : World} {x a b g : Nat} {mode : Int} {NN r l : Nat} (ns : List N5) (ord : List Int) (G : Gh) (hlen : ns.length = NN) (haw : ∀ i, i < NN → (vf ns i).reach ≠ 0) (hr : r ≤ G.done) (hP : r + 1 ≤ G.done ∨ ∃ p, p ∈ G.wire ∧ l ≤ p.1)
    (h : ∃ ns' G' O', KS W w' x a b g mode ns' ord G' O' ∧ DRel (l : Int) ns G ns' G') : SI W w' x a b g mode NN (fun _ => True) r (fun G => r + 1 ≤ G.done ∨ ∃ p, p ∈ G.wire ∧ l + 1 ≤ p.1) := by
  obtain ⟨ns', G', O', S, D⟩ := h
  refine ⟨ns', ord, G', O', S, by rw [D.len, hlen], fun i hi _ => D.awake i (by omega) (haw i hi), Nat.le_trans hr D.done, ?_⟩
  rcases hP with hP | ⟨p, hp, hl⟩
  · exact .inl (Nat.le_trans hP D.done)
  · by_cases e : p.1 = l
    · have := D.did ⟨p, hp, by rw [e]⟩
      exact .inl (by omega)
    · exact .inr ⟨p, D.kept p hp (fun h => e (by omega)), by omega⟩

theorem KI.link_lt {mode : Int} {ns : List N5} {G : Gh} (h : KI mode ns G) {p : Nat × Ms} (hp : p ∈ G.wire) : p.1 < 2 * ns.length := by
  obtain ⟨k, hk, e⟩ := List.getElem_of_mem hp
  exact (h.deliver k p.1 p.2 (by rw [List.getElem?_eq_getElem hk, e])).2.2.1

set_option maxHeartbeats 8000000 in
set_option maxRecDepth 100000 in
theorem settle_any (W w : World) (x a b g : Nat) (mode : Int) (ns : List N5) (ord : List Int) (G : Gh) (O : Nat → Prop) (S : KS W w x a b g mode ns ord G O) (hm : mode ≠ -1) :
    Calls Try.prog 16 #[ptr x, ptr g] w fun e w' => e = .returned (.tuple #[]) ∧ SI W w' x a b g mode ns.length (fun _ => True) 0 (fun G => G.wire = []) := by
  have hmd : mode = 0 ∨ mode = 1 := by
    rcases S.inv.mo with h | h | h
    · exact absurd h hm
    · exact .inl h
    · exact .inr h
  have h8 := S.law.n8
  obtain ⟨vi, vw, H, hO⟩ := S.gh
  obtain ⟨ai, ci, rfl⟩ := H.ri.shape
  have hn : G.ids.length = ns.length := by rw [S.law.ids]; simp
  have c0 : w.cell? ⟨g, 0, none⟩ = some (.slice ai ns.length ci) := by
    have := H.blk.cell 0
    rw [hn] at this
    simpa [gC] using this
  have S0 : SI W w x a b g mode ns.length (fun i => i < 0) 0 (fun _ => True) := ⟨ns, ord, G, O, S, rfl, fun i _ h => by omega, Nat.zero_le _, trivial⟩
  have S0H := hide S0
  have hmdH := hide hmd
  have hmH := hide hm
  clear S H hO S0 hn hmd hm
  generalize ns.length = NN at *
  unfold ptr
  go_enter Try.func16, Try.ntmps16
  go_wp2
  clear c0
  go_loopw [5] (fun i wr => ∃ k : Nat, k ≤ NN ∧ i = .int .i64 k ∧ SI W wr x a b g mode NN (fun i => i < k) 0 (fun _ => True)) (fun i _ => NN - (intOf i).toNat)
  case atStart => exact ⟨0, Nat.zero_le _, rfl, unhide S0H⟩
  case round =>
    clear S0H
    obtain ⟨k, hk, rfl, hS⟩ := hrel
    by_cases hlt : k < NN
    · have i1 : (k : Int) < (NN : Int) := by omega
      have hact : Hid (Calls Try.prog 14 #[.pointer (some ⟨x, 0, none⟩), .pointer (some ⟨g, 0, none⟩), .agg #[.int .i64 4, .int .i64 k, .int .i64 0, .int .i64 0, .string ⟨#[]⟩, .string ⟨#[]⟩]] wr fun e w' => e = .returned (.tuple #[]) ∧ SI W w' x a b g mode NN (fun i => i < k + 1) 0 (fun _ => True)) := by
        obtain ⟨ns1, ord1, G1, O1, S1, hl1, ha1, _, _⟩ := hS
        have h := act_any S1 4 (k : Int) 0 0 ⟨#[]⟩ ⟨#[]⟩ (.inr (.inr (.inr rfl))) (by unfold In64; omega)
        refine h.mono ?_
        rintro e w' ⟨rfl, ord', G', O', S', _⟩
        have hE : nextP mode ns1 ⟨0, 0, 0⟩ ⟨4, (k : Int), 0, 0, ⟨#[]⟩, ⟨#[]⟩⟩ = (mode, ns1.set k (machP mode (vf ns1 k) 0 ⟨4, 0, 0⟩).1) := by
          have : stepP mode ns1 (k : Int) 0 ⟨4, 0, 0⟩ = ((machP mode (vf ns1 k) 0 ⟨4, 0, 0⟩).2, 0, ns1.set k (machP mode (vf ns1 k) 0 ⟨4, 0, 0⟩).1) := by
            unfold stepP
            rw [if_neg (unhide hmH), if_neg (by omega), if_neg (by have := unhide hmdH; omega)]; rfl
          simp [nextP, this]
        rw [hE] at S'
        refine ⟨rfl, _, ord', G', O', S', by simp [hl1], ?_, Nat.zero_le _, trivial⟩
        intro i hi hik
        rw [vf_set (by omega)]
        by_cases e : i = k
        · rw [e, upV_at]; exact wake_awake mode (unhide hmdH) _ _
        · rw [upV_ne e]; exact ha1 i hi (by omega)
      have wk : IntKind.i64.wrap ((k : Int) + 1) = (k : Int) + 1 := by rw [IntKind.wrap_i64]; omega
      clear hS
      go_wp2_with fail
      refine (unhide hact).mono ?_
      rintro e w1 ⟨rfl, hS1⟩
      have hS1H := hide hS1
      clear hS1 hact
      go_wp2
      go_roundw
      case rel => exact ⟨k + 1, by omega, by go_num, unhide hS1H⟩
      case measure => simp [intOf]; omega
    · have i1 : ¬ (k : Int) < (NN : Int) := by omega
      have hkN : k = NN := by omega
      subst hkN
      have hS2 : Hid (SI W wr x a b g mode k (fun _ => True) 0 (fun _ => True)) := by
        obtain ⟨ns1, ord1, G1, O1, S1, hl1, ha1, h2, h3⟩ := hS
        exact ⟨ns1, ord1, G1, O1, S1, hl1, fun i hi _ => ha1 i hi hi, h2, h3⟩
      have hb := bound_any wr mode k h8
      have hbv := bound_val mode k h8
      have c7 : wr.cell? ⟨g, 7, none⟩ = some (.int .i64 mode) := by
        obtain ⟨ns1, ord1, G1, O1, S1, _⟩ := hS
        obtain ⟨vi, vw, H, _⟩ := S1.gh
        have := H.blk.cell 7
        rw [← S1.law.mo]
        simpa [gC] using this
      have hgl : g < wr.heap.size := by
        obtain ⟨ns1, ord1, G1, O1, S1, _⟩ := hS
        obtain ⟨vi, vw, H, _⟩ := S1.gh
        exact H.blk.lt
      clear hS
      go_wp2_with fail
      refine hb.mono ?_
      clear hb
      rintro e w1 ⟨rfl, rfl⟩
      obtain ⟨bb, hbb⟩ : ∃ n : Nat, boundP mode k = n := ⟨(boundP mode k).toNat, by omega⟩
      rw [hbb]
      have hbH := hide hbb
      have hb264 : bb ≤ 264 := by omega
      clear hbb hbv c7
      go_wp2
      go_loopw [7] (fun i wr => ∃ r : Nat, r ≤ bb ∧ i = .int .i64 r ∧ SI W wr x a b g mode k (fun _ => True) r (fun _ => True)) (fun i _ => bb - (intOf i).toNat)
      case atStart => exact ⟨0, Nat.zero_le _, rfl, unhide hS2⟩
      case round =>
        clear hS2
        obtain ⟨r, hr, rfl, hS⟩ := hrel
        obtain ⟨ns1, ord1, G1, O1, S1, hl1, ha1, hd1, _⟩ := hS
        obtain ⟨vi, vw, H, hO⟩ := S1.gh
        obtain ⟨aw, cw, rfl⟩ := H.rw.shape
        have c1 : wr.cell? ⟨g, 1, none⟩ = some (.slice aw G1.wire.length cw) := by
          have := H.blk.cell 1
          simpa [gC] using this
        have y10 : wr.cell? ⟨g, 10, none⟩ = some (.bool true) := by
          have := H.blk.cell 10
          simpa [gC] using this
        have hgl1 := H.blk.lt
        by_cases hw : G1.wire = []
        · have hw0 : G1.wire.length = 0 := by rw [hw]; rfl
          rw [hw0] at c1
          have fin : Hid (SI W wr x a b g mode k (fun _ => True) 0 (fun G => G.wire = [])) := ⟨ns1, ord1, G1, O1, S1, hl1, ha1, Nat.zero_le _, hw⟩
          clear S1 H hO ha1 hd1 hl1 hw hw0
          by_cases hrb : r < bb
          · have i3 : (r : Int) < (bb : Int) := by omega
            go_wp2
            go_end0
            exact ⟨rfl, unhide fin⟩
          · have i3 : ¬ (r : Int) < (bb : Int) := by omega
            go_wp2
            go_end0
            exact ⟨rfl, unhide fin⟩
        · by_cases hrb : r < bb
          · have i3 : (r : Int) < (bb : Int) := by omega
            have hpos : 0 < G1.wire.length := List.length_pos_iff.2 hw
            have i4 : (0 : Int) < (G1.wire.length : Int) := by omega
            have hS3 : Hid (SI W wr x a b g mode k (fun _ => True) r (fun G => r + 1 ≤ G.done ∨ ∃ p, p ∈ G.wire ∧ 0 ≤ p.1)) := by
              obtain ⟨p, hp⟩ := List.exists_mem_of_ne_nil _ hw
              exact ⟨ns1, ord1, G1, O1, S1, hl1, ha1, hd1, .inr ⟨p, hp, Nat.zero_le _⟩⟩
            have w2k : IntKind.i64.wrap (2 * (k : Int)) = 2 * (k : Int) := by rw [IntKind.wrap_i64]; omega
            generalize G1.wire.length = NW at *
            clear S1 H hO ha1 hd1 hl1 hw
            go_wp2
            go_loopw [8] (fun i wr => ∃ l : Nat, l ≤ 2 * k ∧ i = .int .i64 l ∧ SI W wr x a b g mode k (fun _ => True) r (fun G => r + 1 ≤ G.done ∨ ∃ p, p ∈ G.wire ∧ l ≤ p.1)) (fun i _ => 2 * k - (intOf i).toNat)
            case atStart => exact ⟨0, Nat.zero_le _, rfl, unhide hS3⟩
            case round =>
              clear hS3 c1 y10
              obtain ⟨l, hl, rfl, hS⟩ := hrel
              by_cases hll : l < 2 * k
              · have i5 : (l : Int) < 2 * (k : Int) := by omega
                have hdel : Hid (Calls Try.prog 15 #[.pointer (some ⟨x, 0, none⟩), .pointer (some ⟨g, 0, none⟩), .int .i64 l] wr fun e w' => e = .returned (.tuple #[]) ∧ SI W w' x a b g mode k (fun _ => True) r (fun G => r + 1 ≤ G.done ∨ ∃ p, p ∈ G.wire ∧ l + 1 ≤ p.1)) := by
                  obtain ⟨ns2, ord2, G2, O2, S2, hl2, ha2, hd2, hp2⟩ := hS
                  refine (deliver_any W wr x a b g mode ns2 ord2 G2 O2 S2 (l : Int)).mono ?_
                  rintro e w' ⟨rfl, h⟩
                  exact ⟨rfl, SI.deliver ns2 ord2 G2 hl2 (fun i hi => ha2 i hi trivial) hd2 hp2 h⟩
                have wl : IntKind.i64.wrap ((l : Int) + 1) = (l : Int) + 1 := by rw [IntKind.wrap_i64]; omega
                clear hS
                go_wp2_with fail
                refine (unhide hdel).mono ?_
                rintro e w2 ⟨rfl, hS2⟩
                have hS2H := hide hS2
                clear hS2 hdel
                go_wp2
                go_roundw
                case rel => exact ⟨l + 1, by omega, by go_num, unhide hS2H⟩
                case measure => simp [intOf]; omega
              · have i5 : ¬ (l : Int) < 2 * (k : Int) := by omega
                have hS4 : Hid (SI W wr x a b g mode k (fun _ => True) (r + 1) (fun _ => True)) := by
                  obtain ⟨ns2, ord2, G2, O2, S2, hl2, ha2, hd2, hp2⟩ := hS
                  refine ⟨ns2, ord2, G2, O2, S2, hl2, ha2, ?_, trivial⟩
                  rcases hp2 with h | ⟨p, hp, hlp⟩
                  · exact h
                  · have := S2.law.link_lt hp
                    omega
                have wr1 : IntKind.i64.wrap ((r : Int) + 1) = (r : Int) + 1 := by rw [IntKind.wrap_i64]; omega
                clear hS
                go_wp2
                go_roundw
                case rel => exact ⟨r + 1, by omega, by go_num, unhide hS4⟩
                case measure => simp [intOf]; omega
          · exfalso
            have C := S1.law.cnt
            have h1 := C.done
            have h2 := C.b
            rw [hl1, unhide hbH] at h2
            have : G1.wire.length = 0 := by omega
            exact hw (List.length_eq_zero_iff.1 this)
end Go.Proofs.Qxb6500369a
