/-
  The real ring: Step.
-/
import Derived.Test.Qxb6500369aHS
namespace Go.Proofs.Qxb6500369a
open Go.RowKit Go.Qx
set_option linter.unusedSimpArgs false
set_option linter.unusedVariables false

/-- Step's answer and the nodes behind it. -/
def stepP (mode : Int) (ns : List N5) (i dir : Int) (m : Ms) : Ou × Int × List N5 :=
  if mode = -1 then (o0, 1, ns)
  else if i < 0 ∨ (ns.length : Int) ≤ i then (o0, 5, ns)
  else if dir < 0 ∨ mode < dir then (o0, 6, ns)
  else ((machP mode (ns.getD i.toNat z5) dir m).2, 0, ns.set i.toNat (machP mode (ns.getD i.toNat z5) dir m).1)

def stepPost (w : World) (x a b : Nat) (mode : Int) (ord : List Int) (R : Ou × Int × List N5) (e : Ending) (w' : World) : Prop :=
  e = .returned (.tuple #[ouV R.1, .int .i64 R.2.1]) ∧ Chg (own x a b) w w' ∧ Rep w' x a b mode R.2.2 ord

theorem boxed_tuple {w V : World} {m : Ms} (hbx : Boxed w V m) (o : Ou) : Blk (six V (w.heap.size + 1) o) (w.heap.size + 1) 57 (ouC o) := six_blk hbx.r o

theorem Rep.turned {w w' : World} {x a b : Nat} {mode : Int} {ns : List N5} {ord : List Int} (r : Rep w x a b mode ns ord) (c : Chg (fun k => k = a) w w') (ns' : List N5) (hl : ns'.length = ns.length) (hb : Blk w' a 80 (flat rc ns' ++ flat rc (List.replicate (8 - ns.length) ⟨0, 0, 0, 0, 0⟩))) : Rep w' x a b mode ns' ord := by
  refine ⟨?_, ?_, c.blk r.ob (Ne.symm r.ab), r.xa, r.xb, r.ab, ?_, r.ol⟩
  · rw [hl]; exact c.blk r.blk r.xa
  · rw [hl]; exact hb
  · rw [hl]; exact r.n8

set_option maxRecDepth 100000 in
set_option maxHeartbeats 2000000 in
theorem step_bad (w : World) (x a b : Nat) (mode : Int) (ns : List N5) (ord : List Int) (r : Rep w x a b mode ns ord) (i dir : Int) (m : Ms) (E : Int)
    (h : (mode = -1 ∧ E = 1) ∨ (mode ≠ -1 ∧ (i < 0 ∨ (ns.length : Int) ≤ i) ∧ E = 5) ∨ (mode ≠ -1 ∧ 0 ≤ i ∧ i < (ns.length : Int) ∧ (dir < 0 ∨ mode < dir) ∧ E = 6)) :
    Calls Try.prog 25 #[ptr x, .int .i64 i, .int .i64 dir, msV m] w (stepPost w x a b mode ord (o0, E, ns)) := by
  have hbx := boxed w m
  have hxl := r.blk.lt
  have c0 := r.blk.cell 0
  have c1 := r.blk.cell 1
  simp at c0 c1
  have fin : Hid (∀ V, Boxed w V m → Chg (own x a b) w (six V (w.heap.size + 1) o0) ∧ Rep (six V (w.heap.size + 1) o0) x a b mode ns ord) := by
    intro V hV
    have h1 : Quiet w (six V (w.heap.size + 1) o0) := hV.q.trans' (six_chg V _ o0) (fun k hk e => by omega)
    exact ⟨h1.chg _, r.quiet h1⟩
  unfold ptr msV
  obtain ⟨mk, mi, mh⟩ := m
  simp only at hbx ⊢
  rcases h with ⟨rfl, rfl⟩ | ⟨h1, h2, rfl⟩ | ⟨h1, h2, h3, h4, rfl⟩
  · go_enter Try.func25, Try.ntmps25
    go_wp2
    refine bodyPost_ret (v := .tuple #[ouV o0, .int .i64 1]) (by simp [results, Try.results25, go_sem, ouV, o0, m0]) rfl ⟨rfl, ?_, ?_⟩
    · exact hbx.q.chg _
    · exact r.quiet hbx.q
  · have b1 : (mode == -1) = false := by simpa using h1
    have h2' : i < 0 ∨ (0 ≤ i ∧ (ns.length : Int) ≤ i) := by omega
    clear h1 h2
    rcases h2' with h | ⟨h, h3⟩
    all_goals
      go_enter Try.func25, Try.ntmps25
      go_wp2
      refine bodyPost_ret (v := .tuple #[ouV o0, .int .i64 5]) (by simp [results, Try.results25, go_sem, ouV, o0, m0]) rfl ⟨rfl, ?_, ?_⟩
      · exact hbx.q.chg _
      · exact r.quiet hbx.q
  · have b1 : (mode == -1) = false := by simpa using h1
    have h4' : dir < 0 ∨ (0 ≤ dir ∧ mode < dir) := by omega
    clear h1 h4
    rcases h4' with h | ⟨h, h5⟩
    all_goals
      go_enter Try.func25, Try.ntmps25
      go_wp2
      refine bodyPost_ret (v := .tuple #[ouV o0, .int .i64 6]) (by simp [results, Try.results25, go_sem, ouV, o0, m0]) rfl ⟨rfl, ?_, ?_⟩
      · exact hbx.q.chg _
      · exact r.quiet hbx.q

set_option maxRecDepth 100000 in
set_option maxHeartbeats 2000000 in
theorem step_cr (w : World) (x a b : Nat) (ns : List N5) (ord : List Int) (r : Rep w x a b 0 ns ord) (j : Nat) (c : N5) (hj : ns[j]? = some c) (hf : Flags c) (hgot : c.got = 0 ∨ c.got = 1) (hre : c.reach = 0 ∨ c.reach = 1 ∨ c.reach = 2 ∨ c.reach = 4 ∨ c.reach = 8) (dir : Int) (hd : dir = 0) (m : Ms) (hhop : m.hop ≤ 9223372036854775807) :
    Calls Try.prog 25 #[ptr x, .int .i64 j, .int .i64 dir, msV m] w (stepPost w x a b 0 ord ((machP 0 c dir m).2, 0, ns.set j (machP 0 c dir m).1)) := by
  have hbx := boxed w m
  have hxl := r.blk.lt
  have hal := r.cb.lt
  have h8 := r.n8
  have hjl := (List.getElem?_eq_some_iff.1 hj).1
  have c0 := r.blk.cell 0
  have c1 := r.blk.cell 1
  simp at c0 c1
  have i1 : (0 : Int) ≤ (j : Int) := by omega
  have i2 : (j : Int) < (ns.length : Int) := by omega
  have i3 : (j : Int) < 8 := by omega
  have hmach : machP 0 c dir m = crP c m := rfl
  rw [hmach]
  unfold ptr msV
  obtain ⟨mk, mi, mh⟩ := m
  simp only at hbx hhop ⊢
  subst hd
  go_enter Try.func25, Try.ntmps25
  go_upto_region 9 with fail
  generalize (w.alloc (.cells #[.int .i64 mk, .int .i64 mi, .int .i64 mh] 55)).alloc (.cells #[.int .i64 0, .int .i64 0, .int .i64 0, .int .i64 0, .int .i64 0, .int .i64 0] 57) = V at *
  have rV := r.quiet hbx.q
  have hcr := stepCR_any V.drew a ns j _ c hj rV.cb.drew hf ⟨mk, mi, mh⟩
  unfold msV machPost at hcr
  simp only at hcr
  have x2 := rV.blk.cell 2
  have m0c := hbx.m.cell 0
  have m1 := hbx.m.cell 1
  have m2 := hbx.m.cell 2
  simp [msC] at m0c m1 m2 x2
  have nxa := r.xa
  have nMa : w.heap.size ≠ a := by omega
  have nRa : w.heap.size + 1 ≠ a := by omega
  have hkeep : Hid (∀ V', Chg (fun k => k = a) V.drew V' → V'.cell? ⟨x, 2, none⟩ = some (.slice (some ⟨a, 0, none⟩) 8 8) ∧ V'.cell? ⟨w.heap.size, 0, none⟩ = some (.int .i64 mk) ∧ V'.cell? ⟨w.heap.size, 1, none⟩ = some (.int .i64 mi) ∧ V'.cell? ⟨w.heap.size, 2, none⟩ = some (.int .i64 mh)) := by
    intro V' hV
    exact ⟨Chg.cell hV x2 nxa, Chg.cell hV m0c nMa, Chg.cell hV m1 nMa, Chg.cell hV m2 nMa⟩
  have hkeep2 : Hid (∀ V' o, Chg (fun k => k = a) V.drew V' → (six V' (w.heap.size + 1) o).cell? ⟨x, 2, none⟩ = some (.slice (some ⟨a, 0, none⟩) 8 8) ∧ (six V' (w.heap.size + 1) o).cell? ⟨w.heap.size, 0, none⟩ = some (.int .i64 mk) ∧ (six V' (w.heap.size + 1) o).cell? ⟨w.heap.size, 1, none⟩ = some (.int .i64 mi) ∧ (six V' (w.heap.size + 1) o).cell? ⟨w.heap.size, 2, none⟩ = some (.int .i64 mh)) := by
    intro V' o hV
    obtain ⟨q1, q2, q3, q4⟩ := unhide hkeep V' hV
    have hs := six_chg V' (w.heap.size + 1) o
    exact ⟨Chg.cell hs q1 (by show ¬ x = _; omega), Chg.cell hs q2 (by show ¬ w.heap.size = _; omega), Chg.cell hs q3 (by show ¬ w.heap.size = _; omega), Chg.cell hs q4 (by show ¬ w.heap.size = _; omega)⟩
  have fin : Hid (∀ V' R, Chg (fun k => k = a) V.drew V' → Blk V' a 80 (flat rc (ns.set j R) ++ flat rc (List.replicate (8 - ns.length) ⟨0, 0, 0, 0, 0⟩)) → ∀ o, Blk (six V' (w.heap.size + 1) o) (w.heap.size + 1) 57 (ouC o) ∧ Chg (own x a b) w (six V' (w.heap.size + 1) o) ∧ Rep (six V' (w.heap.size + 1) o) x a b 0 (ns.set j R) ord) := by
    intro V' R hc hb o
    have hcV : Chg (fun k => k = a) V V' := Chg.trans ((Chg.refl _ V).drew) hc
    have hs := six_chg V' (w.heap.size + 1) o
    have rT := (rV.turned hcV (ns.set j R) (by simp) hb).of_chg hs (fun k hk h => by rcases h with h | h | h <;> (try omega); have := r.ob.lt; omega)
    refine ⟨six_blk (hcV.blk hbx.r nRa) o, ?_, rT⟩
    have h1 : Chg (own x a b) w V' := (hbx.q.chg _).trans (hcV.mono (fun k _ h => .inr (.inl h)))
    exact h1.trans' hs (fun k hk e => by omega)
  have late : Hid (∀ V', Chg (fun k => k = a) V.drew V' → Blk V' (w.heap.size + 1) 57 [.int .i64 0, .int .i64 0, .int .i64 0, .int .i64 0, .int .i64 0, .int .i64 0]) := by
    intro V' h
    exact h.blk hbx.r.drew nRa
  clear rV hbx r hj
  unfold six at hkeep2 fin
  generalize crP c ⟨mk, mi, mh⟩ = R at *
  go_region_held3 (fun w' => w'.cell? ⟨x, 2, none⟩ = some (.slice (some ⟨a, 0, none⟩) 8 8) ∧ w'.cell? ⟨w.heap.size, 0, none⟩ = some (.int .i64 mk) ∧ w'.cell? ⟨w.heap.size, 1, none⟩ = some (.int .i64 mi) ∧ w'.cell? ⟨w.heap.size, 2, none⟩ = some (.int .i64 mh))
    (first | with_reducible exact unhide hkeep _ hc2 | with_reducible exact unhide hkeep2 _ R.2 hc2 | go_keep)
    (first | (go_at_call 39; (with_reducible refine hcr.mono ?_); rintro e w2 ⟨rfl, hc2, hb2⟩; have br := unhide late _ hc2; have r0 := br.cell 0; have r1 := br.cell 1; have r2 := br.cell 2; have r3 := br.cell 3; have r4 := br.cell 4; have r5 := br.cell 5; simp at r0 r1 r2 r3 r4 r5; have g0 := br.frozen 0; have g1 := br.frozen 1; have g2 := br.frozen 2; have g3 := br.frozen 3; have g4 := br.frozen 4; have g5 := br.frozen 5; unfold ouV))
  all_goals
    obtain ⟨z1, z2, z3⟩ := unhide fin _ _ hc2 hb2 R.2
    have zH := hide (And.intro z1 (And.intro z2 z3))
    clear z1 z2 z3
    go_wp2
    exact bodyPost_ret (v := .tuple #[ouV R.2, .int .i64 0]) (results_blk_tmp (u := 57) (cs := ouC R.2) Try.results25 rfl Try.isAgg57 Try.sizeOf57 (unhide zH).1) rfl ⟨rfl, (unhide zH).2.1, (unhide zH).2.2⟩

set_option maxRecDepth 100000 in
set_option maxHeartbeats 2000000 in
theorem step_hs (w : World) (x a b : Nat) (ns : List N5) (ord : List Int) (r : Rep w x a b 1 ns ord) (j : Nat) (c : N5) (hj : ns[j]? = some c) (hf : Flags c) (hgot : c.got = 0 ∨ c.got = 1) (hre : c.reach = 0 ∨ c.reach = 1 ∨ c.reach = 2 ∨ c.reach = 4 ∨ c.reach = 8) (dir : Int) (hd : dir = 0 ∨ dir = 1) (m : Ms) (hhop : m.hop ≤ 9223372036854775807) :
    Calls Try.prog 25 #[ptr x, .int .i64 j, .int .i64 dir, msV m] w (stepPost w x a b 1 ord ((machP 1 c dir m).2, 0, ns.set j (machP 1 c dir m).1)) := by
  have hbx := boxed w m
  have hxl := r.blk.lt
  have hal := r.cb.lt
  have h8 := r.n8
  have hjl := (List.getElem?_eq_some_iff.1 hj).1
  have c0 := r.blk.cell 0
  have c1 := r.blk.cell 1
  simp at c0 c1
  have i1 : (0 : Int) ≤ (j : Int) := by omega
  have i2 : (j : Int) < (ns.length : Int) := by omega
  have i3 : (j : Int) < 8 := by omega
  have hmach : machP 1 c dir m = hsP c dir m := rfl
  rw [hmach]
  unfold ptr msV
  obtain ⟨mk, mi, mh⟩ := m
  simp only at hbx hhop ⊢
  have k0 : (0 : Int) ≤ dir := by omega
  have k1 : dir ≤ 1 := by omega
  go_enter Try.func25, Try.ntmps25
  go_upto_region 10 with fail
  generalize (w.alloc (.cells #[.int .i64 mk, .int .i64 mi, .int .i64 mh] 55)).alloc (.cells #[.int .i64 0, .int .i64 0, .int .i64 0, .int .i64 0, .int .i64 0, .int .i64 0] 57) = V at *
  have rV := r.quiet hbx.q
  have hcr := stepHS_any V.drew a ns j _ c hj rV.cb.drew hf hgot hre dir hd ⟨mk, mi, mh⟩ hhop
  unfold msV machPost at hcr
  simp only at hcr
  have x2 := rV.blk.cell 2
  have m0c := hbx.m.cell 0
  have m1 := hbx.m.cell 1
  have m2 := hbx.m.cell 2
  simp [msC] at m0c m1 m2 x2
  have nxa := r.xa
  have nMa : w.heap.size ≠ a := by omega
  have nRa : w.heap.size + 1 ≠ a := by omega
  have hkeep : Hid (∀ V', Chg (fun k => k = a) V.drew V' → V'.cell? ⟨x, 2, none⟩ = some (.slice (some ⟨a, 0, none⟩) 8 8) ∧ V'.cell? ⟨w.heap.size, 0, none⟩ = some (.int .i64 mk) ∧ V'.cell? ⟨w.heap.size, 1, none⟩ = some (.int .i64 mi) ∧ V'.cell? ⟨w.heap.size, 2, none⟩ = some (.int .i64 mh)) := by
    intro V' hV
    exact ⟨Chg.cell hV x2 nxa, Chg.cell hV m0c nMa, Chg.cell hV m1 nMa, Chg.cell hV m2 nMa⟩
  have hkeep2 : Hid (∀ V' o, Chg (fun k => k = a) V.drew V' → (six V' (w.heap.size + 1) o).cell? ⟨x, 2, none⟩ = some (.slice (some ⟨a, 0, none⟩) 8 8) ∧ (six V' (w.heap.size + 1) o).cell? ⟨w.heap.size, 0, none⟩ = some (.int .i64 mk) ∧ (six V' (w.heap.size + 1) o).cell? ⟨w.heap.size, 1, none⟩ = some (.int .i64 mi) ∧ (six V' (w.heap.size + 1) o).cell? ⟨w.heap.size, 2, none⟩ = some (.int .i64 mh)) := by
    intro V' o hV
    obtain ⟨q1, q2, q3, q4⟩ := unhide hkeep V' hV
    have hs := six_chg V' (w.heap.size + 1) o
    exact ⟨Chg.cell hs q1 (by show ¬ x = _; omega), Chg.cell hs q2 (by show ¬ w.heap.size = _; omega), Chg.cell hs q3 (by show ¬ w.heap.size = _; omega), Chg.cell hs q4 (by show ¬ w.heap.size = _; omega)⟩
  have fin : Hid (∀ V' R, Chg (fun k => k = a) V.drew V' → Blk V' a 80 (flat rc (ns.set j R) ++ flat rc (List.replicate (8 - ns.length) ⟨0, 0, 0, 0, 0⟩)) → ∀ o, Blk (six V' (w.heap.size + 1) o) (w.heap.size + 1) 57 (ouC o) ∧ Chg (own x a b) w (six V' (w.heap.size + 1) o) ∧ Rep (six V' (w.heap.size + 1) o) x a b 1 (ns.set j R) ord) := by
    intro V' R hc hb o
    have hcV : Chg (fun k => k = a) V V' := Chg.trans ((Chg.refl _ V).drew) hc
    have hs := six_chg V' (w.heap.size + 1) o
    have rT := (rV.turned hcV (ns.set j R) (by simp) hb).of_chg hs (fun k hk h => by rcases h with h | h | h <;> (try omega); have := r.ob.lt; omega)
    refine ⟨six_blk (hcV.blk hbx.r nRa) o, ?_, rT⟩
    have h1 : Chg (own x a b) w V' := (hbx.q.chg _).trans (hcV.mono (fun k _ h => .inr (.inl h)))
    exact h1.trans' hs (fun k hk e => by omega)
  have late : Hid (∀ V', Chg (fun k => k = a) V.drew V' → Blk V' (w.heap.size + 1) 57 [.int .i64 0, .int .i64 0, .int .i64 0, .int .i64 0, .int .i64 0, .int .i64 0]) := by
    intro V' h
    exact h.blk hbx.r.drew nRa
  clear rV hbx r hj
  unfold six at hkeep2 fin
  generalize hsP c dir ⟨mk, mi, mh⟩ = R at *
  go_region_held3 (fun w' => w'.cell? ⟨x, 2, none⟩ = some (.slice (some ⟨a, 0, none⟩) 8 8) ∧ w'.cell? ⟨w.heap.size, 0, none⟩ = some (.int .i64 mk) ∧ w'.cell? ⟨w.heap.size, 1, none⟩ = some (.int .i64 mi) ∧ w'.cell? ⟨w.heap.size, 2, none⟩ = some (.int .i64 mh))
    (first | with_reducible exact unhide hkeep _ hc2 | with_reducible exact unhide hkeep2 _ R.2 hc2 | go_keep)
    (first | (go_at_call 40; (with_reducible refine hcr.mono ?_); rintro e w2 ⟨rfl, hc2, hb2⟩; have br := unhide late _ hc2; have r0 := br.cell 0; have r1 := br.cell 1; have r2 := br.cell 2; have r3 := br.cell 3; have r4 := br.cell 4; have r5 := br.cell 5; simp at r0 r1 r2 r3 r4 r5; have g0 := br.frozen 0; have g1 := br.frozen 1; have g2 := br.frozen 2; have g3 := br.frozen 3; have g4 := br.frozen 4; have g5 := br.frozen 5; unfold ouV))
  all_goals
    obtain ⟨z1, z2, z3⟩ := unhide fin _ _ hc2 hb2 R.2
    have zH := hide (And.intro z1 (And.intro z2 z3))
    clear z1 z2 z3
    go_wp2
    exact bodyPost_ret (v := .tuple #[ouV R.2, .int .i64 0]) (results_blk_tmp (u := 57) (cs := ouC R.2) Try.results25 rfl Try.isAgg57 Try.sizeOf57 (unhide zH).1) rfl ⟨rfl, (unhide zH).2.1, (unhide zH).2.2⟩
end Go.Proofs.Qxb6500369a
