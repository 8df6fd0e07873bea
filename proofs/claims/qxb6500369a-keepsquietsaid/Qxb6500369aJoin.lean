/-
  The real ring: Join.
-/
import Derived.Test.Qxb6500369aMach
import Derived.Test.Qxb6500369aOrd
import Derived.BigQuiet
namespace Go.Proofs.Qxb6500369a
open Go.RowKit Go.Qx
set_option linter.unusedSimpArgs false
set_option linter.unusedVariables false

theorem ext8 {l l' : List Int} (h : l.length = 8) (h' : l'.length = 8) (e : ∀ i, i < 8 → l.getD i 0 = l'.getD i 0) : l = l' := by
  refine List.ext_getElem (by omega) ?_
  intro i h1 h2
  have := e i (by omega)
  rw [List.getD_eq_getElem?_getD, List.getD_eq_getElem?_getD, List.getElem?_eq_getElem h1, List.getElem?_eq_getElem h2] at this
  exact this

/-- The order while Join shifts: the place k is free. -/
def gapO (ord : List Int) (n k : Nat) : List Int := (List.range 8).map fun i => if i ≤ k then ord.getD i 0 else if i ≤ n then ord.getD (i - 1) 0 else 0

theorem gapO_get (ord : List Int) (n k i : Nat) (hi : i < 8) : (gapO ord n k).getD i 0 = if i ≤ k then ord.getD i 0 else if i ≤ n then ord.getD (i - 1) 0 else 0 := by
  unfold gapO
  rw [List.getD_eq_getElem?_getD, List.getElem?_map, List.getElem?_range hi]; rfl

theorem gapO_length (ord : List Int) (n k : Nat) : (gapO ord n k).length = 8 := by simp [gapO]

theorem set_getD (l : List Int) (k i : Nat) (v : Int) (hk : k < l.length) : (l.set k v).getD i 0 = if i = k then v else l.getD i 0 := by
  rw [List.getD_eq_getElem?_getD, List.getD_eq_getElem?_getD, List.getElem?_set]
  by_cases e : i = k
  · subst e; simp [hk]
  · rw [if_neg (fun h => e h.symm), if_neg e]

theorem gapO_first {ns : List N5} {ord : List Int} (h : OrdOK ns ord) : gapO ord ns.length ns.length = ord := by
  refine ext8 (gapO_length _ _ _) h.len ?_
  intro i hi
  rw [gapO_get _ _ _ _ hi]
  split
  · rfl
  · rw [h.tail i (by omega)]

theorem gapO_step (ord : List Int) (n k : Nat) (hk : k + 1 ≤ n) (hn : n < 8) : (gapO ord n (k + 1)).set (k + 1) (ord.getD k 0) = gapO ord n k := by
  refine ext8 (by rw [List.length_set, gapO_length]) (gapO_length _ _ _) ?_
  intro i hi
  rw [set_getD _ _ _ _ (by rw [gapO_length]; omega), gapO_get _ _ _ _ hi, gapO_get _ _ _ _ hi]
  by_cases e : i = k + 1
  · subst e
    rw [if_pos rfl, if_neg (by omega), if_pos (by omega), Nat.add_sub_cancel]
  · rw [if_neg e]
    by_cases e2 : i ≤ k
    · rw [if_pos (by omega), if_pos e2]
    · rw [if_neg (by omega), if_neg e2]

theorem gapO_last (ord : List Int) (n lo : Nat) (hlo : lo ≤ n) (hn : n < 8) : (gapO ord n lo).set lo (n : Int) = joinOrd ord n lo := by
  refine ext8 (by rw [List.length_set, gapO_length]) (by simp [joinOrd]) ?_
  intro i hi
  rw [set_getD _ _ _ _ (by rw [gapO_length]; omega), gapO_get _ _ _ _ hi, joinOrd_get _ _ _ _ hi]
  by_cases e : i = lo
  · subst e
    rw [if_pos rfl, if_neg (by omega), if_pos rfl]
  · rw [if_neg e]
    by_cases e2 : i < lo
    · rw [if_pos (by omega), if_pos e2]
    · rw [if_neg (by omega), if_neg e2, if_neg e]

theorem mapInt_get (l : List Int) (i : Nat) (hi : i < l.length) : (l.map (Value.int .i64))[i]? = some (.int .i64 (l.getD i 0)) := by
  rw [List.getElem?_map, List.getD_eq_getElem?_getD, List.getElem?_eq_getElem hi]; rfl

theorem idAt_of {ns : List N5} {k : Int} (h0 : 0 ≤ k) (h1 : k < (ns.length : Int)) (sp : List N5) : ∃ (j : Nat) (c : N5), k = j ∧ j < ns.length ∧ (ns ++ sp)[j]? = some c ∧ idAt ns k = c.id := by
  refine ⟨k.toNat, ns[k.toNat]'(by omega), by omega, by omega, ?_, ?_⟩
  · rw [List.getElem?_append_left (by omega), List.getElem?_eq_getElem]
  · unfold idAt
    rw [List.getD_eq_getElem?_getD, List.getElem?_eq_getElem (by omega)]; rfl

def joinPost (w : World) (x a b : Nat) (mode : Int) (ns : List N5) (id : Int) (e : Ending) (w' : World) : Prop :=
  e = .returned (.int .i64 (joinE mode ns id)) ∧ Chg (own x a b) w w' ∧ ∃ ord', Rep w' x a b mode (joinN mode ns id) ord' ∧ OrdOK (joinN mode ns id) ord'

/-- Where the search stands. -/
structure Srch (ns : List N5) (ord : List Int) (id : Int) (lo hi : Nat) : Prop where
  le : lo ≤ hi
  hn : hi ≤ ns.length
  l : ∀ i, i < lo → idAt ns (ord.getD i 0) < id
  r : ∀ i, hi ≤ i → i < ns.length → id ≤ idAt ns (ord.getD i 0)

theorem Srch.left {ns : List N5} {ord : List Int} {id : Int} {lo hi : Nat} (h : Srch ns ord id lo hi) (o : OrdOK ns ord) (m : Nat) (hm : m < hi) (e : idAt ns (ord.getD m 0) < id) : Srch ns ord id (m + 1) hi := by
  refine ⟨by omega, h.hn, ?_, h.r⟩
  intro i hi'
  by_cases e2 : i = m
  · subst e2; exact e
  · have := o.inc i m (by omega) (by have := h.hn; omega)
    omega

theorem Srch.right {ns : List N5} {ord : List Int} {id : Int} {lo hi : Nat} (h : Srch ns ord id lo hi) (o : OrdOK ns ord) (m : Nat) (hl : lo ≤ m) (hm : m < hi) (e : ¬ idAt ns (ord.getD m 0) < id) : Srch ns ord id lo m := by
  refine ⟨hl, by have := h.hn; omega, h.l, ?_⟩
  intro i h1 h2
  by_cases e2 : i = m
  · subst e2; omega
  · have := o.inc m i (by omega) h2
    omega

set_option maxRecDepth 100000 in
set_option maxHeartbeats 4000000 in
theorem join_any (w : World) (x a b : Nat) (mode : Int) (ns : List N5) (ord : List Int) (r : Rep w x a b mode ns ord) (ho : OrdOK ns ord) (id : Int) : Calls Try.prog 35 #[ptr x, .int .i64 id] w (joinPost w x a b mode ns id) := by
  have h8 := r.n8
  have c0 := r.blk.cell 0
  have c1 := r.blk.cell 1
  have c2 := r.blk.cell 2
  have c3 := r.blk.cell 3
  simp at c0 c1 c2 c3
  have hxl := r.blk.lt
  have nxa := r.xa
  have nxb := r.xb
  have nab := r.ab
  have nax := Ne.symm nxa
  have nbx := Ne.symm nxb
  have nba := Ne.symm nab
  have bad : ∀ E, joinE mode ns id = E → E ≠ 0 → ∀ V, Quiet w V → joinPost w x a b mode ns id (.returned (.int .i64 E)) V := by
    intro E h1 h2 V q
    refine ⟨by rw [h1], q.chg _, ord, ?_⟩
    rw [show joinN mode ns id = ns by simp [joinN, h1, h2]]
    exact ⟨r.quiet q, ho⟩
  have badH := hide bad
  clear bad
  unfold ptr
  by_cases h1 : mode = -1
  · subst h1
    by_cases h2 : 8 ≤ ns.length
    · have e : Hid (joinE (-1) ns id = 2) := by show _ = _; simp [joinE, h2]
      have i1 : (8 : Int) ≤ (ns.length : Int) := by omega
      go_enter Try.func35, Try.ntmps35
      go_wp2
      go_ret
      exact unhide badH _ (unhide e) (by decide) _ (Chg.refl _ _)
    · have i1 : ¬ (8 : Int) ≤ (ns.length : Int) := by omega
      have i1' : (ns.length : Int) < 8 := by omega
      have s0 : Hid (Srch ns ord id 0 ns.length) := ⟨Nat.zero_le _, Nat.le_refl _, fun i h => by omega, fun i h h' => by omega⟩
      have rH := hide r
      have hoH := hide ho
      have hcb : Hid (Blk w a 80 (flat rc (ns ++ List.replicate (8 - ns.length) z5) ++ [])) := by
        have := r.cb
        rw [← flat_append] at this
        rw [List.append_nil]; exact this
      generalize hN : ns.length = N at *
      have hNH := hide hN
      clear hN r ho
      go_enter Try.func35, Try.ntmps35
      go_wp2
      go_big_quiet (fail)
      go_wp2
      go_loopw [5, 6] (fun u v wr => ∃ lo hi : Nat, u = .int .i64 lo ∧ v = .int .i64 hi ∧ Hid (Quiet w wr) ∧ Hid (Srch ns ord id lo hi)) (fun u v _ => (intOf v).toNat - (intOf u).toNat)
      case atStart => exact ⟨0, N, rfl, rfl, (Chg.refl _ _).drewN _, s0⟩
      case round =>
        obtain ⟨lo, hi, rfl, rfl, q0, hs⟩ := hrel
        have rw1 := (unhide rH).quiet (unhide q0)
        have hcb1 := hide ((unhide q0).blk (unhide hcb))
        clear c0 c1 c2 c3
        have c1 := rw1.blk.cell 1
        have c2 := rw1.blk.cell 2
        have c3 := rw1.blk.cell 3
        simp [unhide hNH] at c1 c2 c3
        have obH := hide rw1.ob
        have xbH := hide rw1.blk
        have hxl1 := rw1.blk.lt
        clear rw1
        have hle := (unhide hs).le
        have hhn := (unhide hs).hn
        rw [unhide hNH] at hhn
        have l0 : (0 : Int) ≤ (lo : Int) := by omega
        by_cases hlt : lo < hi
        · have g1 : (lo : Int) < (hi : Int) := by omega
          have hm : ∃ m : Nat, ((lo : Int) + (hi : Int)).tdiv 2 = (m : Int) ∧ lo ≤ m ∧ m < hi := by
            refine ⟨(lo + hi) / 2, ?_, by omega, by omega⟩
            rw [Int.tdiv_eq_ediv_of_nonneg (by omega)]; omega
          obtain ⟨m, hm, hm1, hm2⟩ := hm
          have bk := (unhide obH).cell m
          rw [mapInt_get ord m (by rw [(unhide hoH).len]; omega)] at bk
          obtain ⟨r0, r1⟩ := (unhide hoH).rng m (by rw [unhide hNH]; omega)
          obtain ⟨p, c, hp, hpl, hc, hid⟩ := idAt_of r0 r1 (List.replicate (8 - N) z5)
          obtain ⟨a0, _⟩ := cellR_of (unhide hcb1) hc
          rw [hp] at bk
          have hidH := hide hid
          rw [unhide hNH] at hpl
          have p3 : (p : Int) < 8 := by omega
          have p4 : (0 : Int) ≤ (p : Int) := by omega
          have m3 : (m : Int) < 8 := by omega
          have m4 : (0 : Int) ≤ (m : Int) := by omega
          clear r0 r1 hp hc hid
          by_cases e : c.id < id
          · have sn : Hid (Srch ns ord id (m + 1) hi) := (unhide hs).left (unhide hoH) m hm2 (by rw [unhide hidH]; exact e)
            go_wp2
            go_big_quiet (fail)
            go_wp2
            go_roundw
            case rel => exact ⟨m + 1, hi, by go_num, rfl, Chg.drewN (unhide q0) _, sn⟩
            case measure => simp [intOf]; omega
          · have sn : Hid (Srch ns ord id lo m) := (unhide hs).right (unhide hoH) m hm1 hm2 (by rw [unhide hidH]; exact e)
            go_wp2
            go_big_quiet (fail)
            go_wp2
            go_roundw
            case rel => exact ⟨lo, m, rfl, by go_num, Chg.drewN (unhide q0) _, sn⟩
            case measure => simp [intOf]; omega
        · have g1 : ¬ (lo : Int) < (hi : Int) := by omega
          have hloN : lo ≤ N := by omega
          have ehi : Hid (hi = lo) := by show hi = lo; omega
          have hs1 : Hid (∀ i, i < lo → idAt ns (ord.getD i 0) < id) := (unhide hs).l
          have hs2 : Hid (∀ i, lo ≤ i → i < ns.length → id ≤ idAt ns (ord.getD i 0)) := by
            have := (unhide hs).r
            rw [unhide ehi] at this; exact this
          have hsh : Hid (hasId ns id = decide (lo < ns.length ∧ idAt ns (ord.getD lo 0) = id)) := search_has (unhide hoH) id lo (by rw [unhide hNH]; exact hloN) (unhide hs1) (unhide hs2)
          clear hs
          -- a duplicate?
          by_cases hd : lo < N ∧ idAt ns (ord.getD lo 0) = id
          · obtain ⟨hd1, hd2⟩ := hd
            have e : Hid (joinE (-1) ns id = 3) := by
              show _ = _
              have h3 : hasId ns id = true := by rw [unhide hsh, decide_eq_true_iff, unhide hNH]; exact ⟨hd1, hd2⟩
              simp [joinE, h3, unhide hNH]; omega
            have bk := (unhide obH).cell lo
            rw [mapInt_get ord lo (by rw [(unhide hoH).len]; omega)] at bk
            obtain ⟨r0, r1⟩ := (unhide hoH).rng lo (by rw [unhide hNH]; omega)
            obtain ⟨p, c, hp, hpl, hc, hid⟩ := idAt_of r0 r1 (List.replicate (8 - N) z5)
            obtain ⟨a0, _⟩ := cellR_of (unhide hcb1) hc
            rw [hp] at bk
            rw [hd2] at hid
            rw [← hid] at a0
            rw [unhide hNH] at hpl
            have p3 : (p : Int) < 8 := by omega
            have p4 : (0 : Int) ≤ (p : Int) := by omega
            have m3 : (lo : Int) < 8 := by omega
            have g2 : (lo : Int) < (N : Int) := by omega
            have g2' : decide ((lo : Int) < (N : Int)) = true := decide_eq_true g2
            have si : (id == id) = true := by simp
            clear r0 r1 hp hc hid hd1 hd2
            go_wp2
            go_big_quiet (fail)
            go_wp2
            go_ret
            exact unhide badH _ (unhide e) (by decide) _ (Chg.drewN (unhide q0) _)
          · have e0 : Hid (joinE (-1) ns id = 0) := by
              show _ = _
              have h3 : hasId ns id = false := by rw [unhide hsh, decide_eq_false_iff_not, unhide hNH]; exact hd
              simp [joinE, h3, unhide hNH]; omega
            have hs3 : Hid (∀ i, lo ≤ i → i < ns.length → id < idAt ns (ord.getD i 0)) := by
              intro i h1 h2
              have h3 := unhide hs2 i h1 h2
              by_cases e : i = lo
              · subst e
                have h4 : ¬ idAt ns (ord.getD i 0) = id := fun h => hd ⟨by rw [← unhide hNH]; exact h2, h⟩
                omega
              · have h4 := (unhide hoH).inc lo i (by omega) h2
                have h5 := unhide hs2 lo (Nat.le_refl _) (by omega)
                omega
            have oNew : Hid (OrdOK (ns ++ [⟨id, 0, 0, 0, 0⟩]) (joinOrd ord ns.length lo)) := ord_join (unhide hoH) ⟨id, 0, 0, 0, 0⟩ lo (by rw [unhide hNH]; omega) (by rw [unhide hNH]; exact hloN) (unhide hs1) (unhide hs3)
            clear hs1 hs2 hs3 hsh hle hhn ehi hlt
            have stage : Hid (∃ c : N5, True) := ⟨z5, trivial⟩
            by_cases hlt : lo < N
            have bk := (unhide obH).cell lo
            rw [mapInt_get ord lo (by rw [(unhide hoH).len]; omega)] at bk
            obtain ⟨r0, r1⟩ := (unhide hoH).rng lo (by rw [unhide hNH]; omega)
            obtain ⟨p, c, hp, hpl, hc, hid⟩ := idAt_of r0 r1 (List.replicate (8 - N) z5)
            obtain ⟨a0, _⟩ := cellR_of (unhide hcb1) hc
            have nid : (c.id == id) = false := by
              have : ¬ c.id = id := fun h => hd ⟨hlt, by rw [hid]; exact h⟩
              simpa using this
            rw [hp] at bk
            rw [unhide hNH] at hpl
            have p3 : (p : Int) < 8 := by omega
            have p4 : (0 : Int) ≤ (p : Int) := by omega
            have m3 : (lo : Int) < 8 := by omega
            have g2 : (lo : Int) < (N : Int) := by omega
            have g2' : decide ((lo : Int) < (N : Int)) = true := decide_eq_true g2
            clear r0 r1 hp hc hid hd
            go_wp2
            go_big_quiet (fail)
            clear g1 g2 g2' nid a0 bk p3 p4 m3 hpl
            go_wp2
            rotate_left
            have g2 : ¬ (lo : Int) < (N : Int) := by omega
            have g2' : decide ((lo : Int) < (N : Int)) = false := decide_eq_false g2
            clear hd
            go_wp2
            go_big_quiet (fail)
            clear g1 g2 g2'
            go_wp2
            all_goals
              clear stage hlt
              go_loopw [8] (fun i w2 => ∃ k : Nat, lo ≤ k ∧ k ≤ N ∧ i = .int .i64 k ∧ Blk w2 x 52 [.int .i64 (-1), .int .i64 N, .slice (some ⟨a, 0, none⟩) 8 8, .slice (some ⟨b, 0, none⟩) 8 8] ∧ Blk w2 a 80 (flat rc (ns ++ List.replicate (8 - N) z5) ++ []) ∧ Blk w2 b 3 ((gapO ord N k).map (Value.int .i64)) ∧ Chg (own x a b) w w2) (fun i _ => (intOf i).toNat)
              case atStart =>
                refine ⟨N, hloN, Nat.le_refl _, rfl, ?_, (unhide hcb1).drewN _, ?_, (Quiet.chg (unhide q0) _).drewN _⟩
                · have h := (unhide xbH).drewN nq
                  rw [unhide hNH] at h; exact h
                · have h := gapO_first (unhide hoH)
                  rw [unhide hNH] at h
                  rw [h]; exact (unhide obH).drewN _
              case round =>
                obtain ⟨k, hk1, hk2, rfl, bx, ba, bb, hc⟩ := hrel
                clear c1 c2 c3
                have x1 := bx.cell 1
                have x2 := bx.cell 2
                have x3 := bx.cell 3
                have fx1 := bx.frozen 1
                simp at x1 x2 x3
                by_cases hkl : lo < k
                · obtain ⟨k', rfl⟩ : ∃ k', k = k' + 1 := ⟨k - 1, by omega⟩
                  have kn : ((k' + 1 : Nat) : Int) = (k' : Int) + 1 := by omega
                  have b1 := bb.cell k'
                  rw [mapInt_get _ k' (by rw [gapO_length]; omega), gapO_get _ _ _ _ (by omega), if_pos (by omega)] at b1
                  have b2 := bb.cell (k' + 1)
                  rw [mapInt_get _ (k' + 1) (by rw [gapO_length]; omega)] at b2
                  have fb := bb.frozen (k' + 1)
                  have q1 : (lo : Int) < (k' : Int) + 1 := by omega
                  have q2 : (k' : Int) + 1 < 8 := by omega
                  have q3 : (0 : Int) ≤ (k' : Int) := by omega
                  have q4 : (0 : Int) ≤ (k' : Int) + 1 := by omega
                  have q5 : (k' : Int) < 8 := by omega
                  have kne : k' + 1 ≠ k' := by omega
                  rw [kn] at *
                  have mw : IntKind.i64.wrap (k' : Int) = k' := by rw [IntKind.wrap_i64]; omega
                  have mw1 : IntKind.i64.wrap ((k' : Int) + 1 - 1) = k' := by rw [IntKind.wrap_i64]; omega
                  have fin : Hid (∀ V, V = wr.setCell ⟨b, k' + 1, none⟩ (.int .i64 (ord.getD k' 0)) → Blk V x 52 [.int .i64 (-1), .int .i64 N, .slice (some ⟨a, 0, none⟩) 8 8, .slice (some ⟨b, 0, none⟩) 8 8] ∧ Blk V a 80 (flat rc (ns ++ List.replicate (8 - N) z5) ++ []) ∧ Blk V b 3 ((gapO ord N k').map (Value.int .i64)) ∧ Chg (own x a b) w V) := by
                    intro V hV
                    subst hV
                    refine ⟨bx.set_other (a := ⟨b, k' + 1, none⟩) nxb _, ba.set_other (a := ⟨b, k' + 1, none⟩) nab _, ?_, hc.setCell (.inl (.inr (.inr rfl))) _⟩
                    have h := bb.set (k' + 1) (.int .i64 (ord.getD k' 0))
                    rw [← List.map_set, gapO_step ord N k' hk2 (by omega)] at h
                    exact h
                  generalize ord.getD k' 0 = ov at *
                  clear bx ba bb hc
                  go_wp2
                  go_region_held3 (fun w' => w'.cell? ⟨x, 3, none⟩ = some (.slice (some ⟨b, 0, none⟩) 8 8) ∧ w'.cell? ⟨b, k', none⟩ = some (.int .i64 ov)) (first | exact ⟨cell_set_ne x3 (.inl nbx), cell_set_ne b1 (.inr kne)⟩ | go_keep) (fail)
                  rename_i hHeld
                  clear hHeld
                  obtain ⟨y1, y2, y3, y4⟩ := unhide fin _ rfl
                  have yH := hide (And.intro y1.drew (And.intro y2.drew (And.intro y3.drew y4.drew)))
                  clear y1 y2 y3 y4 fin
                  go_wp2
                  go_roundw
                  case rel => exact ⟨k', by omega, by omega, by go_num, (unhide yH).1, (unhide yH).2.1, (unhide yH).2.2.1, (unhide yH).2.2.2⟩
                  case measure => simp [intOf]
                · obtain rfl : k = lo := by omega
                  have q1 : ¬ (k : Int) < (k : Int) := by omega
                  have hg : (ns ++ List.replicate (8 - N) z5)[N]? = some z5 := by
                    rw [List.getElem?_append_right (by rw [unhide hNH]; exact Nat.le_refl _), unhide hNH, List.getElem?_replicate, if_pos (by omega)]
                  obtain ⟨a0, _⟩ := cellR_of ba hg
                  have fa := ba.frozen (N * 4)
                  have b2 := bb.cell k
                  rw [mapInt_get _ k (by rw [gapO_length]; omega)] at b2
                  have fb := bb.frozen k
                  have n1 : (0 : Int) ≤ (N : Int) := by omega
                  have n3 : (k : Int) < 8 := by omega
                  have fin : Hid (∀ V, V = (wr.setCell ⟨b, k, none⟩ (.int .i64 N)).setCell ⟨a, N * 4, none⟩ (.int .i64 id) → Blk V x 52 [.int .i64 (-1), .int .i64 N, .slice (some ⟨a, 0, none⟩) 8 8, .slice (some ⟨b, 0, none⟩) 8 8] ∧ Blk V a 80 (flat rc (ns ++ [⟨id, 0, 0, 0, 0⟩]) ++ flat rc (List.replicate (8 - (N + 1)) ⟨0, 0, 0, 0, 0⟩)) ∧ Blk V b 3 ((joinOrd ord N k).map (Value.int .i64)) ∧ Chg (own x a b) w V) := by
                    intro V hV
                    subst hV
                    refine ⟨(bx.set_other (a := ⟨b, k, none⟩) nxb _).set_other (a := ⟨a, N * 4, none⟩) nxa _, ?_, ?_, (hc.setCell (.inl (.inr (.inr rfl))) _).setCell (.inl (.inr (.inl rfl))) _⟩
                    · have h := (setN (ba.set_other (a := ⟨b, k, none⟩) nab (.int .i64 N)) hg 0 (by omega) (.int .i64 id) ⟨id, 0, 0, 0, 0⟩ rfl).1
                      rw [List.append_nil, List.set_append_right _ _ (by rw [unhide hNH]; exact Nat.le_refl _), unhide hNH, Nat.sub_self, show 8 - N = (8 - (N + 1)) + 1 by omega, List.replicate_succ, List.set_cons_zero] at h
                      rw [← flat_append, List.append_assoc]
                      exact h
                    · have h := (bb.set k (.int .i64 (N : Int))).set_other (a := ⟨a, N * 4, none⟩) nba (.int .i64 id)
                      rw [← List.map_set, gapO_last ord N k hloN (by omega)] at h
                      exact h
                  clear bx ba bb hc hg
                  go_wp2
                  go_region_held3 (fun w' => w'.cell? ⟨x, 1, none⟩ = some (.int .i64 N) ∧ w'.cell? ⟨x, 2, none⟩ = some (.slice (some ⟨a, 0, none⟩) 8 8) ∧ w'.cell? ⟨x, 3, none⟩ = some (.slice (some ⟨b, 0, none⟩) 8 8)) (go_keep) (fail)
                  rename_i hHeld
                  clear hHeld
                  obtain ⟨y1, y2, y3, y4⟩ := unhide fin _ rfl
                  have z1 := y1.drew
                  have z2 := y2.drew
                  have z3 := y3.drew
                  have z4 := y4.drew
                  clear y1 y2 y3 y4 fin x1 x2 x3 fx1 a0 fa b2 fb
                  generalize World.drew _ = V at *
                  have x1 := z1.cell 1
                  have fx1 := z1.frozen 1
                  simp at x1
                  have n2 : (N : Int) + 1 ≤ 8 := by omega
                  go_wp2
                  go_ret
                  have eN : joinN (-1) ns id = ns ++ [⟨id, 0, 0, 0, 0⟩] := by unfold joinN; rw [if_pos (unhide e0)]
                  refine ⟨by rw [unhide e0]; rfl, z4.setCell (.inl (.inl rfl)) _, joinOrd ord ns.length k, ?_, ?_⟩
                  · rw [eN]
                    have hl : (ns ++ [(⟨id, 0, 0, 0, 0⟩ : N5)]).length = N + 1 := by simp [unhide hNH]
                    refine ⟨?_, ?_, ?_, nxa, nxb, nab, by omega, by simp [joinOrd]⟩
                    · rw [hl]
                      exact z1.set 1 _
                    · rw [hl]
                      exact z2.set_other (a := ⟨x, 1, none⟩) nax _
                    · rw [unhide hNH]
                      exact z3.set_other (a := ⟨x, 1, none⟩) nbx _
                  · rw [eN]; exact unhide oNew
  · have e : Hid (joinE mode ns id = 1) := by show _ = _; simp [joinE, h1]
    have b1 : (mode != -1) = true := by simpa using h1
    clear h1
    go_enter Try.func35, Try.ntmps35
    go_wp2
    go_ret
    exact unhide badH _ (unhide e) (by decide) _ (Chg.refl _ _)
end Go.Proofs.Qxb6500369a
