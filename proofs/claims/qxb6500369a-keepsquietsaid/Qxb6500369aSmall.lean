/-
  The two rings' small methods: New, Start, mReset, mJoin, Node, mCheck, unpack.
-/
import Derived.Test.Qxb6500369aPlain
import Derived.Laws.MakeOwn
namespace Go.Qx
open Go.RowKit
/-- append onto a slice that owns its row, at a plain step. -/
theorem wpList_append_row {P : Program} {w : World} {ops : Array Oper} {rest : List Oper} {o : Oper} {a : Act} {Q : Exit → Act → World → Prop} (hgd : o.guard = none) (s x : Operand) (t : TypeId)
    (ho : o.op = .call { callee := .builtin .append, args := #[s, x], argTypes := #[t, t] })
    (e : TypeId) (i : TypeInfo) (z : Value) (size bytes : Nat) (ht : P.underlying t = some (.slice e)) (hi : P.info? e = some i) (hz : i.zero = some z)
    (hsize : i.size = size) (hby : i.bytes = bytes) (hzs : z.cells.size = size) (hsz : 0 < size)
    (v : Value) (n : Nat) (xs : List Value) (hs : a.eval s = v) (hown : Row w e size v n xs)
    (ad : Addr) (m c : Nat) (news : List Value) (hx : a.eval x = .slice (some ad) m c) (hl : news.length = m * size) (hnews : ∀ j u, news[j]? = some u → w.cell? (ad.add j) = some u) (h1 : ∀ u ∈ news, u.oneCell' = true)
    (hm : 0 < m) (h63 : n + m ≤ maxLen) (hbytes : (n + m) * bytes ≤ 140737488355328) (H : Nat) (hH : w.heap.size = H)
    (h : ∀ g cap w', Row w' e size (.slice (some ⟨g, 0, none⟩) (n + m) cap) (n + m) (xs ++ news) → Chg (fun x => v.ownBlock = some x) w w' → (v.ownBlock = some g ∨ g = H) → g < w'.heap.size → wpList P ops Q rest (a.put o.dst (.slice (some ⟨g, 0, none⟩) (n + m) cap)) w') : wpList P ops Q (o :: rest) a w :=
  wpList_append_lies (P := P) w hgd s x t ho 0 e i z size bytes ht hi hz hsize hby hzs hsz v n xs hs hown ad m c news hx hl hnews h1 hm h63 hbytes (Nat.zero_le _) H hH
    (fun g cap w' h2 h3 h4 h5 => h g cap w' h2 (Chg.of_grown h3) h4 h5)

theorem Row.shape {w : World} {e : TypeId} {size : Nat} {v : Value} {n : Nat} {xs : List Value} (h : Row w e size v n xs) : ∃ ao cap, v = .slice ao n cap := by
  rcases h.form with ⟨rfl, rfl, _⟩ | ⟨g, cap, sp, rfl, _⟩
  · exact ⟨_, _, rfl⟩
  · exact ⟨_, _, rfl⟩

theorem news_new (w : World) (t : TypeId) (cs : List Value) : ∀ j u, cs[j]? = some u → (w.alloc (.cells cs.toArray t)).cell? ((⟨w.heap.size, 0, none⟩ : Addr).add j) = some u := by
  intro j u hj
  have h := (Blk.new w t cs).cell j
  rw [show (⟨w.heap.size, 0, none⟩ : Addr).add j = ⟨w.heap.size, j, none⟩ by unfold Addr.add; split <;> simp_all, h]
  exact hj
end Go.Qx
namespace Go.Proofs.Qxb6500369a
open Go.RowKit Go.Qx
set_option linter.unusedSimpArgs false
set_option linter.unusedVariables false

def startP (mode m : Int) : Int × Int := if mode ≠ -1 then (1, mode) else if m ≠ 0 ∧ m ≠ 1 then (4, mode) else (0, m)

set_option maxRecDepth 100000 in
theorem start_any (w : World) (x a b : Nat) (mode : Int) (ns : List N5) (ord : List Int) (r : Rep w x a b mode ns ord) (m : Int) :
    Calls Try.prog 36 #[ptr x, .int .i64 m] w fun e w' => e = .returned (.int .i64 (startP mode m).1) ∧ Chg (own x a b) w w' ∧ Rep w' x a b (startP mode m).2 ns ord := by
  have c0 := r.blk.cell 0
  have f0 := r.blk.frozen 0
  simp at c0
  unfold ptr
  by_cases h1 : mode = -1
  · subst h1
    by_cases h2 : m = 0 ∨ m = 1
    · have e : Hid (startP (-1) m = (0, m)) := by show _ = _; simp [startP]; omega
      rcases h2 with rfl | rfl
      all_goals
        go_enter Try.func36, Try.ntmps36
        go_wp2
        go_ret
        rw [unhide e]
        refine ⟨rfl, (Chg.refl _ _).setCell (.inl (.inl rfl)) _, ?_⟩
        exact { r with blk := r.blk.set 0 _, cb := r.cb.set_other (Ne.symm r.xa) _, ob := r.ob.set_other (Ne.symm r.xb) _ }
    · have e : Hid (startP (-1) m = (4, -1)) := by show _ = _; simp [startP]; omega
      have b1 : (m == 0) = false := by simp; omega
      have b2 : (m == 1) = false := by simp; omega
      have b3 : (m != 0) = true := by rw [bne, b1]; rfl
      have b4 : (m != 1) = true := by rw [bne, b2]; rfl
      clear h2
      go_enter Try.func36, Try.ntmps36
      go_wp2
      go_ret
      rw [unhide e]
      exact ⟨rfl, Chg.refl _ _, r⟩
  · have e : Hid (startP mode m = (1, mode)) := by show _ = _; simp [startP, h1]
    have b1 : (mode == -1) = false := by simpa using h1
    have b2 : (mode != -1) = true := by rw [bne, b1]; rfl
    clear h1
    go_enter Try.func36, Try.ntmps36
    go_wp2
    go_ret
    rw [unhide e]
    exact ⟨rfl, Chg.refl _ _, r⟩

set_option maxRecDepth 100000 in
theorem mstart_any (w : World) (x : Nat) (v : Value) (mode : Int) (ns : List N5) (r : RepM w x v mode ns) (m : Int) :
    Calls Try.prog 45 #[ptr x, .int .i64 m] w fun e w' => e = .returned (.int .i64 (startP mode m).1) ∧ Chg (ownM x v) w w' ∧ RepM w' x v (startP mode m).2 ns := by
  have c0 := r.blk.cell 0
  have f0 := r.blk.frozen 0
  simp at c0
  unfold ptr
  by_cases h1 : mode = -1
  · subst h1
    by_cases h2 : m = 0 ∨ m = 1
    · have e : Hid (startP (-1) m = (0, m)) := by show _ = _; simp [startP]; omega
      have c2 : Chg (fun k => k = x) w (w.setCell ⟨x, 0, none⟩ (.int .i64 m)) := Chg.setCell (S := fun k => k = x) (p := ⟨x, 0, none⟩) (Chg.refl _ w) (.inl rfl) _
      rcases h2 with rfl | rfl
      all_goals
        go_enter Try.func45, Try.ntmps45
        go_wp2
        go_ret
        rw [unhide e]
        refine ⟨rfl, (Chg.refl _ _).setCell (.inl (.inl rfl)) _, ?_⟩
        exact ⟨r.blk.set 0 _, r.row.of_chg c2 (fun k hk hs => r.xv (by rw [hk, hs])), r.xv⟩
    · have e : Hid (startP (-1) m = (4, -1)) := by show _ = _; simp [startP]; omega
      have b1 : (m == 0) = false := by simp; omega
      have b2 : (m == 1) = false := by simp; omega
      have b3 : (m != 0) = true := by rw [bne, b1]; rfl
      have b4 : (m != 1) = true := by rw [bne, b2]; rfl
      clear h2
      go_enter Try.func45, Try.ntmps45
      go_wp2
      go_ret
      rw [unhide e]
      exact ⟨rfl, Chg.refl _ _, r⟩
  · have e : Hid (startP mode m = (1, mode)) := by show _ = _; simp [startP, h1]
    have b1 : (mode == -1) = false := by simpa using h1
    have b2 : (mode != -1) = true := by rw [bne, b1]; rfl
    clear h1
    go_enter Try.func45, Try.ntmps45
    go_wp2
    go_ret
    rw [unhide e]
    exact ⟨rfl, Chg.refl _ _, r⟩

theorem mnew_any (w : World) : Calls Try.prog 31 #[] w fun e w' => ∃ x, e = .returned (ptr x) ∧ Quiet w w' ∧ w.heap.size ≤ x ∧ RepM w' x (.slice none 0 0) (-1) [] := by
  go_enter Try.func31, Try.ntmps31
  go_wp2
  go_ret
  exact ⟨w.heap.size, rfl, (Chg.refl _ _).alloc _, Nat.le_refl _, Blk.new _ _ _, Row.nil _ _ _, by simp [Value.ownBlock]⟩

theorem mreset_any (w : World) (x : Nat) (v : Value) (mode : Int) (ns : List N5) (r : RepM w x v mode ns) :
    Calls Try.prog 46 #[ptr x] w fun e w' => e = .returned (.tuple #[]) ∧ Chg (ownM x v) w w' ∧ RepM w' x (.slice none 0 0) (-1) [] := by
  have c0 := r.blk.cell 0
  have f0 := r.blk.frozen 0
  have c1 := r.blk.cell 1
  have f1 := r.blk.frozen 1
  simp at c0 c1
  unfold ptr
  obtain ⟨ao, cap, rfl⟩ := r.row.shape
  go_enter Try.func46, Try.ntmps46
  go_wp2
  go_end0
  refine ⟨rfl, ((Chg.refl _ _).setCell (.inl (.inl rfl)) _).setCell (.inl (.inl rfl)) _, (r.blk.set 0 _).set 1 _, Row.nil _ _ _, by simp [Value.ownBlock]⟩

theorem mcheck_any (w : World) (x : Nat) (v : Value) (mode : Int) (ns : List N5) (r : RepM w x v mode ns) (h8 : ns.length ≤ 8) (hm : mode = -1 ∨ mode = 0 ∨ mode = 1) :
    Calls Try.prog 49 #[ptr x] w fun e w' => e = .returned (.bool true) ∧ Quiet w w' := by
  have c0 := r.blk.cell 0
  have c1 := r.blk.cell 1
  simp at c0 c1
  obtain ⟨ao, cap, rfl⟩ := r.row.shape
  have i1 : (ns.length : Int) ≤ 8 := by omega
  have i2 : (-1 : Int) ≤ mode := by omega
  have i3 : mode ≤ 1 := by omega
  have d1 : decide ((ns.length : Int) ≤ 8) = true := by simp; omega
  have d2 : decide ((-1 : Int) ≤ mode) = true := by simp; omega
  have d3 : decide (mode ≤ 1) = true := by simp; omega
  unfold ptr
  go_enter Try.func49, Try.ntmps49
  go_wp2
  go_ret
  refine ⟨?_, Chg.refl _ _⟩
  simp [i1, i2, i3]

theorem info28 : (Try.prog.info? 28).map (fun i => (i.zero, i.size, i.bytes)) = some (some (.agg #[.int .i64 0, .int .i64 0, .int .i64 0, .int .i64 0, .int .i64 0]), 5, 40) := by kernel_rfl

/-- Some node has this id. -/
def hasId (ns : List N5) (id : Int) : Bool := ns.any (fun c => decide (c.id = id))

def joinE (mode : Int) (ns : List N5) (id : Int) : Int := if mode ≠ -1 then 1 else if 8 ≤ ns.length then 2 else if hasId ns id then 3 else 0

def joinN (mode : Int) (ns : List N5) (id : Int) : List N5 := if joinE mode ns id = 0 then ns ++ [⟨id, 0, 0, 0, 0⟩] else ns

theorem flat_row {ns : List N5} {i : Nat} {c : N5} (hi : ns[i]? = some c) {w : World} {v : Value} (h : Row w 28 5 v ns.length (flat mc ns)) : ∃ g cap, v = .slice (some ⟨g, 0, none⟩) ns.length cap ∧ w.cell? ⟨g, i * 5, none⟩ = some (.int .i64 c.id) ∧ w.cell? ⟨g, i * 5 + 1, none⟩ = some (.int .i64 c.st) ∧ w.cell? ⟨g, i * 5 + 2, none⟩ = some (.int .i64 c.lead) ∧ w.cell? ⟨g, i * 5 + 3, none⟩ = some (.int .i64 c.reach) ∧ w.cell? ⟨g, i * 5 + 4, none⟩ = some (.int .i64 c.got) := by
  have hl := (List.getElem?_eq_some_iff.1 hi).1
  rcases h.form with ⟨_, hn, _⟩ | ⟨g, cap, sp, hv, hb, _⟩
  · omega
  · refine ⟨g, cap, hv, ?_, ?_, ?_, ?_, ?_⟩
    · have := flat_get mc_length ns i 0 c sp hi (by omega)
      rw [Nat.add_zero] at this
      rw [hb.cell, this]; rfl
    · rw [hb.cell, flat_get mc_length ns i 1 c sp hi (by omega)]; rfl
    · rw [hb.cell, flat_get mc_length ns i 2 c sp hi (by omega)]; rfl
    · rw [hb.cell, flat_get mc_length ns i 3 c sp hi (by omega)]; rfl
    · rw [hb.cell, flat_get mc_length ns i 4 c sp hi (by omega)]; rfl

/-- What mJoin leaves. -/
def mjoinPost (w : World) (x : Nat) (v : Value) (mode : Int) (ns : List N5) (id : Int) (e : Ending) (w' : World) : Prop :=
  ∃ v', e = .returned (.int .i64 (joinE mode ns id)) ∧ Chg (ownM x v) w w' ∧ RepM w' x v' mode (joinN mode ns id) ∧ ∀ g, v'.ownBlock = some g → v.ownBlock = some g ∨ w.heap.size ≤ g

theorem one_ints (xs : List Int) : ∀ u ∈ xs.map (Value.int .i64), u.oneCell' = true := by
  intro u hu
  obtain ⟨x, _, rfl⟩ := List.mem_map.1 hu
  rfl

set_option maxRecDepth 100000 in
set_option maxHeartbeats 2000000 in
theorem mjoin_any (w : World) (x : Nat) (v : Value) (mode : Int) (ns : List N5) (r : RepM w x v mode ns) (id : Int) : Calls Try.prog 44 #[ptr x, .int .i64 id] w (mjoinPost w x v mode ns id) := by
  obtain ⟨ao, cap, rfl⟩ := r.row.shape
  have c0 := r.blk.cell 0
  have c1 := r.blk.cell 1
  have f1 := r.blk.frozen 1
  simp at c0 c1
  have bad : ∀ E, joinE mode ns id = E → E ≠ 0 → ∀ V, Quiet w V → mjoinPost w x (.slice ao ns.length cap) mode ns id (.returned (.int .i64 E)) V := by
    intro E h1 h2 V q
    refine ⟨.slice ao ns.length cap, by rw [h1], q.chg _, ?_, fun g h => .inl h⟩
    rw [show joinN mode ns id = ns by simp [joinN, h1, h2]]
    exact r.quiet q
  have badH := hide bad
  clear bad
  unfold ptr
  by_cases h1 : mode = -1
  · subst h1
    by_cases h2 : 8 ≤ ns.length
    · have e : Hid (joinE (-1) ns id = 2) := by show _ = _; simp [joinE, h2]
      have i1 : (8 : Int) ≤ (ns.length : Int) := by omega
      go_enter Try.func44, Try.ntmps44
      go_wp2
      go_ret
      exact unhide badH _ (unhide e) (by decide) _ (Chg.refl _ _)
    · have i1 : ¬ (8 : Int) ≤ (ns.length : Int) := by omega
      have i1' : (ns.length : Int) < 8 := by omega
      generalize hN : ns.length = N at *
      have hNH := hide hN
      clear hN
      obtain ⟨t0, ht0, hz0, hz1, hz2⟩ := info_parts info28
      go_enter Try.func44, Try.ntmps44
      go_wp2
      go_loopw [5] (fun i wr => ∃ j : Nat, j ≤ N ∧ i = .int .i64 j ∧ wr = w ∧ hasId (ns.take j) id = false) (fun i _ => 9 - (intOf i).toNat)
      case atStart => exact ⟨0, Nat.zero_le _, rfl, rfl, by simp [hasId]⟩
      case round =>
        obtain ⟨j, hj, rfl, rfl, hh⟩ := hrel
        have k0 : (0 : Int) ≤ (j : Int) := by omega
        by_cases hlt : j < N
        · have k1 : (j : Int) < (N : Int) := by omega
          have hjl : j < ns.length := by rw [unhide hNH]; exact hlt
          have hst : hasId (ns.take (j + 1)) id = (hasId (ns.take j) id || decide (ns[j].id = id)) := by
            unfold hasId
            rw [List.take_succ_eq_append_getElem hjl, List.any_append]; simp
          have hall : ns[j].id = id → hasId ns id = true := by
            intro e
            unfold hasId
            rw [List.any_eq_true]
            exact ⟨ns[j], List.getElem_mem hjl, by simp [e]⟩
          have hrow := r.row
          obtain ⟨g, cap', hv', a0, _⟩ := flat_row (List.getElem?_eq_getElem hjl) hrow
          rw [unhide hNH] at hv'
          cases hv'
          generalize ns[j] = c at *
          rw [hh] at hst
          by_cases e1 : c.id = id
          · have b1 : (c.id == id) = true := by simpa using e1
            have e : Hid (joinE (-1) ns id = 3) := by show _ = _; simp [joinE, hall e1, unhide hNH]; omega
            clear e1 hst hall hh
            go_wp2
            go_ret
            exact unhide badH _ (unhide e) (by decide) _ (Chg.refl _ _)
          · have b1 : (c.id == id) = false := by simpa using e1
            have hst2 : hasId (ns.take (j + 1)) id = false := by rw [hst]; simp [e1]
            have hstH := hide hst2
            clear e1 hst hst2 hall hh
            go_wp2
            go_roundw
            case rel => first | exact ⟨j + 1, by omega, by go_num, unhide hstH⟩ | exact ⟨j + 1, by omega, by go_num, trivial, unhide hstH⟩ | exact ⟨j + 1, by omega, by go_num, rfl, unhide hstH⟩
            case measure => simp [intOf]; omega
        · have k1 : ¬ (j : Int) < (N : Int) := by omega
          have hno : hasId ns id = false := by
            rw [List.take_of_length_le (by rw [unhide hNH]; omega)] at hh; exact hh
          have e : Hid (joinE (-1) ns id = 0) := by show _ = _; simp [joinE, hno, unhide hNH]; omega
          have hrow := r.row
          rw [unhide hNH] at hrow
          clear hh hno
          go_wp2_with (at_builtin; refine wpList_append_row rfl (.tmp 40) (.tmp 43) 85 rfl 28 t0 _ 5 40 Try.underlying85 ht0 hz0 hz1 hz2 rfl (by omega) (.slice ao N cap) N (flat mc ns) rfl (hrow.quiet ((Chg.refl _ _).alloc _)) ⟨wr.heap.size, 0, none⟩ 1 1 (mc ⟨id, 0, 0, 0, 0⟩) rfl rfl (news_new _ _ _) (one_ints [id, 0, 0, 0, 0]) (by omega) (by unfold maxLen; omega) (by omega) _ rfl ?_)
          intro g cap' W hr hc hg hgl
          have hxv := r.xv
          have bW := hc.blk (r.blk.alloc (.cells #[.int .i64 id, .int .i64 0, .int .i64 0, .int .i64 0, .int .i64 0] 28)) hxv
          have hxl := r.blk.lt
          have y1 := bW.cell 1
          have fy1 := bW.frozen 1
          simp at y1
          have fin : Hid (mjoinPost wr x (.slice ao N cap) (-1) ns id (.returned (.int .i64 0)) (W.setCell ⟨x, 1, none⟩ (.slice (some ⟨g, 0, none⟩) (N + 1) cap'))) := by
            have hgx : g ≠ x := by
              intro e0
              rcases hg with h | h
              · exact hxv (by rw [h, e0])
              · omega
            have c2 : Chg (fun k => k = x) W (W.setCell ⟨x, 1, none⟩ (.slice (some ⟨g, 0, none⟩) (N + 1) cap')) := Chg.setCell (S := fun k => k = x) (p := ⟨x, 1, none⟩) (Chg.refl _ W) (.inl rfl) _
            refine ⟨.slice (some ⟨g, 0, none⟩) (N + 1) cap', by rw [unhide e], ?_, ?_, ?_⟩
            · have h1 : Chg (ownM x (.slice ao N cap)) wr W := (((Chg.refl _ wr).alloc _).trans (hc.mono (fun k _ hk => .inr hk)))
              exact h1.trans (c2.mono (fun k _ hk => .inl hk))
            · rw [show joinN (-1) ns id = ns ++ [⟨id, 0, 0, 0, 0⟩] by simp [joinN, unhide e]]
              refine ⟨bW.set 1 _, ?_, by simp [Value.ownBlock]; exact hgx⟩
              have hr2 := hr.of_chg c2 (fun k hk hs => by simp [Value.ownBlock] at hk; exact hgx (by rw [hk, hs]))
              rw [flat_append, List.length_append, unhide hNH]
              simpa [flat] using hr2
            · intro g' hg'
              have : g = g' := by simpa [Value.ownBlock] using hg'
              subst this
              rcases hg with h | h
              · exact .inl h
              · right; omega
          clear hr hc hg hgl hrow badH bW hxv
          go_wp2
          go_ret
          exact unhide fin
  · have e : Hid (joinE mode ns id = 1) := by show _ = _; simp [joinE, h1]
    have b1 : (mode == -1) = false := by simpa using h1
    have b2 : (mode != -1) = true := by rw [bne, b1]; rfl
    clear h1
    go_enter Try.func44, Try.ntmps44
    go_wp2
    go_ret
    exact unhide badH _ (unhide e) (by decide) _ (Chg.refl _ _)
end Go.Proofs.Qxb6500369a
