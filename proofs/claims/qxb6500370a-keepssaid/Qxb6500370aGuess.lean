/-
  THE REAL GAME: Guess. (gen70guess.py)
-/
import Derived.Test.Qxb6500370aEq
import Derived.Test.Qxb6500370aQq
import Derived.Test.Qxb6500370aRow
namespace Go.Qx
open Go.RowKit
/-- append onto a slice that owns its row, at a plain step. -/
theorem wpList_append_row {P : Program} {w : World} {ops : Array Oper} {rest : List Oper} {o : Oper} {a : Act} {Q : Exit → Act → World → Prop} (hgd : o.guard = none) (s x : Operand) (t : TypeId)
    (ho : o.op = .call { callee := .builtin .append, args := #[s, x], argTypes := #[t, t] })
    (e : TypeId) (i : TypeInfo) (z : Value) (size bytes : Nat) (ht : P.underlying t = some (.slice e)) (hi : P.info? e = some i) (hz : i.zero = some z)
    (hsize : i.size = size) (hby : i.bytes = bytes) (hzs : z.cells.size = size) (hsz : 0 < size)
    (v : Value) (n : Nat) (xs : List Value) (hs : a.eval s = v) (hown : Row w e size v n xs)
    (ad : Addr) (m c : Nat) (news : List Value) (hx : a.eval x = .slice (some ad) m c) (hl : news.length = m * size) (hnews : ∀ j u, news[j]? = some u → w.cell? (ad.add j) = some u) (h1 : ∀ u ∈ news, u.oneCell' = true)
    (hm : 0 < m) (h63 : n + m ≤ maxLen) (hbytes : (n + m) * bytes ≤ 140737488355328) (H : Nat) (hH : w.heap.size = H)
    (h : ∀ g cap w', Row w' e size (.slice (some ⟨g, 0, none⟩) (n + m) cap) (n + m) (xs ++ news) → Chg (fun x => v.ownBlock = some x) w w' → (v.ownBlock = some g ∨ g = H) → g < w'.heap.size → wpList P ops Q rest (a.put o.dst (.slice (some ⟨g, 0, none⟩) (n + m) cap)) w') : wpList P ops Q (o :: rest) a w :=
  wpList_append_lies (P := P) w hgd s x t ho 0 e i z size bytes ht hi hz hsize hby hzs hsz v n xs hs hown ad m c news hx hl hnews h1 hm h63 hbytes (Nat.zero_le _) H hH
    (fun g cap w' h2 h3 h4 h5 => h g cap w' h2 (Chg.of_grown h3) h4 h5)
theorem news_new (w : World) (t : TypeId) (cs : List Value) : ∀ j u, cs[j]? = some u → (w.alloc (.cells cs.toArray t)).cell? ((⟨w.heap.size, 0, none⟩ : Addr).add j) = some u := by
  intro j u hj
  have h := (Blk.new w t cs).cell j
  rw [show (⟨w.heap.size, 0, none⟩ : Addr).add j = ⟨w.heap.size, j, none⟩ by unfold Addr.add; split <;> simp_all, h]
  exact hj
end Go.Qx
namespace Go.Proofs.Qxb6500370a
open Go.RowKit Go.Qx Go.Qx.Mk
set_option linter.unusedVariables false
set_option linter.unusedSimpArgs false

theorem flatF_append (T : List (Nat → Int)) (t : Nat → Int) : flatF (T ++ [t]) = flatF T ++ wc t := by simp [flatF]
/-- The game in memory while a guess is taken in: its parts need not fit each other. -/
structure HRep (w : World) (G : Nat) (vb vt vs : Value) (L : Nat → Nat) (sec : Nat → Int) (bg hd : Bool) (C : KC) (WS TS : List (Nat → Int)) (SH : List Value) : Prop where
  b : Blk w G 52 (gcells vb vt vs sec C.green bg hd L)
  kr : KRep w L C
  rb : WRow w vb WS
  rt : WRow w vt TS
  rs : Row w 9 1 vs SH.length SH
  far : Far G L
  gb : vb.ownBlock ≠ some G
  gt : vt.ownBlock ≠ some G
  gs : vs.ownBlock ≠ some G
  lb : ∀ i, i < 7 → vb.ownBlock ≠ some (L i)
  lt : ∀ i, i < 7 → vt.ownBlock ≠ some (L i)
  ls : ∀ i, i < 7 → vs.ownBlock ≠ some (L i)
  bt : ∀ x, vb.ownBlock = some x → vt.ownBlock ≠ some x
  bs : ∀ x, vb.ownBlock = some x → vs.ownBlock ≠ some x
  ts : ∀ x, vt.ownBlock = some x → vs.ownBlock ≠ some x
theorem GRep.toH {w : World} {G : Nat} {vb vt vs : Value} {L : Nat → Nat} {st : St} (R : GRep w G vb vt vs L st) : HRep w G vb vt vs L (fw st.sec) st.bg st.hd st.C (st.ws.map fw) (st.ts.map fw) (shownV st) :=
  ⟨R.b, R.kr, R.rb, R.rt, by have := R.rs; rwa [show st.ts.length = (shownV st).length by simp [shownV]] at this, R.far, R.gb, R.gt, R.gs, R.lb, R.lt, R.ls, R.bt, R.bs, R.ts⟩
theorem HRep.toG {w : World} {G : Nat} {vb vt vs : Value} {L : Nat → Nat} {st : St} (R : HRep w G vb vt vs L (fw st.sec) st.bg st.hd st.C (st.ws.map fw) (st.ts.map fw) (shownV st)) : GRep w G vb vt vs L st :=
  ⟨R.b, R.kr, R.rb, R.rt, by have := R.rs; rwa [show (shownV st).length = st.ts.length by simp [shownV]] at this, R.far, R.gb, R.gt, R.gs, R.lb, R.lt, R.ls, R.bt, R.bs, R.ts⟩
section
variable {w w' : World} {G : Nat} {vb vt vs : Value} {L : Nat → Nat} {sec : Nat → Int} {bg hd : Bool} {C : KC} {WS TS : List (Nat → Int)} {SH : List Value}
theorem HRep.quiet (h : HRep w G vb vt vs L sec bg hd C WS TS SH) (c : Quiet w w') : HRep w' G vb vt vs L sec bg hd C WS TS SH :=
  { h with b := c.blk h.b, kr := h.kr.quiet c, rb := Row.quiet h.rb c, rt := Row.quiet h.rt c, rs := h.rs.quiet c }
/-- The tries' row has turned. -/
theorem HRep.tries (h : HRep w G vb vt vs L sec bg hd C WS TS SH) (c : Chg (fun x => x = G ∨ vt.ownBlock = some x) w w') {g n cap : Nat} {TS' : List (Nat → Int)} (b' : Blk w' G 52 (gcells vb (.slice (some ⟨g, 0, none⟩) n cap) vs sec C.green bg hd L)) (r' : WRow w' (.slice (some ⟨g, 0, none⟩) n cap) TS') (hg : vt.ownBlock = some g ∨ w.heap.size ≤ g) :
    HRep w' G vb (.slice (some ⟨g, 0, none⟩) n cap) vs L sec bg hd C WS TS' SH := by
  have far : ∀ x, x < w.heap.size → vt.ownBlock ≠ some x → (Value.slice (some ⟨g, 0, none⟩) n cap).ownBlock ≠ some x := by
    intro x hx hn e
    simp [Value.ownBlock] at e
    subst e
    rcases hg with h | h
    · exact hn h
    · omega
  refine { b := b', kr := h.kr.of_chg c ?_, rb := Row.of_chg h.rb c ?_, rt := r', rs := h.rs.of_chg c ?_, far := h.far, gb := h.gb, gt := far _ h.b.lt h.gt, gs := h.gs, lb := h.lb, lt := fun i hi => far _ (h.kr.lt i hi) (h.lt i hi), ls := h.ls, bt := fun x hx => far _ (Row.lt h.rb hx) (h.bt x hx), bs := h.bs, ts := fun x hx e => far _ (Row.lt h.rs e) (fun e2 => h.ts x e2 e) hx }
  · rintro i hi (e | e)
    · exact h.far.1 i hi e
    · exact h.lt i hi e
  · rintro x hx (e | e)
    · exact h.gb (by rw [hx, e])
    · exact h.bt x hx e
  · rintro x hx (e | e)
    · exact h.gs (by rw [hx, e])
    · exact h.ts x e hx
/-- The marks' row has turned. -/
theorem HRep.shown' (h : HRep w G vb vt vs L sec bg hd C WS TS SH) (c : Chg (fun x => x = G ∨ vs.ownBlock = some x) w w') {g n cap : Nat} {SH' : List Value} (b' : Blk w' G 52 (gcells vb vt (.slice (some ⟨g, 0, none⟩) n cap) sec C.green bg hd L)) (r' : Row w' 9 1 (.slice (some ⟨g, 0, none⟩) n cap) SH'.length SH') (hg : vs.ownBlock = some g ∨ w.heap.size ≤ g) :
    HRep w' G vb vt (.slice (some ⟨g, 0, none⟩) n cap) L sec bg hd C WS TS SH' := by
  have far : ∀ x, x < w.heap.size → vs.ownBlock ≠ some x → (Value.slice (some ⟨g, 0, none⟩) n cap).ownBlock ≠ some x := by
    intro x hx hn e
    simp [Value.ownBlock] at e
    subst e
    rcases hg with h | h
    · exact hn h
    · omega
  refine { b := b', kr := h.kr.of_chg c ?_, rb := Row.of_chg h.rb c ?_, rt := Row.of_chg h.rt c ?_, rs := r', far := h.far, gb := h.gb, gt := h.gt, gs := far _ h.b.lt h.gs, lb := h.lb, lt := h.lt, ls := fun i hi => far _ (h.kr.lt i hi) (h.ls i hi), bt := h.bt, bs := fun x hx => far _ (Row.lt h.rb hx) (h.bs x hx), ts := fun x hx => far _ (Row.lt h.rt hx) (h.ts x hx) }
  · rintro i hi (e | e)
    · exact h.far.1 i hi e
    · exact h.ls i hi e
  · rintro x hx (e | e)
    · exact h.gb (by rw [hx, e])
    · exact h.bs x hx e
  · rintro x hx (e | e)
    · exact h.gt (by rw [hx, e])
    · exact h.ts x hx e
/-- What the try teaches is taken in. -/
theorem HRep.learnt (h : HRep w G vb vt vs L sec bg hd C WS TS SH) {s t : Nat → Int} (l : LR w w' G L vb vt vs sec bg hd s t C 5) : HRep w' G vb vt vs L sec bg hd (learnC t (Mk.mark 5 s t) (kOf s t) C 5) WS TS SH := by
  have out : ∀ v : Value, v.ownBlock ≠ some G → (∀ i, i < 7 → v.ownBlock ≠ some (L i)) → ∀ x, v.ownBlock = some x → ¬ lown G L x := by
    rintro v h1 h2 x hx (rfl | ⟨i, hi, rfl⟩)
    · exact h1 hx
    · exact h2 i hi hx
  exact { h with b := l.b, kr := l.kr, rb := Row.of_chg h.rb l.ch (out vb h.gb h.lb), rt := Row.of_chg h.rt l.ch (out vt h.gt h.lt), rs := h.rs.of_chg l.ch (out vs h.gs h.ls) }
end


/-- No round is on. -/
def idleB (st : St) : Bool := !st.bg || (decide (6 ≤ st.ts.length) || (decide (0 < st.ts.length) && decide (st.ts.getD (st.ts.length - 1) [] = st.sec)))
def guessP (st : St) (j : Int) : List UInt8 × Int × St :=
  if j < 0 ∨ st.ws.length ≤ j then ([], 5, st)
  else if idleB st then ([], 6, st)
  else if st.hd && !agreeB st (st.ws.getD j.toNat []) then ([], 7, st)
  else (marksL (fw st.sec) (fw (st.ws.getD j.toNat [])), 0, { st with ts := st.ts ++ [st.ws.getD j.toNat []] })
theorem idle_false {st : St} (h : idleB st = false) : st.bg = true ∧ st.ts.length < 6 := by
  unfold idleB at h
  cases hb : st.bg with
  | false => rw [hb] at h; simp at h
  | true =>
    rw [hb] at h
    by_cases h6 : 6 ≤ st.ts.length
    · simp [h6] at h
    · exact ⟨rfl, by omega⟩
theorem guess_ok {st : St} (ok : st.Ok) (j : Int) : (guessP st j).2.2.Ok := by
  unfold guessP
  split
  · exact ok
  split
  · exact ok
  split
  · exact ok
  · rename_i h1 h2 h3
    obtain ⟨hb, h6⟩ := idle_false (by simpa using h2)
    have hw : Word (st.ws.getD j.toNat []) := by
      have hj : j.toNat < st.ws.length := by omega
      rw [List.getD_eq_getElem?_getD, List.getElem?_eq_getElem hj]
      exact ok.ws _ (List.getElem_mem hj)
    refine { ok with ts := ?_, nob := ?_, six := ?_ }
    · intro x hx
      rcases List.mem_append.1 hx with h | h
      · exact ok.ts x h
      · rw [List.mem_singleton.1 h]; exact hw
    · intro hf
      exact absurd hf (by rw [show ({ st with ts := st.ts ++ [st.ws.getD j.toNat []] } : St).bg = st.bg from rfl, hb]; simp)
    · rw [List.length_append, List.length_singleton]; omega

/-- What the guess leaves. -/
def GPost (w : World) (O : Nat → Prop) (G : Nat) (p : List UInt8 × Int × St) (e : Ending) (w' : World) : Prop :=
  e = .returned (.tuple #[.string (str p.1), .int .i64 p.2.1]) ∧ ∃ O', RRep w' O' G p.2.2 ∧ Chg O w w' ∧ ∀ x, O' x → O x ∨ w.heap.size ≤ x
theorem GPost.same {w w' : World} {O : Nat → Prop} {G : Nat} {st : St} {e : Ending} (h : RRep w O G st) (q : Quiet w w') (l : List UInt8) (k : Int) (he : e = .returned (.tuple #[.string (str l), .int .i64 k])) : GPost w O G (l, k, st) e w' :=
  ⟨he, O, h.quiet q, q.chg _, fun x hx => .inl hx⟩

theorem info9 : (Try.prog.info? 9).map (fun i => (i.zero, i.size, i.bytes)) = some (some (.string ⟨#[]⟩), 1, 16) := by kernel_rfl
theorem und30 : Try.prog.underlying 30 = some (.slice 9) := by kernel_rfl
theorem one_str (s : ByteArray) : ∀ u ∈ [Value.string s], u.oneCell' = true := by
  intro u hu
  rw [List.mem_singleton.1 hu]; rfl
theorem guess_fin {w w7 : World} {O : Nat → Prop} {G : Nat} {st : St} {vb vt vs : Value} {L : Nat → Nat} (hO : ∀ x, GO G vb vt vs L x → O x) (l : List Int) {g3 n3 cap3 g5 n5 cap5 : Nat}
    (H7 : HRep w7 G vb (.slice (some ⟨g3, 0, none⟩) n3 cap3) (.slice (some ⟨g5, 0, none⟩) n5 cap5) L (fw st.sec) st.bg st.hd (learnC (fw l) (Mk.mark 5 (fw st.sec) (fw l)) (kOf (fw st.sec) (fw l)) st.C 5) (st.ws.map fw) (st.ts.map fw ++ [fw l]) (shownV st ++ [.string (str (marksL (fw st.sec) (fw l)))]))
    (C7 : Chg O w w7) (hg3 : vt.ownBlock = some g3 ∨ w.heap.size ≤ g3) (hg5 : vs.ownBlock = some g5 ∨ w.heap.size ≤ g5) (e : Ending) (he : e = .returned (.tuple #[.string (str (marksL (fw st.sec) (fw l))), .int .i64 0])) :
    GPost w O G (marksL (fw st.sec) (fw l), 0, { st with ts := st.ts ++ [l] }) e w7 := by
  refine ⟨he, GO G vb (.slice (some ⟨g3, 0, none⟩) n3 cap3) (.slice (some ⟨g5, 0, none⟩) n5 cap5) L, ⟨vb, _, _, L, ?_, fun x hx => hx⟩, C7, ?_⟩
  · refine HRep.toG ?_
    have e1 : ({ st with ts := st.ts ++ [l] } : St).C = learnC (fw l) (Mk.mark 5 (fw st.sec) (fw l)) (kOf (fw st.sec) (fw l)) st.C 5 := by
      unfold St.C
      rw [List.map_append]
      exact taught_append _ _ _ _
    have e2 : shownV { st with ts := st.ts ++ [l] } = shownV st ++ [.string (str (marksL (fw st.sec) (fw l)))] := by
      unfold shownV; simp
    rw [e1, e2]
    show HRep w7 G vb _ _ L (fw st.sec) st.bg st.hd _ (st.ws.map fw) ((st.ts ++ [l]).map fw) _
    rw [List.map_append]
    exact H7
  · rintro x (rfl | h | h | h | h)
    · exact .inl (hO _ (.inl rfl))
    · exact .inl (hO _ (.inr (.inl h)))
    · simp [Value.ownBlock] at h
      subst h
      rcases hg3 with h | h
      · exact .inl (hO _ (.inr (.inr (.inl h))))
      · exact .inr h
    · simp [Value.ownBlock] at h
      subst h
      rcases hg5 with h | h
      · exact .inl (hO _ (.inr (.inr (.inr (.inl h)))))
      · exact .inr h
    · exact .inl (hO _ (.inr (.inr (.inr (.inr h)))))

set_option maxHeartbeats 4000000 in
set_option maxRecDepth 100000 in
theorem guess_any (w : World) (O : Nat → Prop) (G : Nat) (st : St) (ok : st.Ok) (h : RRep w O G st) (i : Int) : Calls Try.prog 20 #[ptr G, .int .i64 i] w (GPost w O G (guessP st i)) := by
  have hh := hide h
  obtain ⟨vb, vt, vs, L, R, hO⟩ := h
  have hG := R.b.lt
  have six := ok.six
  have few := ok.few
  have cb : w.cell? ⟨G, 0, none⟩ = some vb := R.b.cell 0
  obtain ⟨x, cp, hx⟩ := R.rb.sl
  rw [hx] at cb
  have hl : (st.ws.map fw).length = st.ws.length := by simp
  have hlt : (st.ts.map fw).length = st.ts.length := by simp
  rw [hl] at cb hx
  unfold ptr
  by_cases hbad : i < 0 ∨ (st.ws.length : Int) ≤ i
  · have hp : guessP st i = ([], 5, st) := by unfold guessP; rw [if_pos hbad]
    rw [hp]
    have fin : Hid (∀ e, e = .returned (.tuple #[.string (str []), .int .i64 5]) → GPost w O G ([], 5, st) e w) := fun e he => GPost.same (unhide hh) (Chg.refl _ _) _ _ he
    clear R hO hp ok hl hlt six few hh
    generalize st.ws.length = n at *
    rcases hbad with h1 | h1
    · clear cb hx
      go_enter Try.func20, Try.ntmps20
      go_wp2
      go_ret2
      exact unhide fin _ rfl
    · by_cases h0 : i < 0
      · clear cb hx
        go_enter Try.func20, Try.ntmps20
        go_wp2
        go_ret2
        exact unhide fin _ rfl
      · go_enter Try.func20, Try.ntmps20
        go_wp2
        go_ret2
        exact unhide fin _ rfl
  · obtain ⟨j, rfl⟩ : ∃ j : Nat, i = j := ⟨i.toNat, by omega⟩
    have hjl : j < st.ws.length := by omega
    have k1 : ¬ (j : Int) < 0 := by omega
    have k2 : ¬ (st.ws.length : Int) ≤ (j : Int) := by omega
    have c1 : w.cell? ⟨G, 1, none⟩ = some vt := R.b.cell 1
    obtain ⟨x2, cp2, hx2⟩ := R.rt.sl
    rw [hx2, hlt] at c1
    have c12 : w.cell? ⟨G, 12, none⟩ = some (.bool st.bg) := R.b.cell 12
    have i2 : w.cell? ⟨G, 2, none⟩ = some (rk (fw st.sec 0)) := R.b.cell 2
    have i3 : w.cell? ⟨G, 3, none⟩ = some (rk (fw st.sec 1)) := R.b.cell 3
    have i4 : w.cell? ⟨G, 4, none⟩ = some (rk (fw st.sec 2)) := R.b.cell 4
    have i5 : w.cell? ⟨G, 5, none⟩ = some (rk (fw st.sec 3)) := R.b.cell 5
    have i6 : w.cell? ⟨G, 6, none⟩ = some (rk (fw st.sec 4)) := R.b.cell 6
    by_cases hidle : idleB st = true
    · have hp : guessP st j = ([], 6, st) := by unfold guessP; rw [if_neg hbad, if_pos hidle]
      rw [hp]
      have fin : Hid (∀ e w', Quiet w w' → e = .returned (.tuple #[.string (str []), .int .i64 6]) → GPost w O G ([], 6, st) e w') := fun e w' q he => GPost.same (unhide hh) q _ _ he
      have cases3 : st.bg = false ∨ (st.bg = true ∧ st.ts.length = 6) ∨ ∃ m t, st.bg = true ∧ st.ts.length = m + 1 ∧ m < 5 ∧ st.ts[m]? = some t ∧ t = st.sec := by
        unfold idleB at hidle
        cases hb : st.bg with
        | false => exact .inl rfl
        | true =>
          right
          rw [hb] at hidle
          by_cases h6 : 6 ≤ st.ts.length
          · exact .inl ⟨rfl, by omega⟩
          · right
            simp [h6] at hidle
            obtain ⟨m, hm⟩ : ∃ m, st.ts.length = m + 1 := ⟨st.ts.length - 1, by have := hidle.1; omega⟩
            have h2 := hidle.2
            rw [hm] at h2
            refine ⟨m, _, rfl, hm, by omega, List.getElem?_eq_getElem (show m < st.ts.length by omega), ?_⟩
            rw [Nat.add_sub_cancel, List.getElem?_eq_getElem (show m < st.ts.length by omega)] at h2
            simpa using h2
      rcases cases3 with hb | ⟨hb, h6⟩ | ⟨m, t, hb, hm, hm5, htm, hts⟩
      · rw [hb] at c12
        clear R hO hp ok hl hlt six few hh hidle hbad hb hx2 hx i2 i3 i4 i5 i6
        generalize st.ws.length = n at *
        go_enter Try.func20, Try.ntmps20
        go_wp2
        go_quiet (fail)
        go_wp2
        go_ret2
        exact unhide fin _ _ ((Chg.refl _ _).drewN _) rfl
      · rw [hb] at c12
        rw [h6] at c1
        clear R hO hp ok hl hlt six few hh hidle hbad hb hx2 hx i2 i3 i4 i5 i6 h6
        generalize st.ws.length = n at *
        go_enter Try.func20, Try.ntmps20
        go_wp2
        go_quiet (fail)
        go_wp2
        go_ret2
        exact unhide fin _ _ ((Chg.refl _ _).drewN _) rfl
      · obtain ⟨g2, cap2, t2, htj2, hv2, r0, r1, r2, r3, r4⟩ := R.rt.cells m (by rw [hlt]; omega)
        obtain ⟨h1, h2⟩ : x2 = some ⟨g2, 0, none⟩ ∧ cp2 = cap2 := by
          have := hx2.symm.trans hv2
          simp at this; exact ⟨this.1, this.2⟩
        subst h1; subst h2
        have ht2 : t2 = fw st.sec := by
          rw [List.getElem?_map, htm, hts] at htj2
          simpa using htj2.symm
        subst ht2
        have he := fun W => eql50 W (fw st.sec) (fw st.sec)
        rw [show sameW (fw st.sec) (fw st.sec) = true by simp [sameW]] at he
        rw [hb] at c12
        rw [hm] at c1
        have d0 : decide ((6 : Int) ≤ (m : Int) + 1) = false := decide_eq_false (by omega)
        have d1 : decide ((0 : Int) < (m : Int) + 1) = true := decide_eq_true (by omega)
        have d2 : (m : Int) + 1 - 1 = (m : Int) := by omega
        have d3 : (0 : Int) ≤ (m : Int) := by omega
        have d4 : (m : Int) < (m : Int) + 1 := by omega
        clear R hO hp ok hl hlt six few hh hidle hbad hb hx2 hx hm htm hts htj2 hv2
        generalize st.ws.length = n at *
        generalize fw st.sec 0 = z0 at *
        generalize fw st.sec 1 = z1 at *
        generalize fw st.sec 2 = z2 at *
        generalize fw st.sec 3 = z3 at *
        generalize fw st.sec 4 = z4 at *
        go_enter Try.func20, Try.ntmps20
        go_wp2
        go_quiet (fail)
        go_wp2
        go_ret2
        exact unhide fin _ _ ((Chg.refl _ _).drewN _) rfl
    · have hidle : idleB st = false := by simpa using hidle
      obtain ⟨hb, h6⟩ := idle_false hidle
      obtain ⟨g, cap, t, htj, hv, b0, b1, b2, b3, b4⟩ := R.rb.cells j (by rw [hl]; exact hjl)
      obtain ⟨h1, h2⟩ : x = some ⟨g, 0, none⟩ ∧ cp = cap := by
        have := hx.symm.trans hv
        simp at this; exact this
      subst h1; subst h2
      obtain ⟨l, hlj, rfl⟩ : ∃ l, st.ws[j]? = some l ∧ fw l = t := by
        rw [List.getElem?_map] at htj
        cases h : st.ws[j]? with
        | none => rw [h] at htj; cases htj
        | some l => rw [h] at htj; exact ⟨l, rfl, by simpa using htj⟩
      have hp : guessP st j = if st.hd && !agreeB st l then ([], 7, st) else (marksL (fw st.sec) (fw l), 0, { st with ts := st.ts ++ [l] }) := by
        have hgd : st.ws.getD (j : Int).toNat [] = l := by rw [Int.toNat_natCast, List.getD_eq_getElem?_getD, hlj]; rfl
        unfold guessP
        rw [if_neg hbad, if_neg (by rw [hidle]; simp), hgd]
      rw [hp]
      have cases2 : (st.ts.length = 0) ∨ ∃ m t, st.ts.length = m + 1 ∧ m < 5 ∧ st.ts[m]? = some t ∧ sameW (fw t) (fw st.sec) = false := by
        cases hn : st.ts.length with
        | zero => exact .inl rfl
        | succ m =>
          right
          have hm : m < st.ts.length := by omega
          refine ⟨m, st.ts[m], rfl, by omega, List.getElem?_eq_getElem hm, ?_⟩
          rw [sameW_fw (ok.ts _ (List.getElem_mem hm)).1 ok.sec]
          unfold idleB at hidle
          rw [hb, hn, Nat.add_sub_cancel, List.getD_eq_getElem?_getD, List.getElem?_eq_getElem hm] at hidle
          simp at hidle
          exact decide_eq_false hidle.2
      have k3 : (j : Int) < (st.ws.length : Int) := by omega
      have k4 : (0 : Int) ≤ (j : Int) := by omega
      rw [hb] at c12
      rw [hlt] at hx2
      subst hx2
      have RH := hide (⟨R, hO, ok, hh⟩ : _ ∧ _ ∧ _ ∧ _)
      obtain ⟨n, hn⟩ : ∃ n, st.ts.length = n := ⟨_, rfl⟩
      rw [hn] at c1 cases2 RH h6
      have hnH := hide hn
      have hvH := hide hv
      obtain ⟨N, hN⟩ : ∃ N, st.ws.length = N := ⟨_, rfl⟩
      rw [hN] at cb k2 k3
      have hrest : Hid (∀ W0, Quiet w W0 → W0.cell? ⟨G, 0, none⟩ = some (.slice (some ⟨g, 0, none⟩) N cp) ∧ W0.cell? ⟨g, j * 5, none⟩ = some (rk (fw l 0)) ∧ W0.cell? ⟨g, j * 5 + 1, none⟩ = some (rk (fw l 1)) ∧ W0.cell? ⟨g, j * 5 + 2, none⟩ = some (rk (fw l 2)) ∧ W0.cell? ⟨g, j * 5 + 3, none⟩ = some (rk (fw l 3)) ∧ W0.cell? ⟨g, j * 5 + 4, none⟩ = some (rk (fw l 4))) :=
        fun W0 q => ⟨Quiet.cell q cb, Quiet.cell q b0, Quiet.cell q b1, Quiet.cell q b2, Quiet.cell q b3, Quiet.cell q b4⟩
      have he0 : Hid (∀ m t, n = m + 1 → st.ts[m]? = some t → ∃ g2, x2 = some ⟨g2, 0, none⟩ ∧ w.cell? ⟨g2, m * 5, none⟩ = some (rk (fw t 0)) ∧ w.cell? ⟨g2, m * 5 + 1, none⟩ = some (rk (fw t 1)) ∧ w.cell? ⟨g2, m * 5 + 2, none⟩ = some (rk (fw t 2)) ∧ w.cell? ⟨g2, m * 5 + 3, none⟩ = some (rk (fw t 3)) ∧ w.cell? ⟨g2, m * 5 + 4, none⟩ = some (rk (fw t 4))) := by
        show ∀ m t, n = m + 1 → st.ts[m]? = some t → _
        intro m t hm htm
        obtain ⟨g2, cap2, t2, htj2, hv2, r0, r1, r2, r3, r4⟩ := R.rt.cells m (by rw [hlt]; omega)
        rw [List.getElem?_map, htm] at htj2
        have ht2 : fw t = t2 := by simpa using htj2
        subst ht2
        have hx3 : x2 = some ⟨g2, 0, none⟩ := by simp at hv2; exact hv2.1
        exact ⟨g2, hx3, r0, r1, r2, r3, r4⟩
      have hhdv : ∀ W, Quiet w W → W.cell? ⟨G, 13, none⟩ = some (.bool st.hd) := fun W q => Quiet.cell q (R.b.cell 13)
      have hhdH := hide hhdv
      obtain ⟨x3, cp3, hx3⟩ := R.shownSl
      subst hx3
      rw [hn] at RH
      clear R hO hp ok hl hlt six few hh hidle hbad hb hx htj hlj hn hN hhdv hvH cb b0 b1 b2 b3 b4 hv
      have key : ∀ hdv agv, st.hd = hdv → agreeB st l = agv → Calls Try.prog 20 #[.pointer (some ⟨G, 0, none⟩), .int .i64 (j : Int)] w (GPost w O G (if hdv && !agv then ([], 7, st) else (marksL (fw st.sec) (fw l), 0, { st with ts := st.ts ++ [l] }))) := by
        intro hdv agv hhd hag
        have hhc : Hid (∀ W, Quiet w W → W.cell? ⟨G, 13, none⟩ = some (.bool hdv)) := by show ∀ W, _; rw [← hhd]; exact unhide hhdH
        have hallow : Hid (∀ W, Quiet w W → Calls Try.prog 34 #[.pointer (some ⟨G, 0, none⟩), .agg #[rk (fw l 0), rk (fw l 1), rk (fw l 2), rk (fw l 3), rk (fw l 4)]] W fun e w' => e = .returned (.bool agv) ∧ Quiet W w') := by
          show ∀ W, _
          intro W q
          rw [← hag]
          exact allowsG W G _ _ _ L st (unhide RH).2.2.1 ((unhide RH).1.quiet q) l
        clear hhd hag hhdH
        rcases cases2 with hz | ⟨m, t, hm, hm5, htm, hsw⟩
        · have cb := (unhide hrest w (Chg.refl _ _)).1
          subst hz
          clear he0
          cases hdv with
          | false =>
            simp only [Bool.false_and, Bool.false_eq_true, if_false]
            clear hallow
            go_enter Try.func20, Try.ntmps20
            go_wp2
            go_quiet (fail)
            have q0 : Quiet w (w.drewN nq) := (Chg.refl _ _).drewN _
            generalize w.drewN nq = W0 at *
            obtain ⟨cb0, b0, b1, b2, b3, b4⟩ := unhide hrest W0 q0
            have hG0 : G < W0.heap.size := Nat.lt_of_lt_of_le hG q0.size
            obtain ⟨W1, hW1⟩ : ∃ W, W0.alloc (.cells #[rk (fw l 0), rk (fw l 1), rk (fw l 2), rk (fw l 3), rk (fw l 4)] 50) = W := ⟨_, rfl⟩
            have q1 : Quiet w W1 := by rw [← hW1]; exact Chg.alloc q0 _
            have BD : Blk W1 W0.heap.size 50 (wc (fw l)) := by rw [← hW1]; exact Blk.new W0 50 (wc (fw l))
            have c13 := unhide hhc W1 q1
            have hDw : Hid (w.heap.size ≤ W0.heap.size) := q0.size
            obtain ⟨D, hD⟩ : ∃ D, W0.heap.size = D := ⟨_, rfl⟩
            rw [hD] at BD hDw
            have Q := hide q1
            have BDH := hide BD
            have e0 : W1.cell? ⟨D, 0, none⟩ = some (rk (fw l 0)) := BD.cell 0
            have e1 : W1.cell? ⟨D, 1, none⟩ = some (rk (fw l 1)) := BD.cell 1
            have e2 : W1.cell? ⟨D, 2, none⟩ = some (rk (fw l 2)) := BD.cell 2
            have e3 : W1.cell? ⟨D, 3, none⟩ = some (rk (fw l 3)) := BD.cell 3
            have e4 : W1.cell? ⟨D, 4, none⟩ = some (rk (fw l 4)) := BD.cell 4
            clear q1 BD q0 c1 c12 i2 i3 i4 i5 i6 cb 
            clear e0 e1 e2 e3 e4
            go_wp2
            clear c13 cb0 b0 b1 b2 b3 b4
            have gB := ((unhide RH).1.quiet (unhide Q)).b
            have y2 : ∀ q : QW W1, q.w.cell? ⟨G, 2, none⟩ = some (rk (fw st.sec 0)) := fun q => QW.blk gB q 2
            have y3 : ∀ q : QW W1, q.w.cell? ⟨G, 3, none⟩ = some (rk (fw st.sec 1)) := fun q => QW.blk gB q 3
            have y4 : ∀ q : QW W1, q.w.cell? ⟨G, 4, none⟩ = some (rk (fw st.sec 2)) := fun q => QW.blk gB q 4
            have y5 : ∀ q : QW W1, q.w.cell? ⟨G, 5, none⟩ = some (rk (fw st.sec 3)) := fun q => QW.blk gB q 5
            have y6 : ∀ q : QW W1, q.w.cell? ⟨G, 6, none⟩ = some (rk (fw st.sec 4)) := fun q => QW.blk gB q 6
            have u0 : ∀ q : QW W1, q.w.cell? ⟨D, 0, none⟩ = some (rk (fw l 0)) := fun q => QW.blk (unhide BDH) q 0
            have u1 : ∀ q : QW W1, q.w.cell? ⟨D, 1, none⟩ = some (rk (fw l 1)) := fun q => QW.blk (unhide BDH) q 1
            have u2 : ∀ q : QW W1, q.w.cell? ⟨D, 2, none⟩ = some (rk (fw l 2)) := fun q => QW.blk (unhide BDH) q 2
            have u3 : ∀ q : QW W1, q.w.cell? ⟨D, 3, none⟩ = some (rk (fw l 3)) := fun q => QW.blk (unhide BDH) q 3
            have u4 : ∀ q : QW W1, q.w.cell? ⟨D, 4, none⟩ = some (rk (fw l 4)) := fun q => QW.blk (unhide BDH) q 4
            have hM : Hid (∀ W, Calls Try.prog 35 #[.agg #[rk (fw st.sec 0), rk (fw st.sec 1), rk (fw st.sec 2), rk (fw st.sec 3), rk (fw st.sec 4)], .agg #[rk (fw l 0), rk (fw l 1), rk (fw l 2), rk (fw l 3), rk (fw l 4)]] W fun e w' => e = .returned (.string (str (marksL (fw st.sec) (fw l)))) ∧ Quiet W w') := fun W => marks_any W (fw st.sec) (fw l)
            clear gB
            refine wp_region_noPanic ?_
            try simp only [List.append_eq, List.cons_append, List.nil_append]
            refine wp_region_mixq [(0, true), (1, true), (2, true), (3, true), (4, true), (5, true), (6, true)] [] (by kernel_rfl) (by kernel_rfl) (fun _ _ _ _ _ h => h) ?_
            simp only [pickM, pickO, List.getElem?_cons_zero, List.getElem?_cons_succ]
            repeat (first | (refine wpMix_read rfl (fun K hK => ?_)) | (refine wpMix_pure rfl (fun K hK => ?_))
                    go_big_quiet_op
                    first | (refine hK _ ?_; clear hK K) | (apply Exists.intro; refine ⟨fun _ => ?_, ?_⟩; (· (first | (go_at_call 35; exact Calls.in_qw (unhide hM _)))); refine hK _ ?_; clear hK K))
            refine wpMix_nil ?_
            intro _ hw'
            obtain ⟨qq, hw''⟩ := hw'
            subst hw''
            have hqq := qq.q
            generalize qq.w = wq at *
            clear hM y2 y3 y4 y5 y6 u0 u1 u2 u3 u4
            have Q2 := hide (Quiet.trans (unhide Q) hqq)
            have BD2 := hqq.blk (unhide BDH)
            clear Q BDH hqq
            have R2 := (unhide RH).1.toH.quiet (unhide Q2)
            have bG := R2.b
            have hGq := bG.lt
            have hDq := BD2.lt
            have c1 : wq.cell? ⟨G, 1, none⟩ = some (Value.slice x2 0 cp2) := bG.cell 1
            have f1 := bG.frozen 1
            have d0 : wq.cell? ⟨D, 0, none⟩ = some (rk (fw l 0)) := BD2.cell 0
            have d1 : wq.cell? ⟨D, 1, none⟩ = some (rk (fw l 1)) := BD2.cell 1
            have d2 : wq.cell? ⟨D, 2, none⟩ = some (rk (fw l 2)) := BD2.cell 2
            have d3 : wq.cell? ⟨D, 3, none⟩ = some (rk (fw l 3)) := BD2.cell 3
            have d4 : wq.cell? ⟨D, 4, none⟩ = some (rk (fw l 4)) := BD2.cell 4
            have row2 : Row wq 50 5 (Value.slice x2 0 cp2) 0 (flatF (st.ts.map fw)) := by
              have h := R2.rt
              unfold WRow at h
              rw [List.length_map, show st.ts.length = 0 from unhide hnH] at h
              exact h
            have hgt := R2.gt
            have hvD : (Value.slice x2 0 cp2).ownBlock ≠ some D := fun h => by have h1 := Row.lt (unhide RH).1.rt h; have h2 := unhide hDw; omega
            have hvS : (Value.slice x3 0 cp3).ownBlock ≠ some D := fun h => by have h1 := Row.lt (unhide RH).1.rs h; have h2 := unhide hDw; omega
            have hGD : D ≠ G := by have h1 := (unhide RH).1.b.lt; have h2 := unhide hDw; omega
            obtain ⟨i0, hi0, hz0, hz1, hz2⟩ := info_parts info50
            go_wp2
            refine NoPanic.normal ?_
            go_wp2
            go_region_law
              ((refine step_append_row (by rfl) _ _ _ (by rfl) 50 i0 _ 5 20 Try.underlying48 hi0 hz0 hz1 hz2 rfl (by omega) (Value.slice x2 0 cp2) 0 (flatF (st.ts.map fw)) (by rfl) (row2.quiet (((Chg.refl _ _).alloc _).drew))
                  ⟨wq.heap.size, 0, none⟩ 1 1 [Value.int .i32 (fw l 0), .int .i32 (fw l 1), .int .i32 (fw l 2), .int .i32 (fw l 3), .int .i32 (fw l 4)] (by rfl) (by rfl) (World.news_of_block (cs := #[.int .i32 (fw l 0), .int .i32 (fw l 1), .int .i32 (fw l 2), .int .i32 (fw l 3), .int .i32 (fw l 4)]) (t := 50) (fr := (0, 0)) (heap_alloc_new wq _)) (by simp [Value.oneCell'])
                  (by omega) (by unfold maxLen; omega) (by omega) (wq.heap.size + 1) (by simp) ?_
                intro g3 cap3 w3 row3 hch3 hat hlt
                have bG3 := hch3.blk ((bG.alloc (.cells #[.int .i32 (fw l 0), .int .i32 (fw l 1), .int .i32 (fw l 2), .int .i32 (fw l 3), .int .i32 (fw l 4)] 50)).drew) hgt
                have c3 : w3.cell? ⟨G, 1, none⟩ = some (Value.slice x2 0 cp2) := bG3.cell 1
                have f3 := bG3.frozen 1))
            all_goals
              have hg3G : g3 ≠ G := fun e => by
                rcases hat with h | h
                · exact hgt (by rw [h, e])
                · omega
              have c4 : Chg (fun x => x = G ∨ ((Value.slice x2 0 cp2)).ownBlock = some x) wq (w3.setCell ⟨G, 1, none⟩ (.slice (some ⟨g3, 0, none⟩) (0 + 1) cap3)) := ((((Chg.refl _ wq).alloc _).drew).trans (hch3.mono (fun _ _ h => .inr h))).setCell (.inl (.inl rfl)) _
              have b4 : Blk (w3.setCell ⟨G, 1, none⟩ (.slice (some ⟨g3, 0, none⟩) (0 + 1) cap3)) G 52 (gcells vb (.slice (some ⟨g3, 0, none⟩) (0 + 1) cap3) (Value.slice x3 0 cp3) (fw st.sec) st.C.green st.bg st.hd L) := bG3.set 1 _
              have r4 : WRow (w3.setCell ⟨G, 1, none⟩ (.slice (some ⟨g3, 0, none⟩) (0 + 1) cap3)) (.slice (some ⟨g3, 0, none⟩) (0 + 1) cap3) (st.ts.map fw ++ [fw l]) := by
                have h := Row.of_chg row3 ((Chg.refl (fun x => x = G) w3).setCell (p := ⟨G, 1, none⟩) (.inl rfl) (.slice (some ⟨g3, 0, none⟩) (0 + 1) cap3)) (fun x hx e => by simp [Value.ownBlock] at hx; exact hg3G (by rw [hx, e]))
                unfold WRow
                rw [List.length_append, List.length_map, show st.ts.length = 0 from unhide hnH, flatF_append]
                exact h
              have BD4 : Blk (w3.setCell ⟨G, 1, none⟩ (.slice (some ⟨g3, 0, none⟩) (0 + 1) cap3)) D 50 (wc (fw l)) := (hch3.blk ((BD2.alloc _).drew) hvD).set_other hGD _
              have H4 := R2.tries c4 b4 r4 (by rcases hat with h | h; exact .inl h; right; omega)
              have C4 : Hid (Chg O w (w3.setCell ⟨G, 1, none⟩ (.slice (some ⟨g3, 0, none⟩) (0 + 1) cap3))) := Chg.trans' ((unhide Q2).chg O) c4 (fun x _ h => (unhide RH).2.1 x (by rcases h with h | h; exact .inl h; exact .inr (.inr (.inl h))))
              have hg3H : Hid (((Value.slice x2 0 cp2)).ownBlock = some g3 ∨ w.heap.size ≤ g3) := by
                rcases hat with h | h
                · exact .inl h
                · right; have := (unhide Q2).size; omega
              clear c1 f1 d0 d1 d2 d3 d4 row2 hgt row3 hch3 hat hlt bG3 c3 f3 hg3G c4 b4 r4 bG R2 BD2
              generalize w3.setCell ⟨G, 1, none⟩ (.slice (some ⟨g3, 0, none⟩) (0 + 1) cap3) = W4 at *
              have rs4 : Row W4 9 1 ((Value.slice x3 0 cp3)) 0 (shownV st) := by
                have h := H4.rs
                rwa [show (shownV st).length = 0 by rw [show (shownV st).length = st.ts.length by simp [shownV]]; exact unhide hnH] at h
              have cs4 : W4.cell? ⟨G, 14, none⟩ = some ((Value.slice x3 0 cp3)) := H4.b.cell 14
              have hG4 := H4.b.lt
              obtain ⟨i9, hi9, hy0, hy1, hy2⟩ := info_parts info9
              have H4H := hide H4
              have BD4H := hide BD4
              clear H4 BD4
              obtain ⟨MM, hMM⟩ : ∃ M, str (marksL (fw st.sec) (fw l)) = M := ⟨_, rfl⟩
              rw [hMM]
              have hMMH := hide hMM
              clear hMM
              go_wp2_with (at_builtin; refine wpList_append_row rfl (.tmp 90) (.tmp 92) 30 rfl 9 i9 _ 1 16 und30 hi9 hy0 hy1 hy2 rfl (by omega) ((Value.slice x3 0 cp3)) 0 (shownV st) rfl (rs4.quiet ((Chg.refl _ _).alloc _)) ⟨W4.heap.size, 0, none⟩ 1 1 [.string MM] rfl rfl (news_new _ _ _) (one_str _) (by omega) (by unfold maxLen; omega) (by omega) _ rfl ?_)
              intro g5 cap5 w5 row5 hch5 hat5 hlt5
              have H4 := unhide H4H
              have BD4 := unhide BD4H
              have b5 := hch5.blk (H4.b.alloc _) H4.gs
              have d5 := hch5.blk (BD4.alloc _) hvS
              have hg5G : g5 ≠ G := fun e => by
                rcases hat5 with h | h
                · exact H4.gs (by rw [h, e])
                · first | omega | (simp at h; omega)
              have c6 : Chg (fun x => x = G ∨ ((Value.slice x3 0 cp3)).ownBlock = some x) W4 (w5.setCell ⟨G, 14, none⟩ (.slice (some ⟨g5, 0, none⟩) (0 + 1) cap5)) := ((((Chg.refl _ W4).alloc _)).trans (hch5.mono (fun _ _ h => .inr h))).setCell (.inl (.inl rfl)) _
              have b6 : Blk (w5.setCell ⟨G, 14, none⟩ (.slice (some ⟨g5, 0, none⟩) (0 + 1) cap5)) G 52 (gcells vb (.slice (some ⟨g3, 0, none⟩) (0 + 1) cap3) (.slice (some ⟨g5, 0, none⟩) (0 + 1) cap5) (fw st.sec) st.C.green st.bg st.hd L) := b5.set 14 _
              have r6 : Row (w5.setCell ⟨G, 14, none⟩ (.slice (some ⟨g5, 0, none⟩) (0 + 1) cap5)) 9 1 (.slice (some ⟨g5, 0, none⟩) (0 + 1) cap5) (shownV st ++ [Value.string MM]).length (shownV st ++ [Value.string MM]) := by
                have h := row5.of_chg ((Chg.refl (fun x => x = G) w5).setCell (p := ⟨G, 14, none⟩) (.inl rfl) (.slice (some ⟨g5, 0, none⟩) (0 + 1) cap5)) (fun x hx e => by simp [Value.ownBlock] at hx; exact hg5G (by rw [hx, e]))
                rw [List.length_append, show (shownV st).length = 0 by rw [show (shownV st).length = st.ts.length by simp [shownV]]; exact unhide hnH]
                exact h
              have H6 := H4.shown' c6 b6 r6 (by rcases hat5 with h | h; exact .inl h; right; first | omega | (simp at h; omega))
              have hg5H : Hid (((Value.slice x3 0 cp3)).ownBlock = some g5 ∨ w.heap.size ≤ g5) := by
                rcases hat5 with h | h
                · exact .inl h
                · right; have := (unhide C4).size; first | omega | (simp at h; omega)
              have C6 : Hid (Chg O w (w5.setCell ⟨G, 14, none⟩ (.slice (some ⟨g5, 0, none⟩) (0 + 1) cap5))) := Chg.trans' (unhide C4) c6 (fun x _ h => (unhide RH).2.1 x (by rcases h with h | h; exact .inl h; exact .inr (.inr (.inr (.inl h)))))
              have d6 : Blk (w5.setCell ⟨G, 14, none⟩ (.slice (some ⟨g5, 0, none⟩) (0 + 1) cap5)) D 50 (wc (fw l)) := d5.set_other hGD _
              have c14 : w5.cell? ⟨G, 14, none⟩ = some ((Value.slice x3 0 cp3)) := b5.cell 14
              have f14 := b5.frozen 14
              obtain ⟨W6, hW6⟩ : ∃ W, w5.setCell ⟨G, 14, none⟩ (.slice (some ⟨g5, 0, none⟩) (0 + 1) cap5) = W := ⟨_, rfl⟩
              rw [hW6] at d6 H6 C6
              have e0 : W6.cell? ⟨D, 0, none⟩ = some (rk (fw l 0)) := d6.cell 0
              have e1 : W6.cell? ⟨D, 1, none⟩ = some (rk (fw l 1)) := d6.cell 1
              have e2 : W6.cell? ⟨D, 2, none⟩ = some (rk (fw l 2)) := d6.cell 2
              have e3 : W6.cell? ⟨D, 3, none⟩ = some (rk (fw l 3)) := d6.cell 3
              have e4 : W6.cell? ⟨D, 4, none⟩ = some (rk (fw l 4)) := d6.cell 4
              have hcl := learn_any W6 G L _ _ _ (fw st.sec) st.bg st.hd (fw st.sec) (fw l) st.C H6.b H6.kr H6.far
              unfold ptr wordF wc at hcl
              rw [unhide hMMH] at hcl
              have hclH := hide hcl
              have H6H := hide H6
              clear hcl H6 d6 d5 b5 b6 c6 r6 row5 hch5 hat5 hlt5 hg5G H4 BD4 H4H BD4H rs4 cs4 C4
              go_wp2_with fail
              refine (unhide hclH).mono ?_
              clear hclH
              rintro e w7 ⟨rfl, lr⟩
              have H7 := (unhide H6H).learnt lr
              have C7 : Chg O w w7 := Chg.trans' (unhide C6) lr.ch (fun x _ h => (unhide RH).2.1 x (by rcases h with h | h; exact .inl h; exact .inr (.inr (.inr (.inr h)))))
              have H7H := hide (⟨H7, C7⟩ : _ ∧ _)
              clear H7 C7 lr C6
              go_wp2
              go_ret2
              rw [← unhide hMMH] at H7H
              exact guess_fin (unhide RH).2.1 l (unhide H7H).1 (unhide H7H).2 (unhide hg3H) (unhide hg5H) _ (by rw [unhide hMMH]; rfl)
          | true =>
            cases agv with
            | true =>
              simp only [Bool.not_true, Bool.and_false, Bool.false_eq_true, if_false]
              go_enter Try.func20, Try.ntmps20
              go_wp2
              go_quiet (fail)
              have q0 : Quiet w (w.drewN nq) := (Chg.refl _ _).drewN _
              generalize w.drewN nq = W0 at *
              obtain ⟨cb0, b0, b1, b2, b3, b4⟩ := unhide hrest W0 q0
              have hG0 : G < W0.heap.size := Nat.lt_of_lt_of_le hG q0.size
              obtain ⟨W1, hW1⟩ : ∃ W, W0.alloc (.cells #[rk (fw l 0), rk (fw l 1), rk (fw l 2), rk (fw l 3), rk (fw l 4)] 50) = W := ⟨_, rfl⟩
              have q1 : Quiet w W1 := by rw [← hW1]; exact Chg.alloc q0 _
              have BD : Blk W1 W0.heap.size 50 (wc (fw l)) := by rw [← hW1]; exact Blk.new W0 50 (wc (fw l))
              have c13 := unhide hhc W1 q1
              have hDw : Hid (w.heap.size ≤ W0.heap.size) := q0.size
              obtain ⟨D, hD⟩ : ∃ D, W0.heap.size = D := ⟨_, rfl⟩
              rw [hD] at BD hDw
              have Q := hide q1
              have BDH := hide BD
              have e0 : W1.cell? ⟨D, 0, none⟩ = some (rk (fw l 0)) := BD.cell 0
              have e1 : W1.cell? ⟨D, 1, none⟩ = some (rk (fw l 1)) := BD.cell 1
              have e2 : W1.cell? ⟨D, 2, none⟩ = some (rk (fw l 2)) := BD.cell 2
              have e3 : W1.cell? ⟨D, 3, none⟩ = some (rk (fw l 3)) := BD.cell 3
              have e4 : W1.cell? ⟨D, 4, none⟩ = some (rk (fw l 4)) := BD.cell 4
              clear q1 BD q0 c1 c12 i2 i3 i4 i5 i6 cb 
              have hal := hide (unhide hallow W1 (unhide Q))
              clear hallow
              go_wp2_with fail
              refine (unhide hal).mono ?_
              clear hal c13 cb0 b0 b1 b2 b3 b4 e0 e1 e2 e3 e4
              rintro e w2 ⟨rfl, q2⟩
              have Q3 := hide (Quiet.trans (unhide Q) q2)
              have BD3 := hide (q2.blk (unhide BDH))
              clear Q BDH q2
              have Q := Q3
              have BDH := BD3
              clear Q3 BD3
              go_wp2
              have gB := ((unhide RH).1.quiet (unhide Q)).b
              have y2 : ∀ q : QW w2, q.w.cell? ⟨G, 2, none⟩ = some (rk (fw st.sec 0)) := fun q => QW.blk gB q 2
              have y3 : ∀ q : QW w2, q.w.cell? ⟨G, 3, none⟩ = some (rk (fw st.sec 1)) := fun q => QW.blk gB q 3
              have y4 : ∀ q : QW w2, q.w.cell? ⟨G, 4, none⟩ = some (rk (fw st.sec 2)) := fun q => QW.blk gB q 4
              have y5 : ∀ q : QW w2, q.w.cell? ⟨G, 5, none⟩ = some (rk (fw st.sec 3)) := fun q => QW.blk gB q 5
              have y6 : ∀ q : QW w2, q.w.cell? ⟨G, 6, none⟩ = some (rk (fw st.sec 4)) := fun q => QW.blk gB q 6
              have u0 : ∀ q : QW w2, q.w.cell? ⟨D, 0, none⟩ = some (rk (fw l 0)) := fun q => QW.blk (unhide BDH) q 0
              have u1 : ∀ q : QW w2, q.w.cell? ⟨D, 1, none⟩ = some (rk (fw l 1)) := fun q => QW.blk (unhide BDH) q 1
              have u2 : ∀ q : QW w2, q.w.cell? ⟨D, 2, none⟩ = some (rk (fw l 2)) := fun q => QW.blk (unhide BDH) q 2
              have u3 : ∀ q : QW w2, q.w.cell? ⟨D, 3, none⟩ = some (rk (fw l 3)) := fun q => QW.blk (unhide BDH) q 3
              have u4 : ∀ q : QW w2, q.w.cell? ⟨D, 4, none⟩ = some (rk (fw l 4)) := fun q => QW.blk (unhide BDH) q 4
              have hM : Hid (∀ W, Calls Try.prog 35 #[.agg #[rk (fw st.sec 0), rk (fw st.sec 1), rk (fw st.sec 2), rk (fw st.sec 3), rk (fw st.sec 4)], .agg #[rk (fw l 0), rk (fw l 1), rk (fw l 2), rk (fw l 3), rk (fw l 4)]] W fun e w' => e = .returned (.string (str (marksL (fw st.sec) (fw l)))) ∧ Quiet W w') := fun W => marks_any W (fw st.sec) (fw l)
              clear gB
              refine wp_region_noPanic ?_
              try simp only [List.append_eq, List.cons_append, List.nil_append]
              refine wp_region_mixq [(0, true), (1, true), (2, true), (3, true), (4, true), (5, true), (6, true)] [] (by kernel_rfl) (by kernel_rfl) (fun _ _ _ _ _ h => h) ?_
              simp only [pickM, pickO, List.getElem?_cons_zero, List.getElem?_cons_succ]
              repeat (first | (refine wpMix_read rfl (fun K hK => ?_)) | (refine wpMix_pure rfl (fun K hK => ?_))
                      go_big_quiet_op
                      first | (refine hK _ ?_; clear hK K) | (apply Exists.intro; refine ⟨fun _ => ?_, ?_⟩; (· (first | (go_at_call 35; exact Calls.in_qw (unhide hM _)))); refine hK _ ?_; clear hK K))
              refine wpMix_nil ?_
              intro _ hw'
              obtain ⟨qq, hw''⟩ := hw'
              subst hw''
              have hqq := qq.q
              generalize qq.w = wq at *
              clear hM y2 y3 y4 y5 y6 u0 u1 u2 u3 u4
              have Q2 := hide (Quiet.trans (unhide Q) hqq)
              have BD2 := hqq.blk (unhide BDH)
              clear Q BDH hqq
              have R2 := (unhide RH).1.toH.quiet (unhide Q2)
              have bG := R2.b
              have hGq := bG.lt
              have hDq := BD2.lt
              have c1 : wq.cell? ⟨G, 1, none⟩ = some (Value.slice x2 0 cp2) := bG.cell 1
              have f1 := bG.frozen 1
              have d0 : wq.cell? ⟨D, 0, none⟩ = some (rk (fw l 0)) := BD2.cell 0
              have d1 : wq.cell? ⟨D, 1, none⟩ = some (rk (fw l 1)) := BD2.cell 1
              have d2 : wq.cell? ⟨D, 2, none⟩ = some (rk (fw l 2)) := BD2.cell 2
              have d3 : wq.cell? ⟨D, 3, none⟩ = some (rk (fw l 3)) := BD2.cell 3
              have d4 : wq.cell? ⟨D, 4, none⟩ = some (rk (fw l 4)) := BD2.cell 4
              have row2 : Row wq 50 5 (Value.slice x2 0 cp2) 0 (flatF (st.ts.map fw)) := by
                have h := R2.rt
                unfold WRow at h
                rw [List.length_map, show st.ts.length = 0 from unhide hnH] at h
                exact h
              have hgt := R2.gt
              have hvD : (Value.slice x2 0 cp2).ownBlock ≠ some D := fun h => by have h1 := Row.lt (unhide RH).1.rt h; have h2 := unhide hDw; omega
              have hvS : (Value.slice x3 0 cp3).ownBlock ≠ some D := fun h => by have h1 := Row.lt (unhide RH).1.rs h; have h2 := unhide hDw; omega
              have hGD : D ≠ G := by have h1 := (unhide RH).1.b.lt; have h2 := unhide hDw; omega
              obtain ⟨i0, hi0, hz0, hz1, hz2⟩ := info_parts info50
              go_wp2
              refine NoPanic.normal ?_
              go_wp2
              go_region_law
                ((refine step_append_row (by rfl) _ _ _ (by rfl) 50 i0 _ 5 20 Try.underlying48 hi0 hz0 hz1 hz2 rfl (by omega) (Value.slice x2 0 cp2) 0 (flatF (st.ts.map fw)) (by rfl) (row2.quiet (((Chg.refl _ _).alloc _).drew))
                    ⟨wq.heap.size, 0, none⟩ 1 1 [Value.int .i32 (fw l 0), .int .i32 (fw l 1), .int .i32 (fw l 2), .int .i32 (fw l 3), .int .i32 (fw l 4)] (by rfl) (by rfl) (World.news_of_block (cs := #[.int .i32 (fw l 0), .int .i32 (fw l 1), .int .i32 (fw l 2), .int .i32 (fw l 3), .int .i32 (fw l 4)]) (t := 50) (fr := (0, 0)) (heap_alloc_new wq _)) (by simp [Value.oneCell'])
                    (by omega) (by unfold maxLen; omega) (by omega) (wq.heap.size + 1) (by simp) ?_
                  intro g3 cap3 w3 row3 hch3 hat hlt
                  have bG3 := hch3.blk ((bG.alloc (.cells #[.int .i32 (fw l 0), .int .i32 (fw l 1), .int .i32 (fw l 2), .int .i32 (fw l 3), .int .i32 (fw l 4)] 50)).drew) hgt
                  have c3 : w3.cell? ⟨G, 1, none⟩ = some (Value.slice x2 0 cp2) := bG3.cell 1
                  have f3 := bG3.frozen 1))
              all_goals
                have hg3G : g3 ≠ G := fun e => by
                  rcases hat with h | h
                  · exact hgt (by rw [h, e])
                  · omega
                have c4 : Chg (fun x => x = G ∨ ((Value.slice x2 0 cp2)).ownBlock = some x) wq (w3.setCell ⟨G, 1, none⟩ (.slice (some ⟨g3, 0, none⟩) (0 + 1) cap3)) := ((((Chg.refl _ wq).alloc _).drew).trans (hch3.mono (fun _ _ h => .inr h))).setCell (.inl (.inl rfl)) _
                have b4 : Blk (w3.setCell ⟨G, 1, none⟩ (.slice (some ⟨g3, 0, none⟩) (0 + 1) cap3)) G 52 (gcells vb (.slice (some ⟨g3, 0, none⟩) (0 + 1) cap3) (Value.slice x3 0 cp3) (fw st.sec) st.C.green st.bg st.hd L) := bG3.set 1 _
                have r4 : WRow (w3.setCell ⟨G, 1, none⟩ (.slice (some ⟨g3, 0, none⟩) (0 + 1) cap3)) (.slice (some ⟨g3, 0, none⟩) (0 + 1) cap3) (st.ts.map fw ++ [fw l]) := by
                  have h := Row.of_chg row3 ((Chg.refl (fun x => x = G) w3).setCell (p := ⟨G, 1, none⟩) (.inl rfl) (.slice (some ⟨g3, 0, none⟩) (0 + 1) cap3)) (fun x hx e => by simp [Value.ownBlock] at hx; exact hg3G (by rw [hx, e]))
                  unfold WRow
                  rw [List.length_append, List.length_map, show st.ts.length = 0 from unhide hnH, flatF_append]
                  exact h
                have BD4 : Blk (w3.setCell ⟨G, 1, none⟩ (.slice (some ⟨g3, 0, none⟩) (0 + 1) cap3)) D 50 (wc (fw l)) := (hch3.blk ((BD2.alloc _).drew) hvD).set_other hGD _
                have H4 := R2.tries c4 b4 r4 (by rcases hat with h | h; exact .inl h; right; omega)
                have C4 : Hid (Chg O w (w3.setCell ⟨G, 1, none⟩ (.slice (some ⟨g3, 0, none⟩) (0 + 1) cap3))) := Chg.trans' ((unhide Q2).chg O) c4 (fun x _ h => (unhide RH).2.1 x (by rcases h with h | h; exact .inl h; exact .inr (.inr (.inl h))))
                have hg3H : Hid (((Value.slice x2 0 cp2)).ownBlock = some g3 ∨ w.heap.size ≤ g3) := by
                  rcases hat with h | h
                  · exact .inl h
                  · right; have := (unhide Q2).size; omega
                clear c1 f1 d0 d1 d2 d3 d4 row2 hgt row3 hch3 hat hlt bG3 c3 f3 hg3G c4 b4 r4 bG R2 BD2
                generalize w3.setCell ⟨G, 1, none⟩ (.slice (some ⟨g3, 0, none⟩) (0 + 1) cap3) = W4 at *
                have rs4 : Row W4 9 1 ((Value.slice x3 0 cp3)) 0 (shownV st) := by
                  have h := H4.rs
                  rwa [show (shownV st).length = 0 by rw [show (shownV st).length = st.ts.length by simp [shownV]]; exact unhide hnH] at h
                have cs4 : W4.cell? ⟨G, 14, none⟩ = some ((Value.slice x3 0 cp3)) := H4.b.cell 14
                have hG4 := H4.b.lt
                obtain ⟨i9, hi9, hy0, hy1, hy2⟩ := info_parts info9
                have H4H := hide H4
                have BD4H := hide BD4
                clear H4 BD4
                obtain ⟨MM, hMM⟩ : ∃ M, str (marksL (fw st.sec) (fw l)) = M := ⟨_, rfl⟩
                rw [hMM]
                have hMMH := hide hMM
                clear hMM
                go_wp2_with (at_builtin; refine wpList_append_row rfl (.tmp 90) (.tmp 92) 30 rfl 9 i9 _ 1 16 und30 hi9 hy0 hy1 hy2 rfl (by omega) ((Value.slice x3 0 cp3)) 0 (shownV st) rfl (rs4.quiet ((Chg.refl _ _).alloc _)) ⟨W4.heap.size, 0, none⟩ 1 1 [.string MM] rfl rfl (news_new _ _ _) (one_str _) (by omega) (by unfold maxLen; omega) (by omega) _ rfl ?_)
                intro g5 cap5 w5 row5 hch5 hat5 hlt5
                have H4 := unhide H4H
                have BD4 := unhide BD4H
                have b5 := hch5.blk (H4.b.alloc _) H4.gs
                have d5 := hch5.blk (BD4.alloc _) hvS
                have hg5G : g5 ≠ G := fun e => by
                  rcases hat5 with h | h
                  · exact H4.gs (by rw [h, e])
                  · first | omega | (simp at h; omega)
                have c6 : Chg (fun x => x = G ∨ ((Value.slice x3 0 cp3)).ownBlock = some x) W4 (w5.setCell ⟨G, 14, none⟩ (.slice (some ⟨g5, 0, none⟩) (0 + 1) cap5)) := ((((Chg.refl _ W4).alloc _)).trans (hch5.mono (fun _ _ h => .inr h))).setCell (.inl (.inl rfl)) _
                have b6 : Blk (w5.setCell ⟨G, 14, none⟩ (.slice (some ⟨g5, 0, none⟩) (0 + 1) cap5)) G 52 (gcells vb (.slice (some ⟨g3, 0, none⟩) (0 + 1) cap3) (.slice (some ⟨g5, 0, none⟩) (0 + 1) cap5) (fw st.sec) st.C.green st.bg st.hd L) := b5.set 14 _
                have r6 : Row (w5.setCell ⟨G, 14, none⟩ (.slice (some ⟨g5, 0, none⟩) (0 + 1) cap5)) 9 1 (.slice (some ⟨g5, 0, none⟩) (0 + 1) cap5) (shownV st ++ [Value.string MM]).length (shownV st ++ [Value.string MM]) := by
                  have h := row5.of_chg ((Chg.refl (fun x => x = G) w5).setCell (p := ⟨G, 14, none⟩) (.inl rfl) (.slice (some ⟨g5, 0, none⟩) (0 + 1) cap5)) (fun x hx e => by simp [Value.ownBlock] at hx; exact hg5G (by rw [hx, e]))
                  rw [List.length_append, show (shownV st).length = 0 by rw [show (shownV st).length = st.ts.length by simp [shownV]]; exact unhide hnH]
                  exact h
                have H6 := H4.shown' c6 b6 r6 (by rcases hat5 with h | h; exact .inl h; right; first | omega | (simp at h; omega))
                have hg5H : Hid (((Value.slice x3 0 cp3)).ownBlock = some g5 ∨ w.heap.size ≤ g5) := by
                  rcases hat5 with h | h
                  · exact .inl h
                  · right; have := (unhide C4).size; first | omega | (simp at h; omega)
                have C6 : Hid (Chg O w (w5.setCell ⟨G, 14, none⟩ (.slice (some ⟨g5, 0, none⟩) (0 + 1) cap5))) := Chg.trans' (unhide C4) c6 (fun x _ h => (unhide RH).2.1 x (by rcases h with h | h; exact .inl h; exact .inr (.inr (.inr (.inl h)))))
                have d6 : Blk (w5.setCell ⟨G, 14, none⟩ (.slice (some ⟨g5, 0, none⟩) (0 + 1) cap5)) D 50 (wc (fw l)) := d5.set_other hGD _
                have c14 : w5.cell? ⟨G, 14, none⟩ = some ((Value.slice x3 0 cp3)) := b5.cell 14
                have f14 := b5.frozen 14
                obtain ⟨W6, hW6⟩ : ∃ W, w5.setCell ⟨G, 14, none⟩ (.slice (some ⟨g5, 0, none⟩) (0 + 1) cap5) = W := ⟨_, rfl⟩
                rw [hW6] at d6 H6 C6
                have e0 : W6.cell? ⟨D, 0, none⟩ = some (rk (fw l 0)) := d6.cell 0
                have e1 : W6.cell? ⟨D, 1, none⟩ = some (rk (fw l 1)) := d6.cell 1
                have e2 : W6.cell? ⟨D, 2, none⟩ = some (rk (fw l 2)) := d6.cell 2
                have e3 : W6.cell? ⟨D, 3, none⟩ = some (rk (fw l 3)) := d6.cell 3
                have e4 : W6.cell? ⟨D, 4, none⟩ = some (rk (fw l 4)) := d6.cell 4
                have hcl := learn_any W6 G L _ _ _ (fw st.sec) st.bg st.hd (fw st.sec) (fw l) st.C H6.b H6.kr H6.far
                unfold ptr wordF wc at hcl
                rw [unhide hMMH] at hcl
                have hclH := hide hcl
                have H6H := hide H6
                clear hcl H6 d6 d5 b5 b6 c6 r6 row5 hch5 hat5 hlt5 hg5G H4 BD4 H4H BD4H rs4 cs4 C4
                go_wp2_with fail
                refine (unhide hclH).mono ?_
                clear hclH
                rintro e w7 ⟨rfl, lr⟩
                have H7 := (unhide H6H).learnt lr
                have C7 : Chg O w w7 := Chg.trans' (unhide C6) lr.ch (fun x _ h => (unhide RH).2.1 x (by rcases h with h | h; exact .inl h; exact .inr (.inr (.inr (.inr h)))))
                have H7H := hide (⟨H7, C7⟩ : _ ∧ _)
                clear H7 C7 lr C6
                go_wp2
                go_ret2
                rw [← unhide hMMH] at H7H
                exact guess_fin (unhide RH).2.1 l (unhide H7H).1 (unhide H7H).2 (unhide hg3H) (unhide hg5H) _ (by rw [unhide hMMH]; rfl)
            | false =>
              simp only [Bool.not_false, Bool.and_true, if_true]
              go_enter Try.func20, Try.ntmps20
              go_wp2
              go_quiet (fail)
              have q0 : Quiet w (w.drewN nq) := (Chg.refl _ _).drewN _
              generalize w.drewN nq = W0 at *
              obtain ⟨cb0, b0, b1, b2, b3, b4⟩ := unhide hrest W0 q0
              have hG0 : G < W0.heap.size := Nat.lt_of_lt_of_le hG q0.size
              obtain ⟨W1, hW1⟩ : ∃ W, W0.alloc (.cells #[rk (fw l 0), rk (fw l 1), rk (fw l 2), rk (fw l 3), rk (fw l 4)] 50) = W := ⟨_, rfl⟩
              have q1 : Quiet w W1 := by rw [← hW1]; exact Chg.alloc q0 _
              have BD : Blk W1 W0.heap.size 50 (wc (fw l)) := by rw [← hW1]; exact Blk.new W0 50 (wc (fw l))
              have c13 := unhide hhc W1 q1
              have hDw : Hid (w.heap.size ≤ W0.heap.size) := q0.size
              obtain ⟨D, hD⟩ : ∃ D, W0.heap.size = D := ⟨_, rfl⟩
              rw [hD] at BD hDw
              have Q := hide q1
              have BDH := hide BD
              have e0 : W1.cell? ⟨D, 0, none⟩ = some (rk (fw l 0)) := BD.cell 0
              have e1 : W1.cell? ⟨D, 1, none⟩ = some (rk (fw l 1)) := BD.cell 1
              have e2 : W1.cell? ⟨D, 2, none⟩ = some (rk (fw l 2)) := BD.cell 2
              have e3 : W1.cell? ⟨D, 3, none⟩ = some (rk (fw l 3)) := BD.cell 3
              have e4 : W1.cell? ⟨D, 4, none⟩ = some (rk (fw l 4)) := BD.cell 4
              clear q1 BD q0 c1 c12 i2 i3 i4 i5 i6 cb 
              have hal := hide (unhide hallow W1 (unhide Q))
              clear hallow
              go_wp2_with fail
              refine (unhide hal).mono ?_
              clear hal c13 cb0 b0 b1 b2 b3 b4 e0 e1 e2 e3 e4
              rintro e w2 ⟨rfl, q2⟩
              have Q3 := hide (Quiet.trans (unhide Q) q2)
              have BD3 := hide (q2.blk (unhide BDH))
              clear Q BDH q2
              have Q := Q3
              have BDH := BD3
              clear Q3 BD3
              go_wp2
              go_ret2
              exact GPost.same (unhide (unhide RH).2.2.2) (unhide Q) _ _ rfl
        · obtain ⟨g2, rfl, r0, r1, r2, r3, r4⟩ := unhide he0 m t hm htm
          have he := fun W => eql50 W (fw t) (fw st.sec)
          rw [hsw] at he
          have cb := (unhide hrest w (Chg.refl _ _)).1
          subst hm
          have d0 : decide ((6 : Int) ≤ (m : Int) + 1) = false := decide_eq_false (by omega)
          have d1 : decide ((0 : Int) < (m : Int) + 1) = true := decide_eq_true (by omega)
          have d2 : (m : Int) + 1 - 1 = (m : Int) := by omega
          have d3 : (0 : Int) ≤ (m : Int) := by omega
          have d4 : (m : Int) < (m : Int) + 1 := by omega
          clear he0 hsw htm
          cases hdv with
          | false =>
            simp only [Bool.false_and, Bool.false_eq_true, if_false]
            clear hallow
            go_enter Try.func20, Try.ntmps20
            go_wp2
            go_quiet (fail)
            have q0 : Quiet w (w.drewN nq) := (Chg.refl _ _).drewN _
            generalize w.drewN nq = W0 at *
            obtain ⟨cb0, b0, b1, b2, b3, b4⟩ := unhide hrest W0 q0
            have hG0 : G < W0.heap.size := Nat.lt_of_lt_of_le hG q0.size
            obtain ⟨W1, hW1⟩ : ∃ W, W0.alloc (.cells #[rk (fw l 0), rk (fw l 1), rk (fw l 2), rk (fw l 3), rk (fw l 4)] 50) = W := ⟨_, rfl⟩
            have q1 : Quiet w W1 := by rw [← hW1]; exact Chg.alloc q0 _
            have BD : Blk W1 W0.heap.size 50 (wc (fw l)) := by rw [← hW1]; exact Blk.new W0 50 (wc (fw l))
            have c13 := unhide hhc W1 q1
            have hDw : Hid (w.heap.size ≤ W0.heap.size) := q0.size
            obtain ⟨D, hD⟩ : ∃ D, W0.heap.size = D := ⟨_, rfl⟩
            rw [hD] at BD hDw
            have Q := hide q1
            have BDH := hide BD
            have e0 : W1.cell? ⟨D, 0, none⟩ = some (rk (fw l 0)) := BD.cell 0
            have e1 : W1.cell? ⟨D, 1, none⟩ = some (rk (fw l 1)) := BD.cell 1
            have e2 : W1.cell? ⟨D, 2, none⟩ = some (rk (fw l 2)) := BD.cell 2
            have e3 : W1.cell? ⟨D, 3, none⟩ = some (rk (fw l 3)) := BD.cell 3
            have e4 : W1.cell? ⟨D, 4, none⟩ = some (rk (fw l 4)) := BD.cell 4
            clear q1 BD q0 c1 c12 i2 i3 i4 i5 i6 cb r0 r1 r2 r3 r4 he d0 d1 d2 d3 d4
            clear e0 e1 e2 e3 e4
            go_wp2
            clear c13 cb0 b0 b1 b2 b3 b4
            have gB := ((unhide RH).1.quiet (unhide Q)).b
            have y2 : ∀ q : QW W1, q.w.cell? ⟨G, 2, none⟩ = some (rk (fw st.sec 0)) := fun q => QW.blk gB q 2
            have y3 : ∀ q : QW W1, q.w.cell? ⟨G, 3, none⟩ = some (rk (fw st.sec 1)) := fun q => QW.blk gB q 3
            have y4 : ∀ q : QW W1, q.w.cell? ⟨G, 4, none⟩ = some (rk (fw st.sec 2)) := fun q => QW.blk gB q 4
            have y5 : ∀ q : QW W1, q.w.cell? ⟨G, 5, none⟩ = some (rk (fw st.sec 3)) := fun q => QW.blk gB q 5
            have y6 : ∀ q : QW W1, q.w.cell? ⟨G, 6, none⟩ = some (rk (fw st.sec 4)) := fun q => QW.blk gB q 6
            have u0 : ∀ q : QW W1, q.w.cell? ⟨D, 0, none⟩ = some (rk (fw l 0)) := fun q => QW.blk (unhide BDH) q 0
            have u1 : ∀ q : QW W1, q.w.cell? ⟨D, 1, none⟩ = some (rk (fw l 1)) := fun q => QW.blk (unhide BDH) q 1
            have u2 : ∀ q : QW W1, q.w.cell? ⟨D, 2, none⟩ = some (rk (fw l 2)) := fun q => QW.blk (unhide BDH) q 2
            have u3 : ∀ q : QW W1, q.w.cell? ⟨D, 3, none⟩ = some (rk (fw l 3)) := fun q => QW.blk (unhide BDH) q 3
            have u4 : ∀ q : QW W1, q.w.cell? ⟨D, 4, none⟩ = some (rk (fw l 4)) := fun q => QW.blk (unhide BDH) q 4
            have hM : Hid (∀ W, Calls Try.prog 35 #[.agg #[rk (fw st.sec 0), rk (fw st.sec 1), rk (fw st.sec 2), rk (fw st.sec 3), rk (fw st.sec 4)], .agg #[rk (fw l 0), rk (fw l 1), rk (fw l 2), rk (fw l 3), rk (fw l 4)]] W fun e w' => e = .returned (.string (str (marksL (fw st.sec) (fw l)))) ∧ Quiet W w') := fun W => marks_any W (fw st.sec) (fw l)
            clear gB
            refine wp_region_noPanic ?_
            try simp only [List.append_eq, List.cons_append, List.nil_append]
            refine wp_region_mixq [(0, true), (1, true), (2, true), (3, true), (4, true), (5, true), (6, true)] [] (by kernel_rfl) (by kernel_rfl) (fun _ _ _ _ _ h => h) ?_
            simp only [pickM, pickO, List.getElem?_cons_zero, List.getElem?_cons_succ]
            repeat (first | (refine wpMix_read rfl (fun K hK => ?_)) | (refine wpMix_pure rfl (fun K hK => ?_))
                    go_big_quiet_op
                    first | (refine hK _ ?_; clear hK K) | (apply Exists.intro; refine ⟨fun _ => ?_, ?_⟩; (· (first | (go_at_call 35; exact Calls.in_qw (unhide hM _)))); refine hK _ ?_; clear hK K))
            refine wpMix_nil ?_
            intro _ hw'
            obtain ⟨qq, hw''⟩ := hw'
            subst hw''
            have hqq := qq.q
            generalize qq.w = wq at *
            clear hM y2 y3 y4 y5 y6 u0 u1 u2 u3 u4
            have Q2 := hide (Quiet.trans (unhide Q) hqq)
            have BD2 := hqq.blk (unhide BDH)
            clear Q BDH hqq
            have R2 := (unhide RH).1.toH.quiet (unhide Q2)
            have bG := R2.b
            have hGq := bG.lt
            have hDq := BD2.lt
            have c1 : wq.cell? ⟨G, 1, none⟩ = some (Value.slice (some ⟨g2, 0, none⟩) (m + 1) cp2) := bG.cell 1
            have f1 := bG.frozen 1
            have d0 : wq.cell? ⟨D, 0, none⟩ = some (rk (fw l 0)) := BD2.cell 0
            have d1 : wq.cell? ⟨D, 1, none⟩ = some (rk (fw l 1)) := BD2.cell 1
            have d2 : wq.cell? ⟨D, 2, none⟩ = some (rk (fw l 2)) := BD2.cell 2
            have d3 : wq.cell? ⟨D, 3, none⟩ = some (rk (fw l 3)) := BD2.cell 3
            have d4 : wq.cell? ⟨D, 4, none⟩ = some (rk (fw l 4)) := BD2.cell 4
            have row2 : Row wq 50 5 (Value.slice (some ⟨g2, 0, none⟩) (m + 1) cp2) (m + 1) (flatF (st.ts.map fw)) := by
              have h := R2.rt
              unfold WRow at h
              rw [List.length_map, show st.ts.length = (m + 1) from unhide hnH] at h
              exact h
            have hgt := R2.gt
            have hvD : (Value.slice (some ⟨g2, 0, none⟩) (m + 1) cp2).ownBlock ≠ some D := fun h => by have h1 := Row.lt (unhide RH).1.rt h; have h2 := unhide hDw; omega
            have hvS : (Value.slice x3 (m + 1) cp3).ownBlock ≠ some D := fun h => by have h1 := Row.lt (unhide RH).1.rs h; have h2 := unhide hDw; omega
            have hGD : D ≠ G := by have h1 := (unhide RH).1.b.lt; have h2 := unhide hDw; omega
            obtain ⟨i0, hi0, hz0, hz1, hz2⟩ := info_parts info50
            go_wp2
            refine NoPanic.normal ?_
            go_wp2
            go_region_law
              ((refine step_append_row (by rfl) _ _ _ (by rfl) 50 i0 _ 5 20 Try.underlying48 hi0 hz0 hz1 hz2 rfl (by omega) (Value.slice (some ⟨g2, 0, none⟩) (m + 1) cp2) (m + 1) (flatF (st.ts.map fw)) (by rfl) (row2.quiet (((Chg.refl _ _).alloc _).drew))
                  ⟨wq.heap.size, 0, none⟩ 1 1 [Value.int .i32 (fw l 0), .int .i32 (fw l 1), .int .i32 (fw l 2), .int .i32 (fw l 3), .int .i32 (fw l 4)] (by rfl) (by rfl) (World.news_of_block (cs := #[.int .i32 (fw l 0), .int .i32 (fw l 1), .int .i32 (fw l 2), .int .i32 (fw l 3), .int .i32 (fw l 4)]) (t := 50) (fr := (0, 0)) (heap_alloc_new wq _)) (by simp [Value.oneCell'])
                  (by omega) (by unfold maxLen; omega) (by omega) (wq.heap.size + 1) (by simp) ?_
                intro g3 cap3 w3 row3 hch3 hat hlt
                have bG3 := hch3.blk ((bG.alloc (.cells #[.int .i32 (fw l 0), .int .i32 (fw l 1), .int .i32 (fw l 2), .int .i32 (fw l 3), .int .i32 (fw l 4)] 50)).drew) hgt
                have c3 : w3.cell? ⟨G, 1, none⟩ = some (Value.slice (some ⟨g2, 0, none⟩) (m + 1) cp2) := bG3.cell 1
                have f3 := bG3.frozen 1))
            all_goals
              have hg3G : g3 ≠ G := fun e => by
                rcases hat with h | h
                · exact hgt (by rw [h, e])
                · omega
              have c4 : Chg (fun x => x = G ∨ ((Value.slice (some ⟨g2, 0, none⟩) (m + 1) cp2)).ownBlock = some x) wq (w3.setCell ⟨G, 1, none⟩ (.slice (some ⟨g3, 0, none⟩) ((m + 1) + 1) cap3)) := ((((Chg.refl _ wq).alloc _).drew).trans (hch3.mono (fun _ _ h => .inr h))).setCell (.inl (.inl rfl)) _
              have b4 : Blk (w3.setCell ⟨G, 1, none⟩ (.slice (some ⟨g3, 0, none⟩) ((m + 1) + 1) cap3)) G 52 (gcells vb (.slice (some ⟨g3, 0, none⟩) ((m + 1) + 1) cap3) (Value.slice x3 (m + 1) cp3) (fw st.sec) st.C.green st.bg st.hd L) := bG3.set 1 _
              have r4 : WRow (w3.setCell ⟨G, 1, none⟩ (.slice (some ⟨g3, 0, none⟩) ((m + 1) + 1) cap3)) (.slice (some ⟨g3, 0, none⟩) ((m + 1) + 1) cap3) (st.ts.map fw ++ [fw l]) := by
                have h := Row.of_chg row3 ((Chg.refl (fun x => x = G) w3).setCell (p := ⟨G, 1, none⟩) (.inl rfl) (.slice (some ⟨g3, 0, none⟩) ((m + 1) + 1) cap3)) (fun x hx e => by simp [Value.ownBlock] at hx; exact hg3G (by rw [hx, e]))
                unfold WRow
                rw [List.length_append, List.length_map, show st.ts.length = (m + 1) from unhide hnH, flatF_append]
                exact h
              have BD4 : Blk (w3.setCell ⟨G, 1, none⟩ (.slice (some ⟨g3, 0, none⟩) ((m + 1) + 1) cap3)) D 50 (wc (fw l)) := (hch3.blk ((BD2.alloc _).drew) hvD).set_other hGD _
              have H4 := R2.tries c4 b4 r4 (by rcases hat with h | h; exact .inl h; right; omega)
              have C4 : Hid (Chg O w (w3.setCell ⟨G, 1, none⟩ (.slice (some ⟨g3, 0, none⟩) ((m + 1) + 1) cap3))) := Chg.trans' ((unhide Q2).chg O) c4 (fun x _ h => (unhide RH).2.1 x (by rcases h with h | h; exact .inl h; exact .inr (.inr (.inl h))))
              have hg3H : Hid (((Value.slice (some ⟨g2, 0, none⟩) (m + 1) cp2)).ownBlock = some g3 ∨ w.heap.size ≤ g3) := by
                rcases hat with h | h
                · exact .inl h
                · right; have := (unhide Q2).size; omega
              clear c1 f1 d0 d1 d2 d3 d4 row2 hgt row3 hch3 hat hlt bG3 c3 f3 hg3G c4 b4 r4 bG R2 BD2
              generalize w3.setCell ⟨G, 1, none⟩ (.slice (some ⟨g3, 0, none⟩) ((m + 1) + 1) cap3) = W4 at *
              have rs4 : Row W4 9 1 ((Value.slice x3 (m + 1) cp3)) (m + 1) (shownV st) := by
                have h := H4.rs
                rwa [show (shownV st).length = (m + 1) by rw [show (shownV st).length = st.ts.length by simp [shownV]]; exact unhide hnH] at h
              have cs4 : W4.cell? ⟨G, 14, none⟩ = some ((Value.slice x3 (m + 1) cp3)) := H4.b.cell 14
              have hG4 := H4.b.lt
              obtain ⟨i9, hi9, hy0, hy1, hy2⟩ := info_parts info9
              have H4H := hide H4
              have BD4H := hide BD4
              clear H4 BD4
              obtain ⟨MM, hMM⟩ : ∃ M, str (marksL (fw st.sec) (fw l)) = M := ⟨_, rfl⟩
              rw [hMM]
              have hMMH := hide hMM
              clear hMM
              go_wp2_with (at_builtin; refine wpList_append_row rfl (.tmp 90) (.tmp 92) 30 rfl 9 i9 _ 1 16 und30 hi9 hy0 hy1 hy2 rfl (by omega) ((Value.slice x3 (m + 1) cp3)) (m + 1) (shownV st) rfl (rs4.quiet ((Chg.refl _ _).alloc _)) ⟨W4.heap.size, 0, none⟩ 1 1 [.string MM] rfl rfl (news_new _ _ _) (one_str _) (by omega) (by unfold maxLen; omega) (by omega) _ rfl ?_)
              intro g5 cap5 w5 row5 hch5 hat5 hlt5
              have H4 := unhide H4H
              have BD4 := unhide BD4H
              have b5 := hch5.blk (H4.b.alloc _) H4.gs
              have d5 := hch5.blk (BD4.alloc _) hvS
              have hg5G : g5 ≠ G := fun e => by
                rcases hat5 with h | h
                · exact H4.gs (by rw [h, e])
                · first | omega | (simp at h; omega)
              have c6 : Chg (fun x => x = G ∨ ((Value.slice x3 (m + 1) cp3)).ownBlock = some x) W4 (w5.setCell ⟨G, 14, none⟩ (.slice (some ⟨g5, 0, none⟩) ((m + 1) + 1) cap5)) := ((((Chg.refl _ W4).alloc _)).trans (hch5.mono (fun _ _ h => .inr h))).setCell (.inl (.inl rfl)) _
              have b6 : Blk (w5.setCell ⟨G, 14, none⟩ (.slice (some ⟨g5, 0, none⟩) ((m + 1) + 1) cap5)) G 52 (gcells vb (.slice (some ⟨g3, 0, none⟩) ((m + 1) + 1) cap3) (.slice (some ⟨g5, 0, none⟩) ((m + 1) + 1) cap5) (fw st.sec) st.C.green st.bg st.hd L) := b5.set 14 _
              have r6 : Row (w5.setCell ⟨G, 14, none⟩ (.slice (some ⟨g5, 0, none⟩) ((m + 1) + 1) cap5)) 9 1 (.slice (some ⟨g5, 0, none⟩) ((m + 1) + 1) cap5) (shownV st ++ [Value.string MM]).length (shownV st ++ [Value.string MM]) := by
                have h := row5.of_chg ((Chg.refl (fun x => x = G) w5).setCell (p := ⟨G, 14, none⟩) (.inl rfl) (.slice (some ⟨g5, 0, none⟩) ((m + 1) + 1) cap5)) (fun x hx e => by simp [Value.ownBlock] at hx; exact hg5G (by rw [hx, e]))
                rw [List.length_append, show (shownV st).length = (m + 1) by rw [show (shownV st).length = st.ts.length by simp [shownV]]; exact unhide hnH]
                exact h
              have H6 := H4.shown' c6 b6 r6 (by rcases hat5 with h | h; exact .inl h; right; first | omega | (simp at h; omega))
              have hg5H : Hid (((Value.slice x3 (m + 1) cp3)).ownBlock = some g5 ∨ w.heap.size ≤ g5) := by
                rcases hat5 with h | h
                · exact .inl h
                · right; have := (unhide C4).size; first | omega | (simp at h; omega)
              have C6 : Hid (Chg O w (w5.setCell ⟨G, 14, none⟩ (.slice (some ⟨g5, 0, none⟩) ((m + 1) + 1) cap5))) := Chg.trans' (unhide C4) c6 (fun x _ h => (unhide RH).2.1 x (by rcases h with h | h; exact .inl h; exact .inr (.inr (.inr (.inl h)))))
              have d6 : Blk (w5.setCell ⟨G, 14, none⟩ (.slice (some ⟨g5, 0, none⟩) ((m + 1) + 1) cap5)) D 50 (wc (fw l)) := d5.set_other hGD _
              have c14 : w5.cell? ⟨G, 14, none⟩ = some ((Value.slice x3 (m + 1) cp3)) := b5.cell 14
              have f14 := b5.frozen 14
              obtain ⟨W6, hW6⟩ : ∃ W, w5.setCell ⟨G, 14, none⟩ (.slice (some ⟨g5, 0, none⟩) ((m + 1) + 1) cap5) = W := ⟨_, rfl⟩
              rw [hW6] at d6 H6 C6
              have e0 : W6.cell? ⟨D, 0, none⟩ = some (rk (fw l 0)) := d6.cell 0
              have e1 : W6.cell? ⟨D, 1, none⟩ = some (rk (fw l 1)) := d6.cell 1
              have e2 : W6.cell? ⟨D, 2, none⟩ = some (rk (fw l 2)) := d6.cell 2
              have e3 : W6.cell? ⟨D, 3, none⟩ = some (rk (fw l 3)) := d6.cell 3
              have e4 : W6.cell? ⟨D, 4, none⟩ = some (rk (fw l 4)) := d6.cell 4
              have hcl := learn_any W6 G L _ _ _ (fw st.sec) st.bg st.hd (fw st.sec) (fw l) st.C H6.b H6.kr H6.far
              unfold ptr wordF wc at hcl
              rw [unhide hMMH] at hcl
              have hclH := hide hcl
              have H6H := hide H6
              clear hcl H6 d6 d5 b5 b6 c6 r6 row5 hch5 hat5 hlt5 hg5G H4 BD4 H4H BD4H rs4 cs4 C4
              go_wp2_with fail
              refine (unhide hclH).mono ?_
              clear hclH
              rintro e w7 ⟨rfl, lr⟩
              have H7 := (unhide H6H).learnt lr
              have C7 : Chg O w w7 := Chg.trans' (unhide C6) lr.ch (fun x _ h => (unhide RH).2.1 x (by rcases h with h | h; exact .inl h; exact .inr (.inr (.inr (.inr h)))))
              have H7H := hide (⟨H7, C7⟩ : _ ∧ _)
              clear H7 C7 lr C6
              go_wp2
              go_ret2
              rw [← unhide hMMH] at H7H
              exact guess_fin (unhide RH).2.1 l (unhide H7H).1 (unhide H7H).2 (unhide hg3H) (unhide hg5H) _ (by rw [unhide hMMH]; rfl)
          | true =>
            cases agv with
            | true =>
              simp only [Bool.not_true, Bool.and_false, Bool.false_eq_true, if_false]
              go_enter Try.func20, Try.ntmps20
              go_wp2
              go_quiet (fail)
              have q0 : Quiet w (w.drewN nq) := (Chg.refl _ _).drewN _
              generalize w.drewN nq = W0 at *
              obtain ⟨cb0, b0, b1, b2, b3, b4⟩ := unhide hrest W0 q0
              have hG0 : G < W0.heap.size := Nat.lt_of_lt_of_le hG q0.size
              obtain ⟨W1, hW1⟩ : ∃ W, W0.alloc (.cells #[rk (fw l 0), rk (fw l 1), rk (fw l 2), rk (fw l 3), rk (fw l 4)] 50) = W := ⟨_, rfl⟩
              have q1 : Quiet w W1 := by rw [← hW1]; exact Chg.alloc q0 _
              have BD : Blk W1 W0.heap.size 50 (wc (fw l)) := by rw [← hW1]; exact Blk.new W0 50 (wc (fw l))
              have c13 := unhide hhc W1 q1
              have hDw : Hid (w.heap.size ≤ W0.heap.size) := q0.size
              obtain ⟨D, hD⟩ : ∃ D, W0.heap.size = D := ⟨_, rfl⟩
              rw [hD] at BD hDw
              have Q := hide q1
              have BDH := hide BD
              have e0 : W1.cell? ⟨D, 0, none⟩ = some (rk (fw l 0)) := BD.cell 0
              have e1 : W1.cell? ⟨D, 1, none⟩ = some (rk (fw l 1)) := BD.cell 1
              have e2 : W1.cell? ⟨D, 2, none⟩ = some (rk (fw l 2)) := BD.cell 2
              have e3 : W1.cell? ⟨D, 3, none⟩ = some (rk (fw l 3)) := BD.cell 3
              have e4 : W1.cell? ⟨D, 4, none⟩ = some (rk (fw l 4)) := BD.cell 4
              clear q1 BD q0 c1 c12 i2 i3 i4 i5 i6 cb r0 r1 r2 r3 r4 he d0 d1 d2 d3 d4
              have hal := hide (unhide hallow W1 (unhide Q))
              clear hallow
              go_wp2_with fail
              refine (unhide hal).mono ?_
              clear hal c13 cb0 b0 b1 b2 b3 b4 e0 e1 e2 e3 e4
              rintro e w2 ⟨rfl, q2⟩
              have Q3 := hide (Quiet.trans (unhide Q) q2)
              have BD3 := hide (q2.blk (unhide BDH))
              clear Q BDH q2
              have Q := Q3
              have BDH := BD3
              clear Q3 BD3
              go_wp2
              have gB := ((unhide RH).1.quiet (unhide Q)).b
              have y2 : ∀ q : QW w2, q.w.cell? ⟨G, 2, none⟩ = some (rk (fw st.sec 0)) := fun q => QW.blk gB q 2
              have y3 : ∀ q : QW w2, q.w.cell? ⟨G, 3, none⟩ = some (rk (fw st.sec 1)) := fun q => QW.blk gB q 3
              have y4 : ∀ q : QW w2, q.w.cell? ⟨G, 4, none⟩ = some (rk (fw st.sec 2)) := fun q => QW.blk gB q 4
              have y5 : ∀ q : QW w2, q.w.cell? ⟨G, 5, none⟩ = some (rk (fw st.sec 3)) := fun q => QW.blk gB q 5
              have y6 : ∀ q : QW w2, q.w.cell? ⟨G, 6, none⟩ = some (rk (fw st.sec 4)) := fun q => QW.blk gB q 6
              have u0 : ∀ q : QW w2, q.w.cell? ⟨D, 0, none⟩ = some (rk (fw l 0)) := fun q => QW.blk (unhide BDH) q 0
              have u1 : ∀ q : QW w2, q.w.cell? ⟨D, 1, none⟩ = some (rk (fw l 1)) := fun q => QW.blk (unhide BDH) q 1
              have u2 : ∀ q : QW w2, q.w.cell? ⟨D, 2, none⟩ = some (rk (fw l 2)) := fun q => QW.blk (unhide BDH) q 2
              have u3 : ∀ q : QW w2, q.w.cell? ⟨D, 3, none⟩ = some (rk (fw l 3)) := fun q => QW.blk (unhide BDH) q 3
              have u4 : ∀ q : QW w2, q.w.cell? ⟨D, 4, none⟩ = some (rk (fw l 4)) := fun q => QW.blk (unhide BDH) q 4
              have hM : Hid (∀ W, Calls Try.prog 35 #[.agg #[rk (fw st.sec 0), rk (fw st.sec 1), rk (fw st.sec 2), rk (fw st.sec 3), rk (fw st.sec 4)], .agg #[rk (fw l 0), rk (fw l 1), rk (fw l 2), rk (fw l 3), rk (fw l 4)]] W fun e w' => e = .returned (.string (str (marksL (fw st.sec) (fw l)))) ∧ Quiet W w') := fun W => marks_any W (fw st.sec) (fw l)
              clear gB
              refine wp_region_noPanic ?_
              try simp only [List.append_eq, List.cons_append, List.nil_append]
              refine wp_region_mixq [(0, true), (1, true), (2, true), (3, true), (4, true), (5, true), (6, true)] [] (by kernel_rfl) (by kernel_rfl) (fun _ _ _ _ _ h => h) ?_
              simp only [pickM, pickO, List.getElem?_cons_zero, List.getElem?_cons_succ]
              repeat (first | (refine wpMix_read rfl (fun K hK => ?_)) | (refine wpMix_pure rfl (fun K hK => ?_))
                      go_big_quiet_op
                      first | (refine hK _ ?_; clear hK K) | (apply Exists.intro; refine ⟨fun _ => ?_, ?_⟩; (· (first | (go_at_call 35; exact Calls.in_qw (unhide hM _)))); refine hK _ ?_; clear hK K))
              refine wpMix_nil ?_
              intro _ hw'
              obtain ⟨qq, hw''⟩ := hw'
              subst hw''
              have hqq := qq.q
              generalize qq.w = wq at *
              clear hM y2 y3 y4 y5 y6 u0 u1 u2 u3 u4
              have Q2 := hide (Quiet.trans (unhide Q) hqq)
              have BD2 := hqq.blk (unhide BDH)
              clear Q BDH hqq
              have R2 := (unhide RH).1.toH.quiet (unhide Q2)
              have bG := R2.b
              have hGq := bG.lt
              have hDq := BD2.lt
              have c1 : wq.cell? ⟨G, 1, none⟩ = some (Value.slice (some ⟨g2, 0, none⟩) (m + 1) cp2) := bG.cell 1
              have f1 := bG.frozen 1
              have d0 : wq.cell? ⟨D, 0, none⟩ = some (rk (fw l 0)) := BD2.cell 0
              have d1 : wq.cell? ⟨D, 1, none⟩ = some (rk (fw l 1)) := BD2.cell 1
              have d2 : wq.cell? ⟨D, 2, none⟩ = some (rk (fw l 2)) := BD2.cell 2
              have d3 : wq.cell? ⟨D, 3, none⟩ = some (rk (fw l 3)) := BD2.cell 3
              have d4 : wq.cell? ⟨D, 4, none⟩ = some (rk (fw l 4)) := BD2.cell 4
              have row2 : Row wq 50 5 (Value.slice (some ⟨g2, 0, none⟩) (m + 1) cp2) (m + 1) (flatF (st.ts.map fw)) := by
                have h := R2.rt
                unfold WRow at h
                rw [List.length_map, show st.ts.length = (m + 1) from unhide hnH] at h
                exact h
              have hgt := R2.gt
              have hvD : (Value.slice (some ⟨g2, 0, none⟩) (m + 1) cp2).ownBlock ≠ some D := fun h => by have h1 := Row.lt (unhide RH).1.rt h; have h2 := unhide hDw; omega
              have hvS : (Value.slice x3 (m + 1) cp3).ownBlock ≠ some D := fun h => by have h1 := Row.lt (unhide RH).1.rs h; have h2 := unhide hDw; omega
              have hGD : D ≠ G := by have h1 := (unhide RH).1.b.lt; have h2 := unhide hDw; omega
              obtain ⟨i0, hi0, hz0, hz1, hz2⟩ := info_parts info50
              go_wp2
              refine NoPanic.normal ?_
              go_wp2
              go_region_law
                ((refine step_append_row (by rfl) _ _ _ (by rfl) 50 i0 _ 5 20 Try.underlying48 hi0 hz0 hz1 hz2 rfl (by omega) (Value.slice (some ⟨g2, 0, none⟩) (m + 1) cp2) (m + 1) (flatF (st.ts.map fw)) (by rfl) (row2.quiet (((Chg.refl _ _).alloc _).drew))
                    ⟨wq.heap.size, 0, none⟩ 1 1 [Value.int .i32 (fw l 0), .int .i32 (fw l 1), .int .i32 (fw l 2), .int .i32 (fw l 3), .int .i32 (fw l 4)] (by rfl) (by rfl) (World.news_of_block (cs := #[.int .i32 (fw l 0), .int .i32 (fw l 1), .int .i32 (fw l 2), .int .i32 (fw l 3), .int .i32 (fw l 4)]) (t := 50) (fr := (0, 0)) (heap_alloc_new wq _)) (by simp [Value.oneCell'])
                    (by omega) (by unfold maxLen; omega) (by omega) (wq.heap.size + 1) (by simp) ?_
                  intro g3 cap3 w3 row3 hch3 hat hlt
                  have bG3 := hch3.blk ((bG.alloc (.cells #[.int .i32 (fw l 0), .int .i32 (fw l 1), .int .i32 (fw l 2), .int .i32 (fw l 3), .int .i32 (fw l 4)] 50)).drew) hgt
                  have c3 : w3.cell? ⟨G, 1, none⟩ = some (Value.slice (some ⟨g2, 0, none⟩) (m + 1) cp2) := bG3.cell 1
                  have f3 := bG3.frozen 1))
              all_goals
                have hg3G : g3 ≠ G := fun e => by
                  rcases hat with h | h
                  · exact hgt (by rw [h, e])
                  · omega
                have c4 : Chg (fun x => x = G ∨ ((Value.slice (some ⟨g2, 0, none⟩) (m + 1) cp2)).ownBlock = some x) wq (w3.setCell ⟨G, 1, none⟩ (.slice (some ⟨g3, 0, none⟩) ((m + 1) + 1) cap3)) := ((((Chg.refl _ wq).alloc _).drew).trans (hch3.mono (fun _ _ h => .inr h))).setCell (.inl (.inl rfl)) _
                have b4 : Blk (w3.setCell ⟨G, 1, none⟩ (.slice (some ⟨g3, 0, none⟩) ((m + 1) + 1) cap3)) G 52 (gcells vb (.slice (some ⟨g3, 0, none⟩) ((m + 1) + 1) cap3) (Value.slice x3 (m + 1) cp3) (fw st.sec) st.C.green st.bg st.hd L) := bG3.set 1 _
                have r4 : WRow (w3.setCell ⟨G, 1, none⟩ (.slice (some ⟨g3, 0, none⟩) ((m + 1) + 1) cap3)) (.slice (some ⟨g3, 0, none⟩) ((m + 1) + 1) cap3) (st.ts.map fw ++ [fw l]) := by
                  have h := Row.of_chg row3 ((Chg.refl (fun x => x = G) w3).setCell (p := ⟨G, 1, none⟩) (.inl rfl) (.slice (some ⟨g3, 0, none⟩) ((m + 1) + 1) cap3)) (fun x hx e => by simp [Value.ownBlock] at hx; exact hg3G (by rw [hx, e]))
                  unfold WRow
                  rw [List.length_append, List.length_map, show st.ts.length = (m + 1) from unhide hnH, flatF_append]
                  exact h
                have BD4 : Blk (w3.setCell ⟨G, 1, none⟩ (.slice (some ⟨g3, 0, none⟩) ((m + 1) + 1) cap3)) D 50 (wc (fw l)) := (hch3.blk ((BD2.alloc _).drew) hvD).set_other hGD _
                have H4 := R2.tries c4 b4 r4 (by rcases hat with h | h; exact .inl h; right; omega)
                have C4 : Hid (Chg O w (w3.setCell ⟨G, 1, none⟩ (.slice (some ⟨g3, 0, none⟩) ((m + 1) + 1) cap3))) := Chg.trans' ((unhide Q2).chg O) c4 (fun x _ h => (unhide RH).2.1 x (by rcases h with h | h; exact .inl h; exact .inr (.inr (.inl h))))
                have hg3H : Hid (((Value.slice (some ⟨g2, 0, none⟩) (m + 1) cp2)).ownBlock = some g3 ∨ w.heap.size ≤ g3) := by
                  rcases hat with h | h
                  · exact .inl h
                  · right; have := (unhide Q2).size; omega
                clear c1 f1 d0 d1 d2 d3 d4 row2 hgt row3 hch3 hat hlt bG3 c3 f3 hg3G c4 b4 r4 bG R2 BD2
                generalize w3.setCell ⟨G, 1, none⟩ (.slice (some ⟨g3, 0, none⟩) ((m + 1) + 1) cap3) = W4 at *
                have rs4 : Row W4 9 1 ((Value.slice x3 (m + 1) cp3)) (m + 1) (shownV st) := by
                  have h := H4.rs
                  rwa [show (shownV st).length = (m + 1) by rw [show (shownV st).length = st.ts.length by simp [shownV]]; exact unhide hnH] at h
                have cs4 : W4.cell? ⟨G, 14, none⟩ = some ((Value.slice x3 (m + 1) cp3)) := H4.b.cell 14
                have hG4 := H4.b.lt
                obtain ⟨i9, hi9, hy0, hy1, hy2⟩ := info_parts info9
                have H4H := hide H4
                have BD4H := hide BD4
                clear H4 BD4
                obtain ⟨MM, hMM⟩ : ∃ M, str (marksL (fw st.sec) (fw l)) = M := ⟨_, rfl⟩
                rw [hMM]
                have hMMH := hide hMM
                clear hMM
                go_wp2_with (at_builtin; refine wpList_append_row rfl (.tmp 90) (.tmp 92) 30 rfl 9 i9 _ 1 16 und30 hi9 hy0 hy1 hy2 rfl (by omega) ((Value.slice x3 (m + 1) cp3)) (m + 1) (shownV st) rfl (rs4.quiet ((Chg.refl _ _).alloc _)) ⟨W4.heap.size, 0, none⟩ 1 1 [.string MM] rfl rfl (news_new _ _ _) (one_str _) (by omega) (by unfold maxLen; omega) (by omega) _ rfl ?_)
                intro g5 cap5 w5 row5 hch5 hat5 hlt5
                have H4 := unhide H4H
                have BD4 := unhide BD4H
                have b5 := hch5.blk (H4.b.alloc _) H4.gs
                have d5 := hch5.blk (BD4.alloc _) hvS
                have hg5G : g5 ≠ G := fun e => by
                  rcases hat5 with h | h
                  · exact H4.gs (by rw [h, e])
                  · first | omega | (simp at h; omega)
                have c6 : Chg (fun x => x = G ∨ ((Value.slice x3 (m + 1) cp3)).ownBlock = some x) W4 (w5.setCell ⟨G, 14, none⟩ (.slice (some ⟨g5, 0, none⟩) ((m + 1) + 1) cap5)) := ((((Chg.refl _ W4).alloc _)).trans (hch5.mono (fun _ _ h => .inr h))).setCell (.inl (.inl rfl)) _
                have b6 : Blk (w5.setCell ⟨G, 14, none⟩ (.slice (some ⟨g5, 0, none⟩) ((m + 1) + 1) cap5)) G 52 (gcells vb (.slice (some ⟨g3, 0, none⟩) ((m + 1) + 1) cap3) (.slice (some ⟨g5, 0, none⟩) ((m + 1) + 1) cap5) (fw st.sec) st.C.green st.bg st.hd L) := b5.set 14 _
                have r6 : Row (w5.setCell ⟨G, 14, none⟩ (.slice (some ⟨g5, 0, none⟩) ((m + 1) + 1) cap5)) 9 1 (.slice (some ⟨g5, 0, none⟩) ((m + 1) + 1) cap5) (shownV st ++ [Value.string MM]).length (shownV st ++ [Value.string MM]) := by
                  have h := row5.of_chg ((Chg.refl (fun x => x = G) w5).setCell (p := ⟨G, 14, none⟩) (.inl rfl) (.slice (some ⟨g5, 0, none⟩) ((m + 1) + 1) cap5)) (fun x hx e => by simp [Value.ownBlock] at hx; exact hg5G (by rw [hx, e]))
                  rw [List.length_append, show (shownV st).length = (m + 1) by rw [show (shownV st).length = st.ts.length by simp [shownV]]; exact unhide hnH]
                  exact h
                have H6 := H4.shown' c6 b6 r6 (by rcases hat5 with h | h; exact .inl h; right; first | omega | (simp at h; omega))
                have hg5H : Hid (((Value.slice x3 (m + 1) cp3)).ownBlock = some g5 ∨ w.heap.size ≤ g5) := by
                  rcases hat5 with h | h
                  · exact .inl h
                  · right; have := (unhide C4).size; first | omega | (simp at h; omega)
                have C6 : Hid (Chg O w (w5.setCell ⟨G, 14, none⟩ (.slice (some ⟨g5, 0, none⟩) ((m + 1) + 1) cap5))) := Chg.trans' (unhide C4) c6 (fun x _ h => (unhide RH).2.1 x (by rcases h with h | h; exact .inl h; exact .inr (.inr (.inr (.inl h)))))
                have d6 : Blk (w5.setCell ⟨G, 14, none⟩ (.slice (some ⟨g5, 0, none⟩) ((m + 1) + 1) cap5)) D 50 (wc (fw l)) := d5.set_other hGD _
                have c14 : w5.cell? ⟨G, 14, none⟩ = some ((Value.slice x3 (m + 1) cp3)) := b5.cell 14
                have f14 := b5.frozen 14
                obtain ⟨W6, hW6⟩ : ∃ W, w5.setCell ⟨G, 14, none⟩ (.slice (some ⟨g5, 0, none⟩) ((m + 1) + 1) cap5) = W := ⟨_, rfl⟩
                rw [hW6] at d6 H6 C6
                have e0 : W6.cell? ⟨D, 0, none⟩ = some (rk (fw l 0)) := d6.cell 0
                have e1 : W6.cell? ⟨D, 1, none⟩ = some (rk (fw l 1)) := d6.cell 1
                have e2 : W6.cell? ⟨D, 2, none⟩ = some (rk (fw l 2)) := d6.cell 2
                have e3 : W6.cell? ⟨D, 3, none⟩ = some (rk (fw l 3)) := d6.cell 3
                have e4 : W6.cell? ⟨D, 4, none⟩ = some (rk (fw l 4)) := d6.cell 4
                have hcl := learn_any W6 G L _ _ _ (fw st.sec) st.bg st.hd (fw st.sec) (fw l) st.C H6.b H6.kr H6.far
                unfold ptr wordF wc at hcl
                rw [unhide hMMH] at hcl
                have hclH := hide hcl
                have H6H := hide H6
                clear hcl H6 d6 d5 b5 b6 c6 r6 row5 hch5 hat5 hlt5 hg5G H4 BD4 H4H BD4H rs4 cs4 C4
                go_wp2_with fail
                refine (unhide hclH).mono ?_
                clear hclH
                rintro e w7 ⟨rfl, lr⟩
                have H7 := (unhide H6H).learnt lr
                have C7 : Chg O w w7 := Chg.trans' (unhide C6) lr.ch (fun x _ h => (unhide RH).2.1 x (by rcases h with h | h; exact .inl h; exact .inr (.inr (.inr (.inr h)))))
                have H7H := hide (⟨H7, C7⟩ : _ ∧ _)
                clear H7 C7 lr C6
                go_wp2
                go_ret2
                rw [← unhide hMMH] at H7H
                exact guess_fin (unhide RH).2.1 l (unhide H7H).1 (unhide H7H).2 (unhide hg3H) (unhide hg5H) _ (by rw [unhide hMMH]; rfl)
            | false =>
              simp only [Bool.not_false, Bool.and_true, if_true]
              go_enter Try.func20, Try.ntmps20
              go_wp2
              go_quiet (fail)
              have q0 : Quiet w (w.drewN nq) := (Chg.refl _ _).drewN _
              generalize w.drewN nq = W0 at *
              obtain ⟨cb0, b0, b1, b2, b3, b4⟩ := unhide hrest W0 q0
              have hG0 : G < W0.heap.size := Nat.lt_of_lt_of_le hG q0.size
              obtain ⟨W1, hW1⟩ : ∃ W, W0.alloc (.cells #[rk (fw l 0), rk (fw l 1), rk (fw l 2), rk (fw l 3), rk (fw l 4)] 50) = W := ⟨_, rfl⟩
              have q1 : Quiet w W1 := by rw [← hW1]; exact Chg.alloc q0 _
              have BD : Blk W1 W0.heap.size 50 (wc (fw l)) := by rw [← hW1]; exact Blk.new W0 50 (wc (fw l))
              have c13 := unhide hhc W1 q1
              have hDw : Hid (w.heap.size ≤ W0.heap.size) := q0.size
              obtain ⟨D, hD⟩ : ∃ D, W0.heap.size = D := ⟨_, rfl⟩
              rw [hD] at BD hDw
              have Q := hide q1
              have BDH := hide BD
              have e0 : W1.cell? ⟨D, 0, none⟩ = some (rk (fw l 0)) := BD.cell 0
              have e1 : W1.cell? ⟨D, 1, none⟩ = some (rk (fw l 1)) := BD.cell 1
              have e2 : W1.cell? ⟨D, 2, none⟩ = some (rk (fw l 2)) := BD.cell 2
              have e3 : W1.cell? ⟨D, 3, none⟩ = some (rk (fw l 3)) := BD.cell 3
              have e4 : W1.cell? ⟨D, 4, none⟩ = some (rk (fw l 4)) := BD.cell 4
              clear q1 BD q0 c1 c12 i2 i3 i4 i5 i6 cb r0 r1 r2 r3 r4 he d0 d1 d2 d3 d4
              have hal := hide (unhide hallow W1 (unhide Q))
              clear hallow
              go_wp2_with fail
              refine (unhide hal).mono ?_
              clear hal c13 cb0 b0 b1 b2 b3 b4 e0 e1 e2 e3 e4
              rintro e w2 ⟨rfl, q2⟩
              have Q3 := hide (Quiet.trans (unhide Q) q2)
              have BD3 := hide (q2.blk (unhide BDH))
              clear Q BDH q2
              have Q := Q3
              have BDH := BD3
              clear Q3 BD3
              go_wp2
              go_ret2
              exact GPost.same (unhide (unhide RH).2.2.2) (unhide Q) _ _ rfl
      exact key st.hd _ rfl rfl
end Go.Proofs.Qxb6500370a
