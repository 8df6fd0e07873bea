/-
  THE MODEL'S GAME IN MEMORY; New, on, agrees. (gen70mod.py)
-/
import Derived.Test.Qxb6500370aModP
import Derived.Test.Qxb6500370aGuess
import Derived.Test.Qxb6500370aQq
namespace Go.Proofs.Qxb6500370a
open Go.RowKit Go.Qx Go.Qx.Mk
set_option linter.unusedVariables false
set_option linter.unusedSimpArgs false

def flatM (ws : List (List Int)) : List Value := ws.flatMap mwc
theorem mwc_len (l : List Int) : (mwc l).length = 6 := rfl
theorem flatM_len : ∀ ws : List (List Int), (flatM ws).length = ws.length * 6
  | [] => rfl
  | x :: ws => by
    have := flatM_len ws
    simp only [flatM, List.flatMap_cons, List.length_append, List.length_cons, mwc_len] at this ⊢
    omega
theorem flatM_append (ws : List (List Int)) (x : List Int) : flatM (ws ++ [x]) = flatM ws ++ mwc x := by simp [flatM]
theorem flatM_get : ∀ (ws : List (List Int)) (j : Nat) (l : List Int), ws[j]? = some l → ∀ i, i < 6 → (flatM ws)[j * 6 + i]? = (mwc l)[i]?
  | [], _, _, h, _, _ => by simp at h
  | x :: ws, 0, l, h, i, hi => by
    simp at h
    subst h
    show (mwc x ++ flatM ws)[0 * 6 + i]? = _
    rw [Nat.zero_mul, Nat.zero_add, List.getElem?_append_left (by rw [mwc_len]; exact hi)]
  | x :: ws, j + 1, l, h, i, hi => by
    have ih := flatM_get ws j l (by simpa using h) i hi
    show (mwc x ++ flatM ws)[(j + 1) * 6 + i]? = _
    rw [List.getElem?_append_right (by rw [mwc_len]; omega), mwc_len, show (j + 1) * 6 + i - 6 = j * 6 + i by omega]
    exact ih
def MRow (w : World) (v : Value) (ws : List (List Int)) : Prop := Row w 85 6 v ws.length (flatM ws)
theorem MRow.sl {w : World} {v : Value} {ws : List (List Int)} (h : MRow w v ws) : ∃ x cp, v = .slice x ws.length cp := by
  rcases Row.form h with ⟨h1, h2, _⟩ | ⟨g, cap, sp, h1, _⟩
  · exact ⟨none, 0, by rw [h1, h2]⟩
  · exact ⟨_, _, h1⟩
theorem MRow.cells {w : World} {v : Value} {ws : List (List Int)} (h : MRow w v ws) (j : Nat) (hj : j < ws.length) : ∃ g cap l, ws[j]? = some l ∧ v = .slice (some ⟨g, 0, none⟩) ws.length cap ∧ w.cell? ⟨g, j * 6, none⟩ = some (.int .i64 (fw l 0)) ∧ w.cell? ⟨g, j * 6 + 1, none⟩ = some (.int .i64 (fw l 1)) ∧ w.cell? ⟨g, j * 6 + 2, none⟩ = some (.int .i64 (fw l 2)) ∧ w.cell? ⟨g, j * 6 + 3, none⟩ = some (.int .i64 (fw l 3)) ∧ w.cell? ⟨g, j * 6 + 4, none⟩ = some (.int .i64 (fw l 4)) ∧ w.cell? ⟨g, j * 6 + 5, none⟩ = some (.string (str (txt l))) := by
  rcases Row.form h with ⟨h1, h2, _⟩ | ⟨g, cap, sp, h1, hb, _⟩
  · omega
  · have hl : ws[j]? = some ws[j] := List.getElem?_eq_getElem hj
    have key : ∀ i, i < 6 → w.cell? ⟨g, j * 6 + i, none⟩ = (mwc ws[j])[i]? := fun i hi => by
      rw [hb.cell, List.getElem?_append_left (by rw [flatM_len]; omega)]
      exact flatM_get ws j _ hl i hi
    exact ⟨g, cap, ws[j], hl, h1, key 0 (by omega), key 1 (by omega), key 2 (by omega), key 3 (by omega), key 4 (by omega), key 5 (by omega)⟩
/-- The secret's printed form. -/
def secT (st : St) : List UInt8 := if st.bg then txt st.sec else []
def mcells (vb vt : Value) (s : Nat → Int) (t : List UInt8) (hd : Bool) : List Value :=
  [vb, vt, .int .i64 (s 0), .int .i64 (s 1), .int .i64 (s 2), .int .i64 (s 3), .int .i64 (s 4), .string (str t), .bool hd]
structure MG (w : World) (M : Nat) (vb vt : Value) (st : St) : Prop where
  b : Blk w M 87 (mcells vb vt (fw st.sec) (secT st) st.hd)
  rb : MRow w vb st.ws
  rt : MRow w vt st.ts
  gb : vb.ownBlock ≠ some M
  gt : vt.ownBlock ≠ some M
  bt : ∀ x, vb.ownBlock = some x → vt.ownBlock ≠ some x
def MO (M : Nat) (vb vt : Value) (x : Nat) : Prop := x = M ∨ vb.ownBlock = some x ∨ vt.ownBlock = some x
def MRep (w : World) (O : Nat → Prop) (M : Nat) (st : St) : Prop := ∃ vb vt, MG w M vb vt st ∧ ∀ x, MO M vb vt x → O x
theorem MG.of_chg {S : Nat → Prop} {w w' : World} {M : Nat} {vb vt : Value} {st : St} (h : MG w M vb vt st) (c : Chg S w w') (hS : ∀ x, MO M vb vt x → ¬ S x) : MG w' M vb vt st :=
  { h with b := c.blk h.b (hS _ (.inl rfl)), rb := Row.of_chg h.rb c (fun x hx => hS _ (.inr (.inl hx))), rt := Row.of_chg h.rt c (fun x hx => hS _ (.inr (.inr hx))) }
theorem MG.quiet {w w' : World} {M : Nat} {vb vt : Value} {st : St} (h : MG w M vb vt st) (c : Quiet w w') : MG w' M vb vt st := h.of_chg c (fun _ _ => id)
theorem MRep.of_chg {S O : Nat → Prop} {w w' : World} {M : Nat} {st : St} (h : MRep w O M st) (c : Chg S w w') (hS : ∀ x, O x → ¬ S x) : MRep w' O M st := by
  obtain ⟨vb, vt, h1, h2⟩ := h
  exact ⟨vb, vt, h1.of_chg c (fun x hx => hS x (h2 x hx)), h2⟩
theorem MRep.quiet {O : Nat → Prop} {w w' : World} {M : Nat} {st : St} (h : MRep w O M st) (c : Quiet w w') : MRep w' O M st := h.of_chg c (fun _ _ => id)

/-- What a step of the model leaves. -/
def MPost (w : World) (O : Nat → Prop) (M : Nat) (p : List UInt8 × Int × St) (e : Ending) (w' : World) : Prop :=
  e = .returned (.tuple #[.string (str p.1), .int .i64 p.2.1]) ∧ ∃ O', MRep w' O' M p.2.2 ∧ Chg O w w' ∧ ∀ x, O' x → O x ∨ w.heap.size ≤ x
theorem MPost.same {w w' : World} {O : Nat → Prop} {M : Nat} {st : St} {e : Ending} (h : MRep w O M st) (q : Quiet w w') (l : List UInt8) (k : Int) (he : e = .returned (.tuple #[.string (str l), .int .i64 k])) : MPost w O M (l, k, st) e w' :=
  ⟨he, O, h.quiet q, q.chg _, fun x hx => .inl hx⟩

/-! ### New. -/
theorem mnew_rep (w : World) : Calls Try.prog 30 #[] w fun e w' => ∃ M O, e = .returned (ptr M) ∧ MRep w' O M St.none ∧ Quiet w w' ∧ ∀ x, O x → w.heap.size ≤ x := by
  go_enter Try.func30, Try.ntmps30
  go_wp2
  go_ret
  refine ⟨w.heap.size, MO w.heap.size (.slice none 0 0) (.slice none 0 0), rfl, ⟨_, _, ⟨Blk.new w 87 (mcells (.slice none 0 0) (.slice none 0 0) (fw St.none.sec) (secT St.none) false), Row.nil _ _ _, Row.nil _ _ _, by simp [Value.ownBlock], by simp [Value.ownBlock], by simp [Value.ownBlock]⟩, fun x hx => hx⟩, (Chg.refl _ _).alloc _, ?_⟩
  rintro x (rfl | h | h)
  · exact Nat.le_refl _
  · simp [Value.ownBlock] at h
  · simp [Value.ownBlock] at h

/-! ### '==' on the model's words. -/
theorem info3 : ∃ i, Try.prog.info? 3 = some i := by
  have h := Try.underlying3
  unfold Program.underlying at h
  cases hi : Try.prog.info? 3 with
  | none => rw [hi] at h; cases h
  | some i => exact ⟨i, rfl⟩
theorem cells3 : Try.prog.cellsOf 3 = 1 := by kernel_rfl
theorem part3 (W : World) (xs : Array Value) (j : Nat) (v : Value) (h : xs[j]? = some v) : (part 3 xs j).run Try.prog W = .ok v W := by
  simp [part, Try.isAgg3, h]
theorem eqItems3_step (W : World) (d : Nat) (xs ys : Array Value) (j : Nat) (a b : Int) (ha : xs[j]? = some (.int .i64 a)) (hb : ys[j]? = some (.int .i64 b)) (is : List Nat) :
    (Op.eqItems (d + 1) 3 1 xs ys (j :: is)).run Try.prog W = if a == b then (Op.eqItems (d + 1) 3 1 xs ys is).run Try.prog W else .ok false W := by
  simp only [Op.eqItems, Sem.run_bind, Nat.mul_one, part3 W xs j _ ha, part3 W ys j _ hb, Result.andThen_ok]
  rw [run_equalIn_int W d 3 .i64 .i64 a b Try.underlying3]
  cases h : (a == b) <;> simp
theorem equal83 (W : World) (d : Nat) (a b : Nat → Int) : (Op.equalIn (d + 2) 83 (.agg (ic a).toArray) (.agg (ic b).toArray)).run Try.prog W = .ok (sameW a b) W := by
  obtain ⟨i, hi⟩ := info3
  rw [run_equalIn_array W (d + 1) _ _ Try.underlying83 hi, cells3]
  rw [show List.range 5 = [0, 1, 2, 3, 4] from rfl]
  rw [eqItems3_step W d _ _ 0 (a 0) (b 0) rfl rfl, eqItems3_step W d _ _ 1 (a 1) (b 1) rfl rfl, eqItems3_step W d _ _ 2 (a 2) (b 2) rfl rfl, eqItems3_step W d _ _ 3 (a 3) (b 3) rfl rfl, eqItems3_step W d _ _ 4 (a 4) (b 4) rfl rfl]
  have e : (Op.eqItems (d + 1) 3 1 (ic a).toArray (ic b).toArray []).run Try.prog W = .ok true W := rfl
  rw [e]
  unfold sameW
  cases (a 0 == b 0) <;> cases (a 1 == b 1) <;> cases (a 2 == b 2) <;> cases (a 3 == b 3) <;> cases (a 4 == b 4) <;> rfl
def m6 (a : Nat → Int) (s : ByteArray) : Array Value := #[.int .i64 (a 0), .int .i64 (a 1), .int .i64 (a 2), .int .i64 (a 3), .int .i64 (a 4), .string s]
theorem part83 (W : World) (a : Nat → Int) (s : ByteArray) : (part 83 (m6 a s) 0).run Try.prog W = .ok (.agg (ic a).toArray) W := by
  simp [part, Try.isAgg83, Try.sizeOf83, m6, ic]
theorem part9 (W : World) (a : Nat → Int) (s : ByteArray) : (part 9 (m6 a s) 5).run Try.prog W = .ok (.string s) W := by
  simp [part, Try.isAgg9, m6]
theorem fields85 : (Try.prog.fieldsOf 85).toList.map (fun f => (f.name, f.type, f.offset)) = [("r", 83, 0), ("t", 9, 5)] := by kernel_rfl
theorem equal85 (W : World) (a b : Nat → Int) (s t : ByteArray) : (Op.equalIn 10000 85 (.agg (m6 a s)) (.agg (m6 b t))).run Try.prog W = .ok (sameW a b && (s.toList == t.toList)) W := by
  rw [run_equalIn_agg W 9999 85 _ _ (by kernel_rfl) (by kernel_rfl)]
  have h := fields85
  generalize (Try.prog.fieldsOf 85).toList = fs at h
  match fs, h with
  | [f, g], h =>
    simp only [List.map_cons, List.map_nil, List.cons.injEq, Prod.mk.injEq] at h
    obtain ⟨⟨n1, t1, o1⟩, ⟨n2, t2, o2⟩, _⟩ := h
    have e1 : f.name ≠ "_" := by rw [n1]; decide
    have e2 : g.name ≠ "_" := by rw [n2]; decide
    unfold Op.eqFields
    rw [if_pos e1, t1, o1]
    simp only [Sem.run_bind, part83, Result.andThen_ok]
    rw [equal83 W 9997 a b]
    simp only [Result.andThen_ok]
    cases h : sameW a b
    · simp
    · simp only [Bool.not_true, Bool.false_eq_true, if_false, Bool.true_and]
      unfold Op.eqFields
      rw [if_pos e2, t2, o2]
      simp only [Sem.run_bind, part9, Result.andThen_ok]
      rw [run_equalIn_string W 9998 9 s t Try.underlying9]
      simp only [Result.andThen_ok]
      cases h2 : (s.toList == t.toList)
      · simp
      · simp [Op.eqFields]
  | [], h => exact absurd h (by simp)
  | [f], h => exact absurd h (by simp)
  | f :: g :: k :: r, h => exact absurd h (by simp)
theorem neq85 (W : World) (a b : Nat → Int) (s t : ByteArray) : (binOp .neq 85 (.agg (m6 a s)) (.agg (m6 b t))).run Try.prog W = .ok (.bool (!(sameW a b && (s.toList == t.toList)))) W := by
  rw [run_neq_struct, equal85]; rfl

/-! ### The printed form of a word is not empty. -/
theorem encode_pos (r : Int) : 1 ≤ (Utf8.encode r).data.toList.length := by
  unfold Utf8.encode
  dsimp only
  repeat' split
  all_goals simp
theorem txt_pos {l : List Int} (h : l.length = 5) : txt l ≠ [] := by
  match l, h with
  | [a, b, c, d, e], _ =>
    have h1 : txt [a, b, c, d, e] = txt [a, b, c, d] ++ (Utf8.encode e).data.toList := txt_snoc [a, b, c, d] e
    rw [h1]
    intro h2
    have := encode_pos e
    rw [(List.append_eq_nil_iff.1 h2).2] at this
    simp at this
theorem secT_nil0 {st : St} (h : st.bg = false) : (str (secT st)).toList = [] ∧ (str (secT st)).toList.isEmpty = true := by
  rw [str_toList]
  unfold secT
  rw [h]; exact ⟨rfl, rfl⟩
theorem secT_nil1 {st : St} (ok : st.Ok) (h : st.bg = true) : ¬ (str (secT st)).toList = [] ∧ (str (secT st)).toList.isEmpty = false := by
  rw [str_toList]
  unfold secT
  rw [h]
  have := txt_pos ok.sec
  exact ⟨this, by cases h2 : txt st.sec with | nil => exact absurd h2 this | cons a l => rfl⟩

theorem idle_cases {st : St} (ok : st.Ok) : (st.bg = false ∧ idleB st = true) ∨ (st.bg = true ∧ st.ts.length = 6 ∧ idleB st = true) ∨ (st.bg = true ∧ st.ts.length = 0 ∧ idleB st = false) ∨ ∃ m t, st.bg = true ∧ st.ts.length = m + 1 ∧ m < 5 ∧ st.ts[m]? = some t ∧ idleB st = sameW (fw t) (fw st.sec) := by
  have six := ok.six
  unfold idleB
  cases hb : st.bg with
  | false => exact .inl ⟨rfl, rfl⟩
  | true =>
    right
    cases hn : st.ts.length with
    | zero => exact .inr (.inl ⟨rfl, rfl, by simp⟩)
    | succ m =>
      by_cases h6 : m + 1 = 6
      · exact .inl ⟨rfl, h6, by simp; left; omega⟩
      · right; right
        have hm : m < st.ts.length := by omega
        refine ⟨m, st.ts[m], rfl, rfl, by omega, List.getElem?_eq_getElem hm, ?_⟩
        rw [sameW_fw (ok.ts _ (List.getElem_mem hm)).1 ok.sec, Nat.add_sub_cancel, List.getD_eq_getElem?_getD, List.getElem?_eq_getElem hm]
        have e1 : ¬ 6 ≤ m + 1 := by omega
        simp [e1]

set_option maxHeartbeats 4000000 in
set_option maxRecDepth 100000 in
theorem on_any (w : World) (M : Nat) (vb vt : Value) (st : St) (ok : st.Ok) (R : MG w M vb vt st) : Calls Try.prog 52 #[ptr M] w fun e w' => e = .returned (.bool (!idleB st)) ∧ Quiet w w' := by
  have hM := R.b.lt
  obtain ⟨x2, cp2, hx2⟩ := R.rt.sl
  have c1 : w.cell? ⟨M, 1, none⟩ = some vt := R.b.cell 1
  rw [hx2] at c1
  have c7 : w.cell? ⟨M, 7, none⟩ = some (.string (str (secT st))) := R.b.cell 7
  have s2 : w.cell? ⟨M, 2, none⟩ = some (.int .i64 (fw st.sec 0)) := R.b.cell 2
  have s3 : w.cell? ⟨M, 3, none⟩ = some (.int .i64 (fw st.sec 1)) := R.b.cell 3
  have s4 : w.cell? ⟨M, 4, none⟩ = some (.int .i64 (fw st.sec 2)) := R.b.cell 4
  have s5 : w.cell? ⟨M, 5, none⟩ = some (.int .i64 (fw st.sec 3)) := R.b.cell 5
  have s6 : w.cell? ⟨M, 6, none⟩ = some (.int .i64 (fw st.sec 4)) := R.b.cell 6
  unfold ptr
  rcases idle_cases ok with ⟨hb, hi⟩ | ⟨hb, hn, hi⟩ | ⟨hb, hn, hi⟩ | ⟨m, t, hb, hm, hm5, htm, hi⟩
  · rw [hi]
    obtain ⟨hn1, hn2⟩ := secT_nil0 hb
    clear R hx2 s2 s3 s4 s5 s6 hi hb ok
    generalize str (secT st) = ss at *
    generalize st.ts.length = n at *
    go_enter Try.func52, Try.ntmps52
    go_wp2
    go_ret
    exact ⟨rfl, Chg.refl _ _⟩
  · rw [hi]
    obtain ⟨hn1, hn2⟩ := secT_nil1 ok hb
    rw [hn] at c1
    clear R hx2 s2 s3 s4 s5 s6 hi hb ok
    generalize str (secT st) = ss at *
    go_enter Try.func52, Try.ntmps52
    go_wp2
    go_ret
    exact ⟨rfl, Chg.refl _ _⟩
  · rw [hi]
    obtain ⟨hn1, hn2⟩ := secT_nil1 ok hb
    rw [hn] at c1
    clear R hx2 s2 s3 s4 s5 s6 hi hb ok
    generalize str (secT st) = ss at *
    go_enter Try.func52, Try.ntmps52
    go_wp2
    go_quiet (fail)
    go_wp2
    go_ret
    exact ⟨rfl, (Chg.refl _ _).drewN _⟩
  · obtain ⟨g2, cap2, t2, htj2, hv2, r0, r1, r2, r3, r4, r5⟩ := R.rt.cells m (by omega)
    have ht2 : t = t2 := by rw [htm] at htj2; simpa using htj2
    subst ht2
    have hx : x2 = some ⟨g2, 0, none⟩ ∧ cp2 = cap2 := by
      have := hx2.symm.trans hv2
      simp at this; exact this
    obtain ⟨h1, h2⟩ := hx
    subst h1; subst h2
    obtain ⟨hn1, hn2⟩ := secT_nil1 ok hb
    have hne : ∀ W, (binOp .neq 85 (.agg (m6 (fw t) (str (txt t)))) (.agg (m6 (fw st.sec) (str (secT st))))).run Try.prog W = .ok (.bool (!idleB st)) W := fun W => by
      rw [neq85, hi]
      have : (sameW (fw t) (fw st.sec) && ((str (txt t)).toList == (str (secT st)).toList)) = sameW (fw t) (fw st.sec) := by
        cases hs : sameW (fw t) (fw st.sec) with
        | false => rfl
        | true =>
          rw [sameW_fw (ok.ts _ (List.mem_of_getElem? htm)).1 ok.sec] at hs
          have e : t = st.sec := by simpa using hs
          unfold secT
          rw [hb, e]; simp
      rw [this]
    unfold m6 at hne
    rw [hm] at c1
    have d0 : ¬ (6 : Int) ≤ (m : Int) + 1 := by omega
    have d1 : (((m : Int) + 1) == 0) = false := by rw [beq_eq_false_iff_ne]; omega
    have d2 : (m : Int) + 1 - 1 = (m : Int) := by omega
    have d3 : (0 : Int) ≤ (m : Int) := by omega
    have d4 : (m : Int) < (m : Int) + 1 := by omega
    clear R hx2 hi hb ok hv2 htj2 htm hm
    generalize str (secT st) = ss at *
    generalize str (txt t) = tt at *
    generalize idleB st = ib at *
    go_enter Try.func52, Try.ntmps52
    go_wp2
    go_quiet (fail)
    go_wp2
    go_ret
    exact ⟨rfl, (Chg.refl _ _).drewN _⟩

def agreeTo (st : St) (x : List Int) (k : Nat) : Bool := (st.ts.take k).all fun t => marksL (fw x) (fw t) == marksL (fw st.sec) (fw t)
theorem agreeTo_succ (st : St) (x : List Int) (k : Nat) (l : List Int) (h : st.ts[k]? = some l) (h1 : agreeTo st x k = true) (h2 : marksL (fw st.sec) (fw l) = marksL (fw x) (fw l)) : agreeTo st x (k + 1) = true := by
  unfold agreeTo at *
  rw [List.take_add_one, h]
  simp only [Option.toList, List.all_append, h1, List.all_cons, List.all_nil, h2, beq_self_eq_true, Bool.and_self]
theorem agreeTo_all (st : St) (x : List Int) : agreeTo st x st.ts.length = agreeB st x := by
  unfold agreeTo agreeB; rw [List.take_length]
theorem agree_no (st : St) (x : List Int) (k : Nat) (l : List Int) (h : st.ts[k]? = some l) (h2 : ¬ marksL (fw st.sec) (fw l) = marksL (fw x) (fw l)) : agreeB st x = false := by
  unfold agreeB
  rw [List.all_eq_false]
  exact ⟨l, List.mem_of_getElem? h, by simpa using fun e => h2 e.symm⟩
theorem word_nonneg {l : List Int} (h : Word l) (p : Nat) (hp : p < 5) : 0 ≤ fw l p := by
  obtain ⟨h1, h2⟩ := h
  have e : fw l p = l[p]'(by omega) := by
    unfold fw
    rw [List.getD_eq_getElem?_getD, List.getElem?_eq_getElem (by omega)]; rfl
  have := h2 _ (List.getElem_mem (show p < l.length by omega))
  rw [e]; omega

set_option maxHeartbeats 4000000 in
set_option maxRecDepth 100000 in
theorem agrees_any (w : World) (M : Nat) (vb vt : Value) (st : St) (ok : st.Ok) (R : MG w M vb vt st) (x : List Int) (sx : ByteArray) : Calls Try.prog 53 #[ptr M, .agg (m6 (fw x) sx)] w fun e w' => e = .returned (.bool (agreeB st x)) ∧ Quiet w w' := by
  have hM := R.b.lt
  have six := ok.six
  obtain ⟨x2, cp2, hx2⟩ := R.rt.sl
  obtain ⟨n, hn⟩ : ∃ n, st.ts.length = n := ⟨_, rfl⟩
  rw [hn] at hx2 six
  obtain ⟨W0, hW0⟩ : ∃ W, w.alloc (.cells (m6 (fw x) sx) 85) = W := ⟨_, rfl⟩
  have q0 : Quiet w W0 := by rw [← hW0]; exact (Chg.refl _ _).alloc _
  have B0 : Blk W0 w.heap.size 85 (m6 (fw x) sx).toList := by rw [← hW0]; exact Blk.new w 85 (m6 (fw x) sx).toList
  have c1 : W0.cell? ⟨M, 1, none⟩ = some (.slice x2 n cp2) := by rw [← hx2]; exact Quiet.cell q0 (R.b.cell 1)
  have RH := hide (⟨R, ok⟩ : _ ∧ _)
  have S0 := hide (⟨q0, B0⟩ : _ ∧ _)
  have hnH := hide hn
  have sixH := hide six
  have hxH := hide hx2
  unfold m6 at hW0
  clear R ok hn six hx2 q0 B0
  unfold ptr m6
  go_enter Try.func53, Try.ntmps53
  go_wp2
  clear c1 hW0
  go_loopw [14] (fun z wr => ∃ k : Nat, k ≤ n ∧ z = .int .i64 (k : Int) ∧ Quiet w wr ∧ Blk wr w.heap.size 85 (m6 (fw x) sx).toList ∧ agreeTo st x k = true) (fun z _ => n + 1 - (intOf z).toNat)
  case atStart => exact ⟨0, by omega, rfl, (unhide S0).1, (unhide S0).2, rfl⟩
  case round =>
    clear S0
    obtain ⟨k, hk, rfl, q, B, ag⟩ := hrel
    obtain ⟨R, ok⟩ := unhide RH
    have hn := unhide hnH
    have six := unhide sixH
    by_cases hlt : k < n
    · have k1 : (k : Int) < (n : Int) := by omega
      have k0 : (0 : Int) ≤ (k : Int) := by omega
      have wk : wrap64 ((k : Int) + 1) = (k : Int) + 1 := wrap_small (k + 1) (by omega)
      obtain ⟨g2, cap2, l, hl, hv, r0, r1, r2, r3, r4, r5⟩ := (R.quiet q).rt.cells k (by omega)
      obtain ⟨h1, h2⟩ : x2 = some ⟨g2, 0, none⟩ ∧ cp2 = cap2 := by
        have := (unhide hxH).symm.trans hv
        simp at this; exact ⟨this.1, this.2.2⟩
      subst h1; subst h2
      obtain ⟨W1, hW1⟩ : ∃ W, wr.alloc (.cells (m6 (fw l) (str (txt l))) 85) = W := ⟨_, rfl⟩
      have q1 : Quiet w W1 := by rw [← hW1]; exact Chg.alloc q _
      have BD : Blk W1 wr.heap.size 85 (m6 (fw l) (str (txt l))).toList := by rw [← hW1]; exact Blk.new wr 85 _
      have BX : Blk W1 w.heap.size 85 (m6 (fw x) sx).toList := by rw [← hW1]; exact B.alloc _
      have R1 := R.quiet q1
      have y2 : ∀ q : QW W1, q.w.cell? ⟨M, 2, none⟩ = some (.int .i64 (fw st.sec 0)) := fun q => QW.blk R1.b q 2
      have y3 : ∀ q : QW W1, q.w.cell? ⟨M, 3, none⟩ = some (.int .i64 (fw st.sec 1)) := fun q => QW.blk R1.b q 3
      have y4 : ∀ q : QW W1, q.w.cell? ⟨M, 4, none⟩ = some (.int .i64 (fw st.sec 2)) := fun q => QW.blk R1.b q 4
      have y5 : ∀ q : QW W1, q.w.cell? ⟨M, 5, none⟩ = some (.int .i64 (fw st.sec 3)) := fun q => QW.blk R1.b q 5
      have y6 : ∀ q : QW W1, q.w.cell? ⟨M, 6, none⟩ = some (.int .i64 (fw st.sec 4)) := fun q => QW.blk R1.b q 6
      have u0 : ∀ q : QW W1, q.w.cell? ⟨wr.heap.size, 0, none⟩ = some (.int .i64 (fw l 0)) := fun q => QW.blk BD q 0
      have u1 : ∀ q : QW W1, q.w.cell? ⟨wr.heap.size, 1, none⟩ = some (.int .i64 (fw l 1)) := fun q => QW.blk BD q 1
      have u2 : ∀ q : QW W1, q.w.cell? ⟨wr.heap.size, 2, none⟩ = some (.int .i64 (fw l 2)) := fun q => QW.blk BD q 2
      have u3 : ∀ q : QW W1, q.w.cell? ⟨wr.heap.size, 3, none⟩ = some (.int .i64 (fw l 3)) := fun q => QW.blk BD q 3
      have u4 : ∀ q : QW W1, q.w.cell? ⟨wr.heap.size, 4, none⟩ = some (.int .i64 (fw l 4)) := fun q => QW.blk BD q 4
      have hw : ∀ p, p < 5 → 0 ≤ fw l p := word_nonneg (ok.ts l (List.mem_of_getElem? hl))
      have hM1 : Hid (∀ W, Calls Try.prog 54 #[.agg #[Value.int .i64 (fw st.sec 0), Value.int .i64 (fw st.sec 1), Value.int .i64 (fw st.sec 2), Value.int .i64 (fw st.sec 3), Value.int .i64 (fw st.sec 4)], .agg #[Value.int .i64 (fw l 0), Value.int .i64 (fw l 1), Value.int .i64 (fw l 2), Value.int .i64 (fw l 3), Value.int .i64 (fw l 4)]] W fun e w' => e = .returned (.string (str (marksL (fw st.sec) (fw l)))) ∧ Quiet W w') := fun W => marksM_any W (fw st.sec) (fw l) hw
      have hM2 : Hid (∀ W, Calls Try.prog 54 #[.agg #[Value.int .i64 (fw x 0), Value.int .i64 (fw x 1), Value.int .i64 (fw x 2), Value.int .i64 (fw x 3), Value.int .i64 (fw x 4)], .agg #[Value.int .i64 (fw l 0), Value.int .i64 (fw l 1), Value.int .i64 (fw l 2), Value.int .i64 (fw l 3), Value.int .i64 (fw l 4)]] W fun e w' => e = .returned (.string (str (marksL (fw x) (fw l)))) ∧ Quiet W w') := fun W => marksM_any W (fw x) (fw l) hw
      have hs : Hid ((marksL (fw st.sec) (fw l) = marksL (fw x) (fw l) ∧ agreeTo st x (k + 1) = true) ∨ (¬ marksL (fw st.sec) (fw l) = marksL (fw x) (fw l) ∧ agreeB st x = false)) := by
        show _ ∨ _
        by_cases e : marksL (fw st.sec) (fw l) = marksL (fw x) (fw l)
        · exact .inl ⟨e, agreeTo_succ st x k l hl ag e⟩
        · exact .inr ⟨e, agree_no st x k l hl e⟩
      have q1H := hide (⟨q1, BX, BD⟩ : _ ∧ _ ∧ _)
      have hltH := hide hlt
      unfold m6 at hW1
      clear R ok hn six hv R1 BD BX q q1 hl hlt hk hw B ag
      go_wp2
      clear r0 r1 r2 r3 r4 r5
      refine wp_region_noPanic ?_
      try simp only [List.append_eq, List.cons_append, List.nil_append]
      refine wp_region_mixq [(0, true), (1, true), (2, true), (3, true), (4, true), (5, true), (6, true), (7, true), (8, true)] [] (by kernel_rfl) (by kernel_rfl) (fun _ _ _ _ _ h => h) ?_
      simp only [pickM, pickO, List.getElem?_cons_zero, List.getElem?_cons_succ]
      repeat (first | (refine wpMix_read rfl (fun K hK => ?_)) | (refine wpMix_pure rfl (fun K hK => ?_))
              go_big_quiet_op
              first | (refine hK _ ?_; clear hK K) | (apply Exists.intro; refine ⟨fun _ => ?_, ?_⟩; (· (first | (go_at_call 54; exact Calls.in_qw (unhide hM1 _)))); refine hK _ ?_; clear hK K))
      refine wpMix_nil ?_
      intro _ hw'
      obtain ⟨qq, hw''⟩ := hw'
      subst hw''
      have hqq := qq.q
      generalize qq.w = wq at *
      clear hM1 y2 y3 y4 y5 y6 u0 u1 u2 u3 u4
      have Q2 := hide (Quiet.trans (unhide q1H).1 hqq)
      have B2 := hqq.blk (unhide q1H).2.1
      have D2 := hqq.blk (unhide q1H).2.2
      have v0 : wq.cell? ⟨w.heap.size, 0, none⟩ = some (.int .i64 (fw x 0)) := B2.cell 0
      have v1 : wq.cell? ⟨w.heap.size, 1, none⟩ = some (.int .i64 (fw x 1)) := B2.cell 1
      have v2 : wq.cell? ⟨w.heap.size, 2, none⟩ = some (.int .i64 (fw x 2)) := B2.cell 2
      have v3 : wq.cell? ⟨w.heap.size, 3, none⟩ = some (.int .i64 (fw x 3)) := B2.cell 3
      have v4 : wq.cell? ⟨w.heap.size, 4, none⟩ = some (.int .i64 (fw x 4)) := B2.cell 4
      have e0 : wq.cell? ⟨wr.heap.size, 0, none⟩ = some (.int .i64 (fw l 0)) := D2.cell 0
      have e1 : wq.cell? ⟨wr.heap.size, 1, none⟩ = some (.int .i64 (fw l 1)) := D2.cell 1
      have e2 : wq.cell? ⟨wr.heap.size, 2, none⟩ = some (.int .i64 (fw l 2)) := D2.cell 2
      have e3 : wq.cell? ⟨wr.heap.size, 3, none⟩ = some (.int .i64 (fw l 3)) := D2.cell 3
      have e4 : wq.cell? ⟨wr.heap.size, 4, none⟩ = some (.int .i64 (fw l 4)) := D2.cell 4
      have B2H := hide B2
      have hM3 := hide (unhide hM2 wq)
      clear hqq q1H B2 D2 hM2
      go_wp2
      refine NoPanic.normal ?_
      go_wp2_with fail
      refine (unhide hM3).mono ?_
      clear hM3 v0 v1 v2 v3 v4 e0 e1 e2 e3 e4
      rintro e w3 ⟨rfl, q3⟩
      have Q3 := hide ((unhide Q2).trans q3)
      have B3 := hide (q3.blk (unhide B2H))
      clear q3 Q2 B2H
      rcases unhide hs with ⟨e1, e2⟩ | ⟨e1, e2⟩
      · have hq : ((str (marksL (fw st.sec) (fw l))).toList == (str (marksL (fw x) (fw l))).toList) = true := by rw [e1]; simp
        have e2H := hide e2
        clear hs e1 e2
        generalize str (marksL (fw st.sec) (fw l)) = A1 at *
        generalize str (marksL (fw x) (fw l)) = A2 at *
        go_wp2
        go_roundw
        case rel => exact ⟨k + 1, unhide hltH, by simp; try exact wk, unhide Q3, unhide B3, unhide e2H⟩
        case measure =>
          have h := unhide hltH
          first
            | exact meas_list h
            | (rw [wk]; exact meas_list h)
      · have hq : ((str (marksL (fw st.sec) (fw l))).toList == (str (marksL (fw x) (fw l))).toList) = false := by
          rw [beq_eq_false_iff_ne, str_toList, str_toList]; exact e1
        have e2H := hide e2
        clear hs e1 e2
        generalize str (marksL (fw st.sec) (fw l)) = A1 at *
        generalize str (marksL (fw x) (fw l)) = A2 at *
        go_wp2
        go_ret
        exact ⟨by rw [unhide e2H]; rfl, unhide Q3⟩
    · have k1 : ¬ (k : Int) < (n : Int) := by omega
      have fin : Hid (agreeB st x = true) := by
        show _ = _
        rw [← agreeTo_all, hn]
        rwa [show k = n by omega] at ag
      have qH := hide q
      clear R ok hn six q B ag hlt hk
      go_wp2
      go_ret
      exact ⟨by rw [unhide fin]; rfl, unhide qH⟩

end Go.Proofs.Qxb6500370a
