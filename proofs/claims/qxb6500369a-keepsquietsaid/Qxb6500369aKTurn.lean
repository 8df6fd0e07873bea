/-
  369 Keeps: what a delivery and a wake do to the tokens.
-/
import Derived.Test.Qxb6500369aKTok
namespace Go.Proofs.Qxb6500369a
set_option linter.unusedVariables false
set_option linter.unusedSimpArgs false

theorem hm_upd {tk : Nat → Nat → Tok} {o s : Nat} {T : Tok} (hh : hm T = hm (tk o s)) (o' s' : Nat) : hm (upd tk o s T o' s') = hm (tk o' s') := by
  by_cases h : o' = o ∧ s' = s
  · obtain ⟨rfl, rfl⟩ := h; rw [upd_at, hh]
  · rw [upd_ne h]

/-- One token turns; no node does. -/
theorem TA.turn {mode : Int} {n : Nat} {I : Nat → Int} {V : Nat → N5} {tk : Nat → Nat → Tok} {an top done o s : Nat} (A : TA mode n I V tk an top done) (T : Tok)
    (hT : TokOk mode n I (V o).reach (done + 1) top an o s T) (hh : hm T = hm (tk o s)) : TA mode n I V (upd tk o s T) an top (done + 1) :=
  { A with
    tok := fun o' ho' s' hs' => by
      by_cases h : o' = o ∧ s' = s
      · obtain ⟨rfl, rfl⟩ := h; rw [upd_at]; exact hT
      · rw [upd_ne h]; exact (A.tok o' ho' s' hs').mono (by omega) (fun h => h)
    gt := fun o' ho' => by rw [hm_upd hh, hm_upd hh]; exact A.gt o' ho'
    a1 := fun h => by
      obtain ⟨h1, h2, h3, h4, h5, h6⟩ := A.a1 h
      exact ⟨h1, h2, h3, h4, by omega, h6⟩ }

theorem inL_upd {n : Nat} {tk : Nat → Nat → Tok} {an o s : Nat} {T : Tok} (hs : s < 2) (x : Nat) (hx : x ≠ 2 * o + s) : inL n (upd tk o s T) an x ↔ inL n tk an x := by
  unfold inL
  rw [upd_ne (by omega)]
theorem inL_at {n : Nat} {tk : Nat → Nat → Tok} {an o s : Nat} (ho : o < n) (hs : s < 2) : inL n tk an (2 * o + s) ↔ fly (tk o s) = true := by
  unfold inL
  rw [show (2 * o + s) / 2 = o by omega, show (2 * o + s) % 2 = s by omega]
  constructor
  · rintro (⟨_, h⟩ | ⟨h, _⟩)
    · exact h
    · omega
  · intro h; exact .inl ⟨by omega, h⟩
theorem inL_an {n : Nat} {tk : Nat → Nat → Tok} {an : Nat} : inL n tk an (2 * n) ↔ 1 ≤ an ∧ an ≤ n := by
  unfold inL
  constructor
  · rintro (⟨h, _⟩ | ⟨_, h⟩)
    · omega
    · exact h
  · intro h; exact .inr ⟨rfl, h⟩
theorem inL_ne {n : Nat} {tk : Nat → Nat → Tok} {an an' x : Nat} (hx : x ≠ 2 * n) : inL n tk an x ↔ inL n tk an' x := by
  unfold inL
  constructor
  · rintro (h | ⟨h, _⟩)
    · exact .inl h
    · exact absurd h hx
  · rintro (h | ⟨h, _⟩)
    · exact .inl h
    · exact absurd h hx

/-- The token stays in flight. -/
theorem TL.fwd {n : Nat} {tk : Nat → Nat → Tok} {an o s : Nat} {L1 L2 : List Nat} {T : Tok} (h : TL n tk an (L1 ++ (2 * o + s) :: L2)) (ho : o < n) (hs : s < 2) (hT : fly T = true) :
    TL n (upd tk o s T) an (L1 ++ L2 ++ [2 * o + s]) := by
  refine h.turn (by simp) (fun x hx _ => by simpa using hx) (fun x => ?_)
  by_cases hx : x = 2 * o + s
  · subst hx
    rw [inL_at ho hs, upd_at]; simp [hT]
  · rw [inL_upd hs x hx]; simp [hx]
/-- The token leaves the wire. -/
theorem TL.die {n : Nat} {tk : Nat → Nat → Tok} {an o s : Nat} {L1 L2 : List Nat} {T : Tok} (h : TL n tk an (L1 ++ (2 * o + s) :: L2)) (ho : o < n) (hs : s < 2) (hT : fly T = false) :
    TL n (upd tk o s T) an (L1 ++ L2 ++ []) := by
  refine h.turn (by simp) (fun x hx _ => by simp at hx) (fun x => ?_)
  by_cases hx : x = 2 * o + s
  · subst hx
    rw [inL_at ho hs, upd_at]; simp [hT]
  · rw [inL_upd hs x hx]; simp [hx]

theorem cost_upd {n : Nat} {V : Nat → N5} {tk : Nat → Nat → Tok} {o s : Nat} {T : Tok} (hs : s < 2) : cost n V (upd tk o s T) o = cost n V tk o - cnt n (V o).reach (tk o s) + cnt n (V o).reach T := by
  unfold cost
  rcases (by omega : s = 0 ∨ s = 1) with rfl | rfl
  · rw [upd_at, upd_ne (by omega)]; omega
  · rw [upd_at, upd_ne (by omega)]; omega
theorem cost_ne {n : Nat} {V : Nat → N5} {tk : Nat → Nat → Tok} {o s j : Nat} {T : Tok} (hj : j ≠ o) : cost n V (upd tk o s T) j = cost n V tk j := by
  unfold cost
  rw [upd_ne (by omega), upd_ne (by omega)]
theorem cost_V {n : Nat} {V V' : Nat → N5} {tk : Nat → Nat → Tok} {j : Nat} (hj : (V' j).reach = (V j).reach) : cost n V' tk j = cost n V tk j := by
  unfold cost; rw [hj]

theorem TC.turn {mode : Int} {n : Nat} {V V' : Nat → N5} {tk : Nat → Nat → Tok} {an done len o s : Nat} {s1 s2 s3 : Int} (C : TC mode n V tk an done len s1 s2 s3) (ho : o < n) (hs : s < 2) (T : Tok)
    (hV : ∀ j, j < n → (V' j).reach = (V j).reach) (len' an' : Nat) (s1' s2' s3' k : Int) (h1 : s1' + s2' = s1 + s2 + k) (hk : cnt n (V o).reach T = cnt n (V o).reach (tk o s) + k)
    (h3 : s3' = if an' ≤ n then (an' : Int) else (n : Int)) (hl : (len' : Int) + 1 = len + k + (s3' - s3)) (h0 : mode = 0 → s2' = 0) (p1 : 0 ≤ s1') (p2 : 0 ≤ s2') :
    TC mode n V' (upd tk o s T) an' (done + 1) len' s1' s2' s3' := by
  refine ⟨by have := C.tot; push_cast; omega, ?_, h3, h0, p1, p2⟩
  rw [sm_congr (fun j hj => cost_V (hV j hj)), sm_upd (f := cost n V tk) ho (fun j _ hne => cost_ne hne), cost_upd hs]
  have := C.c12
  omega

theorem lab_ne {mode : Int} {n : Nat} {I : Nat → Int} {V V' : Nat → N5} {tk : Nat → Nat → Tok} {an an' top o s : Nat} {T : Tok} {x : Nat} (hs : s < 2) (hx : x ≠ 2 * o + s) (hV : x ≠ 2 * n → (V' (x / 2)).reach = (V (x / 2)).reach) (ha : x = 2 * n → an' = an) :
    lab mode n I V' (upd tk o s T) an' top x = lab mode n I V tk an top x := by
  unfold lab
  by_cases h : x = 2 * n
  · rw [if_pos h, if_pos h, ha h]
  · rw [if_neg h, if_neg h, upd_ne (by omega), hV h]
theorem lab_at {mode : Int} {n : Nat} {I : Nat → Int} {V : Nat → N5} {tk : Nat → Nat → Tok} {an top o s : Nat} (ho : o < n) (hs : s < 2) :
    lab mode n I V tk an top (2 * o + s) = postP mode n I (V o).reach o s (tk o s) := by
  unfold lab
  rw [if_neg (by omega), show (2 * o + s) / 2 = o by omega, show (2 * o + s) % 2 = s by omega]

/-- One reply is home. -/
theorem TA.home {mode : Int} {n : Nat} {I : Nat → Int} {V : Nat → N5} {tk : Nat → Nat → Tok} {an top done o s : Nat} (A : TA mode n I V tk an top done) (ho : o < n) (hs : s < 2)
    (hT : TokOk mode n I (V o).reach (done + 1) top an o s .home) (hg : (V o).got = 0) (h0 : hm (tk o s) = 0) : TA mode n I (upV V o { V o with got := 1 }) (upd tk o s .home) an top (done + 1) := by
  have hst : ∀ j, (upV V o { V o with got := 1 } j).st = (V j).st := fun j => by
    by_cases h : j = o
    · subst h; rw [upV_at]
    · rw [upV_ne h]
  have hle : ∀ j, (upV V o { V o with got := 1 } j).lead = (V j).lead := fun j => by
    by_cases h : j = o
    · subst h; rw [upV_at]
    · rw [upV_ne h]
  have hre : ∀ j, (upV V o { V o with got := 1 } j).reach = (V j).reach := fun j => by
    by_cases h : j = o
    · subst h; rw [upV_at]
    · rw [upV_ne h]
  have hid : ∀ j, (upV V o { V o with got := 1 } j).id = (V j).id := fun j => by
    by_cases h : j = o
    · subst h; rw [upV_at]
    · rw [upV_ne h]
  refine { A with id := ?_, tok := ?_, rv := ?_, hf := ?_, gt := ?_, a0 := ?_, a1 := ?_ }
  · intro j hj; rw [hid]; exact A.id j hj
  · intro o' ho' s' hs'
    rw [hre]
    by_cases h : o' = o ∧ s' = s
    · obtain ⟨rfl, rfl⟩ := h; rw [upd_at]; exact hT
    · rw [upd_ne h]; exact (A.tok o' ho' s' hs').mono (by omega) (fun h => h)
  · intro j hj; rw [hre]; exact A.rv j hj
  · intro j hj; rw [hre]; exact A.hf j hj
  · intro j hj
    by_cases h : j = o
    · subst h
      rw [upV_at]
      have h1 := (A.gt j hj).1
      rcases (by omega : s = 0 ∨ s = 1) with rfl | rfl
      · rw [upd_at, upd_ne (by omega)]
        have : hm Tok.home = 1 := rfl
        refine ⟨?_, by simp⟩
        simp only
        omega
      · rw [upd_at, upd_ne (by omega)]
        have : hm Tok.home = 1 := rfl
        refine ⟨?_, by simp⟩
        simp only
        omega
    · rw [upV_ne h, upd_ne (by omega), upd_ne (by omega)]; exact A.gt j hj
  · intro h j hj; rw [hst, hle]; exact A.a0 h j hj
  · intro h
    obtain ⟨h1, h2, h3, h4, h5, h6, h7⟩ := A.a1 h
    rw [hst, hle, hre]
    refine ⟨h1, h2, h3, h4, by omega, h6, ?_⟩
    intro e he1 he2
    rw [hst, hle]
    exact h7 e he1 he2

/-- Both sides go out: a wake (HS), a new phase. -/
def updB (tk : Nat → Nat → Tok) (o : Nat) : Nat → Nat → Tok := upd (upd tk o 0 (.out 1)) o 1 (.out 1)
theorem updB_at (tk : Nat → Nat → Tok) (o s : Nat) (hs : s < 2) : updB tk o o s = .out 1 := by
  unfold updB
  rcases (by omega : s = 0 ∨ s = 1) with rfl | rfl
  · rw [upd_ne (by omega), upd_at]
  · rw [upd_at]
theorem updB_ne {tk : Nat → Nat → Tok} {o o' s : Nat} (h : o' ≠ o) : updB tk o o' s = tk o' s := by
  unfold updB
  rw [upd_ne (by omega), upd_ne (by omega)]

theorem TA.opens {mode : Int} {n : Nat} {I : Nat → Int} {V : Nat → N5} {tk : Nat → Nat → Tok} {an top done done' o : Nat} (A : TA mode n I V tk an top done) (ho : o < n) (hm1 : mode = 1) (R : Int)
    (hR : R = 1 ∨ R = 2 ∨ R = 4 ∨ R = 8) (hbig : (V o).reach ≤ R) (hd : done ≤ done') (hhalf : ∀ r : Nat, R = 2 * r → 1 ≤ r → r < n ∧ ∀ s, s < 2 → ∀ e, 1 ≤ e → e ≤ r → I (nd n s o e) < I o) :
    TA mode n I (upV V o { V o with got := 0, reach := R }) (updB tk o) an top done' := by
  have hst : ∀ j, (upV V o { V o with got := 0, reach := R } j).st = (V j).st := fun j => by
    by_cases h : j = o
    · subst h; rw [upV_at]
    · rw [upV_ne h]
  have hle : ∀ j, (upV V o { V o with got := 0, reach := R } j).lead = (V j).lead := fun j => by
    by_cases h : j = o
    · subst h; rw [upV_at]
    · rw [upV_ne h]
  have hid : ∀ j, (upV V o { V o with got := 0, reach := R } j).id = (V j).id := fun j => by
    by_cases h : j = o
    · subst h; rw [upV_at]
    · rw [upV_ne h]
  refine { A with id := ?_, tok := ?_, rv := ?_, hf := ?_, gt := ?_, a0 := ?_, a1 := ?_ }
  · intro j hj; rw [hid]; exact A.id j hj
  · intro o' ho' s' hs'
    by_cases h : o' = o
    · subst h
      rw [upV_at, updB_at _ _ _ hs']
      exact ⟨by simp only; omega, .inl hm1, by omega, by omega, fun _ => by simp only; omega, by omega, fun e h1 h2 => by omega⟩
    · rw [upV_ne h, updB_ne h]; exact (A.tok o' ho' s' hs').mono hd (fun h => h)
  · intro j hj
    by_cases h : j = o
    · subst h; rw [upV_at]; simp only; omega
    · rw [upV_ne h]; exact A.rv j hj
  · intro j hj r hr h1
    by_cases h : j = o
    · subst h; rw [upV_at] at hr
      exact ⟨hm1, hhalf r hr h1⟩
    · rw [upV_ne h] at hr; exact A.hf j hj r hr h1
  · intro j hj
    by_cases h : j = o
    · subst h
      rw [upV_at, updB_at _ _ _ (by omega), updB_at _ _ _ (by omega)]
      exact ⟨rfl, by simp⟩
    · rw [upV_ne h, updB_ne h, updB_ne h]; exact A.gt j hj
  · intro h j hj; rw [hst, hle]; exact A.a0 h j hj
  · intro h
    obtain ⟨h1, h2, h3, h4, h5, h6, h7⟩ := A.a1 h
    rw [hst, hle]
    refine ⟨h1, h2, h3, h4, by omega, ?_, ?_⟩
    · intro hm
      have := h6 hm
      by_cases h : top = o
      · subst h; rw [upV_at]; simp only; omega
      · rw [upV_ne h]; exact this
    · intro e he1 he2
      rw [hst, hle]
      exact h7 e he1 he2

theorem inL_B {n : Nat} {tk : Nat → Nat → Tok} {an o : Nat} (ho : o < n) (x : Nat) : inL n (updB tk o) an x ↔ (inL n tk an x ∧ x ≠ 2 * o ∧ x ≠ 2 * o + 1) ∨ x = 2 * o ∨ x = 2 * o + 1 := by
  by_cases h0 : x = 2 * o
  · subst h0
    have := inL_at (n := n) (tk := updB tk o) (an := an) (s := 0) ho (by omega)
    rw [show 2 * o + 0 = 2 * o by omega] at this
    rw [this, updB_at _ _ _ (by omega)]; simp [fly]
  · by_cases h1 : x = 2 * o + 1
    · subst h1
      rw [inL_at ho (by omega), updB_at _ _ _ (by omega)]; simp [fly]
    · unfold updB
      rw [inL_upd (by omega) x h1, inL_upd (by omega) x (by omega)]
      simp [h0, h1]

theorem cost_B {n : Nat} {V V' : Nat → N5} {tk : Nat → Nat → Tok} {o : Nat} : cost n V' (updB tk o) o = (if (V' o).reach ≤ 1 then 0 else 4 * ((V' o).reach - 1)) + 2 := by
  unfold cost
  rw [updB_at _ _ _ (by omega), updB_at _ _ _ (by omega)]
  simp [cnt]; omega
theorem cost_Bne {n : Nat} {V V' : Nat → N5} {tk : Nat → Nat → Tok} {o j : Nat} (hj : j ≠ o) (hV : (V' j).reach = (V j).reach) : cost n V' (updB tk o) j = cost n V tk j := by
  unfold cost
  rw [updB_ne hj, updB_ne hj, hV]
theorem lab_B {mode : Int} {n : Nat} {I : Nat → Int} {V V' : Nat → N5} {tk : Nat → Nat → Tok} {an top o : Nat} {x : Nat} (h0 : x ≠ 2 * o) (h1 : x ≠ 2 * o + 1) (hV : ∀ j, j ≠ o → (V' j).reach = (V j).reach) :
    lab mode n I V' (updB tk o) an top x = lab mode n I V tk an top x := by
  unfold lab
  by_cases h : x = 2 * n
  · rw [if_pos h, if_pos h]
  · rw [if_neg h, if_neg h, updB_ne (by omega), hV _ (by omega)]

/-- The greatest node is crowned. -/
theorem TA.crown {mode : Int} {n : Nat} {I : Nat → Int} {V : Nat → N5} {tk : Nat → Nat → Tok} {an top done s : Nat} (A : TA mode n I V tk an top done) (ho : top < n) (hs : s < 2) (h0 : an = 0)
    (hT : TokOk mode n I (V top).reach (done + 1) top 1 top s .round) (hh : hm (tk top s) = 0) (c : N5) (hc : c = { V top with lead := (V top).id, st := 2 }) :
    TA mode n I (upV V top c) (upd tk top s .round) 1 top (done + 1) := by
  subst h0
  have hre : ∀ j, (upV V top c j).reach = (V j).reach := fun j => by
    by_cases h : j = top
    · rw [h, upV_at, hc]
    · rw [upV_ne h]
  have hgo : ∀ j, (upV V top c j).got = (V j).got := fun j => by
    by_cases h : j = top
    · rw [h, upV_at, hc]
    · rw [upV_ne h]
  have hid : ∀ j, (upV V top c j).id = (V j).id := fun j => by
    by_cases h : j = top
    · rw [h, upV_at, hc]
    · rw [upV_ne h]
  refine { A with id := ?_, tok := ?_, rv := ?_, hf := ?_, gt := ?_, a0 := ?_, a1 := ?_ }
  · intro j hj; rw [hid]; exact A.id j hj
  · intro o' ho' s' hs'
    rw [hre]
    by_cases h : o' = top ∧ s' = s
    · obtain ⟨rfl, rfl⟩ := h; rw [upd_at]; exact hT
    · rw [upd_ne h]; exact (A.tok o' ho' s' hs').mono (by omega) (by omega)
  · intro j hj; rw [hre]; exact A.rv j hj
  · intro j hj; rw [hre]; exact A.hf j hj
  · intro j hj; rw [hgo, hm_upd (T := .round) (by rw [hh]; rfl), hm_upd (T := .round) (by rw [hh]; rfl)]; exact A.gt j hj
  · intro h; omega
  · intro _
    obtain ⟨_, _, _, t4, t5, _⟩ := hT
    refine ⟨by omega, by omega, by rw [upV_at, hc], by rw [upV_at, hc]; exact A.id top ho, t5, by rw [hre]; exact t4, ?_⟩
    intro e he1 he2
    refine ⟨fun h => by omega, fun _ => ?_⟩
    rw [upV_ne (nd_ne ho he1 he2)]
    exact A.a0 rfl _ (nd_lt ho (by omega))

/-- The announcement is heard at distance d and sent on. -/
theorem TA.heard {mode : Int} {n : Nat} {I : Nat → Int} {V : Nat → N5} {tk : Nat → Nat → Tok} {an top done : Nat} (A : TA mode n I V tk an top done) (h1 : 1 ≤ an) (h2 : an < n) (c : N5) (hc : c = { V (nd n 0 top an) with lead := I top, st := 1 }) :
    TA mode n I (upV V (nd n 0 top an) c) tk (an + 1) top (done + 1) := by
  have ho : top < n := A.tp (by omega)
  have hne := nd_ne (s := 0) ho h1 h2
  obtain ⟨g1, g2, g3, g4, g5, g6, g7⟩ := A.a1 h1
  have hre : ∀ j, (upV V (nd n 0 top an) c j).reach = (V j).reach := fun j => by
    by_cases h : j = nd n 0 top an
    · rw [h, upV_at, hc]
    · rw [upV_ne h]
  have hgo : ∀ j, (upV V (nd n 0 top an) c j).got = (V j).got := fun j => by
    by_cases h : j = nd n 0 top an
    · rw [h, upV_at, hc]
    · rw [upV_ne h]
  have hid : ∀ j, (upV V (nd n 0 top an) c j).id = (V j).id := fun j => by
    by_cases h : j = nd n 0 top an
    · rw [h, upV_at, hc]
    · rw [upV_ne h]
  refine { A with id := ?_, tok := ?_, rv := ?_, hf := ?_, gt := ?_, a0 := ?_, a1 := ?_ }
  · intro j hj; rw [hid]; exact A.id j hj
  · intro o' ho' s' hs'; rw [hre]; exact (A.tok o' ho' s' hs').mono (by omega) (by omega)
  · intro j hj; rw [hre]; exact A.rv j hj
  · intro j hj; rw [hre]; exact A.hf j hj
  · intro j hj; rw [hgo]; exact A.gt j hj
  · intro h; omega
  · intro _
    refine ⟨by omega, by omega, by rw [upV_ne (fun h => hne h.symm)]; exact g3, by rw [upV_ne (fun h => hne h.symm)]; exact g4, by omega, by rw [hre]; exact g6, ?_⟩
    intro e he1 he2
    by_cases h : e = an
    · subst h
      rw [upV_at, hc]
      exact ⟨fun _ => ⟨rfl, rfl⟩, fun h => by omega⟩
    · rw [upV_ne (fun h' => h (nd_inj ho he2 h2 h'))]
      exact ⟨fun h' => (g7 e he1 he2).1 (by omega), fun h' => (g7 e he1 he2).2 (by omega)⟩

/-- The announcement is home. -/
theorem TA.over {mode : Int} {n : Nat} {I : Nat → Int} {V : Nat → N5} {tk : Nat → Nat → Tok} {an top done : Nat} (A : TA mode n I V tk an top done) (h1 : 1 ≤ an) (h2 : an = n) :
    TA mode n I V tk (n + 1) top (done + 1) := by
  obtain ⟨g1, g2, g3, g4, g5, g6, g7⟩ := A.a1 h1
  exact { A with
    tok := fun o' ho' s' hs' => (A.tok o' ho' s' hs').mono (by omega) (by omega)
    a0 := fun h => by omega
    a1 := fun _ => ⟨g1, by omega, g3, g4, by omega, g6, fun e he1 he2 => ⟨fun _ => (g7 e he1 he2).1 (by omega), fun h => by omega⟩⟩ }

/-- Chang-Roberts: a wake. -/
theorem TA.wakes {mode : Int} {n : Nat} {I : Nat → Int} {V : Nat → N5} {tk : Nat → Nat → Tok} {an top done o : Nat} (A : TA mode n I V tk an top done) (ho : o < n) (hm0 : mode = 0) (h0 : (V o).reach = 0) :
    TA mode n I (upV V o { V o with reach := 1 }) (upd tk o 0 (.out 1)) an top done := by
  have hst : ∀ j, (upV V o { V o with reach := 1 } j).st = (V j).st := fun j => by
    by_cases h : j = o
    · subst h; rw [upV_at]
    · rw [upV_ne h]
  have hle : ∀ j, (upV V o { V o with reach := 1 } j).lead = (V j).lead := fun j => by
    by_cases h : j = o
    · subst h; rw [upV_at]
    · rw [upV_ne h]
  have hid : ∀ j, (upV V o { V o with reach := 1 } j).id = (V j).id := fun j => by
    by_cases h : j = o
    · subst h; rw [upV_at]
    · rw [upV_ne h]
  have hgo : ∀ j, (upV V o { V o with reach := 1 } j).got = (V j).got := fun j => by
    by_cases h : j = o
    · subst h; rw [upV_at]
    · rw [upV_ne h]
  have hidle : hm (tk o 0) = 0 := by
    have h := A.tok o ho 0 (by omega)
    cases hT : tk o 0 <;> rw [hT] at h <;> first | rfl | (exfalso; have := h.1; omega)
  have hidl1 : ∀ R', TokOk mode n I R' done top an o 1 (tk o 1) := by
    intro R'
    have h := A.tok o ho 1 (by omega)
    cases hT : tk o 1 <;> rw [hT] at h <;> first | (exact .inr ⟨hm0, rfl⟩) | (exfalso; have := h.1; omega)
  refine { A with id := ?_, tok := ?_, rv := ?_, hf := ?_, gt := ?_, a0 := ?_, a1 := ?_ }
  · intro j hj; rw [hid]; exact A.id j hj
  · intro o' ho' s' hs'
    by_cases h : o' = o
    · subst h
      rw [upV_at]
      rcases (by omega : s' = 0 ∨ s' = 1) with rfl | rfl
      · rw [upd_at]
        exact ⟨by simp, .inr rfl, by omega, by omega, fun h => by omega, by omega, fun e h1 h2 => by omega⟩
      · rw [upd_ne (by omega)]; exact hidl1 _
    · rw [upV_ne h, upd_ne (by omega)]; exact A.tok o' ho' s' hs'
  · intro j hj
    by_cases h : j = o
    · subst h; rw [upV_at]; simp
    · rw [upV_ne h]; exact A.rv j hj
  · intro j hj r hr h1
    by_cases h : j = o
    · subst h; rw [upV_at] at hr; simp only at hr; omega
    · rw [upV_ne h] at hr; exact A.hf j hj r hr h1
  · intro j hj; rw [hgo, hm_upd (T := .out 1) (by rw [hidle]; rfl), hm_upd (T := .out 1) (by rw [hidle]; rfl)]; exact A.gt j hj
  · intro h j hj; rw [hst, hle]; exact A.a0 h j hj
  · intro h
    obtain ⟨h1, h2, h3, h4, h5, h6, h7⟩ := A.a1 h
    rw [hst, hle]
    refine ⟨h1, h2, h3, h4, by omega, fun h => by omega, ?_⟩
    intro e he1 he2
    rw [hst, hle]
    exact h7 e he1 he2
end Go.Proofs.Qxb6500369a
