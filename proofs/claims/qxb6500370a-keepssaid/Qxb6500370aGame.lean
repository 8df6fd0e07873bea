/-
  THE REAL GAME IN MEMORY.
-/
import Derived.Test.Qxb6500370aAllows
namespace Go.Proofs.Qxb6500370a
open Go.RowKit Go.Qx Go.Qx.Mk
set_option linter.unusedVariables false
set_option linter.unusedSimpArgs false

/-- A word as a function. -/
def fw (l : List Int) (i : Nat) : Int := l.getD i 0
theorem wc_fw (l : List Int) (h : l.length = 5) : wc (fw l) = l.map (Value.int .i32) := by
  match l, h with
  | [a, b, c, d, e], _ => rfl
theorem flat_fw : ∀ (ws : List (List Int)), (∀ x ∈ ws, x.length = 5) → flatF (ws.map fw) = flat ws
  | [], _ => rfl
  | x :: ws, h => by
    have ih := flat_fw ws (fun y hy => h y (by simp [hy]))
    show wc (fw x) ++ flatF (ws.map fw) = x.map (Value.int .i32) ++ flat ws
    rw [wc_fw x (h x (by simp)), ih]

/-- The state: the book, the tries, the secret, whether a round was started, hard mode. -/
structure St where
  ws : List (List Int)
  ts : List (List Int)
  sec : List Int
  bg : Bool
  hd : Bool
def St.none : St := ⟨[], [], [0, 0, 0, 0, 0], false, false⟩
def Word (l : List Int) : Prop := l.length = 5 ∧ ∀ x ∈ l, 97 ≤ x ∧ x ≤ 66639
structure St.Ok (st : St) : Prop where
  ws : ∀ x ∈ st.ws, Word x
  ts : ∀ x ∈ st.ts, Word x
  sec : st.sec.length = 5
  secW : st.bg = true → Word st.sec
  nob : st.bg = false → st.ts = [] ∧ st.hd = false
  few : st.ws.length ≤ 8
  six : st.ts.length ≤ 6
/-- What is known. -/
def St.C (st : St) : KC := taught (fw st.sec) (st.ts.map fw) KC.none
def shownV (st : St) : List Value := st.ts.map fun t => .string (str (marksL (fw st.sec) (fw t)))

structure GRep (w : World) (G : Nat) (vb vt vs : Value) (L : Nat → Nat) (st : St) : Prop where
  b : Blk w G 52 (gcells vb vt vs (fw st.sec) st.C.green st.bg st.hd L)
  kr : KRep w L st.C
  rb : WRow w vb (st.ws.map fw)
  rt : WRow w vt (st.ts.map fw)
  rs : Row w 9 1 vs st.ts.length (shownV st)
  far : Far G L
  gb : vb.ownBlock ≠ some G
  gt : vt.ownBlock ≠ some G
  gs : vs.ownBlock ≠ some G
  lb : ∀ i, i < 7 → vb.ownBlock ≠ some (L i)
  lt : ∀ i, i < 7 → vt.ownBlock ≠ some (L i)
  ls : ∀ i, i < 7 → vs.ownBlock ≠ some (L i)
  bt : ∀ x, vb.ownBlock = some x → vt.ownBlock ≠ some x
  bs : ∀ x, vb.ownBlock = some x → vs.ownBlock ≠ some x
  ts : ∀ x, vt.ownBlock = some x → vs.ownBlock ≠ some x
/-- The game's blocks. -/
def GO (G : Nat) (vb vt vs : Value) (L : Nat → Nat) (x : Nat) : Prop := x = G ∨ vb.ownBlock = some x ∨ vt.ownBlock = some x ∨ vs.ownBlock = some x ∨ ∃ i, i < 7 ∧ x = L i
def RRep (w : World) (O : Nat → Prop) (G : Nat) (st : St) : Prop := ∃ vb vt vs L, GRep w G vb vt vs L st ∧ ∀ x, GO G vb vt vs L x → O x

theorem GRep.of_chg {S : Nat → Prop} {w w' : World} {G : Nat} {vb vt vs : Value} {L : Nat → Nat} {st : St} (h : GRep w G vb vt vs L st) (c : Chg S w w') (hS : ∀ x, GO G vb vt vs L x → ¬ S x) : GRep w' G vb vt vs L st :=
  { h with
    b := c.blk h.b (hS _ (.inl rfl))
    kr := h.kr.of_chg c (fun i hi => hS _ (.inr (.inr (.inr (.inr ⟨i, hi, rfl⟩)))))
    rb := Row.of_chg h.rb c (fun x hx => hS _ (.inr (.inl hx)))
    rt := Row.of_chg h.rt c (fun x hx => hS _ (.inr (.inr (.inl hx))))
    rs := h.rs.of_chg c (fun x hx => hS _ (.inr (.inr (.inr (.inl hx))))) }
theorem GRep.quiet {w w' : World} {G : Nat} {vb vt vs : Value} {L : Nat → Nat} {st : St} (h : GRep w G vb vt vs L st) (c : Quiet w w') : GRep w' G vb vt vs L st := h.of_chg c (fun _ _ => id)
theorem RRep.of_chg {S O : Nat → Prop} {w w' : World} {G : Nat} {st : St} (h : RRep w O G st) (c : Chg S w w') (hS : ∀ x, O x → ¬ S x) : RRep w' O G st := by
  obtain ⟨vb, vt, vs, L, h1, h2⟩ := h
  exact ⟨vb, vt, vs, L, h1.of_chg c (fun x hx => hS x (h2 x hx)), h2⟩
theorem RRep.quiet {O : Nat → Prop} {w w' : World} {G : Nat} {st : St} (h : RRep w O G st) (c : Quiet w w') : RRep w' O G st := h.of_chg c (fun _ _ => id)

/-- Start, plainly. -/
def startP (st : St) (i hard : Int) : Int × St :=
  if i < 0 ∨ st.ws.length ≤ i then (5, st) else (0, ⟨st.ws, [], st.ws.getD i.toNat [], true, decide (hard ≠ 0)⟩)

def newL (H : Nat) (i : Nat) : Nat := if i = 5 then H else if i = 6 then H + 1 else H + 2 + i
theorem start_fin (w W5 : World) (O : Nat → Prop) (G : Nat) (st : St) (ok : st.Ok) {vb vt vs : Value} {L : Nat → Nat} (R : GRep w G vb vt vs L st) (hO : ∀ x, GO G vb vt vs L x → O x) (j : Nat) (hjl : j < st.ws.length) (hard : Int) (H : Nat) (hsz : w.heap.size = H) (t : Nat → Int) (htj : (st.ws.map fw)[j]? = some t) (C5 : Chg (fun x => x = G) w W5)
    (B5 : Blk W5 G 52 [vb, .slice none 0 0, rk (t 0), rk (t 1), rk (t 2), rk (t 3), rk (t 4), rk 0, rk 0, rk 0, rk 0, rk 0, .bool true, .bool (hard != 0), .slice none 0 0, .map (some (H + 1 + 1)), .map (some (H + 1 + 1 + 1)), .map (some (H + 1 + 1 + 1 + 1)), .map (some (H + 1 + 1 + 1 + 1 + 1)), .map (some (H + 1 + 1 + 1 + 1 + 1 + 1)), .map (some H), .map (some (H + 1))]) (m0 : MapJ W5 (H + 1 + 1) (fun _ => none) 0) (m1 : MapJ W5 (H + 1 + 1 + 1) (fun _ => none) 0) (m2 : MapJ W5 (H + 1 + 1 + 1 + 1) (fun _ => none) 0) (m3 : MapJ W5 (H + 1 + 1 + 1 + 1 + 1) (fun _ => none) 0) (m4 : MapJ W5 (H + 1 + 1 + 1 + 1 + 1 + 1) (fun _ => none) 0) (m5 : MapJ W5 H (fun _ => none) 0) (m6 : MapJ W5 (H + 1) (fun _ => none) 0) :
    Ending.returned (.int .i64 0) = Ending.returned (.int .i64 (startP st j hard).1) ∧ ∃ O', RRep W5 O' G (startP st j hard).2 ∧ Chg O w W5 ∧ ∀ x, O' x → O x ∨ w.heap.size ≤ x := by
  have hp : startP st j hard = (0, ⟨st.ws, [], st.ws.getD j [], true, decide (hard ≠ 0)⟩) := by
    unfold startP; rw [if_neg (by omega)]; rfl
  rw [hp]
  have ht : fw (st.ws.getD j []) = t := by
    rw [List.getElem?_map] at htj
    rw [List.getD_eq_getElem?_getD]
    cases h : st.ws[j]? with
    | none => rw [h] at htj; cases htj
    | some x => rw [h] at htj; simpa using htj
  have hGH : G < H := by rw [← hsz]; exact R.b.lt
  have hbr : ∀ x, vb.ownBlock = some x → x < H := fun x hx => by rw [← hsz]; exact Row.lt R.rb hx
  refine ⟨rfl, GO G vb (.slice none 0 0) (.slice none 0 0) (newL H), ⟨vb, .slice none 0 0, .slice none 0 0, newL H, ?_, fun x hx => hx⟩, C5.mono (fun x _ hx => hO x (.inl hx)), ?_⟩
  · refine ⟨?_, ⟨?_, ?_, ?_⟩, ?_, ?_, ?_, ⟨?_, ?_⟩, R.gb, ?_, ?_, ?_, ?_, ?_, ?_, ?_, ?_⟩
    · show Blk W5 G 52 (gcells vb (.slice none 0 0) (.slice none 0 0) (fw (st.ws.getD j [])) (fun _ => 0) true (decide (hard ≠ 0)) (newL H))
      rw [ht]
      have e : (hard != 0) = decide (hard ≠ 0) := by
        by_cases h : hard = 0 <;> simp [h]
      rw [e] at B5
      exact B5
    · intro p hp
      rcases (by omega : p = 0 ∨ p = 1 ∨ p = 2 ∨ p = 3 ∨ p = 4) with rfl | rfl | rfl | rfl | rfl
      · exact m0
      · exact m1
      · exact m2
      · exact m3
      · exact m4
    · exact m5
    · exact m6
    · exact Row.of_chg R.rb C5 (fun x hx e => R.gb (by rw [hx, e]))
    · exact Row.nil _ _ _
    · exact Row.nil _ _ _
    · intro i hi
      unfold newL
      repeat' split
      all_goals omega
    · intro i k hi hk hne
      unfold newL
      repeat' split
      all_goals omega
    · simp [Value.ownBlock]
    · simp [Value.ownBlock]
    · intro i hi e
      have := hbr _ e
      revert this
      unfold newL
      repeat' split
      all_goals omega
    · intro i hi; simp [Value.ownBlock]
    · intro i hi; simp [Value.ownBlock]
    · intro x hx; simp [Value.ownBlock]
    · intro x hx; simp [Value.ownBlock]
    · intro x hx; simp [Value.ownBlock]
  · rintro x (rfl | h | h | h | ⟨i, hi, rfl⟩)
    · exact .inl (hO _ (.inl rfl))
    · exact .inl (hO _ (.inr (.inl h)))
    · simp [Value.ownBlock] at h
    · simp [Value.ownBlock] at h
    · right
      rw [hsz]
      unfold newL
      repeat' split
      all_goals omega

set_option maxHeartbeats 4000000 in
set_option maxRecDepth 100000 in
theorem start_any (w : World) (O : Nat → Prop) (G : Nat) (st : St) (ok : st.Ok) (h : RRep w O G st) (i hard : Int) : Calls Try.prog 19 #[ptr G, .int .i64 i, .int .i64 hard] w fun e w' => e = .returned (.int .i64 (startP st i hard).1) ∧ ∃ O', RRep w' O' G (startP st i hard).2 ∧ Chg O w w' ∧ ∀ x, O' x → O x ∨ w.heap.size ≤ x := by
  obtain ⟨vb, vt, vs, L, R, hO⟩ := h
  have hG := R.b.lt
  have cb : w.cell? ⟨G, 0, none⟩ = some vb := R.b.cell 0
  obtain ⟨x, cp, hx⟩ := R.rb.sl
  rw [hx] at cb
  unfold ptr
  by_cases hbad : i < 0 ∨ (st.ws.length : Int) ≤ i
  · have hp : startP st i hard = (5, st) := by unfold startP; rw [if_pos hbad]
    rw [hp]
    have fin : Hid (∃ O', RRep w O' G st ∧ Chg O w w ∧ ∀ x, O' x → O x ∨ w.heap.size ≤ x) := ⟨O, ⟨vb, vt, vs, L, R, hO⟩, Chg.refl _ _, fun x hx => .inl hx⟩
    have hl : (st.ws.map fw).length = st.ws.length := by simp
    rw [hl] at cb
    clear R hO hp ok hl
    generalize st.ws.length = n at *
    rcases hbad with h1 | h1
    · clear cb hx
      go_enter Try.func19, Try.ntmps19
      go_wp2
      go_ret
      exact ⟨rfl, unhide fin⟩
    · by_cases h0 : i < 0
      · clear cb hx
        go_enter Try.func19, Try.ntmps19
        go_wp2
        go_ret
        exact ⟨rfl, unhide fin⟩
      · go_enter Try.func19, Try.ntmps19
        go_wp2
        go_ret
        exact ⟨rfl, unhide fin⟩
  · obtain ⟨j, rfl⟩ : ∃ j : Nat, i = j := ⟨i.toNat, by omega⟩
    have hjl : j < st.ws.length := by omega
    have hl : (st.ws.map fw).length = st.ws.length := by simp
    obtain ⟨g, cap, t, htj, hv, r0, r1, r2, r3, r4⟩ := R.rb.cells j (by rw [hl]; exact hjl)
    obtain ⟨h1, h2⟩ : x = some ⟨g, 0, none⟩ ∧ cp = cap := by
      have := hx.symm.trans hv
      simp at this; exact this
    subst h1; subst h2
    rw [hl] at cb
    have k1 : ¬ (j : Int) < 0 := by omega
    have k2 : ¬ (st.ws.length : Int) ≤ (j : Int) := by omega
    have k3 : (j : Int) < (st.ws.length : Int) := by omega
    have k4 : (0 : Int) ≤ (j : Int) := by omega
    have hgG : g ≠ G := fun e => R.gb (by rw [hv]; simp [Value.ownBlock, e])
    have RH := hide (⟨R, hO, ok⟩ : _ ∧ _ ∧ _)
    have hxH := hide (⟨hx, hv, htj, hl, hjl⟩ : _ ∧ _ ∧ _ ∧ _ ∧ _)
    obtain ⟨z0, z1, z2, z3, z4, y0, y1, y2, y3, y4, bgv, hdv, BB⟩ : ∃ z0 z1 z2 z3 z4 y0 y1 y2 y3 y4 bgv hdv, Blk w G 52 [vb, vt, rk z0, rk z1, rk z2, rk z3, rk z4, rk y0, rk y1, rk y2, rk y3, rk y4, .bool bgv, .bool hdv, vs, .map (some (L 0)), .map (some (L 1)), .map (some (L 2)), .map (some (L 3)), .map (some (L 4)), .map (some (L 5)), .map (some (L 6))] := ⟨_, _, _, _, _, _, _, _, _, _, _, _, R.b⟩
    clear R hO ok hx hv htj hl hjl hbad
    obtain ⟨n, hn⟩ : ∃ n, st.ws.length = n := ⟨_, rfl⟩
    rw [hn] at cb k2 k3
    clear hn
    have f1 := BB.frozen 1
    have c1 : w.cell? ⟨G, 1, none⟩ = some (vt) := BB.cell 1
    have f2 := BB.frozen 2
    have c2 : w.cell? ⟨G, 2, none⟩ = some (rk z0) := BB.cell 2
    have f3 := BB.frozen 3
    have c3 : w.cell? ⟨G, 3, none⟩ = some (rk z1) := BB.cell 3
    have f4 := BB.frozen 4
    have c4 : w.cell? ⟨G, 4, none⟩ = some (rk z2) := BB.cell 4
    have f5 := BB.frozen 5
    have c5 : w.cell? ⟨G, 5, none⟩ = some (rk z3) := BB.cell 5
    have f6 := BB.frozen 6
    have c6 : w.cell? ⟨G, 6, none⟩ = some (rk z4) := BB.cell 6
    have f12 := BB.frozen 12
    have c12 : w.cell? ⟨G, 12, none⟩ = some (.bool bgv) := BB.cell 12
    have f13 := BB.frozen 13
    have c13 : w.cell? ⟨G, 13, none⟩ = some (.bool hdv) := BB.cell 13
    have f14 := BB.frozen 14
    have c14 : w.cell? ⟨G, 14, none⟩ = some (vs) := BB.cell 14
    obtain ⟨t0, h0⟩ : ∃ x, t 0 = x := ⟨_, rfl⟩
    obtain ⟨t1, h1⟩ : ∃ x, t 1 = x := ⟨_, rfl⟩
    obtain ⟨t2, h2⟩ : ∃ x, t 2 = x := ⟨_, rfl⟩
    obtain ⟨t3, h3⟩ : ∃ x, t 3 = x := ⟨_, rfl⟩
    obtain ⟨t4, h4⟩ : ∃ x, t 4 = x := ⟨_, rfl⟩
    rw [h0] at r0
    rw [h1] at r1
    rw [h2] at r2
    rw [h3] at r3
    rw [h4] at r4
    have tH := hide (⟨h0, h1, h2, h3, h4⟩ : _ ∧ _ ∧ _ ∧ _ ∧ _)
    clear h0 h1 h2 h3 h4
    have BBH := hide BB
    clear BB
    go_enter Try.func19, Try.ntmps19
    go_wp2
    obtain ⟨W1, hW1⟩ : ∃ W, (((((((((w.setCell ⟨G, 2, none⟩ (rk t0)).setCell ⟨G, 3, none⟩ (rk t1)).setCell ⟨G, 4, none⟩ (rk t2)).setCell ⟨G, 5, none⟩ (rk t3)).setCell ⟨G, 6, none⟩ (rk t4)).setCell ⟨G, 12, none⟩ (.bool true)).setCell ⟨G, 13, none⟩ (.bool (hard != 0))).setCell ⟨G, 1, none⟩ (.slice none 0 0)).setCell ⟨G, 14, none⟩ (.slice none 0 0)) = W := ⟨_, rfl⟩
    have B1 : Blk W1 G 52 [vb, .slice none 0 0, rk t0, rk t1, rk t2, rk t3, rk t4, rk y0, rk y1, rk y2, rk y3, rk y4, .bool true, .bool (hard != 0), .slice none 0 0, .map (some (L 0)), .map (some (L 1)), .map (some (L 2)), .map (some (L 3)), .map (some (L 4)), .map (some (L 5)), .map (some (L 6))] := by
      rw [← hW1]; exact ((((((((((unhide BBH).set 2 (rk t0)).set 3 (rk t1)).set 4 (rk t2)).set 5 (rk t3)).set 6 (rk t4)).set 12 (.bool true)).set 13 (.bool (hard != 0))).set 1 (.slice none 0 0)).set 14 (.slice none 0 0))
    have C1 : Hid (Chg (fun x => x = G) w W1) := by
      show Chg _ _ _
      rw [← hW1]; exact ((((((((((Chg.refl (fun x => x = G) w).setCell (p := ⟨G, 2, none⟩) (.inl rfl) (rk t0)).setCell (p := ⟨G, 3, none⟩) (.inl rfl) (rk t1)).setCell (p := ⟨G, 4, none⟩) (.inl rfl) (rk t2)).setCell (p := ⟨G, 5, none⟩) (.inl rfl) (rk t3)).setCell (p := ⟨G, 6, none⟩) (.inl rfl) (rk t4)).setCell (p := ⟨G, 12, none⟩) (.inl rfl) (.bool true)).setCell (p := ⟨G, 13, none⟩) (.inl rfl) (.bool (hard != 0))).setCell (p := ⟨G, 1, none⟩) (.inl rfl) (.slice none 0 0)).setCell (p := ⟨G, 14, none⟩) (.inl rfl) (.slice none 0 0))
    have hs1 : W1.heap.size = w.heap.size := by rw [← hW1]; simp
    rw [hW1]
    clear hW1 BBH r0 r1 r2 r3 r4 c1 c2 c3 c4 c5 c6 c12 c13 c14 f1 f2 f3 f4 f5 f6 f12 f13 f14 cb
    obtain ⟨H, hH⟩ : ∃ H, W1.heap.size = H := ⟨_, rfl⟩
    have hs1H := hide hs1
    clear hs1
    have B1a := (B1.alloc (.map #[] 0)).alloc (.map #[] 0)
    have hm47 : (Instr.makeMap 47 none).run Try.prog W1 = .ok (.map (some H)) (W1.alloc (.map #[] 0)) := by rw [← hH]; exact run_makeMap 47 W1
    have hm47b : (Instr.makeMap 47 none).run Try.prog (W1.alloc (.map #[] 0)) = .ok (.map (some (H + 1))) ((W1.alloc (.map #[] 0)).alloc (.map #[] 0)) := by rw [← hH]; have h := run_makeMap (P := Try.prog) 47 (W1.alloc (.map #[] 0)); rwa [show (W1.alloc (.map #[] 0)).heap.size = W1.heap.size + 1 by simp] at h
    have MA : Hid (MapJ ((W1.alloc (.map #[] 0)).alloc (.map #[] 0)) H (fun _ => none) 0 ∧ MapJ ((W1.alloc (.map #[] 0)).alloc (.map #[] 0)) (H + 1) (fun _ => none) 0) := by
      have h1 := MapJ.new W1
      have h2 := MapJ.new (W1.alloc (.map #[] 0))
      rw [show (W1.alloc (.map #[] 0)).heap.size = W1.heap.size + 1 by simp] at h2
      rw [hH] at h1 h2
      exact ⟨h1.quiet ((Chg.refl _ _).alloc _), h2⟩
    have C2 : Hid (Chg (fun x => x = G) w ((W1.alloc (.map #[] 0)).alloc (.map #[] 0))) := Chg.alloc (Chg.alloc (unhide C1) _) _
    have hGH : G < H := by rw [← hH]; exact B1.lt
    obtain ⟨W2, hW2⟩ : ∃ W, (W1.alloc (.map #[] 0)).alloc (.map #[] 0) = W := ⟨_, rfl⟩
    have hs2 : W2.heap.size = H + 1 + 1 := by rw [← hW2, ← hH]; simp
    rw [hW2] at B1a hm47b MA C2
    have hHH := hide hH
    clear B1 C1 hH hW2
    have f7 := B1a.frozen 7
    have c7 := B1a.cell 7
    have f8 := B1a.frozen 8
    have c8 := B1a.cell 8
    have f9 := B1a.frozen 9
    have c9 := B1a.cell 9
    have f10 := B1a.frozen 10
    have c10 := B1a.cell 10
    have f11 := B1a.frozen 11
    have c11 := B1a.cell 11
    have f20 := B1a.frozen 20
    have c20 := B1a.cell 20
    have f21 := B1a.frozen 21
    have c21 := B1a.cell 21
    simp at c7 c8 c9 c10 c11 c20 c21
    have B1H := hide B1a
    clear B1a
    go_wp2
    obtain ⟨W3, hW3⟩ : ∃ W, (((((((W2.setCell ⟨G, 7, none⟩ (rk 0)).setCell ⟨G, 8, none⟩ (rk 0)).setCell ⟨G, 9, none⟩ (rk 0)).setCell ⟨G, 10, none⟩ (rk 0)).setCell ⟨G, 11, none⟩ (rk 0)).setCell ⟨G, 20, none⟩ (.map (some H))).setCell ⟨G, 21, none⟩ (.map (some (H + 1)))) = W := ⟨_, rfl⟩
    have B3 : Blk W3 G 52 [vb, .slice none 0 0, rk t0, rk t1, rk t2, rk t3, rk t4, rk 0, rk 0, rk 0, rk 0, rk 0, .bool true, .bool (hard != 0), .slice none 0 0, .map (some (L 0)), .map (some (L 1)), .map (some (L 2)), .map (some (L 3)), .map (some (L 4)), .map (some H), .map (some (H + 1))] := by
      rw [← hW3]; exact ((((((((unhide B1H).set 7 (rk 0)).set 8 (rk 0)).set 9 (rk 0)).set 10 (rk 0)).set 11 (rk 0)).set 20 (.map (some H))).set 21 (.map (some (H + 1))))
    have CG : Chg (fun x => x = G) W2 W3 := by
      rw [← hW3]; exact ((((((((Chg.refl (fun x => x = G) W2).setCell (p := ⟨G, 7, none⟩) (.inl rfl) (rk 0)).setCell (p := ⟨G, 8, none⟩) (.inl rfl) (rk 0)).setCell (p := ⟨G, 9, none⟩) (.inl rfl) (rk 0)).setCell (p := ⟨G, 10, none⟩) (.inl rfl) (rk 0)).setCell (p := ⟨G, 11, none⟩) (.inl rfl) (rk 0)).setCell (p := ⟨G, 20, none⟩) (.inl rfl) (.map (some H))).setCell (p := ⟨G, 21, none⟩) (.inl rfl) (.map (some (H + 1))))
    have C3 : Hid (Chg (fun x => x = G) w W3) := (unhide C2).trans CG
    have hs3 : W3.heap.size = H + 1 + 1 := by rw [← hW3, ← hs2]; simp
    have M3 : Hid (MapJ W3 H (fun _ => none) 0 ∧ MapJ W3 (H + 1) (fun _ => none) 0) := ⟨(unhide MA).1.of_chg CG (by omega), (unhide MA).2.of_chg CG (by omega)⟩
    rw [hW3]
    clear hW3 B1H C2 MA c7 c8 c9 c10 c11 c20 c21 f7 f8 f9 f10 f11 f20 f21 hm47 hm47b CG
    have al : Hid (∀ (W : World) (o : Obj), (W.alloc o).heap.size = W.heap.size + 1) := fun W o => by simp
    have hm0 : (Instr.makeMap 45 none).run Try.prog W3 = .ok (.map (some (H + 1 + 1))) (W3.alloc (.map #[] 0)) := by
      have h := run_makeMap (P := Try.prog) 45 W3
      rwa [show W3.heap.size = H + 1 + 1 by exact hs3] at h
    have n0 : MapJ (((((W3.alloc (.map #[] 0)).alloc (.map #[] 0)).alloc (.map #[] 0)).alloc (.map #[] 0)).alloc (.map #[] 0)) (H + 1 + 1) (fun _ => none) 0 := by
      have h := MapJ.new W3
      rw [show W3.heap.size = H + 1 + 1 by exact hs3] at h
      exact h.quiet (Chg.alloc (Chg.alloc (Chg.alloc (Chg.alloc (Chg.refl _ _) _) _) _) _)
    have hm1 : (Instr.makeMap 45 none).run Try.prog (W3.alloc (.map #[] 0)) = .ok (.map (some (H + 1 + 1 + 1))) ((W3.alloc (.map #[] 0)).alloc (.map #[] 0)) := by
      have h := run_makeMap (P := Try.prog) 45 (W3.alloc (.map #[] 0))
      rwa [show (W3.alloc (.map #[] 0)).heap.size = H + 1 + 1 + 1 by simp; omega] at h
    have n1 : MapJ (((((W3.alloc (.map #[] 0)).alloc (.map #[] 0)).alloc (.map #[] 0)).alloc (.map #[] 0)).alloc (.map #[] 0)) (H + 1 + 1 + 1) (fun _ => none) 0 := by
      have h := MapJ.new (W3.alloc (.map #[] 0))
      rw [show (W3.alloc (.map #[] 0)).heap.size = H + 1 + 1 + 1 by simp; omega] at h
      exact h.quiet (Chg.alloc (Chg.alloc (Chg.alloc (Chg.refl _ _) _) _) _)
    have hm2 : (Instr.makeMap 45 none).run Try.prog ((W3.alloc (.map #[] 0)).alloc (.map #[] 0)) = .ok (.map (some (H + 1 + 1 + 1 + 1))) (((W3.alloc (.map #[] 0)).alloc (.map #[] 0)).alloc (.map #[] 0)) := by
      have h := run_makeMap (P := Try.prog) 45 ((W3.alloc (.map #[] 0)).alloc (.map #[] 0))
      rwa [show ((W3.alloc (.map #[] 0)).alloc (.map #[] 0)).heap.size = H + 1 + 1 + 1 + 1 by simp; omega] at h
    have n2 : MapJ (((((W3.alloc (.map #[] 0)).alloc (.map #[] 0)).alloc (.map #[] 0)).alloc (.map #[] 0)).alloc (.map #[] 0)) (H + 1 + 1 + 1 + 1) (fun _ => none) 0 := by
      have h := MapJ.new ((W3.alloc (.map #[] 0)).alloc (.map #[] 0))
      rw [show ((W3.alloc (.map #[] 0)).alloc (.map #[] 0)).heap.size = H + 1 + 1 + 1 + 1 by simp; omega] at h
      exact h.quiet (Chg.alloc (Chg.alloc (Chg.refl _ _) _) _)
    have hm3 : (Instr.makeMap 45 none).run Try.prog (((W3.alloc (.map #[] 0)).alloc (.map #[] 0)).alloc (.map #[] 0)) = .ok (.map (some (H + 1 + 1 + 1 + 1 + 1))) ((((W3.alloc (.map #[] 0)).alloc (.map #[] 0)).alloc (.map #[] 0)).alloc (.map #[] 0)) := by
      have h := run_makeMap (P := Try.prog) 45 (((W3.alloc (.map #[] 0)).alloc (.map #[] 0)).alloc (.map #[] 0))
      rwa [show (((W3.alloc (.map #[] 0)).alloc (.map #[] 0)).alloc (.map #[] 0)).heap.size = H + 1 + 1 + 1 + 1 + 1 by simp; omega] at h
    have n3 : MapJ (((((W3.alloc (.map #[] 0)).alloc (.map #[] 0)).alloc (.map #[] 0)).alloc (.map #[] 0)).alloc (.map #[] 0)) (H + 1 + 1 + 1 + 1 + 1) (fun _ => none) 0 := by
      have h := MapJ.new (((W3.alloc (.map #[] 0)).alloc (.map #[] 0)).alloc (.map #[] 0))
      rw [show (((W3.alloc (.map #[] 0)).alloc (.map #[] 0)).alloc (.map #[] 0)).heap.size = H + 1 + 1 + 1 + 1 + 1 by simp; omega] at h
      exact h.quiet (Chg.alloc (Chg.refl _ _) _)
    have hm4 : (Instr.makeMap 45 none).run Try.prog ((((W3.alloc (.map #[] 0)).alloc (.map #[] 0)).alloc (.map #[] 0)).alloc (.map #[] 0)) = .ok (.map (some (H + 1 + 1 + 1 + 1 + 1 + 1))) (((((W3.alloc (.map #[] 0)).alloc (.map #[] 0)).alloc (.map #[] 0)).alloc (.map #[] 0)).alloc (.map #[] 0)) := by
      have h := run_makeMap (P := Try.prog) 45 ((((W3.alloc (.map #[] 0)).alloc (.map #[] 0)).alloc (.map #[] 0)).alloc (.map #[] 0))
      rwa [show ((((W3.alloc (.map #[] 0)).alloc (.map #[] 0)).alloc (.map #[] 0)).alloc (.map #[] 0)).heap.size = H + 1 + 1 + 1 + 1 + 1 + 1 by simp; omega] at h
    have n4 : MapJ (((((W3.alloc (.map #[] 0)).alloc (.map #[] 0)).alloc (.map #[] 0)).alloc (.map #[] 0)).alloc (.map #[] 0)) (H + 1 + 1 + 1 + 1 + 1 + 1) (fun _ => none) 0 := by
      have h := MapJ.new ((((W3.alloc (.map #[] 0)).alloc (.map #[] 0)).alloc (.map #[] 0)).alloc (.map #[] 0))
      rw [show ((((W3.alloc (.map #[] 0)).alloc (.map #[] 0)).alloc (.map #[] 0)).alloc (.map #[] 0)).heap.size = H + 1 + 1 + 1 + 1 + 1 + 1 by simp; omega] at h
      exact h.quiet (Chg.refl _ _)
    have QA : Quiet W3 (((((W3.alloc (.map #[] 0)).alloc (.map #[] 0)).alloc (.map #[] 0)).alloc (.map #[] 0)).alloc (.map #[] 0)) := Chg.alloc (Chg.alloc (Chg.alloc (Chg.alloc (Chg.alloc (Chg.refl _ _) _) _) _) _) _
    have B4 := QA.blk B3
    have M4 := hide (⟨(unhide M3).1.quiet QA, (unhide M3).2.quiet QA, n0, n1, n2, n3, n4⟩ : _ ∧ _ ∧ _ ∧ _ ∧ _ ∧ _ ∧ _)
    have C4 : Hid (Chg (fun x => x = G) w (((((W3.alloc (.map #[] 0)).alloc (.map #[] 0)).alloc (.map #[] 0)).alloc (.map #[] 0)).alloc (.map #[] 0))) := (unhide C3).trans (Quiet.chg QA _)
    clear QA B3 M3 C3 n0 n1 n2 n3 n4
    obtain ⟨W4, hW4⟩ : ∃ W, (((((W3.alloc (.map #[] 0)).alloc (.map #[] 0)).alloc (.map #[] 0)).alloc (.map #[] 0)).alloc (.map #[] 0)) = W := ⟨_, rfl⟩
    rw [hW4] at hm4 B4 M4 C4
    clear hW4
    have f15 := B4.frozen 15
    have c15 := B4.cell 15
    have f16 := B4.frozen 16
    have c16 := B4.cell 16
    have f17 := B4.frozen 17
    have c17 := B4.cell 17
    have f18 := B4.frozen 18
    have c18 := B4.cell 18
    have f19 := B4.frozen 19
    have c19 := B4.cell 19
    simp at c15 c16 c17 c18 c19
    have B4H := hide B4
    clear B4
    go_wp2
    go_ret
    obtain ⟨W5, hW5⟩ : ∃ W, (((((W4.setCell ⟨G, 15, none⟩ (.map (some (H + 1 + 1)))).setCell ⟨G, 16, none⟩ (.map (some (H + 1 + 1 + 1)))).setCell ⟨G, 17, none⟩ (.map (some (H + 1 + 1 + 1 + 1)))).setCell ⟨G, 18, none⟩ (.map (some (H + 1 + 1 + 1 + 1 + 1)))).setCell ⟨G, 19, none⟩ (.map (some (H + 1 + 1 + 1 + 1 + 1 + 1)))) = W := ⟨_, rfl⟩
    rw [hW5]
    have CG : Chg (fun x => x = G) W4 W5 := by
      rw [← hW5]; exact ((((((Chg.refl (fun x => x = G) W4).setCell (p := ⟨G, 15, none⟩) (.inl rfl) (.map (some (H + 1 + 1)))).setCell (p := ⟨G, 16, none⟩) (.inl rfl) (.map (some (H + 1 + 1 + 1)))).setCell (p := ⟨G, 17, none⟩) (.inl rfl) (.map (some (H + 1 + 1 + 1 + 1)))).setCell (p := ⟨G, 18, none⟩) (.inl rfl) (.map (some (H + 1 + 1 + 1 + 1 + 1)))).setCell (p := ⟨G, 19, none⟩) (.inl rfl) (.map (some (H + 1 + 1 + 1 + 1 + 1 + 1))))
    have B5 : Blk W5 G 52 [vb, .slice none 0 0, rk t0, rk t1, rk t2, rk t3, rk t4, rk 0, rk 0, rk 0, rk 0, rk 0, .bool true, .bool (hard != 0), .slice none 0 0, .map (some (H + 1 + 1)), .map (some (H + 1 + 1 + 1)), .map (some (H + 1 + 1 + 1 + 1)), .map (some (H + 1 + 1 + 1 + 1 + 1)), .map (some (H + 1 + 1 + 1 + 1 + 1 + 1)), .map (some H), .map (some (H + 1))] := by
      rw [← hW5]; exact ((((((unhide B4H).set 15 (.map (some (H + 1 + 1)))).set 16 (.map (some (H + 1 + 1 + 1)))).set 17 (.map (some (H + 1 + 1 + 1 + 1)))).set 18 (.map (some (H + 1 + 1 + 1 + 1 + 1)))).set 19 (.map (some (H + 1 + 1 + 1 + 1 + 1 + 1))))
    obtain ⟨R, hO, ok⟩ := unhide RH
    obtain ⟨hx, hv, htj, hl, hjl⟩ := unhide hxH
    obtain ⟨e0, e1, e2, e3, e4⟩ := unhide tH
    obtain ⟨m5, m6, m0, m1, m2, m3, m4⟩ := unhide M4
    have hsz : w.heap.size = H := (unhide hs1H).symm.trans (unhide hHH)
    have C5 : Chg (fun x => x = G) w W5 := (unhide C4).trans CG
    refine start_fin w W5 O G st ok R hO j hjl hard H hsz t htj C5 ?_ (m0.of_chg CG (by omega)) (m1.of_chg CG (by omega)) (m2.of_chg CG (by omega)) (m3.of_chg CG (by omega)) (m4.of_chg CG (by omega)) (m5.of_chg CG (by omega)) (m6.of_chg CG (by omega))
    rw [e0, e1, e2, e3, e4]
    exact B5
end Go.Proofs.Qxb6500370a
