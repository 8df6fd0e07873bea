/-
  369 Keeps: deliver, whole. (gen9deliv.py)
-/
import Derived.Test.Qxb6500369aKDelC
namespace Go.Proofs.Qxb6500369a
open Go.RowKit Go.Qx
set_option linter.unusedSimpArgs false
set_option linter.unusedVariables false

/-- The ring and the ghost in memory, apart from each other, in blocks that the law's walk made; the law's invariant. -/
structure KS (W w : World) (x a b g : Nat) (mode : Int) (ns : List N5) (ord : List Int) (G : Gh) (O : Nat → Prop) : Prop where
  chg : Chg (fun k => W.heap.size ≤ k) W w
  rep : Rep w x a b mode ns ord
  inv : Inv mode ns ord
  gh : GhO w O g G
  dis : ∀ k, O k → ¬ own x a b k
  lo : ∀ k, O k → W.heap.size ≤ k
  rl : ∀ k, own x a b k → W.heap.size ≤ k
  law : KI mode ns G

theorem GhO.lts {w : World} {O : Nat → Prop} {g : Nat} {G : Gh} (h : GhO w O g G) : GhO w (fun k => O k ∧ k < w.heap.size) g G := by
  obtain ⟨vi, vw, h1, h2⟩ := h
  refine ⟨vi, vw, h1, fun k hk => ⟨h2 k hk, ?_⟩⟩
  rcases hk with h | h | h
  · rw [h]; exact h1.blk.lt
  · exact h1.ri.lt h
  · exact h1.rw.lt h

theorem KS.quiet {W w w' : World} {x a b g : Nat} {mode : Int} {ns : List N5} {ord : List Int} {G : Gh} {O : Nat → Prop} (h : KS W w x a b g mode ns ord G O) (q : Quiet w w') : KS W w' x a b g mode ns ord G O :=
  { h with chg := h.chg.trans (q.chg _), rep := h.rep.quiet q, gh := h.gh.quiet q }

/-- Out of what a call leaves. -/
theorem KS.next {W w w' : World} {x a b g : Nat} {mode mode' : Int} {ns ns' : List N5} {ord ord' : List Int} {G G' : Gh} {O : Nat → Prop} (h : KS W w x a b g mode ns ord G O) (c : Chg (fun k => O k ∨ own x a b k) w w') (R : Rep w' x a b mode' ns' ord') (I : Inv mode' ns' ord')
    (hg : GhO w' (fun k => O k ∨ w.heap.size ≤ k) g G') (L : KI mode' ns' G') : KS W w' x a b g mode' ns' ord' G' (fun k => O k ∨ w.heap.size ≤ k) := by
  have hsz := h.chg.size
  refine ⟨h.chg.trans (c.mono (fun k _ hk => by
    rcases hk with hk | hk
    · exact h.lo k hk
    · exact h.rl k hk)), R, I, hg, ?_, ?_, h.rl, L⟩
  · intro k hk hr
    rcases hk with hk | hk
    · exact h.dis k hk hr
    · have := h.rep.lts k hr; omega
  · intro k hk
    rcases hk with hk | hk
    · exact h.lo k hk
    · omega

/-- What a delivery on a link does. -/
structure DRel (link : Int) (ns : List N5) (G : Gh) (ns' : List N5) (G' : Gh) : Prop where
  len : ns'.length = ns.length
  awake : ∀ i, i < ns.length → (vf ns i).reach ≠ 0 → (vf ns' i).reach ≠ 0
  done : G.done ≤ G'.done
  did : (∃ p, p ∈ G.wire ∧ (p.1 : Int) = link) → G.done + 1 ≤ G'.done
  kept : ∀ p, p ∈ G.wire → (p.1 : Int) ≠ link → p ∈ G'.wire
  worst : G'.worst = G.worst

theorem DRel.none {link : Int} {ns : List N5} {G : Gh} (h : ∀ p, p ∈ G.wire → (p.1 : Int) ≠ link) : DRel link ns G ns G :=
  ⟨rfl, fun _ _ h => h, Nat.le_refl _, fun ⟨p, h1, h2⟩ => absurd h2 (h p h1), fun _ h _ => h, rfl⟩

theorem DRel.hit {mode : Int} {ns : List N5} {G : Gh} {k l : Nat} {m : Ms} (hj : toP ns.length l < ns.length) (hk : G.wire[k]? = some (l, m)) :
    DRel l ns G (ns.set (toP ns.length l) (machP mode (vf ns (toP ns.length l)) ((l % 2 : Nat) : Int) m).1) (putP { G with wire := G.wire.eraseIdx k, done := G.done + 1 } (toP ns.length l) (machP mode (vf ns (toP ns.length l)) ((l % 2 : Nat) : Int) m).2) := by
  rw [putP_eq]
  refine ⟨by simp, ?_, by simp, fun _ => by simp, ?_, rfl⟩
  · intro i hi h
    rw [vf_set hj]
    by_cases e : i = toP ns.length l
    · rw [e, upV_at]; exact mach_reach _ _ _ _ (by rw [← e]; exact h)
    · rw [upV_ne e]; exact h
  · intro p hp hne
    show p ∈ G.wire.eraseIdx k ++ _
    obtain ⟨L1, L2, e, hl⟩ := split_at G.wire k _ hk
    rw [e] at hp ⊢
    rw [← hl, erase_mid]
    apply List.mem_append_left
    rcases List.mem_append.1 hp with h | h
    · exact List.mem_append_left _ h
    · rcases List.mem_cons.1 h with h | h
      · subst h; exact absurd rfl hne
      · exact List.mem_append_right _ h

theorem KS.step_msin {mode : Int} {ns : List N5} {ord : List Int} (I : Inv mode ns ord) {m : Ms} (h : ∃ o, o < ns.length ∧ m.id = idf ns o) : MsIn m := by
  obtain ⟨o, ho, e⟩ := h
  have := (I.ok _ (vf_mem ho)).i
  unfold MsIn
  rw [e]; exact this

theorem outs_msf {j : Nat} {ou : Ou} (h : ∀ p, p ∈ outsP j ou → 1 ≤ p.2.k ∧ p.2.k ≤ 3) : MsF ou.cw ∧ MsF ou.ccw := by
  unfold MsF
  constructor
  · by_cases e : ou.cw.k = 0
    · exact .inl e
    · have := h (2 * j, ou.cw) (by simp [outsP, e])
      simp only at this
      omega
  · by_cases e : ou.ccw.k = 0
    · exact .inl e
    · have := h (2 * j + 1, ou.ccw) (by simp [outsP, e])
      simp only at this
      omega

/-- What the walk wants, out of the law. -/
theorem KS.delIn {mode : Int} {ns : List N5} {G : Gh} (L : KI mode ns G) (k l : Nat) (m : Ms) (hk : G.wire[k]? = some (l, m)) :
    DelIn mode ns G l m (machP mode (vf ns (toP ns.length l)) ((l % 2 : Nat) : Int) m).1 (machP mode (vf ns (toP ns.length l)) ((l % 2 : Nat) : Int) m).2 (toP ns.length l) ∧
    (G.wire.eraseIdx k ++ outsP (toP ns.length l) (machP mode (vf ns (toP ns.length l)) ((l % 2 : Nat) : Int) m).2).length ≤ 2 * ns.length + 1 := by
  obtain ⟨h1, h2, h3, h4, h5, h6, h7, h8, h9⟩ := L.deliver k l m hk
  have C := L.cnt
  have hb := bound_val mode ns.length L.n8
  have hmd : mode = 0 ∨ mode = 1 := by
    obtain ⟨tk, an, Lb, A, _⟩ := L.on h1
    exact A.md
  have hd := C.done
  have p1 := C.p1
  have p2 := C.p2
  have p3 := C.p3
  have bb := C.b
  obtain ⟨f1, f2⟩ := outs_msf h8
  refine ⟨⟨L.mo, hmd, by rw [L.ids]; simp, h3, rfl, h2, h4, h5, h6, by omega, rfl, f1, f2, by omega, by omega, by omega⟩, ?_⟩
  have hlen := h9.cnt.len
  rw [putP_eq, List.length_set] at hlen
  exact hlen

set_option maxHeartbeats 8000000 in
set_option maxRecDepth 100000 in
theorem deliver_any (W w : World) (x a b g : Nat) (mode : Int) (ns : List N5) (ord : List Int) (G : Gh) (O : Nat → Prop) (S : KS W w x a b g mode ns ord G O) (link : Int) :
    Calls Try.prog 15 #[ptr x, ptr g, .int .i64 link] w fun e w' => e = .returned (.tuple #[]) ∧ ∃ ns' G' O', KS W w' x a b g mode ns' ord G' O' ∧ DRel link ns G ns' G' := by
  obtain ⟨vi, vw, H, hO⟩ := S.gh
  have hlen := S.law.cnt.len
  have h8 := S.law.n8
  obtain ⟨aw, cw, hvw⟩ := H.rw.shape
  rw [hvw] at H hO
  clear hvw
  have c1 : w.cell? ⟨g, 1, none⟩ = some (.slice aw G.wire.length cw) := H.blk.cell 1
  have hgl := H.blk.lt
  have SH := hide S
  have HH := hide H
  have hOH := hide hO
  clear S H hO
  generalize hN : G.wire.length = N at *
  have hNH := hide hN
  have hN17 : N ≤ 17 := by omega
  clear hN hlen h8
  unfold ptr
  go_enter Try.func15, Try.ntmps15
  go_wp2
  go_loopw [6] (fun i wr => ∃ k : Nat, k ≤ N ∧ i = .int .i64 k ∧ (∀ i', i' < k → ∀ p, G.wire[i']? = some p → (p.1 : Int) ≠ link) ∧ wr = w) (fun i _ => 18 - (intOf i).toNat)
  case atStart => exact ⟨0, Nat.zero_le _, rfl, fun i hi => by omega, rfl⟩
  case round =>
    obtain ⟨k, hk, rfl, hno, rfl⟩ := hrel
    have i1 : (0 : Int) ≤ (k : Int) := by omega
    by_cases hlt : k < N
    · have i2 : (k : Int) < (N : Int) := by omega
      have hkl : k < G.wire.length := by rw [unhide hNH]; exact hlt
      obtain ⟨⟨l, m⟩, hkm⟩ : ∃ p, G.wire[k]? = some p := ⟨_, List.getElem?_eq_getElem hkl⟩
      have hrow := (unhide HH).rw
      rw [unhide hNH] at hrow
      rcases hrow.form with ⟨hv, hn0, _⟩ | ⟨ab, cap, sp, hv, hb, hnc, hcm, hll⟩
      · exfalso; omega
      · injection hv with e1 e2 e3
        subst e1 e3
        obtain ⟨w0, _⟩ := wcell_at hb k l m hkm
        by_cases he : (l : Int) = link
        · have b1 : ((l : Int) == link) = true := by simpa using he
          have b2 : ((l : Int) != link) = false := by rw [bne, b1]; rfl
          have b3 : ((k : Int) == (N : Int)) = false := by simp; omega
          subst he
          have hfin : Hid (∀ wx, Chg (fun k => ownH g vi (.slice (some ⟨ab, 0, none⟩) N cw) k ∨ own x a b k) wr wx → Rep wx x a b mode (ns.set (toP ns.length l) (machP mode (vf ns (toP ns.length l)) ((l % 2 : Nat) : Int) m).1) ord → GhO wx (fun k' => ownH g vi (.slice (some ⟨ab, 0, none⟩) N cw) k' ∨ wr.heap.size ≤ k') g (putP { G with wire := G.wire.eraseIdx k, done := G.done + 1 } (toP ns.length l) (machP mode (vf ns (toP ns.length l)) ((l % 2 : Nat) : Int) m).2) → (fun (e : Ending) (w' : World) => e = .returned (.tuple #[]) ∧ ∃ ns' G' O', KS W w' x a b g mode ns' ord G' O' ∧ DRel l ns G ns' G') (.returned (.tuple #[])) wx) := by
            intro wx cx Rx Gx
            have S := unhide SH
            obtain ⟨q1, q2, q3, q4, q5, q6, q7, q8, q9⟩ := S.law.deliver k l m hkm
            have I' := inv_step S.inv ((toP ns.length l : Nat) : Int) ((l % 2 : Nat) : Int) m (KS.step_msin S.inv q7)
            have hsp : stepP mode ns ((toP ns.length l : Nat) : Int) ((l % 2 : Nat) : Int) m = ((machP mode (vf ns (toP ns.length l)) ((l % 2 : Nat) : Int) m).2, 0, ns.set (toP ns.length l) (machP mode (vf ns (toP ns.length l)) ((l % 2 : Nat) : Int) m).1) := by
              unfold stepP
              rw [if_neg (by omega), if_neg (by omega), if_neg (by omega)]
              rfl
            rw [hsp] at I'
            exact ⟨rfl, _, _, _, S.next (cx.mono (fun k' _ h => by
              rcases h with h | h
              · exact .inl (unhide hOH k' h)
              · exact .inr h)) Rx I' (Gx.mono (fun k' h => by
              rcases h with h | h
              · exact .inl (unhide hOH k' h)
              · exact .inr h)) q9, DRel.hit q2 hkm⟩
          clear hno hk
          go_upto_region 3 with fail
          rename_i hK KI hKI
          have hKH := hide hK
          clear hK
          go_wp2_with fail
          refine unhide hKH _ _ ?_
          have S := unhide SH
          obtain ⟨D, hlen2⟩ := KS.delIn S.law k l m hkm
          have hdis : ∀ k', ownH g vi (.slice (some ⟨ab, 0, none⟩) N cw) k' → ¬ own x a b k' := fun k' h => S.dis k' (unhide hOH k' h)
          by_cases hcap : cw = k + 1
          · exact cut15_a wr x a b g l k N cw ab mode ns ord G vi m _ _ _ S.rep S.inv (unhide HH) hdis (unhide hNH) hN17 hkm D hlen2 hcap _ _ _ _ _ _ _ _ _ _ _ _ _ _ _ _ _ _ _ _ _ _ _ _ _ _ _ _ _ _ _ _ _ _ _ _ _ _ _ _ _ _ _ _ _ _ _ _ _ _ _ _ _ _ _ _ _ _ _ _ _ _ _ _ _ _ _ _ _ _ _ _ _ _ _ _ _ _ _ _ _ _ _ _ _ _ _ _ _ _ _ _ _ _ _ _ _ _ _ _ _ _ _ _ _ _ _ _ _ _ _ _ _ _ _ _ _ _ _ _ _ _ _ (fun wx cx Rx Gx => ⟨rfl, (unhide hfin wx cx Rx Gx).2⟩)
          · exact cut15_b wr x a b g l k N cw ab mode ns ord G vi m _ _ _ S.rep S.inv (unhide HH) hdis (unhide hNH) hN17 hkm D hlen2 hcap _ _ _ _ _ _ _ _ _ _ _ _ _ _ _ _ _ _ _ _ _ _ _ _ _ _ _ _ _ _ _ _ _ _ _ _ _ _ _ _ _ _ _ _ _ _ _ _ _ _ _ _ _ _ _ _ _ _ _ _ _ _ _ _ _ _ _ _ _ _ _ _ _ _ _ _ _ _ _ _ _ _ _ _ _ _ _ _ _ _ _ _ _ _ _ _ _ _ _ _ _ _ _ _ _ _ _ _ _ _ _ _ _ _ _ _ _ _ _ _ _ _ _ (fun wx cx Rx Gx => ⟨rfl, (unhide hfin wx cx Rx Gx).2⟩)
        · have b1 : ((l : Int) == link) = false := by simpa using he
          have b2 : ((l : Int) != link) = true := by rw [bne, b1]; rfl
          have hno2 : Hid (∀ i', i' < k + 1 → ∀ p, G.wire[i']? = some p → (p.1 : Int) ≠ link) := fun i' hi' p hp => by
            by_cases e : i' = k
            · subst e; rw [hkm] at hp; cases hp; exact he
            · exact hno i' (by omega) p hp
          have wk : IntKind.i64.wrap ((k : Int) + 1) = (k : Int) + 1 := by rw [IntKind.wrap_i64]; omega
          clear hno he
          go_wp2
          go_roundw
          case rel => first | exact ⟨k + 1, by omega, by go_num, unhide hno2, rfl⟩ | exact ⟨k + 1, by omega, by go_num, unhide hno2, trivial⟩ | exact ⟨k + 1, by omega, by go_num, unhide hno2⟩
          case measure => simp [intOf]; omega
    · have i2 : ¬ (k : Int) < (N : Int) := by omega
      have i3 : (k : Int) = (N : Int) := by omega
      have hkN : k = N := by omega
      subst hkN
      have hnone : Hid (∀ p, p ∈ G.wire → (p.1 : Int) ≠ link) := fun p hp => by
        obtain ⟨i', hi', e⟩ := List.getElem_of_mem hp
        exact hno i' (by have := unhide hNH; omega) p (by rw [List.getElem?_eq_getElem hi', e])
      clear hno
      go_wp2
      refine bodyPost_ret (v := .tuple #[]) (by simp [results, Try.results15, go_sem]) rfl ?_
      exact ⟨rfl, ns, G, ⟨O, unhide SH⟩, DRel.none (unhide hnone)⟩
end Go.Proofs.Qxb6500369a
