/-
  One step on either ring, plainly; Do and DoM play it.
-/
import Derived.Test.Qxb6500369aDoM
import Derived.Test.Qxb6500369aStepAny
import Derived.Test.Qxb6500369aNew
import Derived.Test.Qxb6500369aShow
import Derived.Test.Qxb6500369aReset
import Derived.Test.Qxb6500369aJoin
import Derived.Test.Qxb6500369aCheck
namespace Go.Proofs.Qxb6500369a
open Go.RowKit Go.Qx
set_option linter.unusedSimpArgs false
set_option linter.unusedVariables false

structure Opr where
  k : Int
  a : Int
  b : Int
  c : Int
  s : ByteArray
  t : ByteArray

structure An where
  e : Int
  n : Int
  o : Ou
  d : N5
  s : ByteArray

def ansP (mode : Int) (ns : List N5) (g : Ms) (o : Opr) : An :=
  if o.k = 1 then ⟨joinE mode ns o.a, 0, o0, ⟨0, 0, 0, 0, 0⟩, ⟨#[]⟩⟩
  else if o.k = 2 then ⟨(startP mode o.a).1, 0, o0, ⟨0, 0, 0, 0, 0⟩, ⟨#[]⟩⟩
  else if o.k = 3 then ⟨0, 0, o0, ⟨0, 0, 0, 0, 0⟩, ⟨#[]⟩⟩
  else if o.k = 4 then ⟨(stepP mode ns o.a o.b ⟨4, 0, 0⟩).2.1, 0, (stepP mode ns o.a o.b ⟨4, 0, 0⟩).1, ⟨0, 0, 0, 0, 0⟩, ⟨#[]⟩⟩
  else if o.k = 6 then ⟨(stepP mode ns o.a o.b g).2.1, 0, (stepP mode ns o.a o.b g).1, ⟨0, 0, 0, 0, 0⟩, ⟨#[]⟩⟩
  else if o.k = 7 then ⟨(nodeP ns o.a).2, 0, o0, (nodeP ns o.a).1, ⟨#[]⟩⟩
  else if o.k = 8 then ⟨0, 0, o0, ⟨0, 0, 0, 0, 0⟩, str (showP mode ns)⟩
  else if o.k = 9 then ⟨0, 1, o0, ⟨0, 0, 0, 0, 0⟩, ⟨#[]⟩⟩
  else ⟨0, 0, o0, ⟨0, 0, 0, 0, 0⟩, ⟨#[]⟩⟩

def nextP (mode : Int) (ns : List N5) (g : Ms) (o : Opr) : Int × List N5 :=
  if o.k = 1 then (mode, joinN mode ns o.a)
  else if o.k = 2 then ((startP mode o.a).2, ns)
  else if o.k = 3 then (-1, [])
  else if o.k = 4 then (mode, (stepP mode ns o.a o.b ⟨4, 0, 0⟩).2.2)
  else if o.k = 6 then (mode, (stepP mode ns o.a o.b g).2.2)
  else (mode, ns)

/-- A lawful ring. -/
structure Inv (mode : Int) (ns : List N5) (ord : List Int) : Prop where
  mo : mode = -1 ∨ mode = 0 ∨ mode = 1
  ok : ∀ c ∈ ns, Ok5 mode c
  ord : OrdOK ns ord

theorem Inv.mode64 {mode : Int} {ns : List N5} {ord : List Int} (h : Inv mode ns ord) : In64 mode := by
  rcases h.mo with rfl | rfl | rfl <;> (unfold In64; omega)

theorem Ok5.in5 {mode : Int} {c : N5} (h : Ok5 mode c) : In5 c := by
  obtain ⟨h1, h2, h3, _, _, _, _, h4, h5⟩ := h
  exact ⟨h4, by unfold In64; omega, h5, by unfold In64; omega, by unfold In64; omega⟩

theorem Inv.in5 {mode : Int} {ns : List N5} {ord : List Int} (h : Inv mode ns ord) : ∀ c ∈ ns, In5 c := fun c hc => (h.ok c hc).in5
theorem Inv.stgot {mode : Int} {ns : List N5} {ord : List Int} (h : Inv mode ns ord) : ∀ c ∈ ns, (c.st = 0 ∨ c.st = 1 ∨ c.st = 2) ∧ (c.got = 0 ∨ c.got = 1) := fun c hc => ⟨(h.ok c hc).st, (h.ok c hc).got⟩

theorem inv_first : Inv (-1) [] (List.replicate 8 0) := by
  refine ⟨.inl rfl, by simp, by simp, by simp, by simp, by simp, ?_⟩
  intro i _
  rw [List.getD_eq_getElem?_getD, List.getElem?_replicate]
  split <;> rfl

theorem Inv.tail {mode : Int} {ns : List N5} {ord : List Int} (h : Inv mode ns ord) : ord.drop ns.length = List.replicate (8 - ns.length) 0 := by
  refine List.ext_getElem (by simp [h.ord.len]) ?_
  intro i h1 h2
  have := h.ord.tail (ns.length + i) (by omega)
  rw [List.getD_eq_getElem?_getD, List.getElem?_eq_getElem (by simp at h1; omega)] at this
  simpa using this

theorem ok_fresh (id : Int) (hi : In64 id) : Ok5 (-1) ⟨id, 0, 0, 0, 0⟩ := by
  refine ⟨.inl rfl, .inl rfl, .inl rfl, fun _ => rfl, fun e => by simp at e, fun _ => ⟨rfl, rfl, rfl, rfl⟩, fun e => by simp at e, hi, ?_⟩
  simp

theorem inv_join {mode : Int} {ns : List N5} {ord ord' : List Int} (h : Inv mode ns ord) (id : Int) (hi : In64 id) (ho : OrdOK (joinN mode ns id) ord') : Inv mode (joinN mode ns id) ord' := by
  refine ⟨h.mo, ?_, ho⟩
  intro c hc
  unfold joinN at hc
  split at hc
  · rename_i hj
    have hm : mode = -1 := by
      by_cases e : mode = -1
      · exact e
      · simp [joinE, e] at hj
    subst hm
    rcases List.mem_append.1 hc with h1 | h1
    · exact h.ok c h1
    · rw [List.mem_singleton.1 h1]; exact ok_fresh id hi
  · exact h.ok c hc

theorem inv_start {mode : Int} {ns : List N5} {ord : List Int} (h : Inv mode ns ord) (m : Int) : Inv (startP mode m).2 ns ord := by
  unfold startP
  split
  · exact h
  · rename_i e
    have hm : mode = -1 := by omega
    subst hm
    split
    · exact h
    · rename_i e2
      have hm : m = 0 ∨ m = 1 := by omega
      refine ⟨.inr hm, ?_, h.ord⟩
      intro c hc
      have k := h.ok c hc
      obtain ⟨k1, k2, k3, k4⟩ := k.off rfl
      exact ⟨k.st, k.got, k.reach, k.l0, k.l2, fun e => by simp only at e; omega, fun _ => ⟨by omega, k4⟩, k.i, k.l⟩

theorem mach_id (mode : Int) (c : N5) (dir : Int) (m : Ms) : (machP mode c dir m).1.id = c.id := by
  have h1 : (crownP c m).1.id = c.id := by unfold crownP; split <;> rfl
  have h2 : (learnP c m).1.id = c.id := by unfold learnP; split <;> rfl
  unfold machP
  split
  · unfold crP
    repeat' split
    all_goals first | rfl | exact h1 | exact h2
  · unfold hsP
    repeat' split
    all_goals first | rfl | exact h1 | exact h2

theorem ord_set {ns : List N5} {ord : List Int} (h : OrdOK ns ord) (j : Nat) (c : N5) (hj : j < ns.length) (e : c.id = ns[j].id) : OrdOK (ns.set j c) ord := by
  have hid : ∀ k, idAt (ns.set j c) k = idAt ns k := by
    intro k
    unfold idAt
    rw [List.getD_eq_getElem?_getD, List.getD_eq_getElem?_getD, List.getElem?_set]
    split
    · rename_i hk
      subst hk
      rw [List.getElem?_eq_getElem hj]; exact e
    · rfl
  refine ⟨h.len, ?_, ?_, ?_, ?_⟩
  · rw [List.length_set]; exact h.rng
  · intro a b h1 h2
    rw [List.length_set] at h2
    rw [hid, hid]; exact h.inc a b h1 h2
  · rw [List.length_set]; exact h.sur
  · rw [List.length_set]; exact h.tail

theorem inv_step {mode : Int} {ns : List N5} {ord : List Int} (h : Inv mode ns ord) (i dir : Int) (m : Ms) (hm : MsIn m) : Inv mode (stepP mode ns i dir m).2.2 ord := by
  unfold stepP
  split
  · exact h
  · rename_i h1
    split
    · exact h
    · rename_i h2
      split
      · exact h
      · obtain ⟨j, rfl⟩ : ∃ j : Nat, i = j := ⟨i.toNat, by omega⟩
        have hjl : j < ns.length := by omega
        simp only [Int.toNat_natCast, getD_of hjl]
        refine ⟨h.mo, ?_, ord_set h.ord j _ hjl (mach_id _ _ _ _)⟩
        intro c hc
        rcases List.mem_or_eq_of_mem_set hc with h4 | h4
        · exact h.ok c h4
        · rw [h4]
          exact ok_mach (mode_of h.mo h1) (h.ok _ (List.getElem_mem hjl)) dir m hm

/-- What Do leaves. -/
def LP (w' : World) (x a b : Nat) (K : Int × List N5) : Prop := ∃ ord, Rep w' x a b K.1 K.2 ord ∧ Inv K.1 K.2 ord

/-- What DoM leaves; H: the heap before. -/
def LPm (H : Nat) (w' : World) (x : Nat) (v : Value) (K : Int × List N5) : Prop := ∃ v', RepM w' x v' K.1 K.2 ∧ ∀ g, v'.ownBlock = some g → v.ownBlock = some g ∨ H ≤ g

theorem Rep.lts {w : World} {x a b : Nat} {mode : Int} {ns : List N5} {ord : List Int} (R : Rep w x a b mode ns ord) : ∀ k, own x a b k → k < w.heap.size := by
  rintro k (rfl | rfl | rfl)
  · exact R.blk.lt
  · exact R.cb.lt
  · exact R.ob.lt

theorem did_R {w w' : World} {x a b : Nat} {K : Int × List N5} (hS : ∀ k, own x a b k → k < w.heap.size) (h : Did (own x a b) (fun w1 => LP w1 x a b K) w w') : Chg (own x a b) w w' ∧ LP w' x a b K := by
  obtain ⟨ch, w1, ⟨ord, R, I⟩, ch2⟩ := h
  refine ⟨ch, ord, R.of_chg ch2 ?_, I⟩
  rintro k (rfl | rfl) hk
  all_goals have := hS _ hk; omega

theorem RepM.lts {w : World} {x : Nat} {v : Value} {mode : Int} {ns : List N5} (R : RepM w x v mode ns) : ∀ k, ownM x v k → k < w.heap.size := by
  rintro k (rfl | h)
  · exact R.blk.lt
  · rcases R.row.form with ⟨e, _⟩ | ⟨g, cap, sp, hv, hb, _⟩
    · rw [e] at h; simp [Value.ownBlock] at h
    · rw [hv] at h
      simp [Value.ownBlock] at h
      subst h; exact hb.lt

theorem did_M {w w' : World} {x : Nat} {v : Value} {K : Int × List N5} (hS : ∀ k, ownM x v k → k < w.heap.size) (h : Did (ownM x v) (fun w1 => LPm (w.heap.size + 4) w1 x v K) w w') : Chg (ownM x v) w w' ∧ LPm w.heap.size w' x v K := by
  obtain ⟨ch, w1, ⟨v', R, hf⟩, ch2⟩ := h
  refine ⟨ch, v', R.of_chg ch2 ?_, ?_⟩
  · have hx := hS x (.inl rfl)
    rintro k (rfl | rfl) (h | h)
    · omega
    · rcases hf _ h with h | h
      · have := hS _ (.inr h); omega
      · omega
    · omega
    · rcases hf _ h with h | h
      · have := hS _ (.inr h); omega
      · omega
  · intro g hg
    rcases hf g hg with h | h
    · exact .inl h
    · exact .inr (by omega)

theorem lpm_same {H : Nat} {w1 : World} {x : Nat} {v : Value} {K : Int × List N5} (R : RepM w1 x v K.1 K.2) : LPm H w1 x v K := ⟨v, R, fun g h => .inl h⟩

theorem do_any (w : World) (x a b : Nat) (mode : Int) (ns : List N5) (ord : List Int) (R : Rep w x a b mode ns ord) (I : Inv mode ns ord) (g : Ms) (hg : MsIn g) (hh : g.hop ≤ 9223372036854775807) (p : Opr) (ha : In64 p.a) :
    Calls Try.prog 21 #[ptr x, opv p.k p.a p.b p.c p.s p.t, msV g] w fun e w' => e = .returned (ansv (ansP mode ns g p).e (ansP mode ns g p).n (ansP mode ns g p).o (ansP mode ns g p).d (ansP mode ns g p).s) ∧ Chg (own x a b) w w' ∧ LP w' x a b (nextP mode ns g p) := by
  have hS := R.lts
  obtain ⟨pk, pa, pb, pc, ps, pt⟩ := p
  simp only at ha
  have fin : ∀ {E N O D S K}, (ansP mode ns g ⟨pk, pa, pb, pc, ps, pt⟩ = ⟨E, N, O, D, S⟩) → nextP mode ns g ⟨pk, pa, pb, pc, ps, pt⟩ = K → (Calls Try.prog 21 #[ptr x, opv pk pa pb pc ps pt, msV g] w fun e w' => e = .returned (ansv E N O D S) ∧ Did (own x a b) (fun w1 => LP w1 x a b K) w w') →
      Calls Try.prog 21 #[ptr x, opv pk pa pb pc ps pt, msV g] w fun e w' => e = .returned (ansv (ansP mode ns g ⟨pk, pa, pb, pc, ps, pt⟩).e (ansP mode ns g ⟨pk, pa, pb, pc, ps, pt⟩).n (ansP mode ns g ⟨pk, pa, pb, pc, ps, pt⟩).o (ansP mode ns g ⟨pk, pa, pb, pc, ps, pt⟩).d (ansP mode ns g ⟨pk, pa, pb, pc, ps, pt⟩).s) ∧ Chg (own x a b) w w' ∧ LP w' x a b (nextP mode ns g ⟨pk, pa, pb, pc, ps, pt⟩) := by
    intro E N O D S K e1 e2 h
    rw [e1, e2]
    exact h.mono fun e w' ⟨h1, h2⟩ => ⟨h1, did_R hS h2⟩
  by_cases h1 : pk = 1
  · subst h1
    exact fin (K := (mode, joinN mode ns pa)) (by simp only [ansP, if_true]) (by simp only [nextP, if_true]) (do_join_of w x pa pb pc ps pt g _ _ _ hS (fun W q => (join_any W x a b mode ns ord (R.quiet q) I.ord pa).mono fun e w' ⟨g1, g2, ord', g3, g4⟩ => ⟨g1, g2, ord', g3, inv_join I pa ha g4⟩))
  by_cases h2 : pk = 2
  · subst h2
    exact fin (K := ((startP mode pa).2, ns)) (by simp [ansP]) (by simp [nextP]) (do_start_of w x pa pb pc ps pt g _ _ _ hS (fun W q => (start_any W x a b mode ns ord (R.quiet q) pa).mono fun e w' ⟨g1, g2, g3⟩ => ⟨g1, g2, ord, g3, inv_start I pa⟩))
  by_cases h3 : pk = 3
  · subst h3
    exact fin (K := (-1, [])) (by simp [ansP]) (by simp [nextP]) (do_reset_of w x pa pb pc ps pt g _ _ hS (fun W q => (reset_any W x a b mode ns ord (R.quiet q) I.tail).mono fun e w' ⟨g1, g2, g3⟩ => ⟨g1, g2, _, g3, inv_first⟩))
  by_cases h4 : pk = 4
  · subst h4
    exact fin (K := (mode, (stepP mode ns pa pb ⟨4, 0, 0⟩).2.2)) (by simp [ansP]) (by simp [nextP]) (do_wake_of w x pa pb pc ps pt g _ _ _ _ hS (fun W q => (rstep_any W x a b mode ns ord (R.quiet q) I.mo I.ok pa pb ⟨4, 0, 0⟩ (by simp)).mono fun e w' ⟨g1, g2, g3⟩ => ⟨g1, g2, ord, g3, inv_step I pa pb _ (by simp [MsIn])⟩))
  by_cases h6 : pk = 6
  · subst h6
    exact fin (K := (mode, (stepP mode ns pa pb g).2.2)) (by simp [ansP]) (by simp [nextP]) (do_step_of w x pa pb pc ps pt g _ _ _ _ hS (fun W q => (rstep_any W x a b mode ns ord (R.quiet q) I.mo I.ok pa pb g hh).mono fun e w' ⟨g1, g2, g3⟩ => ⟨g1, g2, ord, g3, inv_step I pa pb _ hg⟩))
  by_cases h7 : pk = 7
  · subst h7
    exact fin (K := (mode, ns)) (by simp [ansP]) (by simp [nextP]) (do_node_of w x pa pb pc ps pt g _ _ _ _ hS (fun W q => (node_any W x a b mode ns ord (R.quiet q) I.stgot pa).mono fun e w' ⟨g1, g2⟩ => ⟨g1, Quiet.chg g2 _, ord, (R.quiet q).quiet g2, I⟩))
  by_cases h8 : pk = 8
  · subst h8
    exact fin (K := (mode, ns)) (by simp [ansP]) (by simp [nextP]) (do_show_of w x pa pb pc ps pt g _ _ _ hS (fun W q => (show_any W x a b mode ns ord (R.quiet q) I.stgot I.mode64 I.in5).mono fun e w' ⟨g1, g2⟩ => ⟨g1, Quiet.chg g2 _, ord, (R.quiet q).quiet g2, I⟩))
  by_cases h9 : pk = 9
  · subst h9
    exact fin (K := (mode, ns)) (by simp [ansP]) (by simp [nextP]) (do_check_of w x pa pb pc ps pt g _ _ hS (fun W q => (check_any W x a b mode ns ord (R.quiet q) I.ord I.mo I.ok).mono fun e w' ⟨g1, g2⟩ => ⟨g1, Quiet.chg g2 _, ord, (R.quiet q).quiet g2, I⟩))
  · have e1 : ansP mode ns g ⟨pk, pa, pb, pc, ps, pt⟩ = ⟨0, 0, o0, ⟨0, 0, 0, 0, 0⟩, ⟨#[]⟩⟩ := by simp [ansP, h1, h2, h3, h4, h6, h7, h8, h9]
    have e2 : nextP mode ns g ⟨pk, pa, pb, pc, ps, pt⟩ = (mode, ns) := by simp [nextP, h1, h2, h3, h4, h6]
    rw [e1, e2]
    refine (do_none_of w x pk pa pb pc ps pt g (by simpa using h1) (by simpa using h2) (by simpa using h3) (by simpa using h4) (by simpa using h6) (by simpa using h7) (by simpa using h8) (by simpa using h9)).mono ?_
    rintro e w' ⟨g1, g2⟩
    exact ⟨g1, Quiet.chg g2 _, ord, R.quiet g2, I⟩

theorem dom_any (w : World) (x : Nat) (v : Value) (mode : Int) (ns : List N5) (ord : List Int) (R : RepM w x v mode ns) (I : Inv mode ns ord) (h8 : ns.length ≤ 8) (g : Ms) (hh : g.hop ≤ 9223372036854775807) (p : Opr) :
    Calls Try.prog 32 #[ptr x, opv p.k p.a p.b p.c p.s p.t, msV g] w fun e w' => e = .returned (ansv (ansP mode ns g p).e (ansP mode ns g p).n (ansP mode ns g p).o (ansP mode ns g p).d (ansP mode ns g p).s) ∧ Chg (ownM x v) w w' ∧ LPm w.heap.size w' x v (nextP mode ns g p) := by
  have hS := R.lts
  obtain ⟨pk, pa, pb, pc, ps, pt⟩ := p
  have fin : ∀ {E N O D S K}, (ansP mode ns g ⟨pk, pa, pb, pc, ps, pt⟩ = ⟨E, N, O, D, S⟩) → nextP mode ns g ⟨pk, pa, pb, pc, ps, pt⟩ = K → (Calls Try.prog 32 #[ptr x, opv pk pa pb pc ps pt, msV g] w fun e w' => e = .returned (ansv E N O D S) ∧ Did (ownM x v) (fun w1 => LPm (w.heap.size + 4) w1 x v K) w w') →
      Calls Try.prog 32 #[ptr x, opv pk pa pb pc ps pt, msV g] w fun e w' => e = .returned (ansv (ansP mode ns g ⟨pk, pa, pb, pc, ps, pt⟩).e (ansP mode ns g ⟨pk, pa, pb, pc, ps, pt⟩).n (ansP mode ns g ⟨pk, pa, pb, pc, ps, pt⟩).o (ansP mode ns g ⟨pk, pa, pb, pc, ps, pt⟩).d (ansP mode ns g ⟨pk, pa, pb, pc, ps, pt⟩).s) ∧ Chg (ownM x v) w w' ∧ LPm w.heap.size w' x v (nextP mode ns g ⟨pk, pa, pb, pc, ps, pt⟩) := by
    intro E N O D S K e1 e2 h
    rw [e1, e2]
    exact h.mono fun e w' ⟨h1, h2⟩ => ⟨h1, did_M hS h2⟩
  by_cases h1 : pk = 1
  · subst h1
    exact fin (K := (mode, joinN mode ns pa)) (by simp only [ansP, if_true]) (by simp only [nextP, if_true]) (dom_join_of w x pa pb pc ps pt g _ _ _ hS (fun W q hz => (mjoin_any W x v mode ns (R.quiet q) pa).mono fun e w' ⟨v', g1, g2, g3, g4⟩ => ⟨g1, g2, v', g3, fun k hk => (g4 k hk).imp id (fun h => by omega)⟩))
  by_cases h2 : pk = 2
  · subst h2
    exact fin (K := ((startP mode pa).2, ns)) (by simp [ansP]) (by simp [nextP]) (dom_start_of w x pa pb pc ps pt g _ _ _ hS (fun W q => (mstart_any W x v mode ns (R.quiet q) pa).mono fun e w' ⟨g1, g2, g3⟩ => ⟨g1, g2, lpm_same g3⟩))
  by_cases h3 : pk = 3
  · subst h3
    exact fin (K := (-1, [])) (by simp [ansP]) (by simp [nextP]) (dom_reset_of w x pa pb pc ps pt g _ _ hS (fun W q => (mreset_any W x v mode ns (R.quiet q)).mono fun e w' ⟨g1, g2, g3⟩ => ⟨g1, g2, _, g3, fun k hk => by simp [Value.ownBlock] at hk⟩))
  by_cases h4 : pk = 4
  · subst h4
    exact fin (K := (mode, (stepP mode ns pa pb ⟨4, 0, 0⟩).2.2)) (by simp [ansP]) (by simp [nextP]) (dom_wake_of w x pa pb pc ps pt g _ _ _ _ hS (fun W q => (mstep_any W x v mode ns (R.quiet q) I.mo I.ok pa pb ⟨4, 0, 0⟩ (by simp)).mono fun e w' ⟨g1, g2, g3⟩ => ⟨g1, g2, lpm_same g3⟩))
  by_cases h6 : pk = 6
  · subst h6
    exact fin (K := (mode, (stepP mode ns pa pb g).2.2)) (by simp [ansP]) (by simp [nextP]) (dom_step_of w x pa pb pc ps pt g _ _ _ _ hS (fun W q => (mstep_any W x v mode ns (R.quiet q) I.mo I.ok pa pb g hh).mono fun e w' ⟨g1, g2, g3⟩ => ⟨g1, g2, lpm_same g3⟩))
  by_cases h7 : pk = 7
  · subst h7
    exact fin (K := (mode, ns)) (by simp [ansP]) (by simp [nextP]) (dom_node_of w x pa pb pc ps pt g _ _ _ _ hS (fun W q => (mnode_any W x v mode ns (R.quiet q) pa).mono fun e w' ⟨g1, g2⟩ => ⟨g1, Quiet.chg g2 _, lpm_same ((R.quiet q).quiet g2)⟩))
  by_cases h8 : pk = 8
  · subst h8
    exact fin (K := (mode, ns)) (by simp [ansP]) (by simp [nextP]) (dom_show_of w x pa pb pc ps pt g _ _ _ hS (fun W q => (mshow_any W x v mode ns (R.quiet q) (by assumption) I.mode64 I.in5).mono fun e w' ⟨g1, g2⟩ => ⟨g1, Quiet.chg g2 _, lpm_same ((R.quiet q).quiet g2)⟩))
  by_cases h9 : pk = 9
  · subst h9
    exact fin (K := (mode, ns)) (by simp [ansP]) (by simp [nextP]) (dom_check_of w x pa pb pc ps pt g _ _ hS (fun W q => (mcheck_any W x v mode ns (R.quiet q) (by assumption) I.mo).mono fun e w' ⟨g1, g2⟩ => ⟨g1, Quiet.chg g2 _, lpm_same ((R.quiet q).quiet g2)⟩))
  · have e1 : ansP mode ns g ⟨pk, pa, pb, pc, ps, pt⟩ = ⟨0, 0, o0, ⟨0, 0, 0, 0, 0⟩, ⟨#[]⟩⟩ := by simp [ansP, h1, h2, h3, h4, h6, h7, h8, h9]
    have e2 : nextP mode ns g ⟨pk, pa, pb, pc, ps, pt⟩ = (mode, ns) := by simp [nextP, h1, h2, h3, h4, h6]
    rw [e1, e2]
    refine (dom_none_of w x pk pa pb pc ps pt g (by simpa using h1) (by simpa using h2) (by simpa using h3) (by simpa using h4) (by simpa using h6) (by simpa using h7) (by simpa using h8) (by simpa using h9)).mono ?_
    rintro e w' ⟨g1, g2⟩
    exact ⟨g1, Quiet.chg g2 _, lpm_same (R.quiet g2)⟩
end Go.Proofs.Qxb6500369a
