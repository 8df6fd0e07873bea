/-
  369 Keeps: the law's state, plainly: the nodes as a list, the ghost; what each act leaves.
-/
import Derived.Test.Qxb6500369aKPut
import Derived.Test.Qxb6500369aKFn
import Derived.Test.Qxb6500369aKSay
import Derived.Test.Qxb6500369aPlay
namespace Go.Proofs.Qxb6500369a
open Go.RowKit Go.Qx
set_option linter.unusedSimpArgs false
set_option linter.unusedVariables false

def vf (ns : List N5) : Nat → N5 := fun i => ns.getD i z5
def idf (ns : List N5) : Nat → Int := fun i => (vf ns i).id

theorem vf_set {ns : List N5} {i : Nat} {c : N5} (hi : i < ns.length) : vf (ns.set i c) = upV (vf ns) i c := by
  funext j
  unfold vf upV
  rw [List.getD_eq_getElem?_getD, List.getElem?_set]
  by_cases h : j = i
  · subst h; simp [hi]
  · rw [if_neg (fun e => h e.symm), if_neg h]
    show _ = ns.getD j z5
    rw [List.getD_eq_getElem?_getD]
theorem vf_get {ns : List N5} {i : Nat} (hi : i < ns.length) : ns[i]? = some (vf ns i) := by
  unfold vf; rw [List.getD_eq_getElem?_getD]; simp [hi]
theorem vf_mem {ns : List N5} {i : Nat} (hi : i < ns.length) : vf ns i ∈ ns := List.mem_of_getElem? (vf_get hi)
theorem idf_set {ns : List N5} {i : Nat} {c : N5} (hi : i < ns.length) (hc : c.id = (vf ns i).id) : idf (ns.set i c) = idf ns := by
  funext j
  unfold idf
  rw [vf_set hi]
  by_cases h : j = i
  · subst h; rw [upV_at, hc]
  · rw [upV_ne h]
theorem ids_set {ns : List N5} {i : Nat} {c : N5} (hi : i < ns.length) (hc : c.id = (vf ns i).id) : (ns.set i c).map N5.id = ns.map N5.id := by
  apply List.ext_getElem?
  intro j
  rw [List.getElem?_map, List.getElem?_map, List.getElem?_set]
  by_cases h : i = j
  · subst h
    rw [if_pos rfl, if_pos hi, vf_get hi]; simp [hc]
  · rw [if_neg h]

theorem putP_eq (G : Gh) (j : Nat) (ou : Ou) : putP G j ou = { G with wire := G.wire ++ outsP j ou, s1 := G.s1 + kc 1 (outsP j ou), s2 := G.s2 + kc 2 (outsP j ou), s3 := G.s3 + kc 3 (outsP j ou) } := by
  unfold putP sendP outsP
  by_cases h1 : ou.cw.k = 0 <;> by_cases h2 : ou.ccw.k = 0
  · simp [h1, h2, kc]
  · simp [h1, h2, kc]
  · simp [h1, h2, kc]
  · simp [h1, h2, kc]; omega

/-- The law's invariant. -/
structure KI (mode : Int) (ns : List N5) (G : Gh) : Prop where
  ids : G.ids = ns.map N5.id
  mo : G.mode = mode
  n8 : ns.length ≤ 8
  tp : 0 < ns.length → G.top < ns.length
  t0 : ns.length = 0 → G.top = 0
  mx : ∀ j, j < ns.length → j ≠ G.top → idf ns j < idf ns G.top
  ds : ∀ i j, i < ns.length → j < ns.length → i ≠ j → idf ns i ≠ idf ns j
  wst : G.worst = true → mode = 0 ∧ ∃ a : Int, ∀ i : Nat, i < ns.length → idf ns i = a - i
  off : mode = -1 → G.wire = [] ∧ G.s1 = 0 ∧ G.s2 = 0 ∧ G.s3 = 0 ∧ G.done = 0 ∧ ∀ i, i < ns.length → vf ns i = ⟨idf ns i, 0, 0, 0, 0⟩
  on : mode ≠ -1 → ∃ tk an L, TA mode ns.length (idf ns) (vf ns) tk an G.top G.done ∧ TL ns.length tk an L ∧ TC mode ns.length (vf ns) tk an G.done L.length G.s1 G.s2 G.s3 ∧
    G.wire = L.map (lab mode ns.length (idf ns) (vf ns) tk an G.top)

/-! ### Bounds -/
theorem bound_val (mode : Int) (n : Nat) (h8 : n ≤ 8) : 0 ≤ boundP mode n ∧ boundP mode n ≤ 264 := by
  unfold boundP
  rcases (by omega : n = 0 ∨ n = 1 ∨ n = 2 ∨ n = 3 ∨ n = 4 ∨ n = 5 ∨ n = 6 ∨ n = 7 ∨ n = 8) with rfl | rfl | rfl | rfl | rfl | rfl | rfl | rfl | rfl <;> split <;> simp [lg]
theorem tri_val (n : Nat) (h8 : n ≤ 8) (x : Int) (h : 2 * x ≤ n * n + n) : x ≤ n * (n + 1) / 2 := by
  rcases (by omega : n = 0 ∨ n = 1 ∨ n = 2 ∨ n = 3 ∨ n = 4 ∨ n = 5 ∨ n = 6 ∨ n = 7 ∨ n = 8) with rfl | rfl | rfl | rfl | rfl | rfl | rfl | rfl | rfl <;> simp at h ⊢ <;> omega
theorem tri_eq (n : Nat) (h8 : n ≤ 8) (x : Int) (h : 2 * x = n * n + n) : x = n * (n + 1) / 2 := by
  rcases (by omega : n = 0 ∨ n = 1 ∨ n = 2 ∨ n = 3 ∨ n = 4 ∨ n = 5 ∨ n = 6 ∨ n = 7 ∨ n = 8) with rfl | rfl | rfl | rfl | rfl | rfl | rfl | rfl | rfl <;> simp at h ⊢ <;> omega

/-- The counts, at any time. -/
structure Cnt (mode : Int) (n : Nat) (G : Gh) : Prop where
  p1 : 0 ≤ G.s1
  p2 : 0 ≤ G.s2
  p3 : 0 ≤ G.s3
  b : G.s1 + G.s2 + G.s3 ≤ boundP mode n
  b3 : G.s3 ≤ n
  cr : mode = 0 → G.s1 ≤ n * (n + 1) / 2 ∧ G.s2 = 0
  done : (G.done : Int) + G.wire.length = G.s1 + G.s2 + G.s3
  len : G.wire.length ≤ 2 * n + 1

theorem KI.cnt {mode : Int} {ns : List N5} {G : Gh} (h : KI mode ns G) : Cnt mode ns.length G := by
  by_cases hm : mode = -1
  · obtain ⟨h1, h2, h3, h4, h5, _⟩ := h.off hm
    have hb := bound_val mode ns.length h.n8
    refine ⟨by omega, by omega, by omega, by omega, by omega, fun h => by omega, by rw [h1, h5]; simp; omega, by rw [h1]; simp⟩
  · obtain ⟨tk, an, L, A, TLh, C, hw⟩ := h.on hm
    have hc3 := C.c3
    have hb3 : G.s3 ≤ ns.length ∧ 0 ≤ G.s3 := by rw [hc3]; split <;> omega
    have h8 := h.n8
    have htot := C.tot
    have hlen := TLh.len
    have hwl : G.wire.length = L.length := by rw [hw]; simp
    have h12 := C.c12
    refine ⟨C.p1, C.p2, hb3.2, ?_, hb3.1, ?_, by rw [hwl]; omega, by rw [hwl]; exact hlen⟩
    · unfold boundP
      rcases A.md with rfl | rfl
      · rw [if_pos rfl]
        have := bound_cr A rfl
        have := tri_val ns.length h8 (G.s1 + G.s2) (by rw [h12]; exact this)
        omega
      · rw [if_neg (by omega)]
        have := bound_hs A rfl
        omega
    · intro h0
      have := bound_cr A h0
      have h2 := C.c0 h0
      exact ⟨tri_val ns.length h8 _ (by omega), h2⟩

/-! ### A delivery -/
theorem KI.deliver {mode : Int} {ns : List N5} {G : Gh} (h : KI mode ns G) (k l : Nat) (m : Ms) (hk : G.wire[k]? = some (l, m)) :
    mode ≠ -1 ∧ toP ns.length l < ns.length ∧ l < 2 * ns.length ∧ ((l % 2 : Nat) : Int) ≤ mode ∧ (1 ≤ m.k ∧ m.k ≤ 3) ∧ (0 ≤ m.hop ∧ m.hop ≤ 8) ∧ (∃ o, o < ns.length ∧ m.id = idf ns o) ∧
    (∀ p, p ∈ outsP (toP ns.length l) (machP mode (vf ns (toP ns.length l)) ((l % 2 : Nat) : Int) m).2 → 1 ≤ p.2.k ∧ p.2.k ≤ 3) ∧
    KI mode (ns.set (toP ns.length l) (machP mode (vf ns (toP ns.length l)) ((l % 2 : Nat) : Int) m).1) (putP { G with wire := G.wire.eraseIdx k, done := G.done + 1 } (toP ns.length l) (machP mode (vf ns (toP ns.length l)) ((l % 2 : Nat) : Int) m).2) := by
  have hm : mode ≠ -1 := fun e => by
    have := (h.off e).1
    rw [this] at hk; simp at hk
  obtain ⟨tk, an, L, A, TLh, C, hw⟩ := h.on hm
  have hk' := hk
  rw [hw] at hk'
  have D := del_any A TLh C k l m hk'
  have hj := D.jn
  have hid : (machP mode (vf ns (toP ns.length l)) ((l % 2 : Nat) : Int) m).1.id = (vf ns (toP ns.length l)).id := machK_id _ _ _ _
  have e1 := idf_set hj hid
  refine ⟨hm, hj, D.l2, D.dir, D.kind, D.hop, D.mid, D.outs, ?_⟩
  obtain ⟨tk', an', L', A', T', C', hw'⟩ := D.next
  rw [putP_eq]
  refine ⟨?_, h.mo, by simpa using h.n8, by simpa using h.tp, by simpa using h.t0, ?_, ?_, ?_, fun e => absurd e hm, fun _ => ?_⟩
  · show G.ids = _; rw [ids_set hj hid]; exact h.ids
  · rw [e1]; simpa using h.mx
  · rw [e1]; simpa using h.ds
  · rw [e1]; simpa using h.wst
  · rw [e1, List.length_set, vf_set hj]
    refine ⟨tk', an', L', A', T', C', ?_⟩
    show G.wire.eraseIdx k ++ _ = _
    rw [hw', hw]

/-! ### A wake -/
theorem KI.wake {mode : Int} {ns : List N5} {G : Gh} (h : KI mode ns G) (hm : mode ≠ -1) (i : Nat) (hi : i < ns.length) (dir : Int) :
    (∀ p, p ∈ outsP i (machP mode (vf ns i) dir ⟨4, 0, 0⟩).2 → 1 ≤ p.2.k ∧ p.2.k ≤ 3) ∧ KI mode (ns.set i (machP mode (vf ns i) dir ⟨4, 0, 0⟩).1) (putP G i (machP mode (vf ns i) dir ⟨4, 0, 0⟩).2) := by
  obtain ⟨tk, an, L, A, TLh, C, hw⟩ := h.on hm
  have D := wake_any A TLh C i hi dir
  have hid : (machP mode (vf ns i) dir ⟨4, 0, 0⟩).1.id = (vf ns i).id := machK_id _ _ _ _
  have e1 := idf_set hi hid
  refine ⟨D.outs, ?_⟩
  obtain ⟨tk', an', L', A', T', C', hw'⟩ := D.next
  rw [putP_eq]
  refine ⟨?_, h.mo, by simpa using h.n8, by simpa using h.tp, by simpa using h.t0, ?_, ?_, ?_, fun e => absurd e hm, fun _ => ?_⟩
  · show G.ids = _; rw [ids_set hi hid]; exact h.ids
  · rw [e1]; simpa using h.mx
  · rw [e1]; simpa using h.ds
  · rw [e1]; simpa using h.wst
  · rw [e1, List.length_set, vf_set hi]
    refine ⟨tk', an', L', A', T', C', ?_⟩
    show G.wire ++ _ = _
    rw [hw', hw]
theorem wake_awake (mode : Int) (hm : mode = 0 ∨ mode = 1) (c : N5) (dir : Int) : (machP mode c dir ⟨4, 0, 0⟩).1.reach ≠ 0 := by
  unfold machP crP hsP
  rcases hm with rfl | rfl <;> by_cases h : c.reach = 0 <;> simp [h]

/-! ### Reset, Start, Join -/
def gh0 : Gh := ⟨[], [], 0, 0, 0, 0, -1, 0, false⟩
theorem KI.first : KI (-1) [] gh0 := by
  refine ⟨rfl, rfl, by simp, fun h => by simp at h, fun _ => rfl, fun j hj => by simp at hj, fun i j hi => by simp at hi, fun h => by simp [gh0] at h, fun _ => ⟨rfl, rfl, rfl, rfl, rfl, fun i hi => by simp at hi⟩, fun h => absurd rfl h⟩

theorem KI.start {ns : List N5} {G : Gh} (h : KI (-1) ns G) (m : Int) (hm : m = 0 ∨ m = 1) : KI m ns { G with mode := m } := by
  obtain ⟨h1, h2, h3, h4, h5, h6⟩ := h.off rfl
  have hw : G.worst ≠ true := fun e => by have := (h.wst e).1; omega
  refine ⟨h.ids, rfl, h.n8, h.tp, h.t0, h.mx, h.ds, fun e => absurd e hw, fun e => by omega, fun _ => ?_⟩
  refine ⟨fun _ _ => .idle, 0, [], ?_, ?_, ?_, h1⟩
  · refine ⟨hm, h.n8, h.tp, h.mx, h.ds, fun _ _ => rfl, ?_, ?_, ?_, ?_, ?_, fun h => by omega⟩
    · intro o ho s hs; left; rw [h6 o ho]
    · intro o ho; left; rw [h6 o ho]
    · intro o ho r hr h1; rw [h6 o ho] at hr; simp only at hr; omega
    · intro o ho; rw [h6 o ho]; exact ⟨rfl, by simp⟩
    · intro _ j hj; rw [h6 j hj]; exact ⟨rfl, rfl⟩
  · refine ⟨by simp, fun t => ?_⟩
    simp [inL, fly]
  · refine ⟨by simp; omega, ?_, by simp; exact h4, fun _ => h3, by simp; omega, by simp; omega⟩
    show G.s1 + G.s2 = _
    have : sm (cost ns.length (vf ns) (fun _ _ => Tok.idle)) ns.length = sm (fun _ => (0 : Int)) ns.length := sm_congr (fun j hj => by
      unfold cost; rw [h6 j hj]; simp [Go.Proofs.Qxb6500369a.cnt])
    rw [this, sm_const]; omega

theorem vf_snoc {ns : List N5} {c : N5} {i : Nat} (hi : i < ns.length) : vf (ns ++ [c]) i = vf ns i := by
  unfold vf; rw [List.getD_eq_getElem?_getD, List.getD_eq_getElem?_getD, List.getElem?_append_left hi]
theorem vf_last (ns : List N5) (c : N5) : vf (ns ++ [c]) ns.length = c := by
  unfold vf; rw [List.getD_eq_getElem?_getD]; simp

theorem KI.join {ns : List N5} {G : Gh} (h : KI (-1) ns G) (id : Int) (hE : joinE (-1) ns id = 0) (top' : Nat) (ht : top' = if idf (ns ++ [⟨id, 0, 0, 0, 0⟩]) G.top < id then ns.length else G.top) :
    KI (-1) (ns ++ [⟨id, 0, 0, 0, 0⟩]) { G with ids := G.ids ++ [id], top := top' } := by
  obtain ⟨h1, h2, h3, h4, h5, h6⟩ := h.off rfl
  have hw : G.worst ≠ true := fun e => by have := (h.wst e).1; omega
  have hlt : ns.length < 8 := by
    unfold joinE at hE
    simp at hE
    split at hE
    · omega
    · omega
  have hno : hasId ns id = false := by
    unfold joinE at hE
    simp at hE
    split at hE
    · omega
    · cases hh : hasId ns id
      · rfl
      · rw [hh] at hE; simp at hE
  have hne : ∀ i, i < ns.length → idf ns i ≠ id := fun i hi e => by
    unfold hasId at hno
    rw [List.any_eq_false] at hno
    have := hno (vf ns i) (vf_mem hi)
    simp at this
    exact this e
  have hold : ∀ i, i < ns.length → idf (ns ++ [⟨id, 0, 0, 0, 0⟩]) i = idf ns i := fun i hi => by unfold idf; rw [vf_snoc hi]
  have hnew : idf (ns ++ [⟨id, 0, 0, 0, 0⟩]) ns.length = id := by unfold idf; rw [vf_last]
  have hlen : (ns ++ [(⟨id, 0, 0, 0, 0⟩ : N5)]).length = ns.length + 1 := by simp
  have htop : ns.length ≠ 0 → idf (ns ++ [⟨id, 0, 0, 0, 0⟩]) G.top = idf ns G.top ∧ G.top < ns.length := fun e => by
    have := h.tp (by omega)
    exact ⟨hold _ this, this⟩
  have htop0 : ns.length = 0 → idf (ns ++ [⟨id, 0, 0, 0, 0⟩]) G.top = id ∧ G.top = 0 := fun e => by
    have e2 := h.t0 e
    rw [e2]
    rw [e] at hnew
    exact ⟨hnew, rfl⟩
  refine ⟨by simp [h.ids], h.mo, by rw [hlen]; omega, ?_, fun e => by omega, ?_, ?_, fun e => absurd e hw, fun _ => ⟨h1, h2, h3, h4, h5, ?_⟩, fun e => absurd rfl e⟩
  · intro _
    show top' < _
    rw [hlen, ht]
    split
    · omega
    · by_cases e : ns.length = 0
      · rw [(htop0 e).2]; omega
      · have := (htop e).2; omega
  · intro j hj hne'
    show _ < idf _ top'
    replace hne' : j ≠ top' := hne'
    rw [hlen] at hj
    by_cases e : ns.length = 0
    · obtain ⟨e1, e2⟩ := htop0 e
      rw [e1, if_neg (by omega)] at ht
      omega
    · obtain ⟨e1, e2⟩ := htop e
      by_cases hlt2 : idf ns G.top < id
      · rw [e1, if_pos hlt2] at ht
        rw [ht, hnew]
        rw [hold j (by omega)]
        by_cases hjt : j = G.top
        · rw [hjt]; exact hlt2
        · have := h.mx j (by omega) hjt; omega
      · rw [e1, if_neg hlt2] at ht
        rw [ht, e1]
        by_cases hjn : j = ns.length
        · rw [hjn, hnew]
          have := hne G.top e2
          omega
        · rw [hold j (by omega)]
          exact h.mx j (by omega) (by omega)
  · intro i j hi hj hij
    rw [hlen] at hi hj
    by_cases e1 : i = ns.length
    · subst e1
      rw [hnew, hold j (by omega)]
      exact fun e => hne j (by omega) e.symm
    · by_cases e2 : j = ns.length
      · subst e2
        rw [hnew, hold i (by omega)]
        exact hne i (by omega)
      · rw [hold i (by omega), hold j (by omega)]
        exact h.ds i j (by omega) (by omega) hij
  · intro i hi
    rw [hlen] at hi
    by_cases e1 : i = ns.length
    · subst e1; rw [hnew, vf_last]
    · rw [hold i (by omega), vf_snoc (by omega)]
      exact h6 i (by omega)
end Go.Proofs.Qxb6500369a
