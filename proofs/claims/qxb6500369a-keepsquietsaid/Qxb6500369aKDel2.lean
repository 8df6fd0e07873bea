/-
  369 Keeps: a reply is delivered; any delivery; a wake. Plainly.
-/
import Derived.Test.Qxb6500369aKDel
namespace Go.Proofs.Qxb6500369a
set_option linter.unusedVariables false
set_option linter.unusedSimpArgs false

section
variable {mode : Int} {n : Nat} {I : Nat → Int} {V : Nat → N5} {tk : Nat → Nat → Tok} {an top done : Nat} {L1 L2 : List Nat} {s1 s2 s3 : Int}

theorem mach_reply (c : N5) (dir : Int) (i hop : Int) (h : i ≠ c.id) : machP 1 c dir ⟨2, i, hop⟩ = (c, towardP dir ⟨2, i, hop⟩) := by
  unfold machP hsP; simp [h]
theorem mach_got (c : N5) (dir : Int) (hop : Int) (h1 : 1 ≤ c.reach) (h2 : c.reach < 8) (hg : c.got = 0) : machP 1 c dir ⟨2, c.id, hop⟩ = ({ c with got := 1 }, o0) := by
  unfold machP hsP; simp [hg, show ¬ c.reach < 1 by omega, show ¬ 8 ≤ c.reach by omega]
theorem mach_phase (c : N5) (dir : Int) (hop : Int) (h1 : 1 ≤ c.reach) (h2 : c.reach < 8) (hg : c.got ≠ 0) : machP 1 c dir ⟨2, c.id, hop⟩ = ({ c with got := 0, reach := 2 * c.reach }, openP { c with got := 0, reach := 2 * c.reach }) := by
  unfold machP hsP; simp [hg, show ¬ c.reach < 1 by omega, show ¬ 8 ≤ c.reach by omega]
theorem hm_home {T : Tok} (h : hm T ≠ 0) : T = .home := by
  cases T <;> first | rfl | exact absurd rfl h
theorem outs_open (j : Nat) (c : N5) : outsP j (openP c) = [(2 * j, ⟨1, c.id, c.reach⟩), (2 * j + 1, ⟨1, c.id, c.reach⟩)] := by
  simp [outsP, openP]

theorem del_back (A : TA mode n I V tk an top done) (o s d : Nat) (ho : o < n) (hs : s < 2) (hT : tk o s = .back d) (h2 : TL n tk an (L1 ++ (2 * o + s) :: L2)) (C : TC mode n V tk an done (L1 ++ (2 * o + s) :: L2).length s1 s2 s3) (l : Nat) (m : Ms) (h : lab mode n I V tk an top (2 * o + s) = (l, m)) :
    DelOk mode n I V top done s1 s2 s3 ((L1 ++ (2 * o + s) :: L2).map (lab mode n I V tk an top)) L1.length l m := by
  have hok := A.tok o ho s hs
  rw [hT] at hok
  obtain ⟨hR, hm1, hd1, hdR, hRn, hsm⟩ := hok
  subst hm1
  rw [lab_at ho hs, hT] at h
  unfold postP at h
  injection h with e1 e2
  subst e1 e2
  have hdn : d < n := by omega
  have hi : nd n s o d < n := nd_lt ho (by omega)
  have hj : toP n (2 * nd n s o d + (1 - s)) = nd n s o (d - 1) := by
    rw [toP_nd hi (by omega), nd_back hs ho hd1 (by omega)]
  have hjn : nd n s o (d - 1) < n := nd_lt ho (by omega)
  have hl2 : (2 * nd n s o d + (1 - s)) % 2 = 1 - s := by omega
  have hll : 2 * nd n s o d + (1 - s) < 2 * n := by omega
  have hdirs : (((2 * nd n s o d + (1 - s)) % 2 : Nat) : Int) = ((1 - s : Nat) : Int) := by rw [hl2]
  have hdir : (((2 * nd n s o d + (1 - s)) % 2 : Nat) : Int) ≤ 1 := by rw [hdirs]; omega
  have hhm : hm (tk o s) = 0 := by rw [hT]; rfl
  have hcn : cnt n (V o).reach (tk o s) = 2 * (V o).reach - d + 1 := by rw [hT]; rfl
  have hlen : ((L1 ++ (2 * o + s) :: L2).length : Int) = (L1 ++ L2).length + 1 := by simp; omega
  have hVid := A.id _ hjn
  have hP1 := C.p1
  have hP2 := C.p2
  have h8 := A.n8
  by_cases hd : 2 ≤ d
  · have hne : nd n s o (d - 1) ≠ o := nd_ne ho (by omega) (by omega)
    refine delOk_of h2 hll hj hjn hdir ⟨by simp, by simp⟩ ⟨by simp, by simp⟩ ⟨o, ho, rfl⟩ (V (nd n s o (d - 1))) (towardP ((1 - s : Nat) : Int) ⟨2, I o, 0⟩) [(2 * nd n s o (d - 1) + (1 - s), ⟨2, I o, 0⟩)] ?_ ?_ (by simp) (upd tk o s (.back (d - 1))) an [2 * o + s] ?_ ?_ ?_ ?_ ?_
    · rw [hdirs]; exact mach_reply _ _ _ _ (by rw [hVid]; exact fun e => A.ds _ _ hjn ho hne e.symm)
    · exact outs_toward (by omega) _ (by simp)
    · rw [upV_same]
      exact A.turn _ ⟨hR, rfl, by omega, by omega, hRn, hsm⟩ (by rw [hhm]; rfl)
    · exact h2.fwd ho hs rfl
    · rw [upV_same]
      refine C.turn ho hs _ (fun _ _ => rfl) _ an _ _ _ 1 ?_ ?_ ?_ ?_ ?_ ?_ ?_
      · (simp [kc] <;> try omega)
      · rw [hcn]; simp [cnt]; omega
      · simp [kc]; exact C.c3
      · (simp [kc] at hlen ⊢ <;> try omega)
      · intro h; omega
      · (simp [kc] <;> try omega)
      · (simp [kc] <;> try omega)
    · intro x hx hne
      rw [upV_same]; exact lab_ne hs hne (fun _ => rfl) (fun _ => rfl)
    · rw [upV_same]
      simp only [List.map_cons, List.map_nil]
      rw [lab_at ho hs, upd_at]
      simp [postP]
  · have hd' : d = 1 := by omega
    subst hd'
    rw [show 1 - 1 = 0 from rfl, nd_zero ho] at hj
    have hVo := A.id o ho
    have hgt := A.gt o ho
    have hrv := A.rv o ho
    have hT1 : TokOk 1 n I (V o).reach (done + 1) top an o s .home := ⟨hR, rfl, hRn, hsm⟩
    by_cases hg : (V o).got = 0
    · refine delOk_of h2 hll hj ho hdir ⟨by simp, by simp⟩ ⟨by simp, by simp⟩ ⟨o, ho, rfl⟩ { V o with got := 1 } o0 [] ?_ rfl (by simp) (upd tk o s .home) an [] ?_ ?_ ?_ ?_ rfl
      · have := mach_got (V o) (((2 * nd n s o 1 + (1 - s)) % 2 : Nat) : Int) 0 hR (by omega) hg
        rw [← hVo]
        exact this
      · exact A.home ho hs hT1 hg hhm
      · exact h2.die ho hs rfl
      · refine C.turn ho hs _ (fun j _ => ?_) _ an _ _ _ 0 ?_ ?_ ?_ ?_ ?_ ?_ ?_
        · by_cases h : j = o
          · rw [h, upV_at]
          · rw [upV_ne h]
        · simp [kc]
        · rw [hcn]; simp [cnt]
        · simp [kc]; exact C.c3
        · (simp [kc] at hlen ⊢ <;> try omega)
        · intro h; omega
        · (simp [kc] <;> try omega)
        · (simp [kc] <;> try omega)
      · intro x hx hne
        refine lab_ne hs hne (fun _ => ?_) (fun _ => rfl)
        by_cases h : x / 2 = o
        · rw [h, upV_at]
        · rw [upV_ne h]
    · have hoth : tk o (1 - s) = .home := by
        apply hm_home
        rcases (by omega : s = 0 ∨ s = 1) with rfl | rfl
        · intro h; rw [show 1 - 0 = 1 from rfl] at h; omega
        · intro h; rw [show 1 - 1 = 0 from rfl] at h; omega
      have hho := A.tok o ho (1 - s) (by omega)
      rw [hoth] at hho
      obtain ⟨_, _, _, hsm2⟩ := hho
      have hcst : cost n V tk o = (if (V o).reach ≤ 1 then 0 else 4 * ((V o).reach - 1)) + 4 * (V o).reach := by
        unfold cost
        rcases (by omega : s = 0 ∨ s = 1) with rfl | rfl
        · rw [hcn, hoth]; simp [cnt]; omega
        · rw [hcn, hoth]; simp [cnt]; omega
      refine delOk_of h2 hll hj ho hdir ⟨by simp, by simp⟩ ⟨by simp, by simp⟩ ⟨o, ho, rfl⟩ { V o with got := 0, reach := 2 * (V o).reach } (openP { V o with got := 0, reach := 2 * (V o).reach }) [(2 * o, ⟨1, I o, 2 * (V o).reach⟩), (2 * o + 1, ⟨1, I o, 2 * (V o).reach⟩)] ?_ ?_ (by simp) (updB tk o) an [2 * o, 2 * o + 1] ?_ ?_ ?_ ?_ ?_
      · have := mach_phase (V o) (((2 * nd n s o 1 + (1 - s)) % 2 : Nat) : Int) 0 hR (by omega) hg
        rw [← hVo]
        exact this
      · rw [outs_open]; simp [hVo]
      · refine A.opens ho rfl _ (by omega) (by omega) (by omega) (fun r hr h1 => ⟨by omega, fun s' hs' e he1 he2 => ?_⟩)
        by_cases h : s' = s
        · subst h; exact hsm e he1 (by omega)
        · rw [show s' = 1 - s by omega]; exact hsm2 e he1 (by omega)
      · have hnot : ¬ inL n tk an (2 * o + (1 - s)) := by
          rw [inL_at ho (by omega), hoth]; simp [fly]
        refine h2.turn (by simp) (fun x hx hin => ?_) (fun x => ?_)
        · rcases (by omega : s = 0 ∨ s = 1) with rfl | rfl
          · have : x = 2 * o ∨ x = 2 * o + 1 := by simpa using hx
            rcases this with rfl | rfl
            · rfl
            · exact absurd hin hnot
          · have : x = 2 * o ∨ x = 2 * o + 1 := by simpa using hx
            rcases this with rfl | rfl
            · exact absurd hin hnot
            · rfl
        · rw [inL_B ho]
          have hx2 : x ∈ [2 * o, 2 * o + 1] ↔ x = 2 * o ∨ x = 2 * o + 1 := by simp
          rw [hx2]
          constructor
          · rintro (⟨h1, h3, h4⟩ | h1)
            · exact .inl ⟨h1, by omega⟩
            · exact .inr h1
          · rintro (⟨h1, h3⟩ | h1)
            · by_cases h5 : x = 2 * o ∨ x = 2 * o + 1
              · exact .inr h5
              · exact .inl ⟨h1, by omega, by omega⟩
            · exact .inr h1
      · have htot := C.tot
        have hc12 := C.c12
        have hsum : sm (cost n (upV V o { V o with got := 0, reach := 2 * (V o).reach }) (updB tk o)) n = sm (cost n V tk) n + 2 := by
          rw [sm_upd (f := cost n V tk) ho (fun j _ hne => cost_Bne hne (by rw [upV_ne hne])), cost_B (V := V), upV_at, hcst]
          simp only
          rw [if_neg (show ¬ (2 * (V o).reach ≤ 1) by omega)]
          split <;> omega
        refine ⟨?_, ?_, ?_, fun h => by omega, ?_, ?_⟩
        · have hl' : ((L1 ++ L2 ++ [2 * o, 2 * o + 1]).length : Int) = (L1 ++ L2).length + 2 := by simp; omega
          have hkk : ∀ p : List (Nat × Ms), p = [(2 * o, (⟨1, I o, 2 * (V o).reach⟩ : Ms)), (2 * o + 1, ⟨1, I o, 2 * (V o).reach⟩)] → s1 + kc 1 p + (s2 + kc 2 p) + (s3 + kc 3 p) = s1 + s2 + s3 + 2 := fun p hp => by rw [hp]; simp [kc]; omega
          rw [hkk _ rfl, hl', htot, hlen]; push_cast; omega
        · rw [hsum]; (simp [kc] <;> try omega)
        · simp [kc]; exact C.c3
        · (simp [kc] <;> try omega)
        · (simp [kc] <;> try omega)
      · intro x hx hne
        have hnot : ¬ inL n tk an (2 * o + (1 - s)) := by
          rw [inL_at ho (by omega), hoth]; simp [fly]
        have hx1 : x ≠ 2 * o + (1 - s) := fun e => hnot (e ▸ hx)
        exact lab_B (by omega) (by omega) (fun j hj => upV_ne hj ▸ rfl)
      · simp only [List.map_cons, List.map_nil]
        have e0 := lab_at (mode := 1) (I := I) (V := upV V o { V o with got := 0, reach := 2 * (V o).reach }) (tk := updB tk o) (an := an) (top := top) (s := 0) ho (by omega)
        have e1 := lab_at (mode := 1) (I := I) (V := upV V o { V o with got := 0, reach := 2 * (V o).reach }) (tk := updB tk o) (an := an) (top := top) (s := 1) ho (by omega)
        rw [show 2 * o + 0 = 2 * o by omega] at e0
        rw [e0, e1, updB_at _ _ _ (by omega), updB_at _ _ _ (by omega), upV_at]
        simp [postP, hopP, nd_zero ho]

/-- ANY DELIVERY. -/
theorem del_any {L : List Nat} (A : TA mode n I V tk an top done) (h2 : TL n tk an L) (C : TC mode n V tk an done L.length s1 s2 s3) (k l : Nat) (m : Ms) (h : (L.map (lab mode n I V tk an top))[k]? = some (l, m)) :
    DelOk mode n I V top done s1 s2 s3 (L.map (lab mode n I V tk an top)) k l m := by
  rw [List.getElem?_map] at h
  cases hk : L[k]? with
  | none => rw [hk] at h; simp at h
  | some t =>
    rw [hk] at h
    have hlab : lab mode n I V tk an top t = (l, m) := by simpa using h
    obtain ⟨L1, L2, rfl, rfl⟩ := split_at L k t hk
    have hin : inL n tk an t := (h2.mem t).1 (by simp)
    rcases hin with ⟨hlt, hfly⟩ | ⟨he, _⟩
    · obtain ⟨o, s, hs, rfl⟩ : ∃ o s, s < 2 ∧ t = 2 * o + s := ⟨t / 2, t % 2, by omega, by omega⟩
      rw [show (2 * o + s) / 2 = o by omega, show (2 * o + s) % 2 = s by omega] at hfly
      cases hT : tk o s with
      | out d => exact del_out A o s d (by omega) hs hT h2 C l m hlab
      | back d => exact del_back A o s d (by omega) hs hT h2 C l m hlab
      | idle => rw [hT] at hfly; simp [fly] at hfly
      | home => rw [hT] at hfly; simp [fly] at hfly
      | dead d => rw [hT] at hfly; simp [fly] at hfly
      | round => rw [hT] at hfly; simp [fly] at hfly
    · subst he
      exact del_an A h2 C l m hlab

/-- What a wake leaves. -/
structure WakeOk (mode : Int) (n : Nat) (I : Nat → Int) (V : Nat → N5) (top done : Nat) (s1 s2 s3 : Int) (wire : List (Nat × Ms)) (i : Nat) (dir : Int) (m : Ms) : Prop where
  outs : ∀ p, p ∈ outsP i (machP mode (V i) dir m).2 → 1 ≤ p.2.k ∧ p.2.k ≤ 3
  next : ∃ tk' an' L', TA mode n I (upV V i (machP mode (V i) dir m).1) tk' an' top done ∧ TL n tk' an' L' ∧
    TC mode n (upV V i (machP mode (V i) dir m).1) tk' an' done L'.length (s1 + kc 1 (outsP i (machP mode (V i) dir m).2)) (s2 + kc 2 (outsP i (machP mode (V i) dir m).2)) (s3 + kc 3 (outsP i (machP mode (V i) dir m).2)) ∧
    L'.map (lab mode n I (upV V i (machP mode (V i) dir m).1) tk' an' top) = wire ++ outsP i (machP mode (V i) dir m).2

theorem wake_any {L : List Nat} (A : TA mode n I V tk an top done) (h2 : TL n tk an L) (C : TC mode n V tk an done L.length s1 s2 s3) (o : Nat) (ho : o < n) (dir : Int) :
    WakeOk mode n I V top done s1 s2 s3 (L.map (lab mode n I V tk an top)) o dir ⟨4, 0, 0⟩ := by
  have hVo := A.id o ho
  have hP1 := C.p1
  have hP2 := C.p2
  have htot := C.tot
  have hc12 := C.c12
  have hC0 := C.c0
  by_cases hr : (V o).reach = 0
  · have hidle : ∀ s, s < 2 → tk o s = .idle := fun s hs => by
      have h := A.tok o ho s hs
      cases hT : tk o s <;> rw [hT] at h <;> first | rfl | (exfalso; have := h.1; omega)
    have hnot : ∀ s, s < 2 → ¬ inL n tk an (2 * o + s) := fun s hs => by
      rw [inL_at ho hs, hidle s hs]; simp [fly]
    have hn0 : ¬ inL n tk an (2 * o) := by
      have := hnot 0 (by omega)
      rwa [show 2 * o + 0 = 2 * o by omega] at this
    have hn1 := hnot 1 (by omega)
    have hcst : cost n V tk o = 0 := by
      unfold cost; rw [hidle 0 (by omega), hidle 1 (by omega), hr]; simp [cnt]
    rcases A.md with rfl | rfl
    · have hm : machP 0 (V o) dir ⟨4, 0, 0⟩ = ({ V o with reach := 1 }, ⟨⟨1, (V o).id, 1⟩, m0⟩) := by unfold machP crP; simp [hr]
      have hou : outsP o (⟨⟨1, (V o).id, 1⟩, m0⟩ : Ou) = [(2 * o, ⟨1, I o, 1⟩)] := by simp [outsP, m0, hVo]
      refine ⟨?_, ?_⟩
      · rw [hm]; simp only; rw [hou]; simp
      · rw [hm]; simp only; rw [hou]
        refine ⟨upd tk o 0 (.out 1), an, L ++ [2 * o], A.wakes ho rfl hr, ?_, ?_, ?_⟩
        · refine h2.more (by simp) (fun x hx => by
            have : x = 2 * o := by simpa using hx
            subst this; exact hn0) (fun x => ?_)
          by_cases hx : x = 2 * o
          · subst hx
            have := inL_at (n := n) (tk := upd tk o 0 (.out 1)) (an := an) (s := 0) ho (by omega)
            rw [show 2 * o + 0 = 2 * o by omega] at this
            rw [this, upd_at]; simp [fly]
          · rw [inL_upd (by omega) x (by omega)]; simp [hx]
        · have hsum : sm (cost n (upV V o { V o with reach := 1 }) (upd tk o 0 (.out 1))) n = sm (cost n V tk) n + 1 := by
            rw [sm_upd (f := cost n V tk) ho (fun j _ hne => by rw [cost_ne hne, cost_V (by rw [upV_ne hne])]), hcst]
            unfold cost
            rw [upd_at, upd_ne (by omega), hidle 1 (by omega), upV_at]
            simp [cnt]
          refine ⟨?_, ?_, ?_, ?_, ?_, ?_⟩
          · (simp [kc] at htot ⊢ <;> try omega)
          · rw [hsum]; (simp [kc] <;> try omega)
          · simp [kc]; exact C.c3
          · intro h; simp [kc]; exact hC0 h
          · (simp [kc] <;> try omega)
          · (simp [kc] <;> try omega)
        · rw [List.map_append]
          congr 1
          · apply List.map_congr_left
            intro x hx
            have hin := (h2.mem x).1 hx
            have hx0 : x ≠ 2 * o := fun e => hn0 (e ▸ hin)
            have hx1 : x ≠ 2 * o + 1 := fun e => hn1 (e ▸ hin)
            exact lab_ne (by omega) (by omega) (fun _ => by rw [upV_ne (by omega)]) (fun _ => rfl)
          · simp only [List.map_cons, List.map_nil]
            have e0 := lab_at (mode := 0) (I := I) (V := upV V o { V o with reach := 1 }) (tk := upd tk o 0 (.out 1)) (an := an) (top := top) (s := 0) ho (by omega)
            rw [show 2 * o + 0 = 2 * o by omega] at e0
            rw [e0, upd_at]
            simp [postP, hopP, nd_zero ho]
    · have hm : machP 1 (V o) dir ⟨4, 0, 0⟩ = ({ V o with got := 0, reach := 1 }, openP { V o with got := 0, reach := 1 }) := by
        have hg : (V o).got = 0 := by
          have := (A.gt o ho).1
          rw [hidle 0 (by omega), hidle 1 (by omega)] at this
          simpa [hm] using this
        unfold machP hsP; simp [hr]
        rw [← hg]
        exact ⟨rfl, rfl⟩
      have hou : outsP o (openP { V o with got := 0, reach := 1 }) = [(2 * o, ⟨1, I o, 1⟩), (2 * o + 1, ⟨1, I o, 1⟩)] := by rw [outs_open]; simp [hVo]
      refine ⟨?_, ?_⟩
      · rw [hm]; simp only; rw [hou]; simp
      · rw [hm]; simp only; rw [hou]
        refine ⟨updB tk o, an, L ++ [2 * o, 2 * o + 1], A.opens ho rfl 1 (.inl rfl) (by omega) (by omega) (fun r hr h1 => by omega), ?_, ?_, ?_⟩
        · refine h2.more (by simp) (fun x hx => by
            have : x = 2 * o ∨ x = 2 * o + 1 := by simpa using hx
            rcases this with rfl | rfl
            · exact hn0
            · exact hn1) (fun x => ?_)
          rw [inL_B ho]
          have hx2 : x ∈ [2 * o, 2 * o + 1] ↔ x = 2 * o ∨ x = 2 * o + 1 := by simp
          rw [hx2]
          constructor
          · rintro (⟨h1, _⟩ | h1)
            · exact .inl h1
            · exact .inr h1
          · rintro (h1 | h1)
            · by_cases h5 : x = 2 * o ∨ x = 2 * o + 1
              · exact .inr h5
              · exact .inl ⟨h1, by omega, by omega⟩
            · exact .inr h1
        · have hsum : sm (cost n (upV V o { V o with got := 0, reach := 1 }) (updB tk o)) n = sm (cost n V tk) n + 2 := by
            rw [sm_upd (f := cost n V tk) ho (fun j _ hne => cost_Bne hne (by rw [upV_ne hne])), cost_B (V := V), upV_at, hcst]
            simp
          refine ⟨?_, ?_, ?_, fun h => by omega, ?_, ?_⟩
          · (simp [kc] at htot ⊢ <;> try omega)
          · rw [hsum]; (simp [kc] <;> try omega)
          · simp [kc]; exact C.c3
          · (simp [kc] <;> try omega)
          · (simp [kc] <;> try omega)
        · rw [List.map_append]
          congr 1
          · apply List.map_congr_left
            intro x hx
            have hin := (h2.mem x).1 hx
            have hx0 : x ≠ 2 * o := fun e => hn0 (e ▸ hin)
            have hx1 : x ≠ 2 * o + 1 := fun e => hn1 (e ▸ hin)
            exact lab_B hx0 hx1 (fun j hj => by rw [upV_ne hj])
          · simp only [List.map_cons, List.map_nil]
            have e0 := lab_at (mode := 1) (I := I) (V := upV V o { V o with got := 0, reach := 1 }) (tk := updB tk o) (an := an) (top := top) (s := 0) ho (by omega)
            have e1 := lab_at (mode := 1) (I := I) (V := upV V o { V o with got := 0, reach := 1 }) (tk := updB tk o) (an := an) (top := top) (s := 1) ho (by omega)
            rw [show 2 * o + 0 = 2 * o by omega] at e0
            rw [e0, e1, updB_at _ _ _ (by omega), updB_at _ _ _ (by omega), upV_at]
            simp [postP, hopP, nd_zero ho]
  · have hm : machP mode (V o) dir ⟨4, 0, 0⟩ = (V o, o0) := by
      unfold machP crP hsP
      rcases A.md with rfl | rfl <;> simp [hr]
    refine ⟨?_, ?_⟩
    · rw [hm]; simp [outsP, o0, m0]
    · rw [hm]; simp only
      rw [upV_same]
      refine ⟨tk, an, L, A, h2, ?_, ?_⟩
      · simpa [outsP, o0, m0, kc] using C
      · simp [outsP, o0, m0]
end
end Go.Proofs.Qxb6500369a
