/-
  DoM on the model: every kind of step.
-/
import Derived.Test.Qxb6500361aSpec
import Derived.Test.Qxb6500361aMDel
namespace Go.Proofs.Qxb6500361a
open Go.RowKit Go.Qx
set_option linter.unusedSimpArgs false
set_option linter.unusedVariables false

theorem mown_lt {w : World} {m b : Nat} {ps : List (Int × ByteArray)} (r : MRep w m b ps) {x : Nat} (h : mown m b x) : x < w.heap.size := by
  rcases h with rfl | rfl
  · exact r.list.lt
  · obtain ⟨_, _, h⟩ := r.rows; exact h.lt

theorem did_mrep {w w' : World} {m b : Nat} {ps ps' : List (Int × ByteArray)} (r : MRep w m b ps) {S : Nat → Prop} (h : Did S (fun _ w1 => MRep w1 m b ps') w w') : Chg S w w' ∧ MRep w' m b ps' := by
  obtain ⟨h1, W, w1, hz, hq, hch, r', hD⟩ := h
  have h2 := mown_lt r (.inl rfl)
  have h3 := mown_lt r (.inr rfl)
  exact ⟨h1, r'.of_chg hD (by omega) (by omega)⟩

def DomPost (w : World) (m b : Nat) (ts : List K3) (p : List UInt8) (o : Opr) (e : Ending) (w' : World) : Prop :=
  e = .returned (anOf (ansA ts o)) ∧ Chg (mown m b) w w' ∧ MRep w' m b (kv (nextT ts p o))

theorem lt_kv {pre : List K3} {k : Int} (h : ∀ x ∈ pre, x.1 < k) : ∀ t ∈ kv pre, t.1 < k := by
  intro t ht; obtain ⟨d, hd, rfl⟩ := mem_kv ht; exact h d hd
theorem gt_kv {pre : List K3} {k : Int} (h : ∀ x ∈ pre, k < x.1) : ∀ t ∈ kv pre, k < t.1 := by
  intro t ht; obtain ⟨d, hd, rfl⟩ := mem_kv ht; exact h d hd

theorem three3 (ts : List K3) (k : Int) (hs : ts.Pairwise fun a b => a.1 < b.1) :
    (∃ pre d suf, ts = pre ++ d :: suf ∧ d.1 = k ∧ (∀ x ∈ pre, x.1 < k) ∧ ∀ x ∈ suf, k < x.1) ∨ ∃ pre suf, ts = pre ++ suf ∧ (∀ x ∈ pre, x.1 < k) ∧ ∀ x ∈ suf, k < x.1 := by
  induction ts with
  | nil => exact .inr ⟨[], [], rfl, by simp, by simp⟩
  | cons x ts ih =>
    rw [List.pairwise_cons] at hs
    by_cases h1 : x.1 < k
    · rcases ih hs.2 with ⟨pre, d, suf, rfl, hd, hp, hs2⟩ | ⟨pre, suf, rfl, hp, hs2⟩
      · left
        refine ⟨x :: pre, d, suf, rfl, hd, ?_, hs2⟩
        intro y hy; rcases List.mem_cons.1 hy with rfl | hy
        · exact h1
        · exact hp y hy
      · right
        refine ⟨x :: pre, suf, rfl, ?_, hs2⟩
        intro y hy; rcases List.mem_cons.1 hy with rfl | hy
        · exact h1
        · exact hp y hy
    · by_cases h2 : x.1 = k
      · left
        exact ⟨[], x, ts, rfl, h2, by simp, fun y hy => by have := hs.1 y hy; omega⟩
      · right
        refine ⟨[], x :: ts, rfl, by simp, ?_⟩
        intro y hy; rcases List.mem_cons.1 hy with rfl | hy
        · omega
        · have := hs.1 y hy; omega

theorem sorted_kv {ts : List K3} (h : (kv ts).Pairwise fun x y => x.1 < y.1) : ts.Pairwise fun a b => a.1 < b.1 := by
  unfold kv at h; rw [List.pairwise_map] at h; exact h

theorem hit_yes3 {pre suf : List K3} {d : K3} (h1 : ∀ x ∈ pre, x.1 < d.1) (h2 : ∀ x ∈ suf, d.1 < x.1) : hit d.1 (pre ++ d :: suf) = some (d, suf) ∧ lo d.1 (pre ++ d :: suf) = pre := by
  refine ⟨hit_some h1 rfl (fun t ht => by have := h2 t ht; omega), (lo_hi h1 ?_).1⟩
  intro t ht
  rcases List.mem_cons.1 ht with rfl | h
  · omega
  · have := h2 t h; omega

theorem hit_no3 {pre suf : List K3} {k : Int} (h1 : ∀ x ∈ pre, x.1 < k) (h2 : ∀ x ∈ suf, k < x.1) : hit k (pre ++ suf) = none ∧ lo k (pre ++ suf) = pre ∧ hi k (pre ++ suf) = suf := by
  have h3 : ∀ t ∈ suf, k ≤ t.1 := fun t ht => by have := h2 t ht; omega
  exact ⟨hit_none h1 h2, (lo_hi h1 h3).1, (lo_hi h1 h3).2⟩

/-- DOM, WHATEVER THE STEP. -/
theorem dom_any (w : World) (m bb : Nat) (ts : List K3) (p : List UInt8) (r : MRep w m bb (kv ts)) (o : Opr) (hs : o.s.size ≤ maxLen) (ha1 : -9223372036854775808 ≤ o.a) (ha2 : o.a ≤ 9223372036854775807) :
    Calls Try.prog 33 #[ptr m, opOf o] w (DomPost w m bb ts p o) := by
  obtain ⟨k, a, b, cc, os, ot⟩ := o
  simp only at hs ha1 ha2
  have hsort := sorted_kv r.sorted
  have fin : ∀ e w' (x : An), e = .returned (anOf x) → x = ansA ts ⟨k, a, b, cc, os, ot⟩ → Did (mown m bb) (fun _ w1 => MRep w1 m bb (kv (nextT ts p ⟨k, a, b, cc, os, ot⟩))) w w' → DomPost w m bb ts p ⟨k, a, b, cc, os, ot⟩ e w' := by
    intro e w' x he hx hd'
    obtain ⟨g1, g2⟩ := did_mrep r hd'
    exact ⟨by rw [he, hx], g1, g2⟩
  have cal : ∀ (W : World) (f : Nat) (args : Array Value) (v : Value), Quiet w W → (∀ W', MRep W' m bb (kv ts) → Calls Try.prog f args W' fun e w' => e = .returned v ∧ Quiet W' w') →
      Calls Try.prog f args W fun e w1 => e = .returned v ∧ Chg (mown m bb) W w1 ∧ MRep w1 m bb (kv ts) := by
    intro W f args v hW hc
    refine (hc W (r.quiet hW)).mono ?_
    rintro e w1 ⟨rfl, hq⟩
    exact ⟨rfl, hq.chg _, (r.quiet hW).quiet hq⟩
  by_cases h2 : k = 2
  · subst h2
    by_cases hv : 8 < os.size
    · refine (dom_put_of w m a b cc os ot 1 (fun W w1 => MRep w1 m bb (kv ts)) (mown m bb) (fun x h => mown_lt r h) (fun W hW _ => ?_)).mono ?_
      · refine (mput_long W m a os hv hs).mono ?_
        rintro e w1 ⟨rfl, rfl⟩
        exact ⟨rfl, Chg.refl _ _, r.quiet hW⟩
      · rintro e w' ⟨he, hd'⟩
        exact fin e w' ⟨1, 0, 0, ⟨#[]⟩⟩ he (by simp [ansA, hv]) (by simpa [nextT, hv] using hd')
    have hv8 : os.size ≤ 8 := by omega
    rcases three3 ts a hsort with ⟨pre, d, suf, rfl, rfl, hp, hs2⟩ | ⟨pre, suf, rfl, hp, hs2⟩
    · have h1 := hit_yes3 hp hs2
      refine (dom_put_of w m d.1 b cc os ot 0 (fun W w1 => MRep w1 m bb (kv (pre ++ (d.1, os, d.2.2) :: suf))) (mown m bb) (fun x h => mown_lt r h) (fun W hW _ => ?_)).mono ?_
      · have r' := r.quiet hW
        rw [kv_append, kv_cons] at r' ⊢
        exact mput_hit W m bb (kv pre) (kv suf) (d.1, d.2.1) os hv8 r' (lt_kv hp) (fun x hx => by have := gt_kv hs2 x hx; simp only; omega)
      · rintro e w' ⟨he, hd'⟩
        exact fin e w' ⟨0, 0, 0, ⟨#[]⟩⟩ he (by simp [ansA, hv, h1.1]) (by simpa [nextT, hv, h1.1, h1.2] using hd')
    · have h1 := hit_no3 hp hs2
      by_cases hfull : 12 ≤ (pre ++ suf).length
      · refine (dom_put_of w m a b cc os ot 2 (fun W w1 => MRep w1 m bb (kv (pre ++ suf))) (mown m bb) (fun x h => mown_lt r h) (fun W hW _ => ?_)).mono ?_
        · have r' := r.quiet hW
          rw [kv_append] at r' ⊢
          refine (mput_full W m bb (kv pre) (kv suf) a os hv8 r' (lt_kv hp) (gt_kv hs2) (by rw [← kv_append, kv_length]; exact hfull)).mono ?_
          rintro e w1 ⟨rfl, hq⟩
          exact ⟨rfl, hq.chg _, r'.quiet hq⟩
        · rintro e w' ⟨he, hd'⟩
          exact fin e w' ⟨2, 0, 0, ⟨#[]⟩⟩ he (by simp only [ansA, hv, h1.1, hfull]; rfl) (by simp only [nextT, hv, h1.1, hfull, if_true, if_false]; exact hd')
      · refine (dom_put_of w m a b cc os ot 0 (fun W w1 => MRep w1 m bb (kv (pre ++ (a, os, (toss 7 p).1) :: suf))) (mown m bb) (fun x h => mown_lt r h) (fun W hW _ => ?_)).mono ?_
        · have r' := r.quiet hW
          rw [kv_append] at r'
          rw [kv_append, kv_cons]
          exact mput_new W m bb (kv pre) (kv suf) a os hv8 ha1 ha2 r' (lt_kv hp) (gt_kv hs2) (by rw [← kv_append, kv_length]; omega)
        · rintro e w' ⟨he, hd'⟩
          exact fin e w' ⟨0, 0, 0, ⟨#[]⟩⟩ he (by simp only [ansA, hv, h1.1, hfull]; rfl) (by simp only [nextT, hv, h1.1, h1.2.1, h1.2.2, hfull, if_true, if_false]; exact hd')
  by_cases h4 : k = 4
  · subst h4
    rcases three3 ts a hsort with ⟨pre, d, suf, rfl, rfl, hp, hs2⟩ | ⟨pre, suf, rfl, hp, hs2⟩
    · have h1 := hit_yes3 hp hs2
      refine (dom_del_of w m d.1 b cc os ot 0 (fun W w1 => MRep w1 m bb (kv (pre ++ suf))) (mown m bb) (fun x h => mown_lt r h) (fun W hW _ => ?_)).mono ?_
      · have r' := r.quiet hW
        rw [kv_append, kv_cons] at r'
        rw [kv_append]
        exact mdel_hit W m bb (kv pre) (kv suf) (d.1, d.2.1) r' (lt_kv hp) (fun x hx => by have := gt_kv hs2 x hx; simp only; omega)
      · rintro e w' ⟨he, hd'⟩
        exact fin e w' ⟨0, 0, 0, ⟨#[]⟩⟩ he (by simp [ansA, h1.1]) (by simpa [nextT, h1.1, h1.2] using hd')
    · have h1 := hit_no3 hp hs2
      refine (dom_del_of w m a b cc os ot 3 (fun W w1 => MRep w1 m bb (kv (pre ++ suf))) (mown m bb) (fun x h => mown_lt r h) (fun W hW _ => ?_)).mono ?_
      · have r' := r.quiet hW
        rw [kv_append] at r' ⊢
        refine (mdel_miss W m bb (kv pre) (kv suf) a r' (lt_kv hp) (gt_kv hs2)).mono ?_
        rintro e w1 ⟨rfl, hq⟩
        exact ⟨rfl, hq.chg _, r'.quiet hq⟩
      · rintro e w' ⟨he, hd'⟩
        exact fin e w' ⟨3, 0, 0, ⟨#[]⟩⟩ he (by simp [ansA, h1.1]) (by simpa [nextT, h1.1] using hd')
  have hsame : nextT ts p ⟨k, a, b, cc, os, ot⟩ = ts := by unfold nextT; simp [h2, h4]
  rw [hsame] at fin
  by_cases h3 : k = 3
  · subst h3
    rcases three3 ts a hsort with ⟨pre, d, suf, rfl, rfl, hp, hs2⟩ | ⟨pre, suf, rfl, hp, hs2⟩
    · refine (dom_get_of w m d.1 b cc os ot 0 d.2.1 _ _ (fun x h => mown_lt r h) (fun W hW _ => cal W _ _ _ hW (fun W' r' => ?_))).mono ?_
      · rw [kv_append, kv_cons] at r'
        exact mget_hit W' m bb (kv pre) (kv suf) (d.1, d.2.1) r' (lt_kv hp) (fun x hx => by have := gt_kv hs2 x hx; simp only; omega)
      · rintro e w' ⟨he, hd'⟩
        exact fin e w' ⟨0, 0, 0, d.2.1⟩ he (by simp [ansA, (hit_yes3 hp hs2).1]) hd'
    · refine (dom_get_of w m a b cc os ot 3 ⟨#[]⟩ _ _ (fun x h => mown_lt r h) (fun W hW _ => cal W _ _ _ hW (fun W' r' => ?_))).mono ?_
      · rw [kv_append] at r'
        exact mget_miss W' m bb (kv pre) (kv suf) a r' (lt_kv hp) (gt_kv hs2)
      · rintro e w' ⟨he, hd'⟩
        exact fin e w' ⟨3, 0, 0, ⟨#[]⟩⟩ he (by simp [ansA, (hit_no3 hp hs2).1]) hd'
  by_cases h5 : k = 5
  · subst h5
    rcases three3 ts a hsort with ⟨pre, d, suf, rfl, rfl, hp, hs2⟩ | ⟨pre, suf, rfl, hp, hs2⟩
    · refine (dom_floor_of w m d.1 b cc os ot 0 d.1 d.2.1 _ _ (fun x h => mown_lt r h) (fun W hW _ => cal W _ _ _ hW (fun W' r' => ?_))).mono ?_
      · rw [kv_append, kv_cons] at r'
        exact mfloor_hit W' m bb (kv pre) (kv suf) (d.1, d.2.1) r' (lt_kv hp) (fun x hx => by have := gt_kv hs2 x hx; simp only; omega)
      · rintro e w' ⟨he, hd'⟩
        exact fin e w' ⟨0, d.1, 0, d.2.1⟩ he (by simp [ansA, (hit_yes3 hp hs2).1]) hd'
    · rcases List.eq_nil_or_concat pre with rfl | ⟨pre', d, rfl⟩
      · refine (dom_floor_of w m a b cc os ot 3 0 ⟨#[]⟩ _ _ (fun x h => mown_lt r h) (fun W hW _ => cal W _ _ _ hW (fun W' r' => ?_))).mono ?_
        · exact mfloor_none W' m bb (kv suf) a r' (gt_kv hs2)
        · rintro e w' ⟨he, hd'⟩
          exact fin e w' ⟨3, 0, 0, ⟨#[]⟩⟩ he (by have h1 := hit_no3 hp hs2; simp only [ansA, h1.1, h1.2.1]; simp) hd'
      · rw [List.concat_eq_append] at *
        refine (dom_floor_of w m a b cc os ot 0 d.1 d.2.1 _ _ (fun x h => mown_lt r h) (fun W hW _ => cal W _ _ _ hW (fun W' r' => ?_))).mono ?_
        · have h6 := lt_kv hp
          rw [kv_append, kv_append, kv_cons] at r'
          rw [kv_append, kv_cons] at h6
          exact mfloor_low W' m bb (kv pre') (kv suf) (d.1, d.2.1) a r' h6 (gt_kv hs2)
        · rintro e w' ⟨he, hd'⟩
          exact fin e w' ⟨0, d.1, 0, d.2.1⟩ he (by have h1 := hit_no3 hp hs2; simp only [ansA, h1.1, h1.2.1]; simp) hd'
  by_cases h6 : k = 6
  · subst h6
    refine (dom_scan_of w m a b cc os ot _ _ _ _ (fun x h => mown_lt r h) (fun W hW _ => cal W _ _ _ hW (fun W' r' => mscan_any W' m bb (kv ts) a b r'))).mono ?_
    rintro e w' ⟨he, hd'⟩
    exact fin e w' ⟨0, _, 0, _⟩ he (by simp [ansA]; rfl) hd'
  by_cases h7 : k = 7
  · subst h7
    refine (dom_show_of w m a b cc os ot _ _ _ (fun x h => mown_lt r h) (fun W hW _ => cal W _ _ _ hW (fun W' r' => mshow_any W' m bb (kv ts) r'))).mono ?_
    rintro e w' ⟨he, hd'⟩
    exact fin e w' ⟨0, 0, 0, _⟩ he (by simp [ansA]; rfl) hd'
  by_cases h8 : k = 8
  · subst h8
    refine (dom_check_of w m a b cc os ot _ _ (fun x h => mown_lt r h) (fun W hW _ => cal W _ _ _ hW (fun W' r' => mcheck_any W' m bb (kv ts) r'))).mono ?_
    rintro e w' ⟨he, hd'⟩
    exact fin e w' ⟨0, 1, 0, ⟨#[]⟩⟩ he (by simp [ansA]) hd'
  · refine (dom_none_of w m k a b cc os ot (by simpa using h2) (by simpa using h3) (by simpa using h4) (by simpa using h5) (by simpa using h6) (by simpa using h7) (by simpa using h8)).mono ?_
    rintro e w' ⟨he, hq⟩
    refine ⟨by rw [he]; simp [ansA, anOf, h2, h3, h4, h5, h6, h7, h8], hq.chg _, ?_⟩
    rw [hsame]; exact r.quiet hq
end Go.Proofs.Qxb6500361a
