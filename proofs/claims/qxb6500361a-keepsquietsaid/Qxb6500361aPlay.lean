/-
  Do on the real list, DoM on the model: every kind of step.
-/
import Derived.Test.Qxb6500361aSpec
import Derived.Test.Qxb6500361aDel
import Derived.Test.Qxb6500361aCheck
import Derived.Test.Qxb6500361aEdges
import Derived.Test.Qxb6500361aMDel
namespace Go.Proofs.Qxb6500361a
open Go.RowKit Go.Qx
set_option linter.unusedSimpArgs false
set_option linter.unusedVariables false

/-- The blocks that a step on the real side may turn. -/
def ownC (c l hd : Nat) (nds : List Nd) (x : Nat) : Prop := x = c ∨ own l hd nds x

/-- Behind a step of the real side: the list with the keys ts and the purse p; its nodes are old ones, or new. -/
def RA (w : World) (c l hd : Nat) (nds : List Nd) (ts : List K3) (p : List UInt8) (w' : World) : Prop :=
  ∃ nds' s' top', Rep w' c l hd s' nds' top' ∧ kvh nds' = ts ∧ s' = str p ∧ ∀ d ∈ nds', (∃ e ∈ nds, d.addr = e.addr) ∨ w.heap.size ≤ d.addr

theorem RA.same {w w' : World} {c l hd : Nat} {s : ByteArray} {nds : List Nd} {top : Nat} (r : Rep w' c l hd s nds top) : RA w c l hd nds (kvh nds) s.data.toList w' :=
  ⟨nds, s, top, r, rfl, str_of s, fun d h => .inl ⟨d, h, rfl⟩⟩

theorem ownC_lt {w : World} {c l hd : Nat} {s : ByteArray} {nds : List Nd} {top : Nat} (r : Rep w c l hd s nds top) {x : Nat} (h : ownC c l hd nds x) : x < w.heap.size := by
  rcases h with rfl | rfl | rfl | ⟨d, hd, rfl⟩
  · exact r.coin.lt
  · exact r.list.lt
  · exact r.head.lt
  · exact r.addr_lt hd

theorem did_rep {w w' : World} {c l hd : Nat} {s : ByteArray} {nds : List Nd} {top : Nat} (r : Rep w c l hd s nds top) {S : Nat → Prop} {ts : List K3} {p : List UInt8} (h : Did S (fun W w1 => RA W c l hd nds ts p w1) w w') : Chg S w w' ∧ RA w c l hd nds ts p w' := by
  obtain ⟨h1, W, w1, hz, hq, hch, ⟨nds', s', top', r', hk, hs, hold⟩, hD⟩ := h
  have h2 := r.coin.lt
  have h3 := r.list.lt
  have h4 := r.head.lt
  refine ⟨h1, nds', s', top', r'.of_chg hD (by omega) (by omega) (by omega) ?_, hk, hs, ?_⟩
  · intro d hd
    rcases hold d hd with ⟨e, he, hea⟩ | h
    · have := r.addr_lt he; omega
    · omega
  · intro d hd
    rcases hold d hd with h | h
    · exact .inl h
    · right; omega

def DoPost (w : World) (c l hd : Nat) (nds : List Nd) (s : ByteArray) (o : Opr) (e : Ending) (w' : World) : Prop :=
  e = .returned (anOf (ansA (kvh nds) o)) ∧ Chg (ownC c l hd nds) w w' ∧ RA w c l hd nds (nextT (kvh nds) s.data.toList o) (nextP (kvh nds) s.data.toList o) w'

theorem pure_same {ts : List K3} {p : List UInt8} {o : Opr} (h2 : o.k ≠ 2) (h4 : o.k ≠ 4) : nextT ts p o = ts ∧ nextP ts p o = p := by
  unfold nextT nextP; simp [h2, h4]

theorem lt_kvh {pre : List Nd} {k : Int} (h : ∀ x ∈ pre, x.key < k) : ∀ t ∈ kvh pre, t.1 < k := by
  intro t ht; obtain ⟨d, hd, rfl⟩ := mem_kvh ht; exact h d hd
theorem gt_kvh {pre : List Nd} {k : Int} (h : ∀ x ∈ pre, k < x.key) : ∀ t ∈ kvh pre, k < t.1 := by
  intro t ht; obtain ⟨d, hd, rfl⟩ := mem_kvh ht; exact h d hd

theorem hit_yes {pre suf : List Nd} {d : Nd} (h1 : ∀ x ∈ pre, x.key < d.key) (h2 : ∀ x ∈ suf, d.key < x.key) : hit d.key (kvh (pre ++ d :: suf)) = some ((d.key, d.val, d.h), kvh suf) ∧ lo d.key (kvh (pre ++ d :: suf)) = kvh pre := by
  rw [kvh_append, kvh_cons]
  refine ⟨hit_some (lt_kvh h1) rfl (fun t ht => by have := gt_kvh h2 t ht; omega), (lo_hi (lt_kvh h1) ?_).1⟩
  intro t ht
  rcases List.mem_cons.1 ht with rfl | h
  · simp
  · have := gt_kvh h2 t h; omega

theorem hit_no {pre suf : List Nd} {k : Int} (h1 : ∀ x ∈ pre, x.key < k) (h2 : ∀ x ∈ suf, k < x.key) : hit k (kvh (pre ++ suf)) = none ∧ lo k (kvh (pre ++ suf)) = kvh pre ∧ hi k (kvh (pre ++ suf)) = kvh suf := by
  rw [kvh_append]
  have h3 : ∀ t ∈ kvh suf, k ≤ t.1 := fun t ht => by have := gt_kvh h2 t ht; omega
  exact ⟨hit_none (lt_kvh h1) (gt_kvh h2), (lo_hi (lt_kvh h1) h3).1, (lo_hi (lt_kvh h1) h3).2⟩

theorem do_pure (w : World) (c l hd : Nat) (s : ByteArray) (nds : List Nd) (top : Nat) (r : Rep w c l hd s nds top) (o : Opr) (h2 : o.k ≠ 2) (h4 : o.k ≠ 4) :
    Calls Try.prog 30 #[ptr l, opOf o] w (DoPost w c l hd nds s o) := by
  obtain ⟨k, a, b, cc, os, ot⟩ := o
  simp only at h2 h4
  obtain ⟨e1, e2⟩ := pure_same (ts := kvh nds) (p := s.data.toList) (o := ⟨k, a, b, cc, os, ot⟩) h2 h4
  have fin : ∀ e w' (x : An), e = .returned (anOf x) → x = ansA (kvh nds) ⟨k, a, b, cc, os, ot⟩ → Did (ownC c l hd nds) (fun W w1 => RA W c l hd nds (kvh nds) s.data.toList w1) w w' → DoPost w c l hd nds s ⟨k, a, b, cc, os, ot⟩ e w' := by
    intro e w' x he hx hd'
    obtain ⟨g1, g2⟩ := did_rep r hd'
    refine ⟨by rw [he, hx], g1, ?_⟩
    rw [e1, e2]; exact g2
  have cal : ∀ (W : World) (f : Nat) (args : Array Value) (v : Value), Quiet w W → (∀ W', Rep W' c l hd s nds top → Calls Try.prog f args W' fun e w' => e = .returned v ∧ Quiet W' w') →
      Calls Try.prog f args W fun e w1 => e = .returned v ∧ Chg (ownC c l hd nds) W w1 ∧ RA W c l hd nds (kvh nds) s.data.toList w1 := by
    intro W f args v hW hc
    refine (hc W (r.quiet hW)).mono ?_
    rintro e w1 ⟨rfl, hq⟩
    exact ⟨rfl, hq.chg _, RA.same ((r.quiet hW).quiet hq)⟩
  by_cases h3 : k = 3
  · subst h3
    rcases three nds a r.sorted with ⟨pre, d, suf, rfl, rfl, hp, hs⟩ | ⟨pre, suf, rfl, hp, hs⟩
    · refine (do_get_of w l d.key b cc os ot 0 d.val _ _ (fun x h => ownC_lt r h) (fun W hW _ => cal W _ _ _ hW (fun W' r' => get_hit W' c l hd s pre suf d top r' hp (fun x hx => by have := hs x hx; omega)))).mono ?_
      rintro e w' ⟨he, hd'⟩
      exact fin e w' ⟨0, 0, 0, d.val⟩ he (by simp [ansA, (hit_yes hp hs).1]) hd'
    · refine (do_get_of w l a b cc os ot 3 ⟨#[]⟩ _ _ (fun x h => ownC_lt r h) (fun W hW _ => cal W _ _ _ hW (fun W' r' => get_miss W' c l hd s pre suf top a r' hp hs))).mono ?_
      rintro e w' ⟨he, hd'⟩
      exact fin e w' ⟨3, 0, 0, ⟨#[]⟩⟩ he (by simp [ansA, (hit_no hp hs).1]) hd'
  by_cases h5 : k = 5
  · subst h5
    rcases three nds a r.sorted with ⟨pre, d, suf, rfl, rfl, hp, hs⟩ | ⟨pre, suf, rfl, hp, hs⟩
    · refine (do_floor_of w l d.key b cc os ot 0 d.key d.val _ _ (fun x h => ownC_lt r h) (fun W hW _ => cal W _ _ _ hW (fun W' r' => floor_hit W' c l hd s pre suf d top r' hp (fun x hx => by have := hs x hx; omega)))).mono ?_
      rintro e w' ⟨he, hd'⟩
      exact fin e w' ⟨0, d.key, 0, d.val⟩ he (by simp [ansA, (hit_yes hp hs).1]) hd'
    · rcases List.eq_nil_or_concat pre with rfl | ⟨pre', d, rfl⟩
      · refine (do_floor_of w l a b cc os ot 3 0 ⟨#[]⟩ _ _ (fun x h => ownC_lt r h) (fun W hW _ => cal W _ _ _ hW (fun W' r' => floor_none W' c l hd s suf top a r' hs))).mono ?_
        rintro e w' ⟨he, hd'⟩
        exact fin e w' ⟨3, 0, 0, ⟨#[]⟩⟩ he (by have h1 := hit_no hp hs; simp only [ansA, h1.1, h1.2.1]; simp [kvh]) hd'
      · rw [List.concat_eq_append] at *
        refine (do_floor_of w l a b cc os ot 0 d.key d.val _ _ (fun x h => ownC_lt r h) (fun W hW _ => cal W _ _ _ hW (fun W' r' => floor_low W' c l hd s pre' suf d top a r' hp hs))).mono ?_
        rintro e w' ⟨he, hd'⟩
        exact fin e w' ⟨0, d.key, 0, d.val⟩ he (by have h1 := hit_no hp hs; simp only [ansA, h1.1, h1.2.1]; simp [kvh]) hd'
  by_cases h6 : k = 6
  · subst h6
    refine (do_scan_of w l a b cc os ot _ _ _ _ (fun x h => ownC_lt r h) (fun W hW _ => cal W _ _ _ hW (fun W' r' => scan_any W' c l hd s nds top a b r'))).mono ?_
    rintro e w' ⟨he, hd'⟩
    exact fin e w' ⟨0, _, 0, _⟩ he (by simp only [ansA, rng_same, ← pairs_same, kv_length, kvh_length]; simp; rfl) hd'
  by_cases h7 : k = 7
  · subst h7
    refine (do_show_of w l a b cc os ot _ _ _ (fun x h => ownC_lt r h) (fun W hW _ => cal W _ _ _ hW (fun W' r' => show_any W' c l hd s nds top r'))).mono ?_
    rintro e w' ⟨he, hd'⟩
    exact fin e w' ⟨0, 0, 0, _⟩ he (by simp only [ansA, ← pairs_same]; simp; rfl) hd'
  by_cases h8 : k = 8
  · subst h8
    refine (do_check_of w l a b cc os ot _ _ (fun x h => ownC_lt r h) (fun W hW _ => cal W _ _ _ hW (fun W' r' => check_any W' c l hd s nds top r'))).mono ?_
    rintro e w' ⟨he, hd'⟩
    exact fin e w' ⟨0, 1, 0, ⟨#[]⟩⟩ he (by simp [ansA]) hd'
  · refine (do_none_of w l k a b cc os ot (by simpa using h2) (by simpa using h3) (by simpa using h4) (by simpa using h5) (by simpa using h6) (by simpa using h7) (by simpa using h8)).mono ?_
    rintro e w' ⟨he, hq⟩
    refine ⟨by rw [he]; simp [ansA, anOf, h2, h3, h4, h5, h6, h7, h8], hq.chg _, ?_⟩
    rw [e1, e2]; exact RA.same (r.quiet hq)

theorem RA.insert {w w' : World} {c l hd : Nat} {s' : ByteArray} {nds nds' : List Nd} {top : Nat} {ts : List K3} {p : List UInt8} (r : Rep w' c l hd s' nds' top) (hk : kvh nds' = ts) (hs : s' = str p)
    (ho : ∀ d ∈ nds', (∃ e ∈ nds, d.addr = e.addr) ∨ w.heap.size ≤ d.addr) : RA w c l hd nds ts p w' := ⟨nds', s', top, r, hk, hs, ho⟩

theorem do_put (w : World) (c l hd : Nat) (s : ByteArray) (nds : List Nd) (top : Nat) (r : Rep w c l hd s nds top) (o : Opr) (hk : o.k = 2) (hs : o.s.size ≤ maxLen) (ha1 : -9223372036854775808 ≤ o.a) (ha2 : o.a ≤ 9223372036854775807) :
    Calls Try.prog 30 #[ptr l, opOf o] w (DoPost w c l hd nds s o) := by
  obtain ⟨k, a, b, cc, os, ot⟩ := o
  simp only at hk hs ha1 ha2
  subst hk
  by_cases hv : 8 < os.size
  · refine (do_put_of w l a b cc os ot 1 (fun W w1 => RA W c l hd nds (kvh nds) s.data.toList w1) (ownC c l hd nds) (fun x h => ownC_lt r h) (fun W hW _ => ?_)).mono ?_
    · refine (put_long W l a os hv hs).mono ?_
      rintro e w1 ⟨rfl, rfl⟩
      exact ⟨rfl, Chg.refl _ _, RA.same (r.quiet hW)⟩
    · rintro e w' ⟨he, hd'⟩
      obtain ⟨g1, g2⟩ := did_rep r hd'
      exact ⟨by rw [he]; simp [ansA, anOf, hv], g1, by simpa [nextT, nextP, hv] using g2⟩
  have hv8 : os.size ≤ 8 := by omega
  rcases three nds a r.sorted with ⟨pre, d, suf, rfl, rfl, hp, hs2⟩ | ⟨pre, suf, rfl, hp, hs2⟩
  · have h1 := hit_yes hp hs2
    refine (do_put_of w l d.key b cc os ot 0 (fun W w1 => RA W c l hd (pre ++ d :: suf) (kvh pre ++ (d.key, os, d.h) :: kvh suf) s.data.toList w1) (ownC c l hd (pre ++ d :: suf)) (fun x h => ownC_lt r h) (fun W hW _ => ?_)).mono ?_
    · refine (put_hit W c l hd s pre suf d top os hv8 (r.quiet hW) hp (fun x hx => by have := hs2 x hx; omega)).mono ?_
      rintro e w1 ⟨rfl, hch, r1⟩
      refine ⟨rfl, hch.mono (fun _ _ h => .inr h), RA.insert r1 (by rw [kvh_append, kvh_cons]) (str_of s) ?_⟩
      intro x hx
      left
      simp only [List.mem_append, List.mem_cons] at hx
      rcases hx with hx | rfl | hx
      · exact ⟨x, by simp [hx], rfl⟩
      · exact ⟨d, by simp, rfl⟩
      · exact ⟨x, by simp [hx], rfl⟩
    · rintro e w' ⟨he, hd'⟩
      obtain ⟨g1, g2⟩ := did_rep r hd'
      refine ⟨by rw [he]; simp [ansA, anOf, hv, h1.1], g1, ?_⟩
      simpa [nextT, nextP, hv, h1.1, h1.2] using g2
  · have h1 := hit_no hp hs2
    by_cases hfull : 12 ≤ (pre ++ suf).length
    · have hfull' : 12 ≤ (kvh (pre ++ suf)).length := by rw [kvh_length]; exact hfull
      refine (do_put_of w l a b cc os ot 2 (fun W w1 => RA W c l hd (pre ++ suf) (kvh (pre ++ suf)) s.data.toList w1) (ownC c l hd (pre ++ suf)) (fun x h => ownC_lt r h) (fun W hW _ => ?_)).mono ?_
      · refine (put_full W c l hd s pre suf top a os hv8 (r.quiet hW) hp hs2 hfull).mono ?_
        rintro e w1 ⟨rfl, hq⟩
        exact ⟨rfl, hq.chg _, RA.same ((r.quiet hW).quiet hq)⟩
      · rintro e w' ⟨he, hd'⟩
        obtain ⟨g1, g2⟩ := did_rep r hd'
        refine ⟨by rw [he]; simp only [ansA, anOf, hv, h1.1, hfull']; rfl, g1, ?_⟩
        simp only [nextT, nextP, hv, h1.1, hfull', if_true, if_false, Option.isSome_none, Bool.false_eq_true]
        exact g2
    · have hfull' : ¬ 12 ≤ (kvh (pre ++ suf)).length := by rw [kvh_length]; exact hfull
      refine (do_put_of w l a b cc os ot 0 (fun W w1 => RA W c l hd (pre ++ suf) (kvh pre ++ (a, os, (toss 7 s.data.toList).1) :: kvh suf) (toss 7 s.data.toList).2 w1) (ownC c l hd (pre ++ suf)) (fun x h => ownC_lt r h) (fun W hW _ => ?_)).mono ?_
      · refine (put_new W c l hd s pre suf top a os hv8 ha1 ha2 (r.quiet hW) hp hs2 (by omega)).mono ?_
        rintro e w1 ⟨rfl, hch, ad, had, r1⟩
        refine ⟨rfl, hch, RA.insert r1 (by rw [kvh_append, kvh_cons]) rfl ?_⟩
        intro x hx
        simp only [List.mem_append, List.mem_cons] at hx
        rcases hx with hx | rfl | hx
        · exact .inl ⟨x, by simp [hx], rfl⟩
        · exact .inr had
        · exact .inl ⟨x, by simp [hx], rfl⟩
      · rintro e w' ⟨he, hd'⟩
        obtain ⟨g1, g2⟩ := did_rep r hd'
        refine ⟨by rw [he]; simp only [ansA, anOf, hv, h1.1, hfull']; rfl, g1, ?_⟩
        simp only [nextT, nextP, hv, h1.1, h1.2.1, h1.2.2, hfull', if_true, if_false, Option.isSome_none, Bool.false_eq_true]
        exact g2

theorem do_del (w : World) (c l hd : Nat) (s : ByteArray) (nds : List Nd) (top : Nat) (r : Rep w c l hd s nds top) (o : Opr) (hk : o.k = 4) :
    Calls Try.prog 30 #[ptr l, opOf o] w (DoPost w c l hd nds s o) := by
  obtain ⟨k, a, b, cc, os, ot⟩ := o
  simp only at hk
  subst hk
  rcases three nds a r.sorted with ⟨pre, d, suf, rfl, rfl, hp, hs2⟩ | ⟨pre, suf, rfl, hp, hs2⟩
  · have h1 := hit_yes hp hs2
    refine (do_del_of w l d.key b cc os ot 0 (fun W w1 => RA W c l hd (pre ++ d :: suf) (kvh pre ++ kvh suf) s.data.toList w1) (ownC c l hd (pre ++ d :: suf)) (fun x h => ownC_lt r h) (fun W hW _ => ?_)).mono ?_
    · refine (del_hit W c l hd s pre suf d top (r.quiet hW) hp (fun x hx => by have := hs2 x hx; omega)).mono ?_
      rintro e w1 ⟨rfl, hch, top', r1⟩
      refine ⟨rfl, hch.mono (fun _ _ h => .inr h), RA.insert r1 (by rw [kvh_append]) (str_of s) ?_⟩
      intro x hx
      left
      simp only [List.mem_append] at hx
      rcases hx with hx | hx
      · exact ⟨x, by simp [hx], rfl⟩
      · exact ⟨x, by simp [hx], rfl⟩
    · rintro e w' ⟨he, hd'⟩
      obtain ⟨g1, g2⟩ := did_rep r hd'
      refine ⟨by rw [he]; simp [ansA, anOf, h1.1], g1, ?_⟩
      simpa [nextT, nextP, h1.1, h1.2] using g2
  · have h1 := hit_no hp hs2
    refine (do_del_of w l a b cc os ot 3 (fun W w1 => RA W c l hd (pre ++ suf) (kvh (pre ++ suf)) s.data.toList w1) (ownC c l hd (pre ++ suf)) (fun x h => ownC_lt r h) (fun W hW _ => ?_)).mono ?_
    · refine (del_miss W c l hd s pre suf top a (r.quiet hW) hp hs2).mono ?_
      rintro e w1 ⟨rfl, hq⟩
      exact ⟨rfl, hq.chg _, RA.same ((r.quiet hW).quiet hq)⟩
    · rintro e w' ⟨he, hd'⟩
      obtain ⟨g1, g2⟩ := did_rep r hd'
      refine ⟨by rw [he]; simp [ansA, anOf, h1.1], g1, ?_⟩
      simpa [nextT, nextP, h1.1] using g2

/-- DO, WHATEVER THE STEP. -/
theorem do_any (w : World) (c l hd : Nat) (s : ByteArray) (nds : List Nd) (top : Nat) (r : Rep w c l hd s nds top) (o : Opr) (hs : o.s.size ≤ maxLen) (ha1 : -9223372036854775808 ≤ o.a) (ha2 : o.a ≤ 9223372036854775807) :
    Calls Try.prog 30 #[ptr l, opOf o] w (DoPost w c l hd nds s o) := by
  by_cases h2 : o.k = 2
  · exact do_put w c l hd s nds top r o h2 hs ha1 ha2
  by_cases h4 : o.k = 4
  · exact do_del w c l hd s nds top r o h4
  · exact do_pure w c l hd s nds top r o h2 h4
end Go.Proofs.Qxb6500361a
