/-
  owed, whatever the step.
-/
import Derived.Test.Qxb6500361aOwed
import Derived.Test.Qxb6500361aOwedDel
import Derived.Test.Qxb6500361aOwedPut
import Derived.Test.Qxb6500361aOwedPutB
namespace Go.Proofs.Qxb6500361a
open Go.RowKit Go.Qx
set_option linter.unusedSimpArgs false
set_option linter.unusedVariables false

theorem three3K : ∀ (ts : List K3) (k : Int), ts.Pairwise (fun a b => a.1 < b.1) →
    (∃ A q B, ts = A ++ q :: B ∧ (∀ t ∈ A, t.1 < k) ∧ q.1 = k ∧ ∀ t ∈ B, k < t.1) ∨ (∃ A B, ts = A ++ B ∧ (∀ t ∈ A, t.1 < k) ∧ ∀ t ∈ B, k < t.1)
  | [], k, _ => .inr ⟨[], [], rfl, by simp, by simp⟩
  | d :: ts, k, h => by
    have h2 := List.pairwise_cons.1 h
    rcases Int.lt_trichotomy d.1 k with hd | hd | hd
    · rcases three3K ts k h2.2 with ⟨A, q, B, rfl, hA, hq, hB⟩ | ⟨A, B, rfl, hA, hB⟩
      · exact .inl ⟨d :: A, q, B, rfl, by intro t ht; rcases List.mem_cons.1 ht with rfl | h; exact hd; exact hA t h, hq, hB⟩
      · exact .inr ⟨d :: A, B, rfl, by intro t ht; rcases List.mem_cons.1 ht with rfl | h; exact hd; exact hA t h, hB⟩
    · exact .inl ⟨[], d, ts, rfl, by simp, hd, fun t ht => by have := h2.1 t ht; omega⟩
    · exact .inr ⟨[], d :: ts, rfl, by simp, by intro t ht; rcases List.mem_cons.1 ht with rfl | h; exact hd; have := h2.1 t h; omega⟩

theorem cut_hit {A B : List K3} {q : K3} {k : Int} (hA : ∀ t ∈ A, t.1 < k) (hq : q.1 = k) (hB : ∀ t ∈ B, k < t.1) : Cut (A ++ q :: B) k (A.length + 1) where
  le := by simp
  lo := by
    intro i h hi
    by_cases h1 : i < A.length
    · rw [List.getElem_append_left h1]; have := hA _ (List.getElem_mem h1); omega
    · rw [List.getElem_append_right (by omega)]
      have : i - A.length = 0 := by omega
      simp only [this, List.getElem_cons_zero]; omega
  hi := by
    intro i h hi
    rw [List.getElem_append_right (by omega)]
    obtain ⟨n, hn⟩ : ∃ n, i - A.length = n + 1 := ⟨i - A.length - 1, by omega⟩
    simp only [hn, List.getElem_cons_succ]
    exact hB _ (List.getElem_mem _)

theorem cut_none {A B : List K3} {k : Int} (hA : ∀ t ∈ A, t.1 < k) (hB : ∀ t ∈ B, k < t.1) : Cut (A ++ B) k A.length where
  le := by simp
  lo := by
    intro i h hi
    rw [List.getElem_append_left hi]; have := hA _ (List.getElem_mem hi); omega
  hi := by
    intro i h hi
    rw [List.getElem_append_right hi]
    exact hB _ (List.getElem_mem _)

theorem has_hit {A B : List K3} {q : K3} {k : Int} (hq : q.1 = k) : HasAt (A ++ q :: B) k (A.length + 1) true :=
  .inl ⟨rfl, A.length, q, rfl, by simp, hq⟩

theorem has_none {A B : List K3} {k : Int} (hA : ∀ t ∈ A, t.1 < k) : HasAt (A ++ B) k A.length false := by
  refine .inr ⟨rfl, ?_⟩
  rcases List.eq_nil_or_concat A with rfl | ⟨l, d, rfl⟩
  · exact .inl rfl
  · right
    rw [List.concat_eq_append] at hA ⊢
    refine ⟨l.length, d, by simp, by simp, ?_⟩
    have := hA d (by simp)
    omega

theorem mrng_allK (ts : List K3) (hf : Fit ts) : mrng (-9223372036854775808) 9223372036854775807 (kv ts) = kv ts := by
  unfold mrng
  rw [List.filter_eq_self]
  intro x hx
  obtain ⟨t, ht, rfl⟩ := mem_kv hx
  have := (hf t ht).1
  simp
  omega

theorem str_id (p : ByteArray) : p = str p.data.toList := str_of p

theorem owed_any (w : World) (g a b v : Nat) (ts : List K3) (p : ByteArray) (r : Gh w g a b v ts p) (hs : ts.Pairwise (fun a b => a.1 < b.1)) (hf : Fit ts) (hp : p.size ≤ 32) (o : Opr) :
    Calls Try.prog 31 #[ptr g, opOf o, .string p] w fun e w' => e = .returned (.tuple #[anOf (ansK ts o), .string (str (nextP ts p.data.toList o))]) ∧ Chg (gown g a b v) w w' ∧ Gh w' g a b v (nextT ts p.data.toList o) p := by
  obtain ⟨k, oa, ob, oc, os, ot⟩ := o
  unfold opOf anOf
  have hpp := str_id p
  have fin : ∀ {E N S R TS}, ansK ts ⟨k, oa, ob, oc, os, ot⟩ = ⟨E, N, 0, S⟩ → str (nextP ts p.data.toList ⟨k, oa, ob, oc, os, ot⟩) = R → nextT ts p.data.toList ⟨k, oa, ob, oc, os, ot⟩ = TS →
      (Calls Try.prog 31 #[ptr g, opv k oa ob oc os ot, .string p] w fun e w' => e = .returned (.tuple #[ansv E N 0 S, .string R]) ∧ Chg (gown g a b v) w w' ∧ Gh w' g a b v TS p) →
      Calls Try.prog 31 #[ptr g, opv k oa ob oc os ot, .string p] w fun e w' => e = .returned (.tuple #[ansv (ansK ts ⟨k, oa, ob, oc, os, ot⟩).e (ansK ts ⟨k, oa, ob, oc, os, ot⟩).n (ansK ts ⟨k, oa, ob, oc, os, ot⟩).m (ansK ts ⟨k, oa, ob, oc, os, ot⟩).s, .string (str (nextP ts p.data.toList ⟨k, oa, ob, oc, os, ot⟩))]) ∧ Chg (gown g a b v) w w' ∧ Gh w' g a b v (nextT ts p.data.toList ⟨k, oa, ob, oc, os, ot⟩) p := by
    intro E N S R TS e1 e2 e3 h
    rw [e1, e2, e3]; exact h
  have same : ∀ {J has}, Cut ts oa J → HasAt ts oa J has → k ≠ 2 → k ≠ 3 → k ≠ 4 → k ≠ 5 → Calls Try.prog 31 #[ptr g, opv k oa ob oc os ot, .string p] w fun e w' => e = .returned (.tuple #[ansv (ansK ts ⟨k, oa, ob, oc, os, ot⟩).e (ansK ts ⟨k, oa, ob, oc, os, ot⟩).n (ansK ts ⟨k, oa, ob, oc, os, ot⟩).m (ansK ts ⟨k, oa, ob, oc, os, ot⟩).s, .string (str (nextP ts p.data.toList ⟨k, oa, ob, oc, os, ot⟩))]) ∧ Chg (gown g a b v) w w' ∧ Gh w' g a b v (nextT ts p.data.toList ⟨k, oa, ob, oc, os, ot⟩) p := by
    intro J has hc hh h2 h3 h4 h5
    have eP : str (nextP ts p.data.toList ⟨k, oa, ob, oc, os, ot⟩) = p := by simp only [nextP, h2, if_false]; exact hpp.symm
    have eT : nextT ts p.data.toList ⟨k, oa, ob, oc, os, ot⟩ = ts := by simp only [nextT, h2, h4, if_false]
    by_cases h6 : k = 6
    · subst h6
      exact fin (by simp [ansK, ansA]) eP eT (owed_scan w g a b v ts p r J oa hc ob oc os ot has hh hf)
    by_cases h7 : k = 7
    · subst h7
      refine fin ?_ eP eT (owed_show w g a b v ts p r J oa hc ob oc os ot has hh hf)
      simp [ansK, ansA, mrng_allK ts hf]
    by_cases h8 : k = 8
    · subst h8
      exact fin (by simp [ansK, ansA]) eP eT (owed_check w g a b v ts p r J oa hc ob oc os ot has hh)
    by_cases h9 : k = 9
    · subst h9
      by_cases hr : 0 ≤ oa ∧ oa < 8
      · refine fin ?_ eP eT (owed_level w g a b v ts p r J oa hc ob oc os ot has hh hf oa.toNat (by omega) (by omega))
        simp [ansK, hr]
      · refine fin ?_ eP eT (owed_level_bad w g a b v ts p r J oa hc ob oc os ot has hh (by omega))
        simp only [ansK, if_true, if_neg hr]
    · refine fin ?_ eP eT (owed_other w g a b v ts p r J oa hc k ob oc os ot has hh (by simpa using h2) (by simpa using h3) (by simpa using h4) (by simpa using h5) (by simpa using h6) (by simpa using h7) (by simpa using h8) (by simpa using h9))
      simp [ansK, ansA, h2, h3, h4, h5, h6, h7, h8, h9]
  rcases three3K ts oa hs with ⟨A, q, B, rfl, hA, hq, hB⟩ | ⟨A, B, rfl, hA, hB⟩
  · have hc := cut_hit hA hq hB
    have hh := has_hit (A := A) (B := B) hq
    have hlh := lo_hi (A := A) (B := q :: B) hA (fun t ht => by rcases List.mem_cons.1 ht with rfl | h; omega; have := hB t h; omega)
    have hhit := hit_some (A := A) (B := B) hA hq (fun t ht => by have := hB t ht; omega)
    have hget : (A ++ q :: B)[A.length]? = some q := by simp
    by_cases h2 : k = 2
    · subst h2
      by_cases h8 : 8 < os.size
      · exact fin (by simp [ansK, ansA, h8]) (by simp only [nextP, if_true, h8]; exact hpp.symm) (by simp only [nextT, if_true, h8]) (owed_put_long w g a b v _ p r _ oa hc ob oc os ot _ hh h8)
      · refine fin (by simp [ansK, ansA, h8, hhit]) ?_ ?_ (owed_put_has w g a b v _ p r _ oa hc ob oc os ot _ hh rfl (by omega) A.length q rfl hget)
        · simp only [nextP, if_true, h8, if_false, hhit, Option.isSome_some]; exact hpp.symm
        · simp only [nextT, if_true, h8, if_false, hhit, hlh.1]
          rw [List.set_append_right _ _ (Nat.le_refl _), Nat.sub_self, List.set_cons_zero, hq]
    by_cases h3 : k = 3
    · subst h3
      exact fin (by simp [ansK, ansA, hhit]) (by simp only [nextP]; exact hpp.symm) (by simp [nextT]) (owed_get w g a b v _ p r _ oa hc ob oc os ot _ hh rfl A.length q rfl hget)
    by_cases h4 : k = 4
    · subst h4
      refine fin (by simp [ansK, ansA, hhit]) (by simp only [nextP]; exact hpp.symm) ?_ (owed_del w g a b v _ p r _ oa hc ob oc os ot _ hh rfl A.length q rfl hget)
      simp only [nextT, hhit, hlh.1]
      rw [List.eraseIdx_append_of_length_le (Nat.le_refl _), Nat.sub_self]
      simp
    by_cases h5 : k = 5
    · subst h5
      exact fin (by simp [ansK, ansA, hhit]) (by simp only [nextP]; exact hpp.symm) (by simp [nextT]) (owed_floor w g a b v _ p r _ oa hc ob oc os ot _ hh A.length q rfl hget)
    · exact same hc hh h2 h3 h4 h5
  · have hc := cut_none hA hB
    have hh := has_none (B := B) hA
    have hlh := lo_hi (A := A) (B := B) hA (fun t ht => by have := hB t ht; omega)
    have hhit := hit_none (A := A) (B := B) hA hB
    by_cases h2 : k = 2
    · subst h2
      by_cases h8 : 8 < os.size
      · exact fin (by simp [ansK, ansA, h8]) (by simp only [nextP, if_true, h8]; exact hpp.symm) (by simp only [nextT, if_true, h8]) (owed_put_long w g a b v _ p r _ oa hc ob oc os ot _ hh h8)
      · by_cases h12 : 12 ≤ (A ++ B).length
        · refine fin ?_ ?_ ?_ (owed_put_full w g a b v _ p r _ oa hc ob oc os ot _ hh rfl (by omega) h12)
          · simp only [ansK, ansA, h8, hhit, if_true, if_false, h12, Option.isSome_none]; rfl
          · simp only [nextP, if_true, h8, if_false, hhit, Option.isSome_none, h12]; exact hpp.symm
          · simp only [nextT, if_true, h8, if_false, hhit, h12]
        · refine fin ?_ ?_ ?_ (owed_put w g a b v _ p r _ oa hc ob oc os ot _ hh rfl (by omega) (by omega) hp)
          · simp only [ansK, ansA, h8, hhit, if_true, if_false, h12, Option.isSome_none]; rfl
          · simp only [nextP, if_true, h8, if_false, hhit, Option.isSome_none, h12]; rfl
          · simp only [nextT, if_true, h8, if_false, hhit, h12, hlh.1, hlh.2]
            simp
    by_cases h3 : k = 3
    · subst h3
      exact fin (by simp [ansK, ansA, hhit]) (by simp only [nextP]; exact hpp.symm) (by simp [nextT]) (owed_get_none w g a b v _ p r _ oa hc ob oc os ot _ hh rfl)
    by_cases h4 : k = 4
    · subst h4
      exact fin (by simp [ansK, ansA, hhit]) (by simp only [nextP]; exact hpp.symm) (by simp [nextT, hhit]) (owed_del_none w g a b v _ p r _ oa hc ob oc os ot _ hh rfl)
    by_cases h5 : k = 5
    · subst h5
      rcases List.eq_nil_or_concat A with rfl | ⟨l, d, rfl⟩
      · exact fin (by have g1 := hhit; have g2 := hlh.1; simp only [List.nil_append] at g1 g2 ⊢; simp [ansK, ansA, g1, g2]) (by simp only [nextP]; exact hpp.symm) (by simp [nextT]) (owed_floor_none w g a b v _ p r _ oa hc ob oc os ot _ hh rfl)
      · rw [List.concat_eq_append] at *
        refine fin ?_ (by simp only [nextP]; exact hpp.symm) (by simp [nextT]) (owed_floor w g a b v _ p r _ oa hc ob oc os ot _ hh l.length d (by simp) (by simp))
        have g1 := hhit
        have g2 := hlh.1
        simp only [List.append_assoc, List.singleton_append] at g1 g2 ⊢
        simp [ansK, ansA, g1, g2]
    · exact same hc hh h2 h3 h4 h5
end Go.Proofs.Qxb6500361a
