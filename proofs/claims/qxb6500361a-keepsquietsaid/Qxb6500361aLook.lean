/-
  New, Level, Pair, Scan, Show of the real list.
-/
import Derived.Test.Qxb6500361aFind
import Derived.Test.Qxb6500361aItoa
namespace Go.Proofs.Qxb6500361a
open Go.RowKit Go.Qx
set_option linter.unusedSimpArgs false
set_option linter.unusedVariables false
attribute [local go_sem] str_size

theorem new_any (w : World) (c : Nat) (s : ByteArray) (h : Blk w c 72 [.string s]) (hs : s.size ≤ 32) :
    Calls Try.prog 15 #[ptr c] w fun e w' => e = .returned (ptr (w.heap.size + 1)) ∧ Quiet w w' ∧ Rep w' c (w.heap.size + 1) w.heap.size s [] 1 := by
  unfold ptr
  go_enter Try.func15, Try.ntmps15
  go_wp2
  go_ret
  have hl := h.lt
  refine ⟨rfl, ((Chg.refl _ _).alloc _).alloc _, ?_⟩
  refine ⟨(h.alloc _).alloc _, ?_, ?_, ?_, by simp, by simp, by simp, by simp, by omega, by omega, .inl rfl, by simp, ?_, hs⟩
  · have := Blk.new (w.alloc (.cells #[.int .i64 0, .string ⟨#[]⟩, .int .i64 0, .pointer none, .pointer none, .pointer none, .pointer none, .pointer none, .pointer none, .pointer none, .pointer none] 53)) 55 [ptr c, ptr w.heap.size, .int .i64 1, .int .i64 0]
    simp only [World.size_alloc] at this
    exact this
  · exact (Blk.new w 53 (headCells [])).alloc _
  · intro a d b e; simp at e
  · simp; omega

def levelStr (lv : Nat) (l : List Nd) : ByteArray := l.foldl (fun s d => if lv < d.h then s ++ str (itoa d.key) ++ ⟨#[44]⟩ else s) ⟨#[]⟩

theorem levelStr_snoc (lv : Nat) (l b1 : List Nd) (d : Nd) (hb : ∀ x ∈ b1, x.h ≤ lv) (hd : lv < d.h) : levelStr lv (l ++ b1 ++ [d]) = levelStr lv l ++ str (itoa d.key) ++ ⟨#[44]⟩ := by
  unfold levelStr
  rw [List.foldl_append, List.foldl_append]
  have e : ∀ (b : List Nd) (s : ByteArray), (∀ x ∈ b, x.h ≤ lv) → b.foldl (fun s d => if lv < d.h then s ++ str (itoa d.key) ++ ⟨#[44]⟩ else s) s = s := by
    intro b
    induction b with
    | nil => intro s _; rfl
    | cons x b ih =>
      intro s h
      have := h x (by simp)
      simp only [List.foldl_cons, show ¬ lv < x.h by omega, if_false]
      exact ih s (fun y hy => h y (by simp [hy]))
  rw [e b1 _ hb]
  simp [hd]

theorem levelStr_low (lv : Nat) (l b : List Nd) (hb : ∀ x ∈ b, x.h ≤ lv) : levelStr lv (l ++ b) = levelStr lv l := by
  unfold levelStr
  rw [List.foldl_append]
  generalize l.foldl _ _ = s
  induction b with
  | nil => rfl
  | cons x b ih =>
    have := hb x (by simp)
    simp only [List.foldl_cons, show ¬ lv < x.h by omega, if_false]
    exact ih (fun y hy => hb y (by simp [hy]))

theorem level_bad (w : World) (l : Nat) (lv : Int) (h : lv < 0 ∨ 8 ≤ lv) : Calls Try.prog 17 #[ptr l, .int .i64 lv] w fun e w' => e = .returned (.tuple #[.string ⟨#[]⟩, .int .i64 4]) ∧ w' = w := by
  unfold ptr
  rcases h with h | h
  · go_enter Try.func17, Try.ntmps17
    go_wp2
    go_ret2
    exact ⟨rfl, rfl⟩
  · have h' : ¬ lv < 0 := by omega
    go_enter Try.func17, Try.ntmps17
    go_wp2
    go_ret2
    exact ⟨rfl, rfl⟩

set_option maxHeartbeats 1000000 in
theorem level_any (w : World) (c l hd : Nat) (s : ByteArray) (nds : List Nd) (top lv : Nat) (r : Rep w c l hd s nds top) (hlv : lv < 8) :
    Calls Try.prog 17 #[ptr l, .int .i64 lv] w fun e w' => e = .returned (.tuple #[.string (levelStr lv nds), .int .i64 0]) ∧ Quiet w w' := by
  have i1 : (0 : Int) ≤ (lv : Int) := by omega
  have i2 : (lv : Int) < 8 := by omega
  have c1 := r.list.cell 1
  have c2 := r.next [] nds rfl lv hlv (by simp)
  simp [ptr, cur] at c1 c2
  unfold ptr
  go_enter Try.func17, Try.ntmps17
  go_wp2
  go_quiet (fail)
  go_wp2
  go_loopw [6, 7, 24] (fun t p i wr => ∃ (a b : List Nd) (j : Nat), nds = a ++ b ∧ j ≤ a.length ∧ t = .string (levelStr lv a) ∧ (levelStr lv a).size ≤ 21 * a.length ∧ p = nxt lv b ∧ i = .int .i64 j ∧ Quiet w wr) (fun _ _ i _ => (13 - intOf i).toNat)
  case atStart =>
    exact ⟨[], nds, 0, rfl, by simp, rfl, Nat.le_refl _, rfl, rfl, (Chg.refl _ _).drewN _⟩
  case round =>
    obtain ⟨a, b, j, hab, hj, rfl, hsz, rfl, rfl, hq⟩ := hrel
    have r1 := r.quiet hq
    have hlen := r.len
    have hal : a.length ≤ 12 := by rw [hab] at hlen; simp at hlen; omega
    have i3 : (j : Int) < 13 := by omega
    rcases first_in lv b with hb | ⟨b1, d, b2, rfl, hb1, hdh⟩
    · have hn : nxt lv b = .pointer none := by have := nxt_none lv b [] hb; simp at this; rw [this]; rfl
      rw [hn]
      clear hn
      have he : levelStr lv nds = levelStr lv a := by rw [hab]; exact levelStr_low lv a b hb
      have heH := hide he
      have habH := hide hab
      clear he hab
      go_wp2
      go_ret2
      rw [unhide heH]
      exact ⟨rfl, hq⟩
    · have hn : nxt lv (b1 ++ d :: b2) = .pointer (some ⟨d.addr, 0, none⟩) := nxt_some lv b1 d b2 hb1 hdh
      rw [hn]
      clear hn
      have hmem : d ∈ nds := by rw [hab]; simp
      have ck := r1.key_at hmem
      have hkey := r.keys d hmem
      have cn := r1.next (a ++ b1 ++ [d]) b2 (by rw [hab]; simp) lv hlv (by intro x hx; simp at hx; subst hx; exact hdh)
      rw [cur_snoc] at cn
      have hil := itoa_length d.key
      have habH := hide hab
      clear hab
      go_wp2_with fail
      refine (itoa_any d.key wr hkey.1 hkey.2).mono ?_
      rintro e w2 ⟨rfl, hq2⟩
      have r2 := r1.quiet hq2
      have cn2 := r2.next (a ++ b1 ++ [d]) b2 (by rw [unhide habH]; simp) lv hlv (by intro x hx; simp at hx; subst hx; exact hdh)
      rw [cur_snoc] at cn2
      go_wp2
      go_quiet (fail)
      go_wp2
      go_roundw
      case rel =>
        refine ⟨a ++ b1 ++ [d], b2, j + 1, by rw [unhide habH]; simp, by simp; omega, ?_, ?_, rfl, by go_num, (hq.trans hq2).drewN _⟩
        · rw [levelStr_snoc lv a b1 d hb1 hdh]
        · rw [levelStr_snoc lv a b1 d hb1 hdh]
          rw [ByteArray.size_append, ByteArray.size_append, str_size, List.length_append, List.length_append]
          show _ + _ + 1 ≤ 21 * (_ + _ + 1)
          omega
      case measure => simp [intOf]; omega

def pairStr (k : Int) (v : ByteArray) : ByteArray := str (itoa k) ++ ⟨#[61]⟩ ++ str (itoa v.size) ++ ⟨#[58]⟩ ++ v ++ ⟨#[59]⟩

theorem pairStr_size (k : Int) (v : ByteArray) (hv : v.size ≤ 8) : (pairStr k v).size ≤ 51 := by
  have h1 := itoa_length k
  have h2 := itoa_length v.size
  unfold pairStr
  simp only [ByteArray.size_append, str_size]
  show _ + 1 + _ + 1 + _ + 1 ≤ 51
  omega

theorem pair_any (k : Int) (v : ByteArray) (w : World) (hlo : -9223372036854775808 ≤ k) (hhi : k ≤ 9223372036854775807) (hv : v.size ≤ 8) :
    Calls Try.prog 35 #[.int .i64 k, .string v] w fun e w' => e = .returned (.string (pairStr k v)) ∧ Quiet w w' := by
  have h1 := itoa_length k
  have h2 := itoa_length v.size
  go_enter Try.func35, Try.ntmps35
  go_wp2_with fail
  refine (itoa_any k w hlo hhi).mono ?_
  rintro e w1 ⟨rfl, hq1⟩
  go_wp2_with fail
  refine (itoa_any v.size w1 (by omega) (by omega)).mono ?_
  rintro e w2 ⟨rfl, hq2⟩
  go_wp2
  go_ret
  exact ⟨rfl, hq1.trans hq2⟩

def pairsStr (l : List Nd) : ByteArray := l.foldl (fun s d => s ++ pairStr d.key d.val) ⟨#[]⟩

theorem pairsStr_snoc (l : List Nd) (d : Nd) : pairsStr (l ++ [d]) = pairsStr l ++ pairStr d.key d.val := by
  unfold pairsStr; rw [List.foldl_append]; rfl

/-- The nodes whose keys lie in lo .. hi. -/
def rng (lo hi : Int) (l : List Nd) : List Nd := l.filter fun d => decide (lo ≤ d.key) && decide (d.key ≤ hi)

theorem rng_split {lo hi : Int} {pre a b : List Nd} (h1 : ∀ d ∈ pre, d.key < lo) (h2 : ∀ d ∈ a, lo ≤ d.key ∧ d.key ≤ hi) (h3 : ∀ d ∈ b, hi < d.key) : rng lo hi (pre ++ (a ++ b)) = a := by
  unfold rng
  rw [List.filter_append, List.filter_append]
  have e1 : pre.filter (fun d => decide (lo ≤ d.key) && decide (d.key ≤ hi)) = [] := by
    rw [List.filter_eq_nil_iff]; intro d hd; have := h1 d hd; simp; omega
  have e2 : a.filter (fun d => decide (lo ≤ d.key) && decide (d.key ≤ hi)) = a := by
    rw [List.filter_eq_self]; intro d hd; have := h2 d hd; simp; omega
  have e3 : b.filter (fun d => decide (lo ≤ d.key) && decide (d.key ≤ hi)) = [] := by
    rw [List.filter_eq_nil_iff]; intro d hd; have := h3 d hd; simp; omega
  rw [e1, e2, e3]; simp

theorem split_at (nds : List Nd) (k : Int) (hs : nds.Pairwise fun a b => a.key < b.key) : ∃ pre suf, nds = pre ++ suf ∧ (∀ d ∈ pre, d.key < k) ∧ ∀ d ∈ suf, k ≤ d.key := by
  refine ⟨nds.takeWhile fun d => decide (d.key < k), nds.dropWhile fun d => decide (d.key < k), (List.takeWhile_append_dropWhile).symm, ?_, ?_⟩
  · intro d hd
    have := List.all_eq_true.1 (List.all_takeWhile (p := fun d : Nd => decide (d.key < k)) (l := nds)) d hd
    simpa using this
  · induction nds with
    | nil => simp
    | cons x l ih =>
      rw [List.pairwise_cons] at hs
      rw [List.dropWhile_cons]
      split
      · exact ih hs.2
      · rename_i h
        intro d hd
        rcases List.mem_cons.1 hd with rfl | hd
        · simpa using h
        · have := hs.1 d hd; simp at h; omega

set_option maxHeartbeats 1000000 in
theorem scan_any (w : World) (c l hd : Nat) (s : ByteArray) (nds : List Nd) (top : Nat) (lo hi : Int) (r : Rep w c l hd s nds top) :
    Calls Try.prog 28 #[ptr l, .int .i64 lo, .int .i64 hi] w fun e w' => e = .returned (.tuple #[.string (pairsStr (rng lo hi nds)), .int .i64 (rng lo hi nds).length]) ∧ Quiet w w' := by
  obtain ⟨pre, suf, rfl, hpre, hsuf⟩ := split_at nds lo r.sorted
  unfold ptr
  go_enter Try.func28, Try.ntmps28
  go_wp2_with fail
  refine (find_fresh w c l hd s pre suf top lo r hpre hsuf).mono ?_
  rintro e w1 ⟨rfl, hq, hlt, hpb⟩
  go_wp2
  go_loopg [9, 10, 11] suf.length (fun g t n p wr => ∃ (a b : List Nd), suf = a ++ b ∧ (∀ d ∈ a, lo ≤ d.key ∧ d.key ≤ hi) ∧ t = .string (pairsStr a) ∧ (pairsStr a).size ≤ 51 * a.length ∧ p = nxt 0 b ∧ n = .int .i64 a.length ∧ Quiet w wr ∧ g = b.length)
  case atStart =>
    exact ⟨[], suf, rfl, by simp, rfl, Nat.le_refl _, rfl, rfl, hq, rfl⟩
  case round =>
    obtain ⟨a, b, hab, hal, rfl, hsz, rfl, rfl, hq1, rfl⟩ := hrel
    have r1 := r.quiet hq1
    have hlen : a.length ≤ 12 := by have := r.len; rw [hab] at this; simp at this; omega
    cases b with
    | nil =>
      have he : rng lo hi (pre ++ suf) = a := by rw [hab]; exact rng_split hpre hal (by simp)
      rw [show nxt 0 [] = .pointer none from rfl]
      have heH := hide he
      clear he hab
      go_wp2
      go_ret2
      rw [unhide heH]
      exact ⟨rfl, hq1⟩
    | cons d b =>
      have hmem : d ∈ pre ++ suf := by rw [hab]; simp
      have hdh := (r.high d hmem).1
      have hn : nxt 0 (d :: b) = .pointer (some ⟨d.addr, 0, none⟩) := nxt_some 0 [] d b (by simp) hdh
      rw [hn]
      clear hn
      have ck := r1.key_at hmem
      by_cases hk : d.key ≤ hi
      · have hkey := r.keys d hmem
        have hv := r.vals d hmem
        have hps := pairStr_size d.key d.val hv
        have habH := hide hab
        clear hab
        go_wp2
        go_region_held3 (fun w' => w'.cell? ⟨d.addr, 0, none⟩ = some (.int .i64 d.key) ∧ w'.cell? ⟨d.addr, 1, none⟩ = some (.string d.val)) (first | go_keep | exact ⟨Quiet.cell hq2 ck.1, Quiet.cell hq2 ck.2.1⟩) (first | (go_at_call 35; refine (pair_any d.key d.val _ hkey.1 hkey.2 hv).mono ?_; rintro e w2 ⟨rfl, hq2⟩))
        have r2 := r1.quiet (Quiet.trans ((Chg.refl _ _).drew) hq2)
        have cn2 := r2.next (pre ++ a ++ [d]) b (by rw [unhide habH]; simp) 0 (by omega) (by intro x hx; simp at hx; subst hx; exact hdh)
        rw [cur_snoc] at cn2
        go_wp2
        go_roundg b.length
        case measure => exact Nat.lt_succ_self _
        case rel =>
          refine ⟨a ++ [d], b, by rw [unhide habH]; simp, ?_, ?_, ?_, rfl, by simp, Quiet.trans hq1 (Quiet.trans ((Chg.refl _ _).drew) hq2), rfl⟩
          · intro x hx
            simp only [List.mem_append, List.mem_singleton] at hx
            rcases hx with hx | rfl
            · exact hal x hx
            · exact ⟨hsuf x (by rw [unhide habH]; simp), hk⟩
          · rw [pairsStr_snoc]
          · rw [pairsStr_snoc, ByteArray.size_append, List.length_append]
            show _ ≤ 51 * (_ + 1)
            omega
      · have hall : ∀ x ∈ d :: b, hi < x.key := by
          intro x hx
          have hs := r.sorted
          rw [hab] at hs
          rcases List.mem_cons.1 hx with rfl | hx
          · omega
          · have := (List.pairwise_append.1 (List.pairwise_append.1 hs).2.1).2.1
            rw [List.pairwise_cons] at this
            have := this.1 x hx
            omega
        have he : rng lo hi (pre ++ suf) = a := by rw [hab]; exact rng_split hpre hal hall
        have heH := hide he
        clear he hab
        go_wp2
        go_ret2
        rw [unhide heH]
        exact ⟨rfl, hq1⟩
end Go.Proofs.Qxb6500361a
