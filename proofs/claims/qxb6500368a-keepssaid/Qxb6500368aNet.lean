/-
  THE MATHEMATICS: sums modulo p; the network of butterflies is a matrix; the matrix is the transform's; the product by three transforms is the school's. No Go in it.
-/
namespace Go.Proofs.Qxb6500368a

def pP : Int := 998244353

/-- The sum over i < n. -/
def sm : Nat → (Nat → Int) → Int
  | 0, _ => 0
  | n + 1, f => sm n f + f n

theorem sm_congr {n : Nat} {f g : Nat → Int} (h : ∀ i, i < n → f i = g i) : sm n f = sm n g := by
  induction n with
  | zero => rfl
  | succ n ih => rw [sm, sm, ih (fun i hi => h i (by omega)), h n (by omega)]

theorem sm_add (n : Nat) (f g : Nat → Int) : sm n (fun i => f i + g i) = sm n f + sm n g := by
  induction n with
  | zero => rfl
  | succ n ih => simp only [sm, ih]; omega

theorem sm_sub (n : Nat) (f g : Nat → Int) : sm n (fun i => f i - g i) = sm n f - sm n g := by
  induction n with
  | zero => rfl
  | succ n ih => simp only [sm, ih]; omega

theorem sm_mul (n : Nat) (f : Nat → Int) (c : Int) : sm n (fun i => f i * c) = sm n f * c := by
  induction n with
  | zero => simp [sm]
  | succ n ih => simp only [sm, ih, Int.add_mul]

theorem sm_mul_left (n : Nat) (f : Nat → Int) (c : Int) : sm n (fun i => c * f i) = c * sm n f := by
  induction n with
  | zero => simp [sm]
  | succ n ih => simp only [sm, ih, Int.mul_add]

theorem sm_zero (n : Nat) : sm n (fun _ => 0) = 0 := by
  induction n with
  | zero => rfl
  | succ n ih => simp [sm, ih]

theorem sm_swap (n m : Nat) (f : Nat → Nat → Int) : sm n (fun i => sm m (f i)) = sm m (fun j => sm n (fun i => f i j)) := by
  induction n with
  | zero => simp [sm, sm_zero]
  | succ n ih => simp only [sm, ih, ← sm_add]

/-- A sum with one term. -/
theorem sm_one (n k : Nat) (hk : k < n) (x : Nat → Int) : sm n (fun i => (if i = k then 1 else 0) * x i) = x k := by
  induction n with
  | zero => omega
  | succ n ih =>
    rw [sm]
    by_cases h : n = k
    · subst h
      rw [show sm n (fun i => (if i = n then 1 else 0) * x i) = sm n (fun _ => 0) from sm_congr (fun i hi => by rw [if_neg (by omega)]; simp), sm_zero]
      simp
    · rw [ih (by omega), if_neg h]; simp

/-- Behind its end f is 0. -/
theorem sm_ext {n m : Nat} (hnm : n ≤ m) {f : Nat → Int} (h : ∀ i, n ≤ i → i < m → f i = 0) : sm m f = sm n f := by
  induction m with
  | zero => have : n = 0 := by omega
            subst this; rfl
  | succ m ih =>
    by_cases e : n = m + 1
    · subst e; rfl
    · rw [sm, ih (by omega) (fun i h1 h2 => h i h1 (by omega)), h m (by omega) (by omega)]; simp

theorem sm_emod (n : Nat) (f : Nat → Int) : sm n f % pP = sm n (fun i => f i % pP) % pP := by
  induction n with
  | zero => rfl
  | succ n ih => rw [sm, sm, Int.add_emod, ih, Int.add_emod (sm n (fun i => f i % pP))]; simp

theorem sm_emod_congr {n : Nat} {f g : Nat → Int} (h : ∀ i, i < n → f i % pP = g i % pP) : sm n f % pP = sm n g % pP := by
  rw [sm_emod n f, sm_emod n g, sm_congr h]

/-! ### The network -/
structure Alg (α : Type) where
  add : α → α → α
  sub : α → α → α
  mulc : α → Int → α

def updF {α : Type} (f : Nat → α) (i : Nat) (v : α) : Nat → α := fun j => if j = i then v else f j

section
variable {α β : Type}
def fly (A : Alg α) (a : Nat → α) (p q : Nat) (w : Int) : Nat → α := updF (updF a p (A.add (a p) (A.mulc (a q) w))) q (A.sub (a p) (A.mulc (a q) w))

def jLoop (A : Alg α) (tab : Nat → Int) (stride half base : Nat) (a : Nat → α) : Nat → Nat → α
  | 0 => a
  | j + 1 => fly A (jLoop A tab stride half base a j) (base + j) (base + j + half) (tab (j * stride))

def bLoop (A : Alg α) (tab : Nat → Int) (stride half : Nat) (a : Nat → α) : Nat → Nat → α
  | 0 => a
  | b + 1 => jLoop A tab stride half (b * (2 * half)) (bLoop A tab stride half a b) half

/-- s stages over 2 ^ k cells. -/
def sLoop (A : Alg α) (tab : Nat → Int) (k : Nat) (a : Nat → α) : Nat → Nat → α
  | 0 => a
  | s + 1 => bLoop A tab (2 ^ (3 - s)) (2 ^ s) (sLoop A tab k a s) (2 ^ (k - 1 - s))

structure Hom (A : Alg α) (B : Alg β) (h : α → β) : Prop where
  add : ∀ x y, h (A.add x y) = B.add (h x) (h y)
  sub : ∀ x y, h (A.sub x y) = B.sub (h x) (h y)
  mulc : ∀ x c, h (A.mulc x c) = B.mulc (h x) c

variable {A : Alg α} {B : Alg β} {h : α → β}
theorem hom_fly (H : Hom A B h) (a : Nat → α) (p q : Nat) (w : Int) : (fun i => h (fly A a p q w i)) = fly B (fun i => h (a i)) p q w := by
  funext i
  unfold fly updF
  by_cases h1 : i = q
  · simp only [if_pos h1]; rw [H.sub, H.mulc]
  · simp only [if_neg h1]
    by_cases h2 : i = p
    · simp only [if_pos h2]; rw [H.add, H.mulc]
    · simp only [if_neg h2]

theorem hom_j (H : Hom A B h) (tab : Nat → Int) (stride half base : Nat) (a : Nat → α) : ∀ j, (fun i => h (jLoop A tab stride half base a j i)) = jLoop B tab stride half base (fun i => h (a i)) j
  | 0 => rfl
  | j + 1 => by
    show (fun i => h (fly A (jLoop A tab stride half base a j) (base + j) (base + j + half) (tab (j * stride)) i)) = _
    rw [hom_fly H, hom_j H tab stride half base a j]; rfl

theorem hom_b (H : Hom A B h) (tab : Nat → Int) (stride half : Nat) (a : Nat → α) : ∀ b, (fun i => h (bLoop A tab stride half a b i)) = bLoop B tab stride half (fun i => h (a i)) b
  | 0 => rfl
  | b + 1 => by
    show (fun i => h (jLoop A tab stride half (b * (2 * half)) (bLoop A tab stride half a b) half i)) = _
    rw [hom_j H, hom_b H tab stride half a b]; rfl

theorem hom_s (H : Hom A B h) (tab : Nat → Int) (k : Nat) (a : Nat → α) : ∀ s, (fun i => h (sLoop A tab k a s i)) = sLoop B tab k (fun i => h (a i)) s
  | 0 => rfl
  | s + 1 => by
    show (fun i => h (bLoop A tab (2 ^ (3 - s)) (2 ^ s) (sLoop A tab k a s) (2 ^ (k - 1 - s)) i)) = _
    rw [hom_b H, hom_s H tab k a s]; rfl
end

/-- Numbers modulo p. -/
def numA : Alg Int := ⟨fun a b => (a + b) % pP, fun a b => (a - b) % pP, fun a c => (a * c) % pP⟩
/-- Rows of numbers modulo p. -/
def rowA : Alg (Nat → Int) := ⟨fun a b i => (a i + b i) % pP, fun a b i => (a i - b i) % pP, fun a c i => (a i * c) % pP⟩

/-- A row at x. -/
def ev (n : Nat) (x : Nat → Int) (f : Nat → Int) : Int := sm n (fun i => f i * x i) % pP

theorem hom_ev (n : Nat) (x : Nat → Int) : Hom rowA numA (ev n x) := by
  refine ⟨fun f g => ?_, fun f g => ?_, fun f c => ?_⟩
  · show sm n (fun i => (f i + g i) % pP * x i) % pP = (sm n (fun i => f i * x i) % pP + sm n (fun i => g i * x i) % pP) % pP
    rw [← Int.add_emod, ← sm_add]
    refine sm_emod_congr fun i _ => ?_
    rw [Int.mul_emod, Int.emod_emod, ← Int.mul_emod, Int.add_mul]
  · show sm n (fun i => (f i - g i) % pP * x i) % pP = (sm n (fun i => f i * x i) % pP - sm n (fun i => g i * x i) % pP) % pP
    rw [← Int.sub_emod, ← sm_sub]
    refine sm_emod_congr fun i _ => ?_
    rw [Int.mul_emod, Int.emod_emod, ← Int.mul_emod, Int.sub_mul]
  · show sm n (fun i => (f i * c) % pP * x i) % pP = (sm n (fun i => f i * x i) % pP * c) % pP
    rw [Int.mul_emod (sm n (fun i => f i * x i) % pP), Int.emod_emod, ← Int.mul_emod, ← sm_mul]
    refine sm_emod_congr fun i _ => ?_
    rw [Int.mul_emod, Int.emod_emod, ← Int.mul_emod]
    congr 1
    rw [Int.mul_right_comm]

/-! ### The tables -/
/-- The transform's numbers: 3 ^ ((p - 1) / 16), its inverse, 1 / 2. -/
def w16 : Int := 929031873
def iw16 : Int := 337190230

def powT (w : Int) : Nat → Int
  | 0 => 1
  | j + 1 => powT w j * w % pP

def rootT (j : Nat) : Int := powT w16 j
def irootT (j : Nat) : Int := powT iw16 j
def ninvT (k : Nat) : Int := powT 499122177 k

/-- i with its k bits turned about. -/
def brev : Nat → Nat → Nat
  | 0, _ => 0
  | k + 1, i => (i % 2) * 2 ^ k + brev k (i / 2)

/-- The transform of 2 ^ k cells as the real layer makes it. -/
def netP (k : Nat) (inv : Bool) (x : Nat → Int) : Nat → Int :=
  let y := sLoop numA (if inv then irootT else rootT) k (fun i => x (brev k i)) k
  if inv then fun i => y i * ninvT k % pP else y

/-- The same as a matrix. -/
def netM (k : Nat) (inv : Bool) (j i : Nat) : Int :=
  let y := sLoop rowA (if inv then irootT else rootT) k (fun a b => if b = brev k a then 1 else 0) k j i
  if inv then y * ninvT k % pP else y

theorem brev_lt : ∀ k i, brev k i < 2 ^ k
  | 0, _ => by simp [brev]
  | k + 1, i => by
    have := brev_lt k (i / 2)
    unfold brev
    have h2 : i % 2 < 2 := Nat.mod_lt _ (by decide)
    have h3 : 2 ^ (k + 1) = 2 * 2 ^ k := by rw [Nat.pow_succ]; omega
    have h4 : (i % 2) * 2 ^ k ≤ 1 * 2 ^ k := Nat.mul_le_mul_right _ (by omega)
    omega

def InP (n : Nat) (x : Nat → Int) : Prop := ∀ i, i < n → 0 ≤ x i ∧ x i < pP

theorem net_mat (k : Nat) (inv : Bool) (x : Nat → Int) (hx : InP (2 ^ k) x) (j : Nat) : netP k inv x j = sm (2 ^ k) (fun i => netM k inv j i * x i) % pP := by
  have h0 : (fun i => x (brev k i)) = fun i => ev (2 ^ k) x (fun b => if b = brev k i then 1 else 0) := by
    funext i
    unfold ev
    rw [sm_one (2 ^ k) (brev k i) (brev_lt k i) x]
    have := hx _ (brev_lt k i)
    exact (Int.emod_eq_of_lt this.1 this.2).symm
  have h1 := hom_s (hom_ev (2 ^ k) x) (if inv then irootT else rootT) k (fun a b => if b = brev k a then 1 else 0) k
  unfold netP netM
  rw [h0, ← h1]
  cases inv with
  | false => rfl
  | true =>
    show (sm (2 ^ k) _ % pP * ninvT k) % pP = _
    rw [Int.mul_emod, Int.emod_emod, ← Int.mul_emod, ← sm_mul]
    refine sm_emod_congr fun i _ => ?_
    simp only [if_true]
    rw [Int.mul_emod (_ * ninvT k % pP), Int.emod_emod, ← Int.mul_emod]
    congr 1
    rw [Int.mul_right_comm]

/-! ### The model's transform -/
def wOf (k : Nat) (inv : Bool) : Int := match k, inv with
  | 0, _ => 1
  | 1, _ => 998244352
  | 2, false => 911660635
  | 2, true => 86583718
  | 3, false => 372528824
  | 3, true => 509520358
  | _, false => 929031873
  | _, true => 337190230

def scOf (k : Nat) (inv : Bool) : Int := if inv then ninvT k else 1

/-- w ^ (i * j), as the model makes it. -/
def tM (k : Nat) (inv : Bool) (j i : Nat) : Int := powT (powT (wOf k inv) j) i

def matM (k : Nat) (inv : Bool) (j i : Nat) : Int := tM k inv j i * scOf k inv % pP

def allB (n : Nat) (p : Nat → Bool) : Bool := (List.range n).all p
theorem allB_spec {n : Nat} {p : Nat → Bool} (h : allB n p = true) (i : Nat) (hi : i < n) : p i = true := by
  unfold allB at h
  rw [List.all_eq_true] at h
  exact h i (by simpa using hi)

def matB (k : Nat) (inv : Bool) : Bool := allB (2 ^ k) fun j => allB (2 ^ k) fun i => decide (netM k inv j i = matM k inv j i)
theorem mat0 : matB 0 false = true ∧ matB 0 true = true := by decide +kernel
theorem mat1 : matB 1 false = true ∧ matB 1 true = true := by decide +kernel
theorem mat2 : matB 2 false = true ∧ matB 2 true = true := by decide +kernel
theorem mat3f : matB 3 false = true := by decide +kernel
theorem mat3t : matB 3 true = true := by decide +kernel
theorem mat4f : matB 4 false = true := by decide +kernel
theorem mat4t : matB 4 true = true := by decide +kernel

theorem mat_all (k : Nat) (hk : k ≤ 4) (inv : Bool) : matB k inv = true := by
  have : k = 0 ∨ k = 1 ∨ k = 2 ∨ k = 3 ∨ k = 4 := by omega
  rcases this with rfl | rfl | rfl | rfl | rfl <;> cases inv
  · exact mat0.1
  · exact mat0.2
  · exact mat1.1
  · exact mat1.2
  · exact mat2.1
  · exact mat2.2
  · exact mat3f
  · exact mat3t
  · exact mat4f
  · exact mat4t

theorem netM_eq {k : Nat} (hk : k ≤ 4) (inv : Bool) {j i : Nat} (hj : j < 2 ^ k) (hi : i < 2 ^ k) : netM k inv j i = matM k inv j i :=
  of_decide_eq_true (allB_spec (allB_spec (mat_all k hk inv) j hj) i hi)

/-- The model's sum. -/
def sumM (w : Int) (x : Nat → Int) : Nat → Int
  | 0 => 0
  | i + 1 => (sumM w x i + x i * powT w i) % pP

theorem sumM_sm (w : Int) (x : Nat → Int) : ∀ n, sumM w x n % pP = sm n (fun i => x i * powT w i) % pP
  | 0 => rfl
  | n + 1 => by rw [sumM, sm, Int.emod_emod, Int.add_emod, sumM_sm w x n, ← Int.add_emod]

/-- The model's transform. -/
def dftP (k : Nat) (inv : Bool) (x : Nat → Int) (j : Nat) : Int := sumM (powT (wOf k inv) j) x (2 ^ k) * scOf k inv % pP

theorem net_dft {k : Nat} (hk : k ≤ 4) (inv : Bool) (x : Nat → Int) (hx : InP (2 ^ k) x) (j : Nat) (hj : j < 2 ^ k) : netP k inv x j = dftP k inv x j := by
  rw [net_mat k inv x hx j]
  unfold dftP
  rw [Int.mul_emod, sumM_sm, ← Int.mul_emod, ← sm_mul]
  refine sm_emod_congr fun i hi => ?_
  rw [netM_eq hk inv hj hi]
  unfold matM tM
  rw [Int.mul_emod, Int.emod_emod, ← Int.mul_emod]
  congr 1
  rw [Int.mul_comm (x i), Int.mul_assoc, Int.mul_assoc, Int.mul_comm (x i)]

/-! ### The product -/
def aB (k : Nat) : Bool := allB (2 ^ k) fun j => allB (2 ^ k) fun s => allB (2 ^ k) fun t => decide (2 ^ k ≤ s + t) || decide (matM k false j s * matM k false j t % pP = matM k false j (s + t))
def bB (k : Nat) : Bool := allB (2 ^ k) fun i => allB (2 ^ k) fun u => decide (sm (2 ^ k) (fun j => matM k true i j * matM k false j u) % pP = if i = u then 1 else 0)
theorem aB0 : aB 0 = true ∧ aB 1 = true ∧ aB 2 = true ∧ aB 3 = true := by decide +kernel
theorem aB4 : aB 4 = true := by decide +kernel
theorem bB0 : bB 0 = true ∧ bB 1 = true ∧ bB 2 = true ∧ bB 3 = true := by decide +kernel
theorem bB4 : bB 4 = true := by decide +kernel

theorem aB_all (k : Nat) (hk : k ≤ 4) : aB k = true := by
  have : k = 0 ∨ k = 1 ∨ k = 2 ∨ k = 3 ∨ k = 4 := by omega
  rcases this with rfl | rfl | rfl | rfl | rfl
  · exact aB0.1
  · exact aB0.2.1
  · exact aB0.2.2.1
  · exact aB0.2.2.2
  · exact aB4
theorem bB_all (k : Nat) (hk : k ≤ 4) : bB k = true := by
  have : k = 0 ∨ k = 1 ∨ k = 2 ∨ k = 3 ∨ k = 4 := by omega
  rcases this with rfl | rfl | rfl | rfl | rfl
  · exact bB0.1
  · exact bB0.2.1
  · exact bB0.2.2.1
  · exact bB0.2.2.2
  · exact bB4

theorem mat_mul {k : Nat} (hk : k ≤ 4) {j s t : Nat} (hj : j < 2 ^ k) (hs : s < 2 ^ k) (ht : t < 2 ^ k) (h : s + t < 2 ^ k) : matM k false j s * matM k false j t % pP = matM k false j (s + t) := by
  have h1 := allB_spec (allB_spec (allB_spec (aB_all k hk) j hj) s hs) t ht
  simp only [Bool.or_eq_true, decide_eq_true_eq] at h1
  rcases h1 with h1 | h1
  · omega
  · exact h1

theorem mat_inv {k : Nat} (hk : k ≤ 4) {i u : Nat} (hi : i < 2 ^ k) (hu : u < 2 ^ k) : sm (2 ^ k) (fun j => matM k true i j * matM k false j u) % pP = if i = u then 1 else 0 :=
  of_decide_eq_true (allB_spec (allB_spec (bB_all k hk) i hi) u hu)

theorem emod_in (a : Int) : 0 ≤ a % pP ∧ a % pP < pP := ⟨Int.emod_nonneg _ (by decide), Int.emod_lt_of_pos _ (by decide)⟩

/-- The product as the real layer makes it. -/
def prodP (k : Nat) (f g : Nat → Int) : Nat → Int := netP k true (fun j => netP k false f j * netP k false g j % pP)

/-- The school's. -/
def schoolP (lf lg : Nat) (f g : Nat → Int) (u : Nat) : Int := sm lf (fun s => sm lg (fun t => (if u = s + t then 1 else 0) * (f s * g t))) % pP

theorem mul_emod_left (a b : Int) : (a % pP) * b % pP = a * b % pP := by rw [Int.mul_emod, Int.emod_emod, ← Int.mul_emod]
theorem mul_emod_right (a b : Int) : a * (b % pP) % pP = a * b % pP := by rw [Int.mul_emod, Int.emod_emod, ← Int.mul_emod]

theorem prod_school {k : Nat} (hk : k ≤ 4) {lf lg : Nat} (hl : lf + lg ≤ 2 ^ k + 1) (h1g : 1 ≤ lg) {f g : Nat → Int} (hf : InP (2 ^ k) f) (hg : InP (2 ^ k) g) (zf : ∀ i, lf ≤ i → i < 2 ^ k → f i = 0) (zg : ∀ i, lg ≤ i → i < 2 ^ k → g i = 0) {i : Nat} (hi : i < 2 ^ k) :
    prodP k f g i = schoolP lf lg f g i := by
  have hH : InP (2 ^ k) (fun j => netP k false f j * netP k false g j % pP) := fun j _ => emod_in _
  unfold prodP
  rw [net_mat k true _ hH i]
  -- the j-th term
  have t1 : ∀ j, j < 2 ^ k → netM k true i j * (netP k false f j * netP k false g j % pP) % pP = sm (2 ^ k) (fun s => sm (2 ^ k) (fun t => (matM k true i j * matM k false j (s + t)) * (f s * g t))) % pP := by
    intro j hj
    rw [netM_eq hk true hi hj, mul_emod_right, net_mat k false f hf j, net_mat k false g hg j]
    rw [show matM k true i j * (sm (2 ^ k) (fun i => netM k false j i * f i) % pP * (sm (2 ^ k) (fun i => netM k false j i * g i) % pP)) = (sm (2 ^ k) (fun i => netM k false j i * f i) % pP) * (matM k true i j * (sm (2 ^ k) (fun i => netM k false j i * g i) % pP)) from by
      rw [← Int.mul_assoc, Int.mul_comm (matM k true i j), Int.mul_assoc]]
    rw [mul_emod_left, ← Int.mul_assoc, mul_emod_right, Int.mul_comm (sm (2 ^ k) (fun i => netM k false j i * f i)) (matM k true i j), Int.mul_assoc, ← sm_mul]
    rw [← sm_mul_left]
    refine sm_emod_congr fun s hs => ?_
    rw [← sm_mul_left, ← sm_mul_left]
    refine sm_emod_congr fun t ht => ?_
    rw [netM_eq hk false hj hs, netM_eq hk false hj ht]
    by_cases hst : s + t < 2 ^ k
    · rw [← mat_mul hk hj hs ht hst]
      rw [← mul_emod_left (matM k true i j * (matM k false j s * matM k false j t % pP)), mul_emod_right, mul_emod_left]
      congr 1
      simp only [Int.mul_assoc, Int.mul_comm, Int.mul_left_comm]
    · have hz : f s * g t = 0 := by
        by_cases h : lf ≤ s
        · rw [zf s h hs]; simp
        · rw [zg t (by omega) ht]; simp
      rw [show matM k true i j * (matM k false j s * f s * (matM k false j t * g t)) = matM k true i j * matM k false j s * matM k false j t * (f s * g t) from by simp only [Int.mul_assoc, Int.mul_comm, Int.mul_left_comm], hz]
      simp
  rw [sm_emod_congr t1, sm_swap]
  unfold schoolP
  rw [show sm lf (fun s => sm lg (fun t => (if i = s + t then 1 else 0) * (f s * g t))) = sm (2 ^ k) (fun s => sm (2 ^ k) (fun t => (if i = s + t then 1 else 0) * (f s * g t))) from ?_]
  · refine sm_emod_congr fun s hs => ?_
    rw [sm_swap]
    refine sm_emod_congr fun t ht => ?_
    rw [sm_mul]
    by_cases hst : s + t < 2 ^ k
    · rw [← mul_emod_left, mat_inv hk hi hst]
    · have hz : f s * g t = 0 := by
        by_cases h : lf ≤ s
        · rw [zf s h hs]; simp
        · rw [zg t (by omega) ht]; simp
      rw [hz]; simp
  · rw [sm_ext (n := lf) (m := 2 ^ k) (by omega) (fun s h1 h2 => ?_)]
    · refine sm_congr fun s hs => ?_
      rw [sm_ext (n := lg) (m := 2 ^ k) (by omega) (fun t h1 h2 => ?_)]
      rw [zg t h1 h2]; simp
    · rw [zf s h1 h2]
      simp [sm_zero]

/-! ### The model's product -/
def yRow (f g : Nat → Int) (i : Nat) (y : Nat → Int) : Nat → Nat → Int
  | 0 => y
  | j + 1 => updF (yRow f g i y j) (i + j) ((yRow f g i y j (i + j) + f i * g j) % pP)

def yAll (lg : Nat) (f g : Nat → Int) : Nat → Nat → Int
  | 0 => fun _ => 0
  | i + 1 => yRow f g i (yAll lg f g i) lg

theorem yRow_eq (f g : Nat → Int) (i : Nat) (y : Nat → Int) (hy : ∀ u, y u = y u % pP) (u : Nat) : ∀ j, yRow f g i y j u = (y u + sm j (fun t => (if u = i + t then 1 else 0) * (f i * g t))) % pP
  | 0 => by simp [yRow, sm]; exact hy u
  | j + 1 => by
    have ih := yRow_eq f g i y hy u j
    unfold yRow updF
    by_cases h : u = i + j
    · rw [if_pos h, sm, if_pos h, ← h, ih, Int.add_emod, Int.emod_emod, ← Int.add_emod]
      congr 1
      omega
    · rw [if_neg h, sm, if_neg h, ih]
      simp

theorem yAll_eq (lg : Nat) (f g : Nat → Int) : ∀ lf u, yAll lg f g lf u = schoolP lf lg f g u
  | 0, u => by simp [yAll, schoolP, sm]
  | lf + 1, u => by
    have hr : ∀ u, yAll lg f g lf u = yAll lg f g lf u % pP := fun u => by rw [yAll_eq lg f g lf u]; unfold schoolP; rw [Int.emod_emod]
    show yRow f g lf (yAll lg f g lf) lg u = _
    rw [yRow_eq f g lf _ hr u lg, yAll_eq lg f g lf u]
    unfold schoolP
    rw [sm, Int.add_emod, Int.emod_emod, ← Int.add_emod]
end Go.Proofs.Qxb6500368a
