/-
  THE LAW'S OWN judge: the marks by counting. (gen70kj.py)
-/
import Derived.Test.Qxb6500370aKCut
namespace Go.Proofs.Qxb6500370a
open Go.RowKit Go.Qx Go.Qx.Mk
set_option linter.unusedVariables false
set_option linter.unusedSimpArgs false

def ahF (s t : Nat → Int) (p x : Nat) : Bool := !(t x == s x) && t x == t p && decide (x < p)
def lfF (s t : Nat → Int) (p x : Nat) : Bool := !(t x == s x) && s x == t p
theorem cnt_lt (f : Nat → Bool) (p : Nat) : ∀ n, p ≤ n → cnt (fun x => f x && decide (x < p)) n = cnt f p
  | 0, h => by have : p = 0 := by omega
               subst this; rfl
  | n + 1, h => by
    by_cases e : p = n + 1
    · subst e
      exact cnt_congr _ (fun q hq => by simp [hq])
    · rw [cnt, cnt_lt f p n (by omega)]
      have : ¬ n < p := by omega
      simp [this]
theorem ah_all (s t : Nat → Int) (p : Nat) (hp : p < 5) : cnt (ahF s t p) 5 = ng s t (t p) p := cnt_lt (fun x => !(t x == s x) && t x == t p) p 5 (by omega)
theorem lf_all (s t : Nat → Int) (p : Nat) : cnt (lfF s t p) 5 = lf s t (t p) 5 := rfl
theorem cnt_le (f : Nat → Bool) : ∀ n, cnt f n ≤ n
  | 0 => Nat.le_refl _
  | n + 1 => by have := cnt_le f n; rw [cnt]; split <;> omega
/-- The bytes behind p places. -/
def jB (s t : Nat → Int) (p q : Nat) : Value := if q < p then .int .u8 ((markB (Mk.mark 5 s t q)).toNat : Int) else .int .u8 0
theorem jB_next (s t : Nat → Int) (p : Nat) (hp : p < 5) : (row5 (jB s t p)).set p (.int .u8 ((markB (Mk.mark 5 s t p)).toNat : Int)) = row5 (jB s t (p + 1)) :=
  row5_set _ (jB s t (p + 1)) p _ hp (by unfold jB; rw [if_pos (by omega)]) (fun q _ hne => by
    unfold jB
    by_cases e : q < p
    · rw [if_pos e, if_pos (by omega)]
    · rw [if_neg e, if_neg (by omega)])
structure JS (A B : Nat → ByteArray) (s t : Nat → Int) : Prop where
  ba : ∀ q, q < 5 → (B q = A q ↔ t q = s q)
  ab : ∀ q p, q < 5 → p < 5 → (A q = B p ↔ s q = t p)
  bb : ∀ q p, q < 5 → p < 5 → (B q = B p ↔ t q = t p)
structure JW (w wr : World) (A B : Nat → ByteArray) (s t : Nat → Int) (p : Nat) : Prop where
  q : Quiet w wr
  a : Blk wr w.heap.size 77 (row5 fun i => .string (A i))
  b : Blk wr (w.heap.size + 1) 77 (row5 fun i => .string (B i))
  m : Blk wr (w.heap.size + 1 + 1) 5 (row5 (jB s t p))
theorem JW.drew {w wr : World} {A B : Nat → ByteArray} {s t : Nat → Int} {p : Nat} (h : JW w wr A B s t p) (n : Nat) : JW w (wr.drewN n) A B s t p := ⟨h.q.drewN n, h.a.drewN n, h.b.drewN n, h.m.drewN n⟩
theorem same_beq (a b : ByteArray) (c : Bool) (h : (a = b) ↔ c = true) : (a.toList == b.toList) = c := by
  rw [toList_beq]
  cases c
  · exact decide_eq_false (fun e => by simpa using h.1 e)
  · exact decide_eq_true (h.2 rfl)

set_option maxHeartbeats 4000000 in
set_option maxRecDepth 100000 in
theorem judge_any (w : World) (A B : Nat → ByteArray) (s t : Nat → Int) (js : JS A B s t) : Calls Try.prog 50 #[.agg (row5 fun i => .string (A i)).toArray, .agg (row5 fun i => .string (B i)).toArray] w fun e w' => e = .returned (.string (str (marksL s t))) ∧ Quiet w w' := by
  have hmk := makeB ((w.alloc (.cells (row5 fun i => .string (A i)).toArray 77)).alloc (.cells (row5 fun i => .string (B i)).toArray 77)) 5 (by omega)
  have S0 : Hid (JW w (((w.alloc (.cells (row5 fun i => .string (A i)).toArray 77)).alloc (.cells (row5 fun i => .string (B i)).toArray 77)).alloc (.cells (List.replicate 5 (Value.int .u8 0)).toArray 5)) A B s t 0) := by
    have h1 : ∀ (W : World) (o : Obj), (W.alloc o).heap.size = W.heap.size + 1 := fun W o => by simp
    have b2 := Blk.new (w.alloc (.cells (row5 fun i => .string (A i)).toArray 77)) 77 (row5 fun i => .string (B i))
    have b3 := Blk.new ((w.alloc (.cells (row5 fun i => .string (A i)).toArray 77)).alloc (.cells (row5 fun i => .string (B i)).toArray 77)) 5 (List.replicate 5 (Value.int .u8 0))
    rw [h1] at b2
    rw [h1, h1] at b3
    exact ⟨Chg.alloc (Chg.alloc (Chg.alloc (Chg.refl (fun _ => False) w) _) _) _, ((Blk.new w 77 _).alloc _).alloc _, b2.alloc _, b3⟩
  rw [show ((w.alloc (.cells (row5 fun i => .string (A i)).toArray 77)).alloc (.cells (row5 fun i => .string (B i)).toArray 77)).heap.size = w.heap.size + 1 + 1 by simp] at hmk
  rw [show (row5 fun i => Value.string (A i)).toArray = #[.string (A 0), .string (A 1), .string (A 2), .string (A 3), .string (A 4)] from rfl, show (row5 fun i => Value.string (B i)).toArray = #[.string (B 0), .string (B 1), .string (B 2), .string (B 3), .string (B 4)] from rfl] at *
  obtain ⟨W0, hW0⟩ : ∃ W, ((w.alloc (.cells #[.string (A 0), .string (A 1), .string (A 2), .string (A 3), .string (A 4)] 77)).alloc (.cells #[.string (B 0), .string (B 1), .string (B 2), .string (B 3), .string (B 4)] 77)).alloc (.cells (List.replicate 5 (Value.int .u8 0)).toArray 5) = W := ⟨_, rfl⟩
  rw [hW0] at hmk S0
  clear hW0
  have hmk2 : (Instr.makeSlice 31 (.int .i64 5) (.int .i64 5)).run Try.prog ((w.alloc (.cells #[.string (A 0), .string (A 1), .string (A 2), .string (A 3), .string (A 4)] 77)).alloc (.cells #[.string (B 0), .string (B 1), .string (B 2), .string (B 3), .string (B 4)] 77)) = .ok (.slice (some ⟨w.heap.size + 1 + 1, 0, none⟩) 5 5) W0 := hmk
  clear hmk
  go_enter Try.func50, Try.ntmps50
  go_wp2
  clear hmk2
  go_loopw [6] (fun z wr => ∃ p : Nat, p ≤ 5 ∧ z = .int .i64 (p : Int) ∧ JW w wr A B s t p) (fun z _ => 6 - (intOf z).toNat)
  case atStart => exact ⟨0, by omega, rfl, unhide S0⟩
  case round =>
    clear S0
    obtain ⟨p, hp, rfl, J⟩ := hrel
    by_cases hlt : p < 5
    · have p1 : (p : Int) < 5 := by omega
      have p0 : (0 : Int) ≤ (p : Int) := by omega
      have wp : wrap64 ((p : Int) + 1) = (p : Int) + 1 := wrap_small (p + 1) (by omega)
      have JH := hide J
      have hltH := hide hlt
      clear J hp hlt
      go_wp2
      go_loopw [7, 8, 9] (fun a l z wr => ∃ q : Nat, q ≤ 5 ∧ z = .int .i64 (q : Int) ∧ a = .int .i64 (cnt (ahF s t p) q : Int) ∧ l = .int .i64 (cnt (lfF s t p) q : Int) ∧ JW w wr A B s t p) (fun _ _ z _ => 6 - (intOf z).toNat)
      case atStart => exact ⟨0, by omega, rfl, rfl, rfl, unhide JH⟩
      case round =>
        clear JH
        obtain ⟨q, hq, rfl, rfl, rfl, J⟩ := hrel
        have hlp := unhide hltH
        by_cases hq5 : q < 5
        · have q1 : (q : Int) < 5 := by omega
          have q0 : (0 : Int) ≤ (q : Int) := by omega
          have wq : wrap64 ((q : Int) + 1) = (q : Int) + 1 := wrap_small (q + 1) (by omega)
          have l1 := cnt_le (ahF s t p) q
          have l2 := cnt_le (lfF s t p) q
          have wa : wrap64 ((cnt (ahF s t p) q : Int) + 1) = (cnt (ahF s t p) q : Int) + 1 := wrap_small (cnt (ahF s t p) q + 1) (by omega)
          have wl : wrap64 ((cnt (lfF s t p) q : Int) + 1) = (cnt (lfF s t p) q : Int) + 1 := wrap_small (cnt (lfF s t p) q + 1) (by omega)
          have ca : wr.cell? ⟨w.heap.size, q, none⟩ = some (.string (A q)) := (J.a.cell q).trans (row5_get _ q hq5)
          have cb : wr.cell? ⟨w.heap.size + 1, q, none⟩ = some (.string (B q)) := (J.b.cell q).trans (row5_get _ q hq5)
          have cp : wr.cell? ⟨w.heap.size + 1, p, none⟩ = some (.string (B p)) := (J.b.cell p).trans (row5_get _ p hlp)
          have na : cnt (ahF s t p) (q + 1) = cnt (ahF s t p) q + (if ahF s t p q then 1 else 0) := rfl
          have nl : cnt (lfF s t p) (q + 1) = cnt (lfF s t p) q + (if lfF s t p q then 1 else 0) := rfl
          have s1 : ((B q).toList == (A q).toList) = (t q == s q) := same_beq _ _ _ (by rw [js.ba q hq5]; simp)
          have s2 : ((B q).toList == (B p).toList) = (t q == t p) := same_beq _ _ _ (by rw [js.bb q p hq5 hlp]; simp)
          have s3 : ((A q).toList == (B p).toList) = (s q == t p) := same_beq _ _ _ (by rw [js.ab q p hq5 hlp]; simp)
          have JH := hide J
          have hqH := hide hq5
          clear J hq hq5 hlp l1 l2
          by_cases e1 : t q = s q
          · have x1 : (t q == s q) = true := by simpa using e1
            rw [x1] at s1
            rw [show ahF s t p q = false by unfold ahF; first | (rw [x1]; rfl) | (rw [x1, x2]; simp [e4]) | (rw [x1, x2]; rfl)] at na
            rw [show lfF s t p q = false by unfold lfF; first | (rw [x1]; rfl) | (rw [x1, x3]; rfl)] at nl
            have naH := hide na
            have nlH := hide nl
            clear na nl e1 x1
            generalize cnt (ahF s t p) q = aa at *
            generalize cnt (lfF s t p) q = ll at *
            generalize A q = aq at *
            generalize B q = bq at *
            generalize B p = bp at *
            go_wp2
            go_quiet (fail)
            have J1 := (unhide JH).drew nq
            have ca0 : (wr.drewN nq).cell? ⟨w.heap.size, q, none⟩ = some (.string aq) := Quiet.cell ((Chg.refl _ _).drewN nq) ca
            have cb0 : (wr.drewN nq).cell? ⟨w.heap.size + 1, q, none⟩ = some (.string bq) := Quiet.cell ((Chg.refl _ _).drewN nq) cb
            have cp0 : (wr.drewN nq).cell? ⟨w.heap.size + 1, p, none⟩ = some (.string bp) := Quiet.cell ((Chg.refl _ _).drewN nq) cp
            generalize wr.drewN nq = wA at *
            clear ca cb cp
            have ca : wA.cell? ⟨w.heap.size, q, none⟩ = some (.string aq) := ca0
            have cb : wA.cell? ⟨w.heap.size + 1, q, none⟩ = some (.string bq) := cb0
            have cp : wA.cell? ⟨w.heap.size + 1, p, none⟩ = some (.string bp) := cp0
            have J1H := hide J1
            clear J1
            go_wp2
            go_quiet (fail)
            have J2 := hide ((unhide J1H).drew nq)
            go_wp2
            go_roundw
            case rel => exact ⟨q + 1, unhide hqH, by simp; try exact wq, by rw [unhide naH]; simp; try exact wa, by rw [unhide nlH]; simp; try exact wl, unhide J2⟩
            case measure =>
              have h := unhide hqH
              first
                | exact meas_list h
                | (rw [wq]; exact meas_list h)
          · have x1 : (t q == s q) = false := by simpa using e1
            rw [x1] at s1
            by_cases e3 : s q = t p
            · have x3 : (s q == t p) = true := by simpa using e3
              rw [x3] at s3
              have e2 : ¬ t q = t p := fun h => e1 (h.trans e3.symm)
              have x2 : (t q == t p) = false := by simpa using e2
              rw [x2] at s2
              rw [show ahF s t p q = false by unfold ahF; first | (rw [x1]; rfl) | (rw [x1, x2]; simp [e4]) | (rw [x1, x2]; rfl)] at na
              rw [show lfF s t p q = true by unfold lfF; first | (rw [x1]; rfl) | (rw [x1, x3]; rfl)] at nl
              have naH := hide na
              have nlH := hide nl
              clear na nl e1 x1 e3 x3 e2 x2
              generalize cnt (ahF s t p) q = aa at *
              generalize cnt (lfF s t p) q = ll at *
              generalize A q = aq at *
              generalize B q = bq at *
              generalize B p = bp at *
              go_wp2
              go_quiet (fail)
              have J1 := (unhide JH).drew nq
              have ca0 : (wr.drewN nq).cell? ⟨w.heap.size, q, none⟩ = some (.string aq) := Quiet.cell ((Chg.refl _ _).drewN nq) ca
              have cb0 : (wr.drewN nq).cell? ⟨w.heap.size + 1, q, none⟩ = some (.string bq) := Quiet.cell ((Chg.refl _ _).drewN nq) cb
              have cp0 : (wr.drewN nq).cell? ⟨w.heap.size + 1, p, none⟩ = some (.string bp) := Quiet.cell ((Chg.refl _ _).drewN nq) cp
              generalize wr.drewN nq = wA at *
              clear ca cb cp
              have ca : wA.cell? ⟨w.heap.size, q, none⟩ = some (.string aq) := ca0
              have cb : wA.cell? ⟨w.heap.size + 1, q, none⟩ = some (.string bq) := cb0
              have cp : wA.cell? ⟨w.heap.size + 1, p, none⟩ = some (.string bp) := cp0
              have J1H := hide J1
              clear J1
              go_wp2
              go_quiet (fail)
              have J2 := hide ((unhide J1H).drew nq)
              go_wp2
              go_roundw
              case rel => exact ⟨q + 1, unhide hqH, by simp; try exact wq, by rw [unhide naH]; simp; try exact wa, by rw [unhide nlH]; simp; try exact wl, unhide J2⟩
              case measure =>
                have h := unhide hqH
                first
                  | exact meas_list h
                  | (rw [wq]; exact meas_list h)
            · have x3 : (s q == t p) = false := by simpa using e3
              rw [x3] at s3
              by_cases e2 : t q = t p
              · have x2 : (t q == t p) = true := by simpa using e2
                rw [x2] at s2
                by_cases e4 : q < p
                · have x4 : decide ((q : Int) < (p : Int)) = true := decide_eq_true (by omega)
                  have x5 : (q : Int) < (p : Int) := by omega
                  rw [show ahF s t p q = true by unfold ahF; first | (rw [x1]; rfl) | (rw [x1, x2]; simp [e4]) | (rw [x1, x2]; rfl)] at na
                  rw [show lfF s t p q = false by unfold lfF; first | (rw [x1]; rfl) | (rw [x1, x3]; rfl)] at nl
                  have naH := hide na
                  have nlH := hide nl
                  clear na nl e1 x1 e3 x3 e2 x2 e4
                  generalize cnt (ahF s t p) q = aa at *
                  generalize cnt (lfF s t p) q = ll at *
                  generalize A q = aq at *
                  generalize B q = bq at *
                  generalize B p = bp at *
                  go_wp2
                  go_quiet (fail)
                  have J1 := (unhide JH).drew nq
                  have ca0 : (wr.drewN nq).cell? ⟨w.heap.size, q, none⟩ = some (.string aq) := Quiet.cell ((Chg.refl _ _).drewN nq) ca
                  have cb0 : (wr.drewN nq).cell? ⟨w.heap.size + 1, q, none⟩ = some (.string bq) := Quiet.cell ((Chg.refl _ _).drewN nq) cb
                  have cp0 : (wr.drewN nq).cell? ⟨w.heap.size + 1, p, none⟩ = some (.string bp) := Quiet.cell ((Chg.refl _ _).drewN nq) cp
                  generalize wr.drewN nq = wA at *
                  clear ca cb cp
                  have ca : wA.cell? ⟨w.heap.size, q, none⟩ = some (.string aq) := ca0
                  have cb : wA.cell? ⟨w.heap.size + 1, q, none⟩ = some (.string bq) := cb0
                  have cp : wA.cell? ⟨w.heap.size + 1, p, none⟩ = some (.string bp) := cp0
                  have J1H := hide J1
                  clear J1
                  go_wp2
                  go_quiet (fail)
                  have J2 := hide ((unhide J1H).drew nq)
                  go_wp2
                  go_roundw
                  case rel => exact ⟨q + 1, unhide hqH, by simp; try exact wq, by rw [unhide naH]; simp; try exact wa, by rw [unhide nlH]; simp; try exact wl, unhide J2⟩
                  case measure =>
                    have h := unhide hqH
                    first
                      | exact meas_list h
                      | (rw [wq]; exact meas_list h)
                · have x4 : decide ((q : Int) < (p : Int)) = false := decide_eq_false (by omega)
                  have x5 : ¬ (q : Int) < (p : Int) := by omega
                  rw [show ahF s t p q = false by unfold ahF; first | (rw [x1]; rfl) | (rw [x1, x2]; simp [e4]) | (rw [x1, x2]; rfl)] at na
                  rw [show lfF s t p q = false by unfold lfF; first | (rw [x1]; rfl) | (rw [x1, x3]; rfl)] at nl
                  have naH := hide na
                  have nlH := hide nl
                  clear na nl e1 x1 e3 x3 e2 x2 e4
                  generalize cnt (ahF s t p) q = aa at *
                  generalize cnt (lfF s t p) q = ll at *
                  generalize A q = aq at *
                  generalize B q = bq at *
                  generalize B p = bp at *
                  go_wp2
                  go_quiet (fail)
                  have J1 := (unhide JH).drew nq
                  have ca0 : (wr.drewN nq).cell? ⟨w.heap.size, q, none⟩ = some (.string aq) := Quiet.cell ((Chg.refl _ _).drewN nq) ca
                  have cb0 : (wr.drewN nq).cell? ⟨w.heap.size + 1, q, none⟩ = some (.string bq) := Quiet.cell ((Chg.refl _ _).drewN nq) cb
                  have cp0 : (wr.drewN nq).cell? ⟨w.heap.size + 1, p, none⟩ = some (.string bp) := Quiet.cell ((Chg.refl _ _).drewN nq) cp
                  generalize wr.drewN nq = wA at *
                  clear ca cb cp
                  have ca : wA.cell? ⟨w.heap.size, q, none⟩ = some (.string aq) := ca0
                  have cb : wA.cell? ⟨w.heap.size + 1, q, none⟩ = some (.string bq) := cb0
                  have cp : wA.cell? ⟨w.heap.size + 1, p, none⟩ = some (.string bp) := cp0
                  have J1H := hide J1
                  clear J1
                  go_wp2
                  go_quiet (fail)
                  have J2 := hide ((unhide J1H).drew nq)
                  go_wp2
                  go_roundw
                  case rel => exact ⟨q + 1, unhide hqH, by simp; try exact wq, by rw [unhide naH]; simp; try exact wa, by rw [unhide nlH]; simp; try exact wl, unhide J2⟩
                  case measure =>
                    have h := unhide hqH
                    first
                      | exact meas_list h
                      | (rw [wq]; exact meas_list h)
              · have x2 : (t q == t p) = false := by simpa using e2
                rw [x2] at s2
                rw [show ahF s t p q = false by unfold ahF; first | (rw [x1]; rfl) | (rw [x1, x2]; simp [e4]) | (rw [x1, x2]; rfl)] at na
                rw [show lfF s t p q = false by unfold lfF; first | (rw [x1]; rfl) | (rw [x1, x3]; rfl)] at nl
                have naH := hide na
                have nlH := hide nl
                clear na nl e1 x1 e3 x3 e2 x2
                generalize cnt (ahF s t p) q = aa at *
                generalize cnt (lfF s t p) q = ll at *
                generalize A q = aq at *
                generalize B q = bq at *
                generalize B p = bp at *
                go_wp2
                go_quiet (fail)
                have J1 := (unhide JH).drew nq
                have ca0 : (wr.drewN nq).cell? ⟨w.heap.size, q, none⟩ = some (.string aq) := Quiet.cell ((Chg.refl _ _).drewN nq) ca
                have cb0 : (wr.drewN nq).cell? ⟨w.heap.size + 1, q, none⟩ = some (.string bq) := Quiet.cell ((Chg.refl _ _).drewN nq) cb
                have cp0 : (wr.drewN nq).cell? ⟨w.heap.size + 1, p, none⟩ = some (.string bp) := Quiet.cell ((Chg.refl _ _).drewN nq) cp
                generalize wr.drewN nq = wA at *
                clear ca cb cp
                have ca : wA.cell? ⟨w.heap.size, q, none⟩ = some (.string aq) := ca0
                have cb : wA.cell? ⟨w.heap.size + 1, q, none⟩ = some (.string bq) := cb0
                have cp : wA.cell? ⟨w.heap.size + 1, p, none⟩ = some (.string bp) := cp0
                have J1H := hide J1
                clear J1
                go_wp2
                go_quiet (fail)
                have J2 := hide ((unhide J1H).drew nq)
                go_wp2
                go_roundw
                case rel => exact ⟨q + 1, unhide hqH, by simp; try exact wq, by rw [unhide naH]; simp; try exact wa, by rw [unhide nlH]; simp; try exact wl, unhide J2⟩
                case measure =>
                  have h := unhide hqH
                  first
                    | exact meas_list h
                    | (rw [wq]; exact meas_list h)
        · have q1 : ¬ (q : Int) < 5 := by omega
          obtain rfl : q = 5 := by omega
          have l1 := ah_all s t p hlp
          have l2 := lf_all s t p
          rw [l1, l2]
          have cm := (J.m.cell p).trans (row5_get _ p hlp)
          have fm := J.m.frozen p
          have ca : wr.cell? ⟨w.heap.size, p, none⟩ = some (.string (A p)) := (J.a.cell p).trans (row5_get _ p hlp)
          have cb : wr.cell? ⟨w.heap.size + 1, p, none⟩ = some (.string (B p)) := (J.b.cell p).trans (row5_get _ p hlp)
          have s1 : ((B p).toList == (A p).toList) = (t p == s p) := same_beq _ _ _ (by rw [js.ba p hlp]; simp)
          obtain ⟨W1, hW1⟩ : ∃ W, wr.setCell ⟨w.heap.size + 1 + 1, p, none⟩ (.int .u8 45) = W := ⟨_, rfl⟩
          have JM : Blk W1 (w.heap.size + 1 + 1) 5 ((row5 (jB s t p)).set p (.int .u8 45)) := by rw [← hW1]; exact J.m.set p _
          have a1 : Blk W1 w.heap.size 77 (row5 fun i => .string (A i)) := by rw [← hW1]; exact J.a.set_other (by show w.heap.size ≠ w.heap.size + 1 + 1; omega) _
          have b1 : Blk W1 (w.heap.size + 1) 77 (row5 fun i => .string (B i)) := by rw [← hW1]; exact J.b.set_other (by show w.heap.size + 1 ≠ w.heap.size + 1 + 1; omega) _
          have Q1 : Quiet w W1 := by rw [← hW1]; exact J.q.setCell (p := ⟨w.heap.size + 1 + 1, p, none⟩) (.inr (by show _ ≤ w.heap.size + 1 + 1; omega)) _
          have ca1 : W1.cell? ⟨w.heap.size, p, none⟩ = some (.string (A p)) := (a1.cell p).trans (row5_get _ p hlp)
          have cb1 : W1.cell? ⟨w.heap.size + 1, p, none⟩ = some (.string (B p)) := (b1.cell p).trans (row5_get _ p hlp)
          have lm : (row5 (jB s t p)).length = 5 := rfl
          have cm1 : W1.cell? ⟨w.heap.size + 1 + 1, p, none⟩ = some (.int .u8 45) := (JM.cell p).trans (by rw [List.getElem?_set_self (by rw [lm]; exact hlp)])
          have fm1 := JM.frozen p
          have fin : Hid (∀ n, (Mk.mark 5 s t p = 2 → JW w (W1.drewN n) A B s t (p + 1)) ∧ ∀ v, v = Value.int .u8 ((markB (Mk.mark 5 s t p)).toNat : Int) → JW w ((W1.drewN n).setCell ⟨w.heap.size + 1 + 1, p, none⟩ v) A B s t (p + 1)) := by
            show ∀ n, _
            intro n
            refine ⟨fun h2 => ⟨Q1.drewN n, a1.drewN n, b1.drewN n, ?_⟩, ?_⟩
            · have := JM.drewN n
              rw [← jB_next s t p hlp, h2]; exact this
            · rintro v rfl
              refine ⟨(Q1.drewN n).setCell (p := ⟨w.heap.size + 1 + 1, p, none⟩) (.inr (by show _ ≤ w.heap.size + 1 + 1; omega)) _, (a1.drewN n).set_other (by show w.heap.size ≠ w.heap.size + 1 + 1; omega) _, (b1.drewN n).set_other (by show w.heap.size + 1 ≠ w.heap.size + 1 + 1; omega) _, ?_⟩
              have := (JM.drewN n).set p (.int .u8 ((markB (Mk.mark 5 s t p)).toNat : Int))
              rw [List.set_set, jB_next s t p hlp] at this
              exact this
          have hmark : Mk.mark 5 s t p = if t p = s p then 0 else if ng s t (t p) p < lf s t (t p) 5 then 1 else 2 := rfl
          clear J JM a1 b1 Q1 lm hq hlp l1 l2 hq5
          by_cases e1 : t p = s p
          · rw [if_pos e1] at hmark
            rw [show (t p == s p) = true by simpa using e1] at s1
            have fin2 := hide (fun n => (unhide fin n).2 (.int .u8 103) (by rw [hmark]; rfl))
            clear fin hmark e1
            generalize ng s t (t p) p = aa at *
            generalize lf s t (t p) 5 = ll at *
            generalize A p = ap at *
            generalize B p = bp at *
            go_wp2
            go_quiet (fail)
            have F := hide (unhide fin2 nq)
            go_wp2
            go_roundw
            case rel => exact ⟨p + 1, unhide hltH, by simp; try exact wp, unhide F⟩
            case measure =>
              have h := unhide hltH
              first
                | exact meas_list h
                | (rw [wp]; exact meas_list h)
          · rw [if_neg e1] at hmark
            rw [show (t p == s p) = false by simpa using e1] at s1
            by_cases e2 : ng s t (t p) p < lf s t (t p) 5
            · rw [if_pos e2] at hmark
              have e3 : (ng s t (t p) p : Int) < (lf s t (t p) 5 : Int) := by omega
              have fin2 := hide (fun n => (unhide fin n).2 (.int .u8 121) (by rw [hmark]; rfl))
              clear fin hmark e1 e2
              generalize ng s t (t p) p = aa at *
              generalize lf s t (t p) 5 = ll at *
              generalize A p = ap at *
              generalize B p = bp at *
              go_wp2
              go_quiet (fail)
              have F := hide (unhide fin2 nq)
              go_wp2
              go_roundw
              case rel => exact ⟨p + 1, unhide hltH, by simp; try exact wp, unhide F⟩
              case measure =>
                have h := unhide hltH
                first
                  | exact meas_list h
                  | (rw [wp]; exact meas_list h)
            · rw [if_neg e2] at hmark
              have e3 : ¬ (ng s t (t p) p : Int) < (lf s t (t p) 5 : Int) := by omega
              have fin2 := hide (fun n => (unhide fin n).1 hmark)
              clear fin hmark e1 e2
              generalize ng s t (t p) p = aa at *
              generalize lf s t (t p) 5 = ll at *
              generalize A p = ap at *
              generalize B p = bp at *
              go_wp2
              go_quiet (fail)
              have F := hide (unhide fin2 nq)
              go_wp2
              go_roundw
              case rel => exact ⟨p + 1, unhide hltH, by simp; try exact wp, unhide F⟩
              case measure =>
                have h := unhide hltH
                first
                  | exact meas_list h
                  | (rw [wp]; exact meas_list h)
    · have p1 : ¬ (p : Int) < 5 := by omega
      obtain rfl : p = 5 := by omega
      have hcv : (convert 31 9 (.slice (some ⟨w.heap.size + 1 + 1, 0, none⟩) 5 5)).run Try.prog wr = .ok (.string (str (marksL s t))) wr :=
        run_str_of_cells (P := Try.prog) wr 31 5 und31 Try.underlying5 (w.heap.size + 1 + 1) 0 5 5 (marksL s t) rfl (fun i hi => by
          rw [Nat.zero_add, J.m.cell i, row5_get _ i hi]
          unfold jB marksL
          rw [if_pos hi]
          rcases (by omega : i = 0 ∨ i = 1 ∨ i = 2 ∨ i = 3 ∨ i = 4) with rfl | rfl | rfl | rfl | rfl <;> rfl) 9 Try.underlying9
      have qH := hide J.q
      clear J hp hlt
      go_wp2
      go_ret
      exact ⟨rfl, unhide qH⟩
end Go.Proofs.Qxb6500370a
