/-
  said; Texts.
-/
import Derived.Test.Qxb6500370aPut
namespace Go.Proofs.Qxb6500370a
open Go.RowKit Go.Qx
set_option linter.unusedSimpArgs false
set_option linter.unusedVariables false

/-- A game of the call's own: it lies in new memory. -/
def Alive (w0 w : World) (G : Nat) : Prop :=
  ∃ rest v ws, Book w G rest v ws ∧ w0.heap.size ≤ G ∧ (∀ b, v.ownBlock = some b → w0.heap.size ≤ b) ∧ Quiet w0 w

theorem alive_new (w : World) : Calls Try.prog 11 #[] w fun e w' => ∃ G, e = .returned (.pointer (some ⟨G, 0, none⟩)) ∧ Alive w w' G :=
  (new_any w).mono fun e w' ⟨G, rest, he, hG, hq, hb⟩ => ⟨G, he, rest, _, [], hb, hG, fun b h => by simp [Value.ownBlock] at h, hq⟩

def sayP (s : ByteArray) : ByteArray × Int :=
  if (parseP s).2 ≠ 0 then (⟨#[]⟩, (parseP s).2) else (runesBytes (parseP s).1, 0)

theorem Alive.quiet {w0 w w' : World} {G : Nat} (h : Alive w0 w G) (q : Quiet w w') : Alive w0 w' G := by
  obtain ⟨rest, v, ws, hb, hG, ho, hq⟩ := h
  exact ⟨rest, v, ws, hb.quiet q, hG, ho, Quiet.trans hq q⟩

theorem put0 (w0 w : World) (G : Nat) (h : Alive w0 w G) (s : ByteArray) (hs : s.size ≤ maxLen) :
    Calls Try.prog 18 #[.pointer (some ⟨G, 0, none⟩), .int .i64 0, .string s] w fun e w' => e = .returned (.tuple #[.string (sayP s).1, .int .i64 (sayP s).2]) ∧ Alive w0 w' G := by
  obtain ⟨rest, v, ws, hb, hG, ho, hq⟩ := h
  have key : (putP ws 0 s).1 = (sayP s).1 ∧ (putP ws 0 s).2.1 = (sayP s).2 := by
    unfold putP sayP
    by_cases he : (parseP s).2 = 0
    · have h1 : ¬ (parseP s).2 ≠ 0 := by simpa using he
      have h2 : ¬ ((0 : Int) < 0 ∨ (ws.length : Int) < 0 ∨ (8 : Int) ≤ 0) := by omega
      rw [if_neg h1, if_neg h2, if_neg h1]; exact ⟨rfl, rfl⟩
    · rw [if_pos he, if_pos he]; exact ⟨rfl, rfl⟩
  refine (put_any w G rest v ws hb 0 s hs).mono ?_
  rintro e w' ⟨rfl, v', hb', hch, hv'⟩
  rw [key.1, key.2]
  refine ⟨rfl, rest, v', _, hb', hG, ?_, ?_⟩
  · intro b hb
    rcases hv' with h | ⟨c, h, hc⟩
    · exact ho b (by rw [← h]; exact hb)
    · rw [h] at hb; cases hb; exact Nat.le_trans hq.size hc
  · exact Chg.trans' hq hch (fun i hi h => by
      rcases h with rfl | h
      · omega
      · have := ho i h; omega)

theorem said_true {w0 w : World} {G : Nat} (h : Alive w0 w G) {s t : ByteArray} {e : Int} (hs : s.size ≤ maxLen) (hsay : sayP s = (t, e)) :
    Calls Try.prog 12 #[.pointer (some ⟨G, 0, none⟩), .string s, .string t, .int .i64 e] w fun r w' => r = .returned (.bool true) ∧ Alive w0 w' G := by
  have h1 := put0 w0 w G h s hs
  rw [hsay] at h1
  simp only at h1
  have hH := hide h1
  clear h1 hsay
  go_enter Try.func12, Try.ntmps12
  go_wp2_with fail
  refine (unhide hH).mono ?_
  rintro r w1 ⟨rfl, h1⟩
  have e1 : (e == e) = true := by simp
  have e2 : (t.toList == t.toList) = true := by simp
  go_wp2
  go_ret
  exact ⟨rfl, h1⟩

theorem Alive.below {w0 w : World} {G : Nat} (h : Alive w0 w G) : Below w0.heap.size w0 w := by
  obtain ⟨rest, v, ws, hb, hG, ho, hq⟩ := h
  exact Quiet.below hq

set_option maxRecDepth 100000 in
set_option maxHeartbeats 4000000 in
theorem texts_any (w : World) : Calls Try.prog 6 #[] w fun e w' => e = .returned (.bool true) ∧ Below w.heap.size w w' := by
  go_enter Try.func6, Try.ntmps6
  go_wp2_with fail
  refine (alive_new w).mono ?_
  rintro e w' ⟨G, rfl, hal⟩
  go_wp2_with fail
  refine (said_true hal (s := ⟨#[72, 101, 76, 76, 111]⟩) (t := ⟨#[104, 101, 108, 108, 111]⟩) (e := 0) (by decide) (by decide +kernel)).mono ?_
  clear hal
  rintro e w' ⟨rfl, hal⟩
  go_wp2_with fail
  refine (said_true hal (s := ⟨#[64, 98, 99, 100, 101]⟩) (t := ⟨#[]⟩) (e := 4) (by decide) (by decide +kernel)).mono ?_
  clear hal
  rintro e w' ⟨rfl, hal⟩
  go_wp2_with fail
  refine (said_true hal (s := ⟨#[91, 98, 99, 100, 101]⟩) (t := ⟨#[]⟩) (e := 4) (by decide) (by decide +kernel)).mono ?_
  clear hal
  rintro e w' ⟨rfl, hal⟩
  go_wp2_with fail
  refine (said_true hal (s := ⟨#[96, 98, 99, 100, 101]⟩) (t := ⟨#[]⟩) (e := 4) (by decide) (by decide +kernel)).mono ?_
  clear hal
  rintro e w' ⟨rfl, hal⟩
  go_wp2_with fail
  refine (said_true hal (s := ⟨#[123, 98, 99, 100, 101]⟩) (t := ⟨#[]⟩) (e := 4) (by decide) (by decide +kernel)).mono ?_
  clear hal
  rintro e w' ⟨rfl, hal⟩
  go_wp2_with fail
  refine (said_true hal (s := ⟨#[65, 90, 97, 122, 206, 177]⟩) (t := ⟨#[97, 122, 97, 122, 206, 177]⟩) (e := 0) (by decide) (by decide +kernel)).mono ?_
  clear hal
  rintro e w' ⟨rfl, hal⟩
  go_wp2_with fail
  refine (said_true hal (s := ⟨#[97, 98, 99, 100, 206, 176]⟩) (t := ⟨#[]⟩) (e := 4) (by decide) (by decide +kernel)).mono ?_
  clear hal
  rintro e w' ⟨rfl, hal⟩
  go_wp2_with fail
  refine (said_true hal (s := ⟨#[97, 98, 99, 100, 207, 137]⟩) (t := ⟨#[97, 98, 99, 100, 207, 137]⟩) (e := 0) (by decide) (by decide +kernel)).mono ?_
  clear hal
  rintro e w' ⟨rfl, hal⟩
  go_wp2_with fail
  refine (said_true hal (s := ⟨#[97, 98, 99, 100, 207, 138]⟩) (t := ⟨#[]⟩) (e := 4) (by decide) (by decide +kernel)).mono ?_
  clear hal
  rintro e w' ⟨rfl, hal⟩
  go_wp2_with fail
  refine (said_true hal (s := ⟨#[97, 98, 99, 100, 227, 129, 129]⟩) (t := ⟨#[97, 98, 99, 100, 227, 129, 129]⟩) (e := 0) (by decide) (by decide +kernel)).mono ?_
  clear hal
  rintro e w' ⟨rfl, hal⟩
  go_wp2_with fail
  refine (said_true hal (s := ⟨#[97, 98, 99, 100, 227, 129, 128]⟩) (t := ⟨#[]⟩) (e := 4) (by decide) (by decide +kernel)).mono ?_
  clear hal
  rintro e w' ⟨rfl, hal⟩
  go_wp2_with fail
  refine (said_true hal (s := ⟨#[97, 98, 99, 100, 227, 130, 150]⟩) (t := ⟨#[97, 98, 99, 100, 227, 130, 150]⟩) (e := 0) (by decide) (by decide +kernel)).mono ?_
  clear hal
  rintro e w' ⟨rfl, hal⟩
  go_wp2_with fail
  refine (said_true hal (s := ⟨#[97, 98, 99, 100, 227, 130, 151]⟩) (t := ⟨#[]⟩) (e := 4) (by decide) (by decide +kernel)).mono ?_
  clear hal
  rintro e w' ⟨rfl, hal⟩
  go_wp2_with fail
  refine (said_true hal (s := ⟨#[97, 98, 99, 100, 240, 144, 144, 168]⟩) (t := ⟨#[97, 98, 99, 100, 240, 144, 144, 168]⟩) (e := 0) (by decide) (by decide +kernel)).mono ?_
  clear hal
  rintro e w' ⟨rfl, hal⟩
  go_wp2_with fail
  refine (said_true hal (s := ⟨#[97, 98, 99, 100, 240, 144, 144, 167]⟩) (t := ⟨#[]⟩) (e := 4) (by decide) (by decide +kernel)).mono ?_
  clear hal
  rintro e w' ⟨rfl, hal⟩
  go_wp2_with fail
  refine (said_true hal (s := ⟨#[97, 98, 99, 100, 240, 144, 145, 143]⟩) (t := ⟨#[97, 98, 99, 100, 240, 144, 145, 143]⟩) (e := 0) (by decide) (by decide +kernel)).mono ?_
  clear hal
  rintro e w' ⟨rfl, hal⟩
  go_wp2_with fail
  refine (said_true hal (s := ⟨#[97, 98, 99, 100, 240, 144, 145, 144]⟩) (t := ⟨#[]⟩) (e := 4) (by decide) (by decide +kernel)).mono ?_
  clear hal
  rintro e w' ⟨rfl, hal⟩
  go_wp2_with fail
  refine (said_true hal (s := ⟨#[97, 98, 128, 100, 101]⟩) (t := ⟨#[]⟩) (e := 2) (by decide) (by decide +kernel)).mono ?_
  clear hal
  rintro e w' ⟨rfl, hal⟩
  go_wp2_with fail
  refine (said_true hal (s := ⟨#[128]⟩) (t := ⟨#[]⟩) (e := 2) (by decide) (by decide +kernel)).mono ?_
  clear hal
  rintro e w' ⟨rfl, hal⟩
  go_wp2_with fail
  refine (said_true hal (s := ⟨#[97, 98, 99, 100, 101, 102, 103, 191]⟩) (t := ⟨#[]⟩) (e := 2) (by decide) (by decide +kernel)).mono ?_
  clear hal
  rintro e w' ⟨rfl, hal⟩
  go_wp2_with fail
  refine (said_true hal (s := ⟨#[97, 98, 99, 100, 194]⟩) (t := ⟨#[]⟩) (e := 2) (by decide) (by decide +kernel)).mono ?_
  clear hal
  rintro e w' ⟨rfl, hal⟩
  go_wp2_with fail
  refine (said_true hal (s := ⟨#[97, 98, 194, 99, 100]⟩) (t := ⟨#[]⟩) (e := 2) (by decide) (by decide +kernel)).mono ?_
  clear hal
  rintro e w' ⟨rfl, hal⟩
  go_wp2_with fail
  refine (said_true hal (s := ⟨#[97, 98, 227, 129, 99, 100]⟩) (t := ⟨#[]⟩) (e := 2) (by decide) (by decide +kernel)).mono ?_
  clear hal
  rintro e w' ⟨rfl, hal⟩
  go_wp2_with fail
  refine (said_true hal (s := ⟨#[97, 98, 99, 100, 192, 128]⟩) (t := ⟨#[]⟩) (e := 2) (by decide) (by decide +kernel)).mono ?_
  clear hal
  rintro e w' ⟨rfl, hal⟩
  go_wp2_with fail
  refine (said_true hal (s := ⟨#[97, 98, 99, 100, 193, 191]⟩) (t := ⟨#[]⟩) (e := 2) (by decide) (by decide +kernel)).mono ?_
  clear hal
  rintro e w' ⟨rfl, hal⟩
  go_wp2_with fail
  refine (said_true hal (s := ⟨#[97, 98, 99, 100, 224, 159, 191]⟩) (t := ⟨#[]⟩) (e := 2) (by decide) (by decide +kernel)).mono ?_
  clear hal
  rintro e w' ⟨rfl, hal⟩
  go_wp2_with fail
  refine (said_true hal (s := ⟨#[97, 98, 99, 100, 224, 160, 128]⟩) (t := ⟨#[]⟩) (e := 4) (by decide) (by decide +kernel)).mono ?_
  clear hal
  rintro e w' ⟨rfl, hal⟩
  go_wp2_with fail
  refine (said_true hal (s := ⟨#[97, 98, 99, 100, 240, 143, 191, 191]⟩) (t := ⟨#[]⟩) (e := 2) (by decide) (by decide +kernel)).mono ?_
  clear hal
  rintro e w' ⟨rfl, hal⟩
  go_wp2_with fail
  refine (said_true hal (s := ⟨#[97, 98, 99, 100, 237, 159, 191]⟩) (t := ⟨#[]⟩) (e := 4) (by decide) (by decide +kernel)).mono ?_
  clear hal
  rintro e w' ⟨rfl, hal⟩
  go_wp2_with fail
  refine (said_true hal (s := ⟨#[97, 98, 99, 100, 237, 160, 128]⟩) (t := ⟨#[]⟩) (e := 2) (by decide) (by decide +kernel)).mono ?_
  clear hal
  rintro e w' ⟨rfl, hal⟩
  go_wp2_with fail
  refine (said_true hal (s := ⟨#[97, 98, 99, 100, 237, 191, 191]⟩) (t := ⟨#[]⟩) (e := 2) (by decide) (by decide +kernel)).mono ?_
  clear hal
  rintro e w' ⟨rfl, hal⟩
  go_wp2_with fail
  refine (said_true hal (s := ⟨#[97, 98, 99, 100, 238, 128, 128]⟩) (t := ⟨#[]⟩) (e := 4) (by decide) (by decide +kernel)).mono ?_
  clear hal
  rintro e w' ⟨rfl, hal⟩
  go_wp2_with fail
  refine (said_true hal (s := ⟨#[97, 98, 99, 100, 244, 143, 191, 191]⟩) (t := ⟨#[]⟩) (e := 4) (by decide) (by decide +kernel)).mono ?_
  clear hal
  rintro e w' ⟨rfl, hal⟩
  go_wp2_with fail
  refine (said_true hal (s := ⟨#[97, 98, 99, 100, 244, 144, 128, 128]⟩) (t := ⟨#[]⟩) (e := 2) (by decide) (by decide +kernel)).mono ?_
  clear hal
  rintro e w' ⟨rfl, hal⟩
  go_wp2_with fail
  refine (said_true hal (s := ⟨#[97, 98, 99, 100, 239, 191, 189]⟩) (t := ⟨#[]⟩) (e := 4) (by decide) (by decide +kernel)).mono ?_
  clear hal
  rintro e w' ⟨rfl, hal⟩
  go_wp2_with fail
  refine (said_true hal (s := ⟨#[97, 98, 99, 239, 191, 189]⟩) (t := ⟨#[]⟩) (e := 3) (by decide) (by decide +kernel)).mono ?_
  clear hal
  rintro e w' ⟨rfl, hal⟩
  go_wp2
  go_ret
  exact ⟨rfl, hal.below⟩
end Go.Proofs.Qxb6500370a
