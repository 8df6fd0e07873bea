/-
  OUR OWN SMALL LIBRARY, third part: a slice that owns its row; append onto it.
-/
import Derived.Test.Qxb6500367aLib
import Derived.Deep.AppendLies
namespace Go.Qx
open Go.RowKit

theorem Blk.at_new {W : World} {t : TypeId} {cs : List Value} {b : Nat} (hb : W.heap.size = b) : Blk (W.alloc (.cells cs.toArray t)) b t cs := by
  rw [← hb]; exact Blk.new W t cs

/-- The slice value v, of n elements (type e, 'size' cells each), owns the cells xs. -/
def Row (w : World) (e : TypeId) (size : Nat) (v : Value) (n : Nat) (xs : List Value) : Prop := w.ownsRow 0 e size v n xs

theorem Row.len {w : World} {e : TypeId} {size : Nat} {v : Value} {n : Nat} {xs : List Value} (h : Row w e size v n xs) : xs.length = n * size := h.1

theorem Row.nil (w : World) (e : TypeId) (size : Nat) : Row w e size (.slice none 0 0) 0 [] := World.ownsRow_nil w 0 e size

theorem Row.form {w : World} {e : TypeId} {size : Nat} {v : Value} {n : Nat} {xs : List Value} (h : Row w e size v n xs) :
    (v = .slice none 0 0 ∧ n = 0 ∧ xs = []) ∨ ∃ g cap spare, v = .slice (some ⟨g, 0, none⟩) n cap ∧ Blk w g e (xs ++ spare) ∧ n ≤ cap ∧ cap ≤ maxLen ∧ (xs ++ spare).length = cap * size := by
  rcases h.2 with ⟨hv, hn⟩ | ⟨g, cap, cur, hv, _, hg, hn, hm, hc, ht⟩
  · left
    refine ⟨hv, hn, List.eq_nil_of_length_eq_zero ?_⟩
    rw [h.1, hn]; simp
  · right
    refine ⟨g, cap, cur.toList.drop (n * size), hv, ?_, hn, hm, ?_⟩
    · unfold Blk
      rw [← ht, List.take_append_drop]
      simpa using hg
    · rw [← ht, List.take_append_drop]
      simpa using hc

theorem Row.some_form {w : World} {e : TypeId} {size g cap : Nat} {n : Nat} {xs : List Value} (h : Row w e size (.slice (some ⟨g, 0, none⟩) n cap) n xs) :
    ∃ spare, Blk w g e (xs ++ spare) ∧ n ≤ cap ∧ cap ≤ maxLen ∧ (xs ++ spare).length = cap * size := by
  rcases h.form with ⟨h, _⟩ | ⟨g', cap', sp, h, h1, h2, h3, h4⟩
  · cases h
  · cases h
    exact ⟨sp, h1, h2, h3, h4⟩

theorem Row.of_blk {w : World} {e : TypeId} {size : Nat} {g n cap : Nat} {xs spare : List Value} (hb : Blk w g e (xs ++ spare)) (hx : xs.length = n * size) (hn : n ≤ cap) (hm : cap ≤ maxLen) (hl : (xs ++ spare).length = cap * size) :
    Row w e size (.slice (some ⟨g, 0, none⟩) n cap) n xs := by
  refine ⟨hx, .inr ⟨g, cap, (xs ++ spare).toArray, rfl, Nat.zero_le _, hb, hn, hm, by simpa using hl, ?_⟩⟩
  rw [← hx]; simp

theorem Row.of_chg {S : Nat → Prop} {w w' : World} {e : TypeId} {size : Nat} {v : Value} {n : Nat} {xs : List Value} (h : Row w e size v n xs) (hc : Chg S w w') (hS : ∀ b, v.ownBlock = some b → ¬ S b) : Row w' e size v n xs := by
  rcases h.form with ⟨rfl, rfl, rfl⟩ | ⟨g, cap, spare, rfl, hb, hn, hm, hl⟩
  · exact Row.nil _ _ _
  · exact Row.of_blk (hc.blk hb (hS g rfl)) h.1 hn hm hl

theorem Row.quiet {w w' : World} {e : TypeId} {size : Nat} {v : Value} {n : Nat} {xs : List Value} (h : Row w e size v n xs) (hc : Quiet w w') : Row w' e size v n xs := h.of_chg hc (fun _ _ => id)

theorem Row.lt {w : World} {e : TypeId} {size : Nat} {v : Value} {n : Nat} {xs : List Value} (h : Row w e size v n xs) {b : Nat} (hb : v.ownBlock = some b) : b < w.heap.size := by
  rcases h.form with ⟨rfl, rfl, rfl⟩ | ⟨g, cap, spare, rfl, hg, hn, hm, hl⟩
  · simp [Value.ownBlock] at hb
  · simp [Value.ownBlock] at hb
    subst hb
    exact hg.lt

theorem Chg.of_grown {w w' : World} {row : Option Nat} (h : w.grownBy w' row) : Chg (fun x => row = some x) w w' where
  os := h.os
  tape := h.tape
  output := h.output
  size := h.size
  block := fun i hi hn => h.block i hi (fun e => hn e.symm)

/-- append onto a slice that owns its row, at a step of a region that draws. -/
theorem step_append_row {P : Program} {w : World} {ops : Array Oper} {o : Oper} {a : Act} {K : Act → World → Prop} {Q : Exit → Act → World → Prop} {E : Prop} (hgd : o.guard = none) (s x : Operand) (t : TypeId)
    (ho : o.op = .call { callee := .builtin .append, args := #[s, x], argTypes := #[t, t] })
    (e : TypeId) (i : TypeInfo) (z : Value) (size bytes : Nat) (ht : P.underlying t = some (.slice e)) (hi : P.info? e = some i) (hz : i.zero = some z)
    (hsize : i.size = size) (hby : i.bytes = bytes) (hzs : z.cells.size = size) (hsz : 0 < size)
    (v : Value) (n : Nat) (xs : List Value) (hs : a.eval s = v) (hown : Row w e size v n xs)
    (ad : Addr) (m c : Nat) (news : List Value) (hx : a.eval x = .slice (some ad) m c) (hl : news.length = m * size) (hnews : ∀ j u, news[j]? = some u → w.cell? (ad.add j) = some u) (h1 : ∀ u ∈ news, u.oneCell' = true)
    (hm : 0 < m) (h63 : n + m ≤ maxLen) (hbytes : (n + m) * bytes ≤ 140737488355328) (H : Nat) (hH : w.heap.size = H)
    (h : ∀ g cap w', Row w' e size (.slice (some ⟨g, 0, none⟩) (n + m) cap) (n + m) (xs ++ news) → Chg (fun x => v.ownBlock = some x) w w' → (v.ownBlock = some g ∨ g = H) → g < w'.heap.size → K (a.put o.dst (.slice (some ⟨g, 0, none⟩) (n + m) cap)) w') :
    if Region.wanted o (yielded ops a.tmps) = true then Oper.wp P o a w K Q else E :=
  step_append_lies (P := P) w hgd s x t ho 0 e i z size bytes ht hi hz hsize hby hzs hsz v n xs hs hown ad m c news hx hl hnews h1 hm h63 hbytes (Nat.zero_le _) H hH
    (fun g cap w' h2 h3 h4 h5 => h g cap w' h2 (Chg.of_grown h3) h4 h5)
end Go.Qx
