/- Contracts of pack.Unbits and of the document's: what each call returns; nothing that was there turns. -/
import Derived.Test.YtifojmmggcenkaaPackL
namespace Go.Proofs.Ytifojmmggcenkaa
set_option linter.unusedVariables false
set_option maxRecDepth 100000
open Go Go.RowKit Go.Out

theorem range_take_map {α : Type} (f : Nat → α) (n k : Nat) (h : k < n) : ((List.range n).map f)[k]? = some (f k) := by simp [h]

/-- A block filled with bools, whole. -/
theorem Own.bools {w : World} {base : Nat} {e : TypeId} {g : Nat} {cur : Array Value} {l : List Bool} {n : Nat} (hb : base ≤ g) (hg : w.heap[g]? = some (.cells cur e (0, 0))) (hc : cur.toList = l.map cL) (hn : l.length = n) (hm : n ≤ maxLen) :
    Own w base e IsBo (some ⟨g, 0, none⟩) n n (l.map cL) := by
  have hs : cur.size = n := by rw [← Array.length_toList, hc]; simpa using hn
  have h := Own.of_heap (p := IsBo) hb hg (off := 0) n n (Nat.le_refl _) (by omega) hm (by rw [hc]; exact isBo_map)
  rwa [List.drop_zero, hc, List.take_of_length_le (by simp; omega)] at h

/-- A call that hands back bools of its own and an error's number. -/
def RetB (w : World) (t : TypeId) (l : List Bool) (err : Int) (e : Ending) (w' : World) : Prop :=
  ∃ A n c, e = .returned (.tuple #[.slice A n c, .int .i64 err]) ∧ Own w' w.heap.size t IsBo A n c (l.map cL) ∧ Below w.heap.size w w'

theorem spare_none {b : List UInt8} {n : Nat} (h : ∀ i, n ≤ i → i < 8 * b.length → ubit b i = false) : spare b n = false := by
  rw [← Bool.not_eq_true]
  intro hs
  unfold spare at hs
  rw [List.any_eq_true] at hs
  obtain ⟨i, hi, hh⟩ := hs
  simp only [List.mem_range, Bool.and_eq_true, decide_eq_true_eq] at hi hh
  rw [h i hh.1 hi] at hh
  exact absurd hh.2 (by decide)
theorem spare_some {b : List UInt8} {n i : Nat} (h1 : n ≤ i) (h2 : i < 8 * b.length) (h3 : ubit b i = true) : spare b n = true := by
  unfold spare
  rw [List.any_eq_true]
  exact ⟨i, by simpa using h2, by simp [h1, h3]⟩

theorem unbits_mid (b : List UInt8) (n : Nat) (h : b.length = need n) : unbitsF b n = if spare b n then ([], 4) else ((List.range n).map (ubit b), 0) := by
  unfold unbitsF
  rw [if_neg (by omega), if_neg (by simpa using h)]; rfl

theorem unbitsF_len (b : List UInt8) (n : Int) : (unbitsF b n).1.length ≤ 8 * b.length := by
  unfold unbitsF
  split
  · simp
  · split
    · simp
    · split
      · simp
      · rename_i h _; simp at h ⊢; unfold need at h; omega
end Go.Proofs.Ytifojmmggcenkaa
