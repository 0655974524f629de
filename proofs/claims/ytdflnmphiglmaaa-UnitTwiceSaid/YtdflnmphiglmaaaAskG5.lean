/- Contract of ask.read: coils. -/
import Derived.Test.YtdflnmphiglmaaaAskS2
import Derived.Test.YtdflnmphiglmaaaAskX
import Derived.Test.YtdflnmphiglmaaaAskP
namespace Go.Proofs.Ytdflnmphiglmaaa
set_option linter.unusedVariables false
set_option linter.unusedSimpArgs false
set_option maxRecDepth 100000
set_option maxHeartbeats 1000000
open Go Go.RowKit Go.Out

/-- What lies in the boxes of a call, later on. -/
theorem ask_frozen {w : World} {cs : Array Value} {g : Nat} (hg : g = w.heap.size) : ∀ W : World, Ext (w.alloc (.cells cs 27)) W → ∀ i, W.frozen? ⟨g, i, none⟩ = false := by
  subst hg
  intro W hX i
  exact frozen_of_row _ _ _ _ _ (hX.block (heap_alloc_new w _))
end Go.Proofs.Ytdflnmphiglmaaa

namespace Go.Proofs.Ytdflnmphiglmaaa
set_option linter.unusedVariables false
set_option linter.unusedSimpArgs false
set_option maxRecDepth 100000
set_option maxHeartbeats 1000000
open Go Go.RowKit Go.Out

theorem regs_some (b : List UInt8) (m R : Nat) (F : Int) (hl : b.length = m) (hm : 6 ≤ m) :
    (if b.length - 6 = 2 * R then some (⟨16, F, 0, [], bw (b.drop 6), []⟩ : AskD) else none).isSome = (((wordsF (b.drop 6)).2 == 0) && ((((wordsF (b.drop 6)).1.length : Nat) : Int) == (R : Int))) := by
  rcases Nat.mod_two_eq_zero_or_one (m - 6) with h | h
  · have e0 : wordsF (b.drop 6) = (bw (b.drop 6), 0) := by unfold wordsF; rw [if_neg (by rw [List.length_drop, hl]; omega)]
    have e : (bw (b.drop 6)).length = (m - 6) / 2 := by rw [bw_length, List.length_drop, hl]
    rw [e0, hl]
    simp only [e]
    by_cases hR : m - 6 = 2 * R
    · rw [if_pos hR]; simp; omega
    · rw [if_neg hR]; simp; omega
  · have e0 : wordsF (b.drop 6) = ([], 22) := by unfold wordsF; rw [if_pos (by rw [List.length_drop, hl]; exact h)]
    rw [e0, hl, if_neg (by omega)]; rfl
theorem regs_is {b : List UInt8} {m R : Nat} {F : Int} (hl : b.length = m) (hm : 6 ≤ m) : ∀ a', (if b.length - 6 = 2 * R then some (⟨16, F, 0, [], bw (b.drop 6), []⟩ : AskD) else none) = some a' → a' = ⟨16, F, 0, [], (wordsF (b.drop 6)).1, []⟩ := by
  intro a' h
  split at h
  · rename_i hR
    injection h with h
    unfold wordsF
    rw [if_neg (by rw [List.length_drop]; omega)]
    exact h.symm
  · cases h

end Go.Proofs.Ytdflnmphiglmaaa

namespace Go.Proofs.Ytdflnmphiglmaaa
set_option linter.unusedVariables false
set_option linter.unusedSimpArgs false
set_option maxRecDepth 100000
set_option maxHeartbeats 1000000
open Go Go.RowKit Go.Out

theorem OwP.set_below {w : World} {base : Nat} {v : Value} {l : List PartD} (h : OwP w base v l) {q : Addr} (hq : q.block < base) (u : Value) : OwP (w.setCell q u) base v l := by
  obtain ⟨⟨xs, h1, h2⟩, h3⟩ := h
  exact ⟨⟨xs, ownsRow_setCell_below h1 hq u, h2.mono fun _ _ h => h⟩, h3.kept fun g hg => Below.heap_setCell w q u g (by have := (h1.lt g hg).1; omega)⟩
end Go.Proofs.Ytdflnmphiglmaaa

namespace Go.Proofs.Ytdflnmphiglmaaa
set_option linter.unusedVariables false
set_option linter.unusedSimpArgs false
open Go Go.RowKit Go.Out

end Go.Proofs.Ytdflnmphiglmaaa

namespace Go.Proofs.Ytdflnmphiglmaaa
set_option linter.unusedVariables false
set_option linter.unusedSimpArgs false
set_option maxRecDepth 100000
set_option maxHeartbeats 1000000
open Go Go.RowKit Go.Out

theorem askOw0 (w : World) (base : Nat) : AskOw w base ask0 askS0 := ⟨Own.nil_ _ _ _ _, Own.nil_ _ _ _ _, OwP.nil_ _ _, by unfold i64P ask0; simp, by unfold i64P ask0; simp, by unfold i64P ask0; simp⟩
theorem AskOw.set_below {w : World} {base : Nat} {a : AskD} {s : AskS} (h : AskOw w base a s) {q : Addr} (hq : q.block < base) (u : Value) : AskOw (w.setCell q u) base a s :=
  ⟨h.on.set_below hq u, h.set.set_below hq u, OwP.set_below h.parts hq u, h.code, h.addr, h.count⟩
/-- What ask.Get hands back. -/
def RetGA (w : World) (r : AskD × Int) (e : Ending) (w' : World) : Prop :=
  ∃ s : AskS, e = .returned (.tuple #[askV r.1 s, .int .i64 r.2]) ∧ AskOw w' w.heap.size r.1 s ∧ Ext w w'
theorem getA_code {b : List UInt8} (h0 : b.length ≠ 0) (hp : ¬ codeP (b0 b : Nat)) : getA b = (ask0, 20) := by unfold getA; rw [if_neg h0, if_pos hp]
theorem getA_sized {b : List UInt8} (h0 : b.length ≠ 0) (hp : codeP (b0 b : Nat)) (hs : sizedF b ≠ 0) : getA b = (ask0, sizedF b) := by unfold getA; rw [if_neg h0, if_neg (by simpa using hp), if_pos hs]
theorem getA_said {b : List UInt8} (h0 : b.length ≠ 0) (hp : codeP (b0 b : Nat)) (hs : sizedF b = 0) : getA b = match saidF b with
    | none => (ask0, 4)
    | some a => if checkF a ≠ 0 then (ask0, checkF a) else (a, 0) := by unfold getA; rw [if_neg h0, if_neg (by simpa using hp), if_neg (by simpa using hs)]; rfl

end Go.Proofs.Ytdflnmphiglmaaa

namespace Go.Proofs.Ytdflnmphiglmaaa
set_option linter.unusedVariables false
set_option linter.unusedSimpArgs false
set_option maxRecDepth 100000
set_option maxHeartbeats 800000
open Go Go.RowKit Go.Out

end Go.Proofs.Ytdflnmphiglmaaa

namespace Go.Proofs.Ytdflnmphiglmaaa
set_option linter.unusedVariables false
set_option linter.unusedSimpArgs false
set_option maxRecDepth 100000
set_option maxHeartbeats 4000000
open Go Go.RowKit Go.Out

end Go.Proofs.Ytdflnmphiglmaaa

namespace Go.Proofs.Ytdflnmphiglmaaa
set_option linter.unusedVariables false
set_option linter.unusedSimpArgs false
set_option maxRecDepth 100000
set_option maxHeartbeats 4000000
open Go Go.RowKit Go.Out

end Go.Proofs.Ytdflnmphiglmaaa

namespace Go.Proofs.Ytdflnmphiglmaaa
set_option linter.unusedVariables false
set_option linter.unusedSimpArgs false
set_option maxRecDepth 100000
set_option maxHeartbeats 4000000
open Go Go.RowKit Go.Out

theorem sizeF_le (b : List UInt8) : sizeF b ≤ 261 := by
  have h1 := (b.getD 1 0).toNat_lt; have h5 := (b.getD 5 0).toNat_lt
  unfold sizeF
  split
  · omega
  · split
    · split <;> omega
    · split <;> omega
end Go.Proofs.Ytdflnmphiglmaaa
