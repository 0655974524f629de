/- Contracts of the kit's functions on answers: same, long. -/
import Derived.Test.YtcnjhjfepojdaaaRep2
import Derived.Test.YtcnjhjfepojdaaaRepLaw
import Derived.Test.YtcnjhjfepojdaaaAskKit
import Derived.StillTailTactics
namespace Go.Out
open Go Go.RowKit
set_option linter.unusedVariables false
/-- Are there more words in rows of files than a statement goes through? (n: so many till now.) -/
def sumLong : Nat → List (List UInt16) → Bool
  | _, [] => false
  | n, f :: fs => if 70000 < n + min f.length 70000 then true else sumLong (n + min f.length 70000) fs
def longR (r : RepD) : Bool := if 70000 < r.on.length ∨ 70000 < r.set.length ∨ 1000 < r.files.length then true else sumLong 0 r.files
theorem longR_le {r : RepD} (h : longR r = false) : r.on.length ≤ 70000 ∧ r.set.length ≤ 70000 ∧ r.files.length ≤ 1000 := by
  unfold longR at h
  split at h
  · simp at h
  · exact ⟨by omega, by omega, by omega⟩
end Go.Out
namespace Go.Proofs.Ytcnjhjfepojdaaa
set_option linter.unusedVariables false
set_option linter.unusedSimpArgs false
set_option maxRecDepth 100000
set_option maxHeartbeats 2000000
open Go Go.RowKit Go.Out

theorem file_cells {w : World} {A : Option Addr} {n k : Nat} {l : List (List UInt16)} (h : RdL fileK w A n l) (hk : k < n) :
    ∃ b off f A5 n5 c5, l[k]? = some f ∧ A = some ⟨b, off, none⟩ ∧ b < w.heap.size ∧ w.cell? ⟨b, off + k, none⟩ = some (.slice A5 n5 c5) ∧ Rd w A5 n5 (f.map cW) ∧ f.length = n5 ∧ n5 ≤ c5 ∧ n5 ≤ 70368744175616 := by
  obtain ⟨b, off, rfl, hbk, hl', cs, -, hc, A5, n5, c5, rfl, hr5, h5, h6⟩ := h.at_ hk
  exact ⟨b, off, l[k], A5, n5, c5, List.getElem?_eq_getElem hl', rfl, hbk, by have := hc 0 _ rfl; simpa [fileK] using this, hr5, by have := hr5.length; simpa using this, h5, h6.2⟩

theorem rep_cells_at {w : World} {exc : Int} {A1 A2 A3 : Option Addr} {n1 c1 n2 c2 n3 c3 g : Nat} (hg : g = w.heap.size) :
    ∀ W : World, Ext (w.alloc (.cells #[.int .i64 exc, .slice A1 n1 c1, .slice A2 n2 c2, .slice A3 n3 c3] 41)) W →
      W.cell? ⟨g, 0, none⟩ = some (.int .i64 exc) ∧ W.cell? ⟨g, 1, none⟩ = some (.slice A1 n1 c1) ∧ W.cell? ⟨g, 2, none⟩ = some (.slice A2 n2 c2) ∧ W.cell? ⟨g, 3, none⟩ = some (.slice A3 n3 c3) := by
  subst hg
  exact fun W hX => rep_cells W hX

end Go.Proofs.Ytcnjhjfepojdaaa
