/- Contracts of the kit's functions on parts and requests: same, long. -/
import Derived.Test.YtcnjhjfepojdaaaAsk6
import Derived.Test.YtcnjhjfepojdaaaKitW
import Derived.Test.YtcnjhjfepojdaaaKitL
import Derived.Test.YtcnjhjfepojdaaaBitBack
namespace Go.Proofs.Ytcnjhjfepojdaaa
set_option linter.unusedVariables false
set_option linter.unusedSimpArgs false
set_option maxRecDepth 100000
set_option maxHeartbeats 2000000
open Go Go.RowKit Go.Out

theorem part_cells {w : World} {A : Option Addr} {n k : Nat} {l : List PartD} (h : RdL partK w A n l) (hk : k < n) :
    ∃ b off p, l[k]? = some p ∧ A = some ⟨b, off, none⟩ ∧ b < w.heap.size ∧ w.cell? ⟨b, off + k * 3, none⟩ = some (.int .i64 p.file) ∧ w.cell? ⟨b, off + k * 3 + 1, none⟩ = some (.int .i64 p.record) ∧ w.cell? ⟨b, off + k * 3 + 2, none⟩ = some (.int .i64 p.len) ∧ i64P p.file ∧ i64P p.record ∧ i64P p.len := by
  obtain ⟨b, off, rfl, hbk, hl', cs, -, hc, hR⟩ := h.at_ hk
  obtain ⟨rfl, -⟩ := id hR
  exact ⟨b, off, l[k], List.getElem?_eq_getElem hl', rfl, hbk, hc 0 _ rfl, hc 1 _ rfl, hc 2 _ rfl, hR.2.1, hR.2.2.1, hR.2.2.2⟩
theorem ask_cells_at {w : World} {code addr count : Int} {A1 A2 A3 : Option Addr} {n1 c1 n2 c2 n3 c3 g : Nat} (hg : g = w.heap.size) :
    ∀ W : World, Ext (w.alloc (.cells #[.int .i64 code, .int .i64 addr, .int .i64 count, .slice A1 n1 c1, .slice A2 n2 c2, .slice A3 n3 c3] 26)) W →
      W.cell? ⟨g, 0, none⟩ = some (.int .i64 code) ∧ W.cell? ⟨g, 1, none⟩ = some (.int .i64 addr) ∧ W.cell? ⟨g, 2, none⟩ = some (.int .i64 count) ∧
      W.cell? ⟨g, 3, none⟩ = some (.slice A1 n1 c1) ∧ W.cell? ⟨g, 4, none⟩ = some (.slice A2 n2 c2) ∧ W.cell? ⟨g, 5, none⟩ = some (.slice A3 n3 c3) := by
  subst hg
  exact ask_cells

theorem long_or (a b c : Nat) : (decide ((70000 : Int) < a) || decide ((70000 : Int) < b) || decide ((70000 : Int) < c)) = decide (70000 < a ∨ 70000 < b ∨ 70000 < c) := by
  simp only [Bool.decide_or, Bool.or_assoc]
  congr 1
  · exact decide_eq_decide.2 (by omega)
  · congr 1 <;> exact decide_eq_decide.2 (by omega)
theorem longAsk_any (a : AskD) (s : AskS) (w : World) : Calls Try.prog 5 #[askV a s] w (RetQ w (decide (70000 < s.n1 ∨ 70000 < s.n2 ∨ 70000 < s.n3))) := by
  obtain ⟨code, addr, count, on, set, parts⟩ := a
  obtain ⟨A1, n1, c1, A2, n2, c2, A3, n3, c3⟩ := s
  simp only [askV]
  go_enter Try.func5, Try.ntmps5
  go_wp2_with fail
  all_goals
    go_ret
    exact ⟨by first | exact ret_bool (long_or _ _ _) | exact ret_bool (by simp; omega), Ext.alloc _ _⟩
end Go.Proofs.Ytcnjhjfepojdaaa
