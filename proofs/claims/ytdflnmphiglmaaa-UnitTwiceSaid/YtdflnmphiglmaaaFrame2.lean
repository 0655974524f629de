/- Contracts of OpenRtu, the program's and the reference's. -/
import Derived.Test.YtdflnmphiglmaaaFrame
import Derived.Test.YtdflnmphiglmaaaBitBack
import Derived.StillTailTactics
import Derived.Deep.RegionWith
namespace Go.Proofs.Ytdflnmphiglmaaa
set_option linter.unusedVariables false
open Go Go.RowKit Go.Out

/-- A call that hands back a byte, bytes of its own and an error's number. -/
def RetT (w : World) (t : TypeId) (r : UInt8 × List UInt8 × Int) (e : Ending) (w' : World) : Prop :=
  ∃ A n c, e = .returned (.tuple #[.int .u8 (r.1.toNat : Int), .slice A n c, .int .i64 r.2.2]) ∧ Own w' w.heap.size t IsU8 A n c (r.2.1.map cB) ∧ Below w.heap.size w w'
theorem lineF_err {o : List UInt8 × Int} (h : ¬ o.2 = 0) : lineF o = (0, [], o.2) := if_pos h
theorem lineF_unit {x : UInt8} {l : List UInt8} (h : x.toNat < 1 ∨ 247 < x.toNat) : lineF (x :: l, 0) = (0, [], 24) := by unfold lineF; rw [if_neg (by simp)]; exact if_pos h
theorem lineF_ok {x : UInt8} {l : List UInt8} (h : ¬ (x.toNat < 1 ∨ 247 < x.toNat)) : lineF (x :: l, 0) = (x, l, 0) := by unfold lineF; rw [if_neg (by simp)]; exact if_neg h
theorem open_cons (b : List UInt8) (h : 4 ≤ b.length) (hz : (openF 2 (more16 65535) b).2 = 0) : ∃ x l, openF 2 (more16 65535) b = (x :: l, 0) ∧ l.length + 3 = b.length := by
  have h1 := openF_ok hz
  have h2 : (openF 2 (more16 65535) b).1.length = b.length - 2 := by rw [h1]; simp
  cases h3 : openF 2 (more16 65535) b with
  | mk o e =>
    rw [h3] at h2 hz
    cases o with
    | nil => simp at h2; omega
    | cons x l => simp at h2 hz; subst hz; exact ⟨x, l, rfl, by omega⟩
end Go.Proofs.Ytdflnmphiglmaaa
