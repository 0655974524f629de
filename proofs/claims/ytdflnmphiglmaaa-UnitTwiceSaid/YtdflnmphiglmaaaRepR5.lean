/- Contract of reply.read: words. (genrepr.py prints this.) -/
import Derived.Test.YtdflnmphiglmaaaRepR
import Derived.Deep.RegionHeld3
import Derived.Test.YtdflnmphiglmaaaRepF
import Derived.BigQuiet
import Derived.Deep.QuietTactic
namespace Go.Proofs.Ytdflnmphiglmaaa
set_option linter.unusedVariables false
set_option linter.unusedSimpArgs false
set_option maxRecDepth 100000
set_option maxHeartbeats 2000000
open Go Go.RowKit Go.Out

theorem set_other {V : World} {g b : Nat} {o : Obj} (h : V.heap[g]? = some o) (hne : g ≠ b) (u : Value) : (V.setCell ⟨b, 0, none⟩ u).heap[g]? = some o := (Below.heap_setCell V ⟨b, 0, none⟩ u g hne).trans h
theorem start5 (w : World) (o0 o1 o2 o3 o4 : Obj) : ∃ V, (((((w.alloc o0).alloc o1).alloc o2).alloc o3).alloc o4) = V ∧ Ext w V ∧ V.heap.size = w.heap.size + 5 ∧ V.heap[w.heap.size]? = some o0 ∧ V.heap[w.heap.size + 1]? = some o1 ∧ V.heap[w.heap.size + 1 + 1]? = some o2 ∧ V.heap[w.heap.size + 1 + 1 + 1]? = some o3 ∧ V.heap[w.heap.size + 1 + 1 + 1 + 1]? = some o4 :=
  ⟨_, rfl, ext5 w o0 o1 o2 o3 o4, by simp, boxes5 w o0 o1 o2 o3 o4 _ (Ext.refl _)⟩

end Go.Proofs.Ytdflnmphiglmaaa

namespace Go.Proofs.Ytdflnmphiglmaaa
set_option linter.unusedVariables false
set_option linter.unusedSimpArgs false
set_option maxRecDepth 100000
set_option maxHeartbeats 2000000
open Go Go.RowKit Go.Out


end Go.Proofs.Ytdflnmphiglmaaa

namespace Go.Out
open Go Go.RowKit
set_option linter.unusedVariables false
theorem sumP_split : ∀ (l : List PartD) (k : Nat), sumP l = sumP (l.take k) + sumP (l.drop k)
  | [], k => by simp [sumP]
  | p :: l, 0 => by simp [sumP]
  | p :: l, k + 1 => by
    simp only [List.take_succ_cons, List.drop_succ_cons, sumP]
    rw [sumP_split l k]
    omega
theorem any_drop {l : List PartD} {k : Nat} (h : l.any (fun p => decide (badP p)) = false) : (l.drop k).any (fun p => decide (badP p)) = false := by
  rw [List.any_eq_false] at h ⊢
  exact fun x hx => h x (List.mem_of_mem_drop hx)
theorem sumP_nn {l : List PartD} {k : Nat} (h : l.any (fun p => decide (badP p)) = false) : 0 ≤ sumP (l.drop k) := by
  have := sumP_nonneg (any_drop (k := k) h); omega
theorem sumP_tn {l : List PartD} {k : Nat} (h : l.any (fun p => decide (badP p)) = false) : 0 ≤ sumP (l.take k) := by
  have h2 : (l.take k).any (fun p => decide (badP p)) = false := by
    rw [List.any_eq_false] at h ⊢
    exact fun x hx => h x (List.mem_of_mem_take hx)
  have := sumP_nonneg h2; omega
theorem filesOf_step {p : PartD} {ps : List PartD} {x y : UInt8} {r : List UInt8} {L : Nat} (hL : p.len = (L : Int)) :
    filesOf (p :: ps) (x :: y :: r) = if (x.toNat : Int) = 1 + 2 * (L : Int) ∧ y.toNat = 6 then (filesOf ps (r.drop (2 * L))).map (bw (r.take (2 * L)) :: ·) else none := by
  have e : p.len.toNat = L := by omega
  have hyb : y = 6 ↔ y.toNat = 6 := ⟨fun h => by rw [h]; rfl, fun h => UInt8.toNat.inj (by rw [h]; rfl)⟩
  conv => lhs; unfold filesOf
  rw [e, hL]
  by_cases h : (x.toNat : Int) = 1 + 2 * (L : Int) ∧ y = 6
  · rw [if_pos h, if_pos ⟨h.1, hyb.1 h.2⟩]
  · rw [if_neg h, if_neg (fun q => h ⟨q.1, hyb.2 q.2⟩)]
theorem map_app {o : Option (List (List UInt16))} {d : List (List UInt16)} {f : List UInt16} : (o.map (f :: ·)).map (d ++ ·) = o.map ((d ++ [f]) ++ ·) := by
  cases o <;> simp
end Go.Out
namespace Go.Proofs.Ytdflnmphiglmaaa
set_option linter.unusedVariables false
set_option linter.unusedSimpArgs false
set_option maxRecDepth 100000
set_option maxHeartbeats 2000000
open Go Go.RowKit Go.Out

theorem owl_keep {w w' : World} {base : Nat} {e : TypeId} {v : Value} {l : List (List UInt16)} (h : OwL (fileO base) w base e v l) (hk : ∀ g, base ≤ g → g < w.heap.size → w'.heap[g]? = w.heap[g]?) : OwL (fileO base) w' base e v l := by
  obtain ⟨xs, h1, h2⟩ := h
  refine ⟨xs, ?_, h2.mono fun cs x ⟨A, n, c, e1, e2, e3⟩ => ⟨A, n, c, e1, e2.kept fun g hg => hk g (e2.lt g hg).1 (e2.lt g hg).2, e3⟩⟩
  obtain ⟨h3, h4⟩ := h1
  refine ⟨h3, ?_⟩
  rcases h4 with h4 | ⟨g, cap, cur, hv, hb, hg, r⟩
  · exact .inl h4
  · exact .inr ⟨g, cap, cur, hv, hb, (hk g hb (lt_of_heap hg)).trans hg, r⟩

/-- What reply.parts hands back; of the blocks that were there, one alone has turned. -/
def RetPt (w V : World) (gA : Nat) (o : Option (List (List UInt16))) (e : Ending) (w' : World) : Prop :=
  Ext w w' ∧ V.heap.size ≤ w'.heap.size ∧ (∀ g, g < V.heap.size → g ≠ gA → w'.heap[g]? = V.heap[g]?) ∧ match o with
    | none => e = .returned (.tuple #[.slice none 0 0, .bool false])
    | some l => ∃ v, e = .returned (.tuple #[v, .bool true]) ∧ OwL (fileO V.heap.size) w' V.heap.size 24 v l

end Go.Proofs.Ytdflnmphiglmaaa

namespace Go.Proofs.Ytdflnmphiglmaaa
set_option linter.unusedVariables false
set_option linter.unusedSimpArgs false
set_option maxRecDepth 100000
set_option maxHeartbeats 2000000
open Go Go.RowKit Go.Out


end Go.Proofs.Ytdflnmphiglmaaa
