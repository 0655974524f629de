/- A unit: the contract of Do, whatever is asked. -/
import Derived.Test.YtdflnmphiglmaaaUnit9
import Derived.Test.YtdflnmphiglmaaaAskG5
import Derived.Test.YtdflnmphiglmaaaFrame2
namespace Go.Proofs.Ytdflnmphiglmaaa
set_option linter.unusedVariables false
set_option linter.unusedSimpArgs false
open Go Go.RowKit Go.Out

theorem do_any (u : UnitD) (s : UnitS) (a : AskD) (t : AskS) (w : World) (h : UnitAt w s u) (hu : UnitOk u) (ha : AskRd w a t) (hwr : u.wrote < 4611686018427387904) :
    Calls Try.prog 10 #[pU s, askV a t] w (RetDo w s u a) := by
  by_cases h1 : checkF a = 20 ∨ a.code = 20
  · exact do_told 1 (.inl rfl) u s a t w h ha (by unfold doU; rw [if_pos h1]) (iff_of_true rfl h1) (fun h => by omega)
  · by_cases h2 : checkF a = 0
    · by_cases h3 : (u.size : Int) < a.addr + manyF a
      · exact do_far u s a t w h hu ha h2 (fun h => h1 (.inr h)) h3
      · have hc := codeP_cases (checkF_parts a h2).1
        by_cases c1 : a.code = 1 ∨ a.code = 2
        · exact do_bits u s a t w h hu ha h2 c1 h3
        · by_cases c3 : a.code = 3 ∨ a.code = 4
          · exact do_regs u s a t w h hu ha h2 c3 h3
          · by_cases c5 : a.code = 5 ∨ a.code = 15
            · exact do_coils u s a t w h hu ha h2 c5 h3 hwr
            · exact do_words u s a t w h hu ha h2 (by omega) h3 hwr
    · exact do_told 3 (.inr rfl) u s a t w h ha (by unfold doU; rw [if_neg h1, if_pos h2]) (iff_of_false (by decide) h1) (fun _ => h2)
end Go.Proofs.Ytdflnmphiglmaaa

namespace Go.Out
open Go Go.RowKit
theorem open_some {b : List UInt8} (h : (openRtuF b).2.2 = 0) : 1 ≤ (openRtuF b).2.1.length ∧ (openRtuF b).2.1.length ≤ 253 ∧ 1 ≤ (openRtuF b).1.toNat ∧ (openRtuF b).1.toNat ≤ 247 := by
  unfold openRtuF at h ⊢
  split at h
  · simp at h
  · split at h
    · simp at h
    · rename_i h1 h2
      rw [if_neg h1, if_neg h2]
      by_cases hz : (openF 2 (more16 65535) b).2 = 0
      · have hzz := openF_ok hz
        have h2 : (openF 2 (more16 65535) b).1.length = b.length - 2 := by rw [hzz]; simp
        cases h3 : openF 2 (more16 65535) b with
        | mk o e =>
          rw [h3] at h2 hz h
          simp only at hz h2
          subst hz
          cases o with
          | nil => simp at h2; omega
          | cons x l =>
            by_cases hx : x.toNat < 1 ∨ 247 < x.toNat
            · have e1 : lineF (x :: l, 0) = (0, [], 24) := by unfold lineF; rw [if_neg (by simp)]; exact if_pos hx
              rw [e1] at h; simp at h
            · have e1 : lineF (x :: l, 0) = (x, l, 0) := by unfold lineF; rw [if_neg (by simp)]; exact if_neg hx
              rw [e1]; simp at h2 ⊢; omega
      · have e1 : lineF (openF 2 (more16 65535) b) = (0, [], (openF 2 (more16 65535) b).2) := if_pos hz
        rw [e1] at h; exact absurd h hz
end Go.Out
namespace Go.Proofs.Ytdflnmphiglmaaa
set_option linter.unusedVariables false
set_option linter.unusedSimpArgs false
set_option maxRecDepth 100000
set_option maxHeartbeats 1000000
open Go Go.RowKit Go.Out

/-- What Hear hands back: the bytes, in memory of its own; only the unit has turned. -/
def RetH (w : World) (s : UnitS) (u : UnitD) (b : List UInt8) (e : Ending) (w' : World) : Prop :=
  ∃ A n c, e = .returned (.slice A n c) ∧ Own w' w.heap.size 5 IsU8 A n c ((hearU u b).2.map cB) ∧ UnitAt w' s (hearU u b).1 ∧ OnlyU s w w'
theorem ask_only {w W : World} {base : Nat} {s : UnitS} {a : AskD} {t : AskS} (h : AskOw w base a t) (hlt : s.p < base ∧ s.g1 < base ∧ s.g2 < base ∧ s.g3 < base ∧ s.g4 < base) (ho : OnlyU s w W) (hp : a.parts ≠ [] → Ext w W) : AskRd W a t := by
  have hk : ∀ g, base ≤ g → g < w.heap.size → W.heap[g]? = w.heap[g]? := fun g hg hw => ho.block g hw (by omega) (by omega) (by omega) (by omega) (by omega)
  have h1 := (h.on.kept (w' := W) fun g hg => hk g (h.on.lt g hg).1 (h.on.lt g hg).2).rd
  have h2 := (h.set.kept (w' := W) fun g hg => hk g (h.set.lt g hg).1 (h.set.lt g hg).2).rd
  have hr := h.rd
  refine ⟨h1, h2, ?_, hr.code, hr.addr, hr.count, hr.cap1, hr.cap2, hr.cap3⟩
  by_cases e : a.parts = []
  · have h3 := hr.n3
    rw [e] at h3 ⊢
    rw [← h3]
    exact RdL.nil_ _ _ _
  · exact hr.parts.ext (hp e)
theorem or128 (x : Nat) (h : x < 128) : bits .or .u8 (x : Int) 128 = ((x + 128 : Nat) : Int) := bit_or x 7 (by omega) (by omega)
end Go.Proofs.Ytdflnmphiglmaaa

namespace Go.Proofs.Ytdflnmphiglmaaa
set_option linter.unusedVariables false
set_option linter.unusedSimpArgs false
set_option maxRecDepth 100000
set_option maxHeartbeats 1000000
open Go Go.RowKit Go.Out

end Go.Proofs.Ytdflnmphiglmaaa

namespace Go.Proofs.Ytdflnmphiglmaaa
set_option linter.unusedVariables false
set_option linter.unusedSimpArgs false
set_option maxRecDepth 100000
set_option maxHeartbeats 1000000
open Go Go.RowKit Go.Out

end Go.Proofs.Ytdflnmphiglmaaa
