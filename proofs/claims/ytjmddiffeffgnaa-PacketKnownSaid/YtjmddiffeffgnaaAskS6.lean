/- Contract of ask.read: what a PDU of the right length says, whatever its code. -/
import Derived.Test.YtjmddiffeffgnaaAskS2
import Derived.Test.YtjmddiffeffgnaaAskS5
namespace Go.Proofs.Ytjmddiffeffgnaa
set_option linter.unusedVariables false
set_option linter.unusedSimpArgs false
open Go Go.RowKit Go.Out

theorem read_any (b : List UInt8) (A : Option Addr) (m c : Nat) (w : World) (hr : Rd w A m (b.map cB)) (hc : m ≤ c) (hc63 : c ≤ 9223372036854775807) (hm2 : m ≤ 17000000000) (hp : codeP (b0 b : Nat)) (hs : sizedF b = 0) :
    Calls Try.prog 96 #[.slice A m c] w (RetRead w (saidF b)) := by
  have hl := hr.length
  obtain ⟨h0, h1⟩ := sizedF_zero.1 hs
  have hp' := hp
  unfold codeP isCnt isOn isSet at hp'
  unfold sizeF at h0 h1
  have hk : 1 ≤ b0 b ∧ b0 b ≤ 6 ∨ b0 b = 15 ∨ b0 b = 16 ∨ b0 b = 20 := by omega
  rcases hk with hk | hk | hk | hk
  · rw [if_pos hk.2] at h1
    rcases (show b0 b ≤ 4 ∨ b0 b = 5 ∨ b0 b = 6 by omega) with h | h | h
    · exact read_cnt b (b0 b) A m c w hr hc (by omega) rfl hk.1 h
    · exact read_coil b A m c w hr hc (by omega) h
    · exact read_reg b A m c w hr hc (by omega) h
  · rw [if_neg (by omega), if_neg (by omega)] at h0 h1
    have h6 : 6 ≤ b.length := by
      rcases Nat.lt_or_ge b.length 6 with h | h
      · rw [if_neg (by omega)] at h0; exact absurd rfl h0
      · exact h
    exact read_coils b A m c w hr hc (by omega) hm2 hk
  · rw [if_neg (by omega), if_neg (by omega)] at h0 h1
    have h6 : 6 ≤ b.length := by
      rcases Nat.lt_or_ge b.length 6 with h | h
      · rw [if_neg (by omega)] at h0; exact absurd rfl h0
      · exact h
    exact read_regs b A m c w hr hc (by omega) hm2 hk
  · rw [if_neg (by omega), if_pos hk] at h0 h1
    have h2 : 2 ≤ b.length := by
      rcases Nat.lt_or_ge b.length 2 with h | h
      · rw [if_neg (by omega)] at h0; exact absurd rfl h0
      · exact h
    exact read_file b A m c w hr hc hc63 (by omega) hm2 hk
end Go.Proofs.Ytjmddiffeffgnaa
