/- Turned bits are seen: plain laws on the sums and the seals; no program in sight. -/
import Derived.Test.YtfjpalciocjkoaaTurned
namespace Go.Out
open Go Go.RowKit
set_option linter.unusedVariables false

theorem turn_burst {P W : Nat} (hP : 2 ^ W ≤ P) (hP2 : P < 2 ^ (W + 1)) (r : Nat) (l : List UInt8) (at_ M i : Nat) (hM : M < 2 ^ (W + 1)) (h : (turn l at_ M i).2 ≠ 0) : crc P r (turn l at_ M i).1 ≠ crc P r l := by
  obtain ⟨D, h1, h2, h3, h4, h5⟩ := turn_val l at_ M (W + 1) hM i
  have hD : D ≠ 0 := fun e => h (h4.1 e)
  exact xor_ne (crc_burst hP hP2 r at_ D _ _ (turn_length l at_ M i) h1 (h5 hD) h3 hD)
theorem seen16 (l : List UInt8) (at_ M i : Nat) (hM : M < 65536) (h : (turn l at_ M i).2 ≠ 0) : more16 65535 (turn l at_ M i).1 ≠ more16 65535 l :=
  turn_burst (W := 15) (by decide) (by decide) _ l at_ M i hM h
theorem seen32 (l : List UInt8) (at_ M i : Nat) (hM : M < 4294967296) (h : (turn l at_ M i).2 ≠ 0) : more32 0 (turn l at_ M i).1 ≠ more32 0 l := by
  intro e
  have h1 := turn_burst (P := 3988292384) (W := 31) (by decide) (by decide) (0 ^^^ 4294967295) l at_ M i hM h
  apply h1
  unfold more32 at e
  generalize crc 3988292384 (0 ^^^ 4294967295) (turn l at_ M i).1 = x at *
  generalize crc 3988292384 (0 ^^^ 4294967295) l = y at *
  have e2 : x ^^^ 4294967295 ^^^ 4294967295 = y ^^^ 4294967295 ^^^ 4294967295 := by rw [e]
  rwa [Nat.xor_assoc, Nat.xor_assoc, Nat.xor_self, Nat.xor_zero, Nat.xor_zero] at e2
theorem val_le2 (v : Nat) (h : v < 65536) : val (le 2 v) = v := by
  rw [show le 2 v = [UInt8.ofNat (v % 256), UInt8.ofNat (v / 256 % 256)] from by simp [le, List.range_succ]]
  simp [val]; omega
theorem val_le4 (v : Nat) (h : v < 4294967296) : val (le 4 v) = v := by
  rw [show le 4 v = [UInt8.ofNat (v % 256), UInt8.ofNat (v / 256 % 256), UInt8.ofNat (v / 65536 % 256), UInt8.ofNat (v / 16777216 % 256)] from by simp [le, List.range_succ]]
  simp [val]; omega
theorem residue16 (b : List UInt8) : crc 40961 65535 (sealF 2 (more16 65535) b) = 0 := by
  have h := more16_lt (r := 65535) (by decide) b
  unfold sealF
  rw [crc_append, crc_val, le_length]
  show citer 40961 (8 * 2) (more16 65535 b ^^^ val (le 2 (more16 65535 b))) = 0
  rw [val_le2 _ h, Nat.xor_self, citer_zero]
theorem residue32 (b : List UInt8) : crc 3988292384 (0 ^^^ 4294967295) (sealF 4 (more32 0) b) = citer 3988292384 32 4294967295 := by
  have h := more32_lt (r := 0) (by decide) b
  unfold sealF
  rw [crc_append, crc_val, le_length, val_le4 _ h]
  unfold more32
  rw [← Nat.xor_assoc, Nat.xor_self, Nat.zero_xor]
theorem open_seal (k : Nat) (s : List UInt8 → Nat) (b : List UInt8) : openF k s (sealF k s b) = (b, 0) := by
  have hl : (sealF k s b).length = b.length + k := by simp [sealF, le_length]
  have ht : (sealF k s b).take ((sealF k s b).length - k) = b := by rw [hl, Nat.add_sub_cancel]; simp [sealF]
  unfold openF
  rw [if_neg (by omega), ht, if_pos rfl]
theorem open_turned {P r K k : Nat} (s : List UInt8 → Nat) (hres : ∀ b, crc P r (sealF k s b) = K) (b t : List UInt8) (hl : t.length = (sealF k s b).length) (hne : crc P r t ≠ crc P r (sealF k s b)) : openF k s t = ([], 5) := by
  have hk : k ≤ t.length := by rw [hl]; simp [sealF, le_length]
  unfold openF
  rw [if_neg (by omega), if_neg]
  intro e
  apply hne
  rw [hres b, ← e]
  exact hres _
theorem open16_turned (b : List UInt8) (at_ M i : Nat) (hM : M < 65536) (h : (turn (sealF 2 (more16 65535) b) at_ M i).2 ≠ 0) : openF 2 (more16 65535) (turn (sealF 2 (more16 65535) b) at_ M i).1 = ([], 5) :=
  open_turned _ residue16 b _ (turn_length _ _ _ _) (turn_burst (P := 40961) (W := 15) (by decide) (by decide) 65535 _ at_ M i hM h)
theorem open32_turned (b : List UInt8) (at_ M i : Nat) (hM : M < 4294967296) (h : (turn (sealF 4 (more32 0) b) at_ M i).2 ≠ 0) : openF 4 (more32 0) (turn (sealF 4 (more32 0) b) at_ M i).1 = ([], 5) :=
  open_turned _ residue32 b _ (turn_length _ _ _ _) (turn_burst (P := 3988292384) (W := 31) (by decide) (by decide) (0 ^^^ 4294967295) _ at_ M i hM h)
theorem open_same (k : Nat) (s : List UInt8 → Nat) (b : List UInt8) (at_ M i : Nat) (h : (turn (sealF k s b) at_ M i).2 = 0) : openF k s (turn (sealF k s b) at_ M i).1 = (b, 0) := by
  rw [turn_same _ _ _ _ h, open_seal]
end Go.Out
