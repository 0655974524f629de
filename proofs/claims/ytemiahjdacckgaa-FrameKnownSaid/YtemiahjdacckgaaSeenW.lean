/- Contracts of Pick and of turned. -/
import Derived.Test.YtemiahjdacckgaaSeen
import Derived.Test.YtemiahjdacckgaaSums6
import Derived.Test.YtemiahjdacckgaaBitPure
namespace Go.Proofs.Ytemiahjdacckgaa
set_option linter.unusedVariables false
open Go Go.RowKit Go.Out

theorem turn_skip {l : List UInt8} {at_ M i : Nat} (h : ¬ (M / 2 ^ i % 2 = 1 ∧ (at_ + i) / 8 < l.length)) : turn l at_ M (i + 1) = ((turn l at_ M i).1, (turn l at_ M i).2) := if_neg h
theorem turn_hit {l : List UInt8} {at_ M i : Nat} (h : M / 2 ^ i % 2 = 1 ∧ (at_ + i) / 8 < l.length) : turn l at_ M (i + 1) = (Out.flip (turn l at_ M i).1 (at_ + i), (turn l at_ M i).2 + 1) := if_pos h
theorem xor_bit (x : UInt8) (r : Nat) (hr : r < 8) : (.int .u8 (bits .xor .u8 (x.toNat : Int) ((2 : Int) ^ r % 256)) : Value) = cB (x ^^^ bit8 r) := by
  have h2 : (2 : Nat) ^ r ≤ 2 ^ 7 := Nat.pow_le_pow_right (by omega) (by omega)
  have e0 : (bit8 r).toNat = 2 ^ r := by unfold bit8; simp; omega
  have e : (2 : Int) ^ r % 256 = (((bit8 r).toNat : Nat) : Int) := by
    rw [e0]
    have e1 : (2 : Int) ^ r = ((2 ^ r : Nat) : Int) := by simp
    rw [e1]; omega
  rw [e, u8_xor_nat _ _ x.toNat_lt (bit8 r).toNat_lt]; unfold cB; rw [UInt8.toNat_xor]
theorem flip_cell (l : List UInt8) (K : Nat) (h : K / 8 < l.length) : (Out.flip l K).map cB = (l.map cB).set (K / 8) (.int .u8 (bits .xor .u8 ((l[K / 8].toNat : Nat) : Int) ((2 : Int) ^ (K % 8) % 256))) := by
  unfold Out.flip
  rw [xor_bit _ _ (by omega), List.map_set, List.getD_eq_getElem?_getD, List.getElem?_eq_getElem h]; rfl

theorem turned_any (b : List UInt8) (A : Option Addr) (m c at_ M : Nat) (w : World) (hr : Rd w A m (b.map cB)) (hm : m ≤ 140737488355300) (ha : at_ ≤ 1125899906842624) (hM : M < 4294967296) :
    Calls Try.prog 47 #[.slice A m c, .int .i64 at_, .int .u32 M] w fun e w' => ∃ A' c', e = .returned (.tuple #[.slice A' m c', .int .i64 ((turn b at_ M 32).2 : Nat)]) ∧ Own w' w.heap.size 5 IsU8 A' m c' ((turn b at_ M 32).1.map cB) ∧ Below w.heap.size w w' := by
  have hl := hr.length
  have Hr := Lib.hid hr; have Hl := Lib.hid hl; clear hr hl
  go_enter Try.func47, Try.ntmps47
  go_wp2_with fail
  refine (copy_any b _ _ _ _ Hr.out (by omega)).mono ?_
  rintro e w1 ⟨A1, c1, rfl, ho, hb1⟩
  have Ho := Lib.hid ho; clear ho
  go_wp2_with fail
  go_loopw [9, 10, 11] (fun n i _ wr => ∃ k : Nat, k ≤ 32 ∧ i = .int .i64 k ∧ n = .int .i64 ((turn b at_ M k).2 : Nat) ∧ Own wr w.heap.size 5 IsU8 A1 m c1 ((turn b at_ M k).1.map cB) ∧ Below w.heap.size w wr) (fun _ i _ _ => 32 - (intOf i).toNat)
  case atStart => exact ⟨0, by omega, rfl, rfl, Ho.out, hb1⟩
  case round =>
    obtain ⟨k, hk, rfl, rfl, hown, hbel⟩ := hrel
    by_cases hlt : k < 32
    · have hcnt := turn_count b at_ M k
      have hlen := turn_length b at_ M k
      rw [Hl.out] at hlen
      have hskip := @turn_skip b at_ M k
      have hhit := @turn_hit b at_ M k
      rw [Hl.out] at hskip hhit
      obtain ⟨K, hK⟩ : ∃ K, at_ + k = K := ⟨_, rfl⟩
      have hKi : (at_ : Int) + (k : Int) = (K : Int) := by omega
      rw [hK] at hskip hhit
      generalize hL : (turn b at_ M k).1 = L at *
      generalize hC : (turn b at_ M k).2 = C at *
      have hshr : (M : Int) / 2 ^ k = ((M / 2 ^ k : Nat) : Int) := by simp
      have hXM : M / 2 ^ k < 4294967296 := Nat.lt_of_le_of_lt (Nat.div_le_self _ _) hM
      generalize M / 2 ^ k = X at *
      have Hown := Lib.hid hown; have HK := Lib.hid hK; have Hhit := Lib.hid hhit; have Hskip := Lib.hid hskip; have Hlen := Lib.hid hlen
      clear hown hK hhit hskip hlen hL hC
      have e5 : (X : Int).tmod 2 = (X : Int) % 2 := Int.tmod_eq_emod_of_nonneg (by omega)
      have e1 : IntKind.i64.wrap ((K : Int) / 8) = (K : Int) / 8 := IntWalk.i64_in _ (by omega)
      have e6 : (K : Int).tdiv 8 = (K : Int) / 8 := Int.tdiv_eq_ediv_of_nonneg (by omega)
      have e7 : (K : Int).tmod 8 = (K : Int) % 8 := Int.tmod_eq_emod_of_nonneg (by omega)
      rcases Nat.mod_two_eq_zero_or_one X with hX | hX
      · have ht : ((X : Int) % 2 == 1) = false := by simp; omega
        go_wp2_with fail
        go_roundw
        case rel => exact ⟨k + 1, by omega, by go_num, by rw [Hskip.out (by omega)], by rw [Hskip.out (by omega)]; exact Hown.out, hbel⟩
        case measure => simp [intOf]; omega
      · have ht : ((X : Int) % 2 == 1) = true := by simp; omega
        rcases Nat.lt_or_ge (K / 8) m with hKm | hKm
        · have hki : (K : Int) / 8 < (m : Int) := by omega
          have e2 : 0 ≤ (K : Int) / 8 := by omega
          have e4 : ((K : Int) / 8).toNat = K / 8 := by omega
          have e8 : 0 ≤ (K : Int) % 8 := by omega
          have e9 : ((K : Int) % 8).toNat = K % 8 := by omega
          obtain ⟨g, off, rfl, hgb, hcx, hfx⟩ := Hown.out.at_ hKm
          have hkl : K / 8 < L.length := by rw [Hlen.out]; exact hKm
          have hfl := flip_cell L K hkl
          have hcy : wr.cell? ⟨g, off + K / 8, none⟩ = some (.int .u8 ((L[K / 8].toNat : Nat) : Int)) := by rw [hcx, List.getElem?_map, List.getElem?_eq_getElem hkl]; rfl
          generalize L[K / 8].toNat = Y at *
          have Hfl := Lib.hid hfl; clear hfl hcx hkl
          go_wp2_with fail
          go_roundw
          case rel => exact ⟨k + 1, by omega, by go_num, by rw [Hhit.out ⟨hX, hKm⟩]; simp, by rw [Hhit.out ⟨hX, hKm⟩, Hfl.out]; exact Own.set_ Hown.out (isU8_bits _ _ _), hbel.setCell hgb _⟩
          case measure => simp [intOf]; omega
        · have hki : ¬ (K : Int) / 8 < (m : Int) := by omega
          go_wp2_with fail
          go_roundw
          case rel => exact ⟨k + 1, by omega, by go_num, by rw [Hskip.out (by omega)], by rw [Hskip.out (by omega)]; exact Hown.out, hbel⟩
          case measure => simp [intOf]; omega
    · obtain rfl : k = 32 := by omega
      go_wp2_with fail
      go_ret2
      exact ⟨_, _, rfl, hown, hbel⟩
end Go.Proofs.Ytemiahjdacckgaa
