/- A contract of Pick. -/
import Derived.Test.YtomcipkmohhpjaaGreatG01
namespace Go.Proofs.YtomcipkmohhpjaaGreat
set_option linter.unusedVariables false
open Go Go.RowKit Go.Out

theorem tmod_cases (k : Int) (n : Nat) (h : 1 ≤ n) : (0 ≤ k.tmod n ∧ k.tmod n < n) ∨ (k.tmod n < 0 ∧ 0 ≤ k.tmod n + n) := by
  rcases Int.lt_or_le k 0 with hk | hk
  · obtain ⟨a, rfl⟩ : ∃ a : Nat, k = -(a : Int) := ⟨k.natAbs, by omega⟩
    rw [Int.neg_tmod, Int.tmod_eq_emod_of_nonneg (by omega : (0 : Int) ≤ a)]
    have h1 := Int.emod_nonneg (a : Int) (b := (n : Int)) (by omega)
    have h2 := Int.emod_lt_of_pos (a : Int) (b := (n : Int)) (by omega)
    omega
  · rw [Int.tmod_eq_emod_of_nonneg hk]
    exact .inl ⟨Int.emod_nonneg k (by omega), Int.emod_lt_of_pos k (by omega)⟩

theorem pick_any (k : Int) (n : Nat) (w : World) (h : 1 ≤ n) (hn : n ≤ 1125899906842624) :
    Calls Tryz.prog 32 #[.int .i64 k, .int .i64 n] w fun e w' => ∃ r : Nat, r < n ∧ e = .returned (.int .i64 r) ∧ w = w' := by
  have h0 : ¬ (n : Int) = 0 := by omega
  have h0' : ¬ n = 0 := by omega
  have h1 : ¬ (n : Int) < 1 := by omega
  have ht := tmod_cases k n h
  generalize hT : k.tmod n = T at *
  have ew : IntKind.i64.wrap T = T := IntWalk.i64_in _ (by omega)
  rcases ht with ⟨h2, h3⟩ | ⟨h2, h3⟩
  · have h4 : ¬ T < 0 := by omega
    go_enter Tryz.func32, Tryz.ntmps32
    go_wp2_with fail
    go_ret
    exact ⟨T.toNat, by omega, ret_int (by omega), rfl⟩
  · go_enter Tryz.func32, Tryz.ntmps32
    go_wp2_with fail
    go_ret
    exact ⟨(T + n).toNat, by omega, ret_int (by omega), rfl⟩
end Go.Proofs.YtomcipkmohhpjaaGreat
