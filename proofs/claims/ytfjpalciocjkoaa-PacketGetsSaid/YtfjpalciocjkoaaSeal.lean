/- Contracts of the reference's seals. -/
import Derived.Test.YtfjpalciocjkoaaSealPure
import Derived.Test.YtfjpalciocjkoaaSums2
import Derived.StillTailTactics
namespace Go.Proofs.Ytfjpalciocjkoaa
set_option linter.unusedVariables false
open Go Go.RowKit Go.Out

/-- A call that hands back bytes of its own and an error's number. -/
def RetS (w : World) (t : TypeId) (l : List UInt8 × Int) (e : Ending) (w' : World) : Prop :=
  ∃ A n c, e = .returned (.tuple #[.slice A n c, .int .i64 l.2]) ∧ Own w' w.heap.size t IsU8 A n c (l.1.map cB) ∧ Below w.heap.size w w'

theorem behind_any (b : List UInt8) (A : Option Addr) (m c : Nat) (v n : Nat) (w : World) (hr : Rd w A m (b.map cB)) (hm : m ≤ 140737488355300) (hv : v < 4294967296) (hn : n ≤ 4) :
    Calls Try.prog 65 #[.slice A m c, .int .u32 v, .int .i64 n] w (RetOwn w 5 IsU8 (m + n) ((b ++ le n v).map cB)) := by
  have hl : b.length = m := by have := hr.1; simpa using this
  have Hv := Lib.hid hv; have Hr := Lib.hid hr; have Hl := Lib.hid hl; clear hv hr hl
  go_enter Try.func65, Try.ntmps65
  go_wp2_with fail
  go_loopw [7, 8] (fun x i wr => ∃ (k c : Nat) (A : Option Addr), k ≤ m ∧ i = .int .i64 k ∧ x = .slice A k c ∧ Own wr w.heap.size 5 IsU8 A k c ((b.take k).map cB) ∧ Below w.heap.size w wr) (fun _ i _ => m - (intOf i).toNat)
  case atStart => exact ⟨0, 0, none, Nat.zero_le _, rfl, rfl, Own.nil_ _ _ _ _, Below.refl _ _⟩
  case round =>
    obtain ⟨k, c1, A1, hk, rfl, rfl, hown, hbel⟩ := hrel
    by_cases hlt : k < m
    · obtain ⟨b1, o1, rfl, -, hl1, hc1⟩ := ((Hr.out).below hbel).u8at hlt
      have hbs := hbel.size
      go_wp2_with (at_builtin; go_must (refine app_u8 _ rfl (.tmp 16) (.tmp 21) rfl rfl (hown.alloc _) rfl (Rd.one _ _ _) (by intro u hu; simp at hu; subst hu; exact ⟨_, rfl⟩) (by omega) (by simp; omega) ?_); intro A2 c2 w2 hown2 hg2 hb2)
      go_roundw
      case rel => exact ⟨k + 1, c2, A2, by omega, by go_num, rfl, by rw [map_take_succ _ _ _ hl1]; exact hown2, below_app hbel hbs hg2 (fun g hg => (hown.lt g hg).1)⟩
      case measure => simp [intOf]; omega
    · obtain rfl : k = m := by omega
      rw [List.take_of_length_le (by have := Hl.out; omega)] at hown
      go_wp2_with fail
      go_loopw [7, 9, 1] (fun x i y wr => ∃ (j c : Nat) (A : Option Addr), j ≤ n ∧ i = .int .i64 j ∧ x = .slice A (k + j) c ∧ y = .int .u32 ((v / 256 ^ j : Nat) : Int) ∧ Own wr w.heap.size 5 IsU8 A (k + j) c ((b ++ le j v).map cB) ∧ Below w.heap.size w wr) (fun _ i _ _ => n - (intOf i).toNat)
      case atStart => exact ⟨0, c1, A1, Nat.zero_le _, rfl, rfl, by simp, by simpa [le] using hown, hbel⟩
      case round =>
        obtain ⟨j, c2, A2, hj, rfl, rfl, rfl, hown2, hbel2⟩ := hrel
        by_cases hjn : j < n
        · have hbs := hbel2.size
          have hle := le_map_succ b j v
          have hX : v / 256 ^ j < 4294967296 := Nat.lt_of_le_of_lt (Nat.div_le_self _ _) Hv.out
          have hd : v / 256 ^ (j + 1) = v / 256 ^ j / 256 := by rw [Nat.pow_succ, Nat.div_div_eq_div_mul]
          have Hle := Lib.hid hle; have Hd := Lib.hid hd; clear hle hd
          generalize hXe : v / 256 ^ j = X at *
          have e1 : (X : Int).tmod 256 = (X : Int) % 256 := Int.tmod_eq_emod_of_nonneg (by omega)
          have e2 : (X : Int).tdiv 256 = (X : Int) / 256 := Int.tdiv_eq_ediv_of_nonneg (by omega)
          go_wp2_with (at_builtin; go_must (refine app_u8 _ rfl (.tmp 28) (.tmp 32) rfl rfl (hown2.alloc _) rfl (Rd.one _ _ _) (by intro u hu; simp at hu; subst hu; exact isU8_of (by omega) (by omega)) (by omega) (by simp; omega) ?_); intro A3 c3 w3 hown3 hg3 hb3)
          go_roundw
          case rel => exact ⟨j + 1, c3, A3, by omega, by go_num, rfl, by rw [Hd.out]; simp, by rw [Hle.out]; exact hown3, below_app hbel2 hbs hg3 (fun g hg => (hown2.lt g hg).1)⟩
          case measure => simp [intOf]; omega
        · obtain rfl : j = n := by omega
          go_wp2_with fail
          go_ret
          exact ⟨_, _, rfl, hown2, hbel2⟩
end Go.Proofs.Ytfjpalciocjkoaa
