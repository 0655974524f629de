/- Contracts of the reference's seals. -/
import Derived.Test.YtcnjhjfepojdaaaStreamLaw
import Derived.Test.YtcnjhjfepojdaaaSums2
import Derived.StillTailTactics
namespace Go.Proofs.Ytcnjhjfepojdaaa
set_option linter.unusedVariables false
open Go Go.RowKit Go.Out

/-- A call that hands back bytes of its own and an error's number. -/
def RetS (w : World) (t : TypeId) (l : List UInt8 × Int) (e : Ending) (w' : World) : Prop :=
  ∃ A n c, e = .returned (.tuple #[.slice A n c, .int .i64 l.2]) ∧ Own w' w.heap.size t IsU8 A n c (l.1.map cB) ∧ Below w.heap.size w w'

end Go.Proofs.Ytcnjhjfepojdaaa

namespace Go.Proofs.Ytcnjhjfepojdaaa
set_option linter.unusedVariables false
open Go Go.RowKit Go.Out

end Go.Proofs.Ytcnjhjfepojdaaa

namespace Go.Proofs.Ytcnjhjfepojdaaa
set_option linter.unusedVariables false
open Go Go.RowKit Go.Out

theorem seal16_any (b : List UInt8) (A : Option Addr) (m c : Nat) (w : World) (hr : Rd w A m (b.map cB)) (hm : m ≤ 140737488355300) :
    Calls Try.prog 21 #[.slice A m c] w (RetOwn w 5 IsU8 (m + 2) ((sealF 2 (more16 65535) b).map cB)) := by
  have Hr := Lib.hid hr; clear hr
  have hlt := more16_lt (r := 65535) (by decide) b
  rw [show sealF 2 (more16 65535) b = b ++ le 2 (more16 65535 b) from rfl]
  go_enter Try.func21, Try.ntmps21
  go_wp2_with fail
  refine (crc16_any b _ _ _ _ Hr.out (by omega)).mono ?_
  rintro e w1 ⟨rfl, rfl⟩
  have Hle := Lib.hid (le_two (more16 65535 b) hlt)
  generalize more16 65535 b = S at *
  have hown0 : Own (w.alloc (.cells #[] 5)) w.heap.size 5 IsU8 (some ⟨w.heap.size, 0, none⟩) 0 0 [] := Own.new w (Nat.le_refl _) _ #[] 0 (by simp) (by simp) (by simp)
  have hr0 : Rd (w.alloc (.cells #[] 5)) A m (b.map cB) := Hr.out.below ((Below.refl _ _).alloc (Nat.le_refl _) _)
  have hb0 : Below w.heap.size w (w.alloc (.cells #[] 5)) := (Below.refl _ _).alloc (Nat.le_refl _) _
  have Ho0 := Lib.hid hown0; have Hr0 := Lib.hid hr0; have Hb0 := Lib.hid hb0; clear hown0 hr0 hb0
  go_wp2_with (at_builtin; first
    | (refine app_u8 _ rfl (.tmp 6) (.tmp 7) rfl rfl Ho0.out rfl Hr0.out isU8_map (by omega) Hb0.out.size ?_; intro A2 c2 w2 hown2 hg2 hbk2; have hb2 := Hb0.out.grown hg2 Hb0.out.size (fun g hg => (Ho0.out.lt g hg).1); have hz2 := hb2.size; rw [List.nil_append, Nat.zero_add] at hown2; rw [Nat.zero_add]; have Ho2 := Lib.hid hown2; clear hown2)
    | (go_must (refine app_u8 _ rfl (.tmp 8) (.tmp 14) rfl rfl (Ho2.out.alloc _) rfl (Rd.marked _ _ _ _ 2 rfl) (by intro u hu; simp at hu; rcases hu with rfl | rfl <;> exact isU8_of (by omega) (by omega)) (by omega) (by simp; omega) ?_); intro A3 c3 w3 hown3 hg3 hbk3))
  go_ret
  exact ⟨_, _, rfl, by rw [List.map_append, Hle.out]; simpa using hown3, below_app hb2 hz2 hg3 (fun g hg => (Ho2.out.lt g hg).1)⟩

theorem open16_any (b : List UInt8) (A : Option Addr) (m c : Nat) (w : World) (hr : Rd w A m (b.map cB)) (hc : m ≤ c) (hm : m ≤ 140737488355300) :
    Calls Try.prog 35 #[.slice A m c] w (RetS w 5 (openF 2 (more16 65535) b)) := by
  have hl := hr.length
  have Hr := Lib.hid hr; clear hr
  rcases Nat.lt_or_ge m 2 with h | h
  · rw [show openF 2 (more16 65535) b = ([], 1) from by unfold openF; rw [if_pos (by omega)]]
    have hneg : (m : Int) - 2 < 0 := by omega
    go_enter Try.func35, Try.ntmps35
    go_wp2_with fail
    go_ret2
    exact ⟨_, _, _, rfl, Own.nil_ _ _ _ _, Below.refl _ _⟩
  · obtain ⟨n, hn⟩ : ∃ n, m = n + 2 := ⟨m - 2, by omega⟩
    have hsub : (m : Int) - 2 = (n : Int) := by omega
    have hof : openF 2 (more16 65535) b = openR (sealF 2 (more16 65535) (b.take n) = b) (b.take n) := by unfold openF openR; rw [if_neg (by omega), show b.length - 2 = n from by omega]
    rw [hof]
    have hra := Hr.out.take (k := n) (by omega)
    rw [← List.map_take] at hra
    have Hra := Lib.hid hra; clear hra hof
    have hnc : n ≤ c := by omega
    have hnm : n ≤ 140737488355300 := by omega
    have hok := tail_two b n (more16 65535 (b.take n)) (by omega)
    rw [show b.take n ++ le 2 (more16 65535 (b.take n)) = sealF 2 (more16 65535) (b.take n) from rfl] at hok
    have Hok := Lib.hid hok; clear hok
    have hlt := more16_lt (r := 65535) (by decide) (b.take n)
    obtain ⟨bk0, ok0, rfl, -, hl0, hc0⟩ := Hr.out.u8at (k := n) (by omega)
    obtain ⟨bk1, ok1, q1, -, hl1, hc1⟩ := Hr.out.u8at (k := n + 1) (by omega)
    injection q1 with q1; injection q1 with q1 q1'; subst q1; subst q1'
    generalize hL : b.take n = L at *
    have HL := Lib.hid hL; clear hL
    generalize b[n].toNat = x0 at *
    generalize b[n + 1].toNat = x1 at *
    have Hn := Lib.hid hn; have Hl := Lib.hid hl; clear hn hl
    have hi0 : n < m := by have := Hn.out; omega
    have hi1 : n + 1 < m := by have := Hn.out; omega
    go_enter Try.func35, Try.ntmps35
    go_wp2_with fail
    refine (crc16_any L _ _ _ _ Hra.out (by omega)).mono ?_
    rintro e w1 ⟨rfl, rfl⟩
    generalize more16 65535 L = S at *
    by_cases h0 : x0 = S % 256
    · have ht0 : ((x0 : Int) != (S : Int) % 256) = false := by simp; omega
      by_cases h1 : x1 = S / 256 % 256
      · have ht1 : ((x1 : Int) != (S : Int) / 256) = false := by simp; omega
        have hown0 : Own (w.alloc (.cells #[] 5)) w.heap.size 5 IsU8 (some ⟨w.heap.size, 0, none⟩) 0 0 [] := Own.new w (Nat.le_refl _) _ #[] 0 (by simp) (by simp) (by simp)
        have hr0 : Rd (w.alloc (.cells #[] 5)) (some ⟨bk0, ok0, none⟩) n (L.map cB) := Hra.out.below ((Below.refl _ _).alloc (Nat.le_refl _) _)
        have hb0 : Below w.heap.size w (w.alloc (.cells #[] 5)) := (Below.refl _ _).alloc (Nat.le_refl _) _
        have Ho0 := Lib.hid hown0; have Hr0 := Lib.hid hr0; have Hb0 := Lib.hid hb0; clear hown0 hr0 hb0
        go_wp2_with (at_builtin; go_must (refine app_u8 _ rfl (.tmp 33) (.tmp 36) rfl rfl Ho0.out rfl Hr0.out isU8_map (by omega) Hb0.out.size ?_); intro A2 c2 w2 hown2 hg2 hbk2)
        go_ret2
        rw [openR_t (Hok.out.2 ⟨h0, h1⟩)]
        exact ⟨_, _, _, rfl, by simpa using hown2, Hb0.out.grown hg2 Hb0.out.size (fun g hg => (Ho0.out.lt g hg).1)⟩
      · have ht1 : ((x1 : Int) != (S : Int) / 256) = true := by simp; omega
        go_wp2_with fail
        go_ret2
        rw [openR_f (fun hh => h1 (Hok.out.1 hh).2)]
        exact ⟨_, _, _, rfl, Own.nil_ _ _ _ _, Below.refl _ _⟩
    · have ht0 : ((x0 : Int) != (S : Int) % 256) = true := by simp; omega
      go_wp2_with fail
      go_ret2
      rw [openR_f (fun hh => h0 (Hok.out.1 hh).1)]
      exact ⟨_, _, _, rfl, Own.nil_ _ _ _ _, Below.refl _ _⟩

end Go.Proofs.Ytcnjhjfepojdaaa
