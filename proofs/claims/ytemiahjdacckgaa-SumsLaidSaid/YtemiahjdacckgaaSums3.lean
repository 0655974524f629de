/- The walks of SumsPieces and SumsLaid: for every input true; nothing that was there turns. -/
import Derived.Test.YtemiahjdacckgaaSums2
import Derived.Test.YtemiahjdacckgaaCrcLaid
import Derived.StillTailTactics
namespace Go.Proofs.Ytemiahjdacckgaa
set_option linter.unusedVariables false
open Go Go.RowKit Go.Out

theorem lawSumsPieces (a : List UInt8) (A : Option Addr) (m c : Nat) (b : List UInt8) (B : Option Addr) (m' c' : Nat) (w : World) (hr : Rd w A m (a.map cB)) (hc : m ≤ c) (_ : c ≤ 9223372036854775807) (hb : c * 1 ≤ 140737488351232) (hr' : Rd w B m' (b.map cB)) (hc' : m' ≤ c') (_ : c' ≤ 9223372036854775807) (hb' : c' * 1 ≤ 140737488351232) :
    Calls Try.prog 4 #[.slice A m c, .slice B m' c'] w fun e w' => e = .returned (.bool true) ∧ Below w.heap.size w w' := by
  have Hr := Lib.hid hr; have Hr' := Lib.hid hr'; clear hr hr'
  by_cases hbig : 65536 < m ∨ 65536 < m'
  · rcases Nat.lt_or_ge 65536 m with h1 | h1
    all_goals try (have h2 : 65536 < m' := by omega)
    all_goals
      clear hbig
      go_enter Try.func4, Try.ntmps4
      go_wp2_with fail
      refine (known_any _).mono ?_
      rintro e w1 ⟨rfl, hb⟩
      go_wp2_with fail
      go_ret
      exact ⟨rfl, hb⟩
  · have h1 : m ≤ 65536 := by omega
    have h2 : m' ≤ 65536 := by omega
    clear hbig
    go_enter Try.func4, Try.ntmps4
    go_wp2_with fail
    refine (copy_any a _ _ _ _ Hr.out (by omega)).mono ?_
    rintro e w1 ⟨A1, c1, rfl, ho1, hb1⟩
    have Ho1 := Lib.hid ho1; clear ho1
    have hz1 := hb1.size
    go_wp2_with (at_builtin; go_must (refine app_u8 _ rfl (.tmp 16) (.tmp 17) rfl rfl Ho1.out rfl (Hr'.out.below hb1) isU8_map (by omega) (by omega) ?_); intro A2 c2 w2 hown2 hg2 hbk2)
    have hb2 : Below w.heap.size w w2 := hb1.grown hg2 hz1 (fun g hg => (Ho1.out.lt g hg).1)
    rw [← List.map_append] at hown2
    have Ho2 := Lib.hid hown2; have Hra := Lib.hid (Hr.out.below hb2); have Hrb := Lib.hid (Hr'.out.below hb2); clear hown2
    refine (crc16_any a _ _ _ _ Hra.out (by omega)).mono ?_
    rintro e w3 ⟨rfl, rfl⟩
    have e1 := more16_append 65535 a b
    have l1 := more16_lt (r := 65535) (by decide) a
    have HL1 := Lib.hid l1; clear l1
    generalize more16 65535 a = S1 at *
    have E1 := Lib.hid e1; clear e1
    go_wp2_with fail
    refine (more16_any b _ _ _ S1 _ Hrb.out (by omega) HL1.out).mono ?_
    rintro e w3 ⟨rfl, rfl⟩
    rw [E1.out]
    go_wp2_with fail
    refine (crc16_any (a ++ b) _ _ _ _ Ho2.out.rd (by omega)).mono ?_
    rintro e w3 ⟨rfl, rfl⟩
    clear E1
    generalize more16 65535 (a ++ b) = S2
    have ht1 : ((S2 : Int) == (S2 : Int)) = true := by simp
    go_wp2_with fail
    refine (crc32_any a _ _ _ _ Hra.out (by omega)).mono ?_
    rintro e w3 ⟨rfl, rfl⟩
    have e1 := more32_append 0 a b
    have l1 := more32_lt (r := 0) (by decide) a
    have HL2 := Lib.hid l1; clear l1
    generalize more32 0 a = S3 at *
    have E1 := Lib.hid e1; clear e1
    go_wp2_with fail
    refine (more32_any b _ _ _ S3 _ Hrb.out (by omega) HL2.out).mono ?_
    rintro e w3 ⟨rfl, rfl⟩
    rw [E1.out]
    go_wp2_with fail
    refine (crc32_any (a ++ b) _ _ _ _ Ho2.out.rd (by omega)).mono ?_
    rintro e w3 ⟨rfl, rfl⟩
    clear E1
    generalize more32 0 (a ++ b) = S4
    have ht2 : ((S4 : Int) == (S4 : Int)) = true := by simp
    go_wp2_with fail
    refine (known_any _).mono ?_
    rintro e w4 ⟨rfl, hb4⟩
    go_wp2_with fail
    go_ret
    exact ⟨rfl, hb2.trans (hb4.mono hb2.size)⟩

end Go.Proofs.Ytemiahjdacckgaa
