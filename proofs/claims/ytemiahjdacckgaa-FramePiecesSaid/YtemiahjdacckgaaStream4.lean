/- Contract of the statements' sameAll (layer 05). -/
import Derived.Test.YtemiahjdacckgaaStream3
import Derived.StillTailTactics
namespace Go.Proofs.Ytemiahjdacckgaa
set_option linter.unusedVariables false
open Go Go.RowKit Go.Out

theorem tcpSameAll_any (l : List TcpD) (A B : Option Addr) (n m ca cb : Nat) (w : World) (ha : RdL tcpK w A n l) (hb : RdL tcpK w B m l) (hn : n ≤ 9223372036854775807) :
    Calls Try.prog 36 #[.slice A n ca, .slice B m cb] w fun e w' => e = .returned (.bool true) ∧ Below w.heap.size w w' := by
  obtain rfl : n = m := ha.length.symm.trans hb.length
  have ht : ((n : Int) != (n : Int)) = false := by simp
  have Ha := Lib.hid ha; have Hb := Lib.hid hb; clear ha hb
  go_enter Try.func36, Try.ntmps36
  go_wp2_with fail
  go_loopw [5] (fun i wr => ∃ k : Nat, k ≤ n ∧ i = .int .i64 k ∧ Ext w wr) (fun i _ => n - (intOf i).toNat)
  case atStart => exact ⟨0, Nat.zero_le _, rfl, Ext.refl _⟩
  case round =>
    obtain ⟨k, hk, rfl, hx⟩ := hrel
    by_cases hlt : k < n
    · obtain ⟨b1, o1, rfl, hb1, hl1, cs1, hc1, hcell1, A1, n1, c1, hcs1, hr1, _, hm1, _⟩ := Ha.out.at_ hlt
      obtain ⟨b2, o2, rfl, hb2, hl2, cs2, hc2, hcell2, A2, n2, c2, hcs2, hr2, _, hm2, _⟩ := Hb.out.at_ hlt
      subst hcs1; subst hcs2
      have d0 : wr.cell? ⟨b1, o1 + k * 3, none⟩ = some (.int .u16 (l[k].id : Int)) := hx.cell hb1 (hcell1 0 _ rfl)
      have d1 : wr.cell? ⟨b1, o1 + k * 3 + 1, none⟩ = some (.int .u8 (l[k].unit.toNat : Int)) := hx.cell hb1 (hcell1 1 _ rfl)
      have d2 : wr.cell? ⟨b1, o1 + k * 3 + 2, none⟩ = some (.slice A1 n1 c1) := hx.cell hb1 (hcell1 2 _ rfl)
      have e0 : wr.cell? ⟨b2, o2 + k * 3, none⟩ = some (.int .u16 (l[k].id : Int)) := hx.cell hb2 (hcell2 0 _ rfl)
      have e1 : wr.cell? ⟨b2, o2 + k * 3 + 1, none⟩ = some (.int .u8 (l[k].unit.toNat : Int)) := hx.cell hb2 (hcell2 1 _ rfl)
      have e2 : wr.cell? ⟨b2, o2 + k * 3 + 2, none⟩ = some (.slice A2 n2 c2) := hx.cell hb2 (hcell2 2 _ rfl)
      have hki : (k : Int) < (n : Int) := by omega
      have hk0 : (0 : Int) ≤ (k : Int) := by omega
      have HR1 := Lib.hid (hr1.ext hx); have HR2 := Lib.hid (hr2.ext hx)
      clear hcell1 hcell2 hr1 hr2 hc1 hc2
      generalize l[k] = x at *
      go_wp2_with fail
      go_still_tail 8, (by kernel_rfl)
      change wpList _ _ _ _ _ wr.drew
      go_wp2_with fail
      refine (tcpSame_any x _ _ _ _ _ _ _ (HR1.out.ext (Ext.draw _)) (HR2.out.ext (Ext.draw _)) (by omega)).mono ?_
      rintro e w1 ⟨rfl, hb1⟩
      have X1 : Ext wr w1 := (Ext.draw _).trans hb1
      go_wp2_with fail
      go_roundw
      case rel => exact ⟨k + 1, by omega, by go_num, hx.trans X1⟩
      case measure => simp [intOf]; omega
    · go_wp2_with fail
      go_ret
      exact ⟨rfl, hx.below⟩
end Go.Proofs.Ytemiahjdacckgaa
