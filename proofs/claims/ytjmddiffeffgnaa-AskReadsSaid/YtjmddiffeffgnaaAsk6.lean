/- Contracts of the requests: what is wrong with a request, by the reference. -/
import Derived.Test.YtjmddiffeffgnaaAsk5
namespace Go.Proofs.Ytjmddiffeffgnaa
set_option linter.unusedVariables false
set_option linter.unusedSimpArgs false
set_option maxRecDepth 100000
set_option maxHeartbeats 2000000
open Go Go.RowKit Go.Out

def RetQ (w : World) (k : Bool) (e : Ending) (w' : World) : Prop := e = .returned (.bool k) ∧ Ext w w'
theorem RetQ.of {w w' : World} {k k' : Bool} (h : k = k') (hx : Ext w w') : RetQ w k (.returned (.bool k')) w' := ⟨by rw [h], hx⟩

theorem parts3_any (l : List PartD) (A : Option Addr) (n c : Nat) (w : World) (hr : RdL partK w A n l) (hn : n ≤ 35) :
    Calls Try.prog 138 #[.slice A n c] w (RetI w (partsF l)) := by
  have Hl := Lib.hid hr.length
  have Hr := Lib.hid hr; clear hr
  obtain ⟨K, hK⟩ : ∃ K, partsF l = K := ⟨_, rfl⟩
  rw [hK]
  have Hp := Lib.hid hK.symm; clear hK
  go_enter Try.func138, Try.ntmps138
  go_wp2_with fail
  go_loopw [3, 4] (fun room i wr => ∃ k : Nat, k ≤ n ∧ room = .int .i64 (sumP (l.take k)) ∧ i = .int .i64 (k : Int) ∧ Hid (goodTo l k) ∧ Ext w wr) (fun _ i _ => n - (intOf i).toNat)
  case atStart => exact ⟨0, Nat.zero_le _, by simp [sumP], rfl, Lib.hid (goodTo_zero l), Ext.refl _⟩
  case round =>
    obtain ⟨k, hk, rfl, rfl, HG, hx⟩ := hrel
    have hs := sumP_good HG.out (by rw [Hl.out]; exact hk)
    have hall := fun h : n = k => partsF_all (l := l) (n := k) (Hl.out.trans h) HG.out
    have hsum := fun h : k < l.length => sumP_take h
    obtain ⟨S, hS⟩ : ∃ S, sumP (l.take k) = S := ⟨_, rfl⟩
    rw [hS] at hs hall hsum ⊢
    clear hS
    have hS2 : S ≤ 700070 := by omega
    have Hall := Lib.hid hall; have Hsum := Lib.hid hsum; clear hall hsum
    rcases Nat.lt_or_ge k n with hlt | hge
    · have hlen : k < l.length := by rw [Hl.out]; exact hlt
      have Hbad := Lib.hid (fun hb : badP l[k] => partsF_bad hlen hb)
      have Hok := Lib.hid (fun hb : ¬ badP l[k] => goodTo_succ HG.out hlen hb)
      have Hst := Lib.hid (Hsum.out hlen)
      obtain ⟨b, off, rfl, hbk, hl', cs, -, hc, hR⟩ := (Hr.out.ext hx).at_ hlt
      obtain ⟨rfl, -⟩ := id hR
      have i1 := hR.2.1; have i2 := hR.2.2.1; have i3 := hR.2.2.2
      have e0 : wr.cell? ⟨b, off + k * 3, none⟩ = some (.int .i64 l[k].file) := hc 0 _ rfl
      have e1 : wr.cell? ⟨b, off + k * 3 + 1, none⟩ = some (.int .i64 l[k].record) := hc 1 _ rfl
      have e2 : wr.cell? ⟨b, off + k * 3 + 2, none⟩ = some (.int .i64 l[k].len) := hc 2 _ rfl
      clear hc hR
      unfold badP at Hbad Hok
      unfold i64P at i1 i2 i3
      generalize l[k].file = F at *
      generalize l[k].record = R at *
      generalize l[k].len = L at *
      go_wp2_with fail
      all_goals first
        | go_ret
          exact RetI.of (by rw [Hp.out]; exact Hbad.out (by omega)) (hx.trans (Ext.alloc _ _))
        | skip
      go_roundw
      case rel => exact ⟨k + 1, by omega, by rw [Hst.out]; first | (congr 1; omega) | go_num, by go_num, Lib.hid (Hok.out (by omega)), hx.trans (Ext.alloc _ _)⟩
      case measure => simp [intOf]; omega
    · obtain rfl : n = k := by omega
      go_wp2_with fail
      all_goals
        go_ret
        exact RetI.of (Hp.out.trans ((Hall.out (by first | rfl | trivial)).trans (by first | exact if_pos (by omega) | exact if_neg (by omega)))) hx
end Go.Proofs.Ytjmddiffeffgnaa
