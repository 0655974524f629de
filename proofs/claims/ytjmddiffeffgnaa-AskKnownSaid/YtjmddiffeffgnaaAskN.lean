/- The chapter's example, there and back. -/
import Derived.Test.YtjmddiffeffgnaaAskP6
import Derived.Test.YtjmddiffeffgnaaAskG5
import Derived.Test.YtjmddiffeffgnaaAskKit
namespace Go.Proofs.Ytjmddiffeffgnaa
set_option linter.unusedVariables false
set_option linter.unusedSimpArgs false
set_option maxRecDepth 100000
set_option maxHeartbeats 1000000
open Go Go.RowKit Go.Out

theorem askRd0 (w : World) (c A n : Int) (h1 : i64P c) (h2 : i64P A) (h3 : i64P n) : AskRd w ⟨c, A, n, [], [], []⟩ askS0 :=
  ⟨Rd.nil_ _, Rd.nil_ _, RdL.nil_ _ _ _, h1, h2, h3, ⟨Nat.le_refl _, Nat.zero_le 9223372036854775807⟩, ⟨Nat.le_refl _, Nat.zero_le 9223372036854775807⟩, ⟨Nat.le_refl _, Nat.zero_le 9223372036854775807⟩⟩
theorem kn_put : putA ⟨3, 107, 3, [], [], []⟩ = ([3, 0, 107, 0, 3], 0) := by kernel_rfl
theorem kn_get : getA [3, 0, 107, 0, 3] = (⟨3, 107, 3, [], [], []⟩, 0) := by kernel_rfl

theorem known03_any (w : World) : Calls Try.prog 40 #[] w (RetQ w true) := by
  have i3 : i64P 3 := by unfold i64P; omega
  have i107 : i64P 107 := by unfold i64P; omega
  go_enter Try.func40, Try.ntmps40
  go_wp2_with fail
  refine (askPut_any ⟨3, 107, 3, [], [], []⟩ askS0 _ (askRd0 _ _ _ _ i3 i107 i3)).mono ?_
  rw [kn_put]
  rintro e w1 ⟨A1, n1, c1, rfl, ho, hx1⟩
  obtain rfl : n1 = 5 := ho.len.symm
  have HO := Lib.hid ho
  have X1 := Lib.hid hx1
  clear ho hx1
  go_wp2_with fail
  refine (askGet_any [3, 0, 107, 0, 3] _ _ _ _ (Rd.lit _ (([3, 0, 107, 0, 3] : List UInt8).map cB) _ _ 5 _ rfl rfl) (by omega) (by omega) (by omega)).mono ?_
  rw [kn_get]
  rintro e w2 ⟨⟨B1, m1, k1, B2, m2, k2, B3, m3, k3⟩, rfl, hw, hx2⟩
  have HR := Lib.hid hw.rd
  have X2 := Lib.hid (X1.out.trans ((Ext.alloc _ _).trans hx2))
  have Y2 := Lib.hid ((Ext.alloc _ _).trans hx2)
  clear hw hx2
  simp only [askV]
  go_wp2_with fail
  refine (same_any [3, 0, 107, 0, 3] [3, 0, 107, 0, 3] _ _ _ _ _ _ _ ((HO.out.rd.ext Y2.out).ext ((Ext.alloc _ _).trans (Ext.alloc _ _))) (Rd.lit _ (([3, 0, 107, 0, 3] : List UInt8).map cB) _ _ 5 _ rfl (by simp)) (by unfold maxLen; omega)).mono ?_
  rintro e w3 ⟨rfl, hb3⟩
  rw [decide_eq_true rfl]
  obtain ⟨d0, d1, d2, d3, d4, d5⟩ := ask_cells _ ((Ext.alloc _ _).trans (Ext.of hb3))
  have X3 := Lib.hid ((Ext.alloc w2 _).trans ((Ext.alloc _ _).trans (Ext.of hb3)))
  clear hb3
  go_wp2_with fail
  refine (sameAsk_eq ⟨3, 107, 3, [], [], []⟩ ⟨B1, m1, k1, B2, m2, k2, B3, m3, k3⟩ askS0 _ (HR.out.ext X3.out) (askRd0 _ _ _ _ i3 i107 i3) (by have := HR.out.n1; simp at this ⊢; omega) (by have := HR.out.n2; simp at this ⊢; omega) (by have := HR.out.n3; simp at this ⊢; omega)).mono ?_
  rintro e w4 ⟨rfl, hx4⟩
  go_wp2_with fail
  go_ret
  exact ⟨rfl, X2.out.trans (X3.out.trans hx4)⟩
end Go.Proofs.Ytjmddiffeffgnaa
