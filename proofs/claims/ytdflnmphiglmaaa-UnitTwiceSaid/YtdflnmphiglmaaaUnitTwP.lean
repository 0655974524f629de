/- UnitTwice, the plain law: a write is there, once and twice alike; a read changes nothing. -/
import Derived.Test.YtdflnmphiglmaaaUnitLa2
namespace Go.Out
open Go Go.RowKit
theorem getU_same {u v : UnitD} (h : sameT u v) (k i : Int) : getU u k i = getU v k i := by
  obtain ⟨-, hs, h1, h2, h3, h4⟩ := h
  unfold getU thereU tabU
  rw [hs, h1, h2, h3, h4]
theorem rowU_same {u v : UnitD} (h : sameT u v) (k m : Nat) : rowU u k m = rowU v k m := by
  unfold rowU
  exact List.map_congr_left fun i _ => by rw [getU_same h]
theorem wholeU_same {u v : UnitD} (h : sameT u v) (m : Nat) : wholeU u m = wholeU v m := by
  unfold wholeU wholeK wholeK wholeK wholeK wholeK
  rw [rowU_same h, rowU_same h, rowU_same h, rowU_same h]
theorem b2w_one (x : Bool) : ((b2w x == 1) : Bool) = x := by cases x <;> rfl
/-- Behind a write that was done: what is at its places. -/
theorem doU_there {u : UnitD} {a : AskD} (hu : UnitOk u) (he : (doU u a).2.exc = 0) (hc : ¬ a.code ≤ 4) : 0 ≤ a.addr ∧ a.addr ≤ 65535 ∧ a.on.length ≤ 1968 ∧ a.set.length ≤ 123 ∧
    (∀ i (h : i < a.on.length), getU (doU u a).1 1 (a.addr + (i : Int)) = (b2w a.on[i], 0)) ∧ (∀ i (h : i < a.set.length), getU (doU u a).1 3 (a.addr + (i : Int)) = (a.set[i], 0)) := by
  by_cases h1 : checkF a = 20 ∨ a.code = 20
  · have e : doU u a = (u, excR 1) := by unfold doU; rw [if_pos h1]
    rw [e] at he; simp [excR] at he
  by_cases h2 : checkF a ≠ 0
  · have e : doU u a = (u, excR 3) := by unfold doU; rw [if_neg h1, if_pos h2]
    rw [e] at he; simp [excR] at he
  have h2 : checkF a = 0 := Classical.not_not.1 h2
  obtain ⟨m1, m2, m3, m4, m5⟩ := many_of h2
  have hcc := codeP_cases (checkF_parts a h2).1
  by_cases h3 : (u.size : Int) < a.addr + manyF a
  · have e : doU u a = (u, excR 2) := by unfold doU; rw [if_neg h1, if_neg (by simp [h2]), if_pos h3]
    rw [e] at he; simp [excR] at he
  by_cases h5 : a.code = 5 ∨ a.code = 15
  · obtain ⟨q1, q2, q3, q4, q5⟩ := m2 h5
    have e : doU u a = ({ u with t1 := over u.t1 a.addr.toNat (a.on.map b2w), wrote := u.wrote + 1 }, rep0) := by
      unfold doU; rw [if_neg h1, if_neg (by simp [h2]), if_neg h3, if_neg (by omega), if_neg (by omega), if_pos h5]
    rw [e]
    refine ⟨m4, m5, q5, by simp [q3], fun i h => ?_, fun i h => by simp [q3] at h⟩
    unfold getU thereU
    rw [if_neg (by simp only; rw [if_neg (by omega), if_neg (by omega)]; simp)]
    have hi : (a.addr + (i : Int)).toNat = a.addr.toNat + i := by omega
    show ((over u.t1 a.addr.toNat (a.on.map b2w)).getD (a.addr + (i : Int)).toNat 0, (0 : Int)) = _
    rw [hi, List.getD_eq_getElem?_getD, over_get (by rw [hu.l1]; simp; omega) (by simpa using h), List.getElem?_map, List.getElem?_eq_getElem h]; rfl
  · obtain ⟨q1, q2, q3, q4, q5⟩ := m3 (by omega)
    have e : doU u a = ({ u with t3 := over u.t3 a.addr.toNat a.set, wrote := u.wrote + 1 }, rep0) := by
      unfold doU; rw [if_neg h1, if_neg (by simp [h2]), if_neg h3, if_neg (by omega), if_neg (by omega), if_neg h5]
    rw [e]
    refine ⟨m4, m5, by simp [q3], q5, fun i h => by simp [q3] at h, fun i h => ?_⟩
    unfold getU thereU
    rw [if_neg (by simp only; rw [if_neg (by omega), if_neg (by omega)]; simp)]
    have hi : (a.addr + (i : Int)).toNat = a.addr.toNat + i := by omega
    show ((over u.t3 a.addr.toNat a.set).getD (a.addr + (i : Int)).toNat 0, (0 : Int)) = _
    rw [hi, List.getD_eq_getElem?_getD, over_get (by rw [hu.l3]; omega) h, List.getElem?_eq_getElem h]; rfl
end Go.Out
