/- outstationref21.Get, whole. -/
import Derived.Test.YtifojmmggcenkaaPacR6
namespace Go.Proofs.Ytifojmmggcenkaa
set_option linter.unusedVariables false
set_option linter.unusedSimpArgs false
set_option maxRecDepth 100000
set_option maxHeartbeats 2000000
open Go Go.RowKit Go.Out
theorem rpacGet_any (b : List UInt8) (A : Option Addr) (m c : Nat) (w : World) (hr : Rd w A m (b.map cB)) (hc : m ≤ c) (hm : m ≤ 140737488355300) :
    Calls Try.prog 31 #[.slice A m c] w (RetGP w (getP b)) := by
  have hl := hr.length
  unfold getP
  by_cases h5 : b.length < 5
  · rw [if_pos h5]; exact rget_short A m c w (by omega)
  · rw [if_neg h5]
    by_cases he : (openF 4 (more32 0) b).2 ≠ 0
    · rw [if_pos he]; exact rget_open b A m c w hr hc hm (by omega) he
    · rw [if_neg he]
      have he0 : (openF 4 (more32 0) b).2 = 0 := by simpa using he
      have hs := openF_zero he0
      have ho : openF 4 (more32 0) b = ((openF 4 (more32 0) b).1, 0) := by rw [← he0]
      have hin : 1 ≤ (openF 4 (more32 0) b).1.length := by
        have := congrArg List.length hs
        rw [sealF_length] at this
        omega
      generalize (openF 4 (more32 0) b).1 = inn at *
      unfold inP
      by_cases hk : ¬ (1 ≤ kindN inn ∧ kindN inn ≤ 4)
      · rw [if_pos hk]; exact rget_kind (kindN inn) b inn A m c w hr hc hm (by omega) ho hin rfl (by omega)
      · rw [if_neg hk]
        have hks : kindN inn = 1 ∨ kindN inn = 2 ∨ kindN inn = 3 ∨ kindN inn = 4 := by omega
        rcases hks with hk1 | hk1 | hk1 | hk1
        · have e : readP inn = ⟨1, numAt inn 1, numAt inn 9, 0, 0, inn.drop 17⟩ := by unfold readP; rw [hk1, if_pos rfl]
          rw [e, hk1]
          by_cases hh : inn.length < 17
          · rw [if_pos (by simpa [headN] using hh)]; exact rget_few1 b inn A m c w hr hc hm (by omega) ho hin hk1 hh
          · rw [if_neg (by simpa [headN] using hh), if_neg (by simp [fullP])]
            exact rget_k1 b inn A m c w hr hc hm (by omega) ho hin hk1 (by omega)
        · have e : readP inn = ⟨2, numAt inn 1, numAt inn 9, 0, 0, []⟩ := by unfold readP; rw [hk1, if_neg (by omega), if_pos rfl]
          rw [e, hk1]
          by_cases hh : inn.length < 17
          · rw [if_pos (by simpa [headN] using hh)]; exact rget_few2 b inn A m c w hr hc hm (by omega) ho hin hk1 hh
          · rw [if_neg (by simpa [headN] using hh)]
            by_cases hh2 : 17 < inn.length
            · rw [if_pos (by simpa [headN, fullP] using hh2)]; exact rget_long2 b inn A m c w hr hc hm (by omega) ho hin hk1 hh2
            · rw [if_neg (by simp [headN, fullP]; omega)]; exact rget_k2 b inn A m c w hr hc hm (by omega) ho hin hk1 (by omega)
        · have e : readP inn = ⟨3, 0, 0, numAt inn 1, 0, inn.drop 9⟩ := by unfold readP; rw [hk1, if_neg (by omega), if_neg (by omega), if_pos rfl]
          rw [e, hk1]
          by_cases hh : inn.length < 9
          · rw [if_pos (by simpa [headN] using hh)]; exact rget_few3 b inn A m c w hr hc hm (by omega) ho hin hk1 hh
          · rw [if_neg (by simpa [headN] using hh), if_neg (by simp [fullP])]
            exact rget_k3 b inn A m c w hr hc hm (by omega) ho hin hk1 (by omega)
        · have e : readP inn = ⟨4, 0, 0, numAt inn 1, ((inn.getD 9 0).toNat : Int), []⟩ := by unfold readP; rw [hk1, if_neg (by omega), if_neg (by omega), if_neg (by omega)]
          rw [e, hk1]
          by_cases hh : inn.length < 10
          · rw [if_pos (by simpa [headN] using hh)]; exact rget_few4 b inn A m c w hr hc hm (by omega) ho hin hk1 hh
          · rw [if_neg (by simpa [headN] using hh)]
            by_cases hh2 : 10 < inn.length
            · rw [if_pos (by simpa [headN, fullP] using hh2)]; exact rget_long4 b inn A m c w hr hc hm (by omega) ho hin hk1 hh2
            · rw [if_neg (by simp [headN, fullP]; omega)]; exact rget_k4 b inn A m c w hr hc hm (by omega) ho hin hk1 (by omega)

end Go.Proofs.Ytifojmmggcenkaa

namespace Go.Proofs.Ytifojmmggcenkaa
set_option linter.unusedVariables false
set_option linter.unusedSimpArgs false
set_option maxRecDepth 100000
set_option maxHeartbeats 1000000
open Go Go.RowKit Go.Out

end Go.Proofs.Ytifojmmggcenkaa
