/- Contract of packet.Get, whole; are two packets the same. -/
import Derived.Test.YtifojmmggcenkaaPac4c
import Derived.Test.YtifojmmggcenkaaPac4d
import Derived.Test.YtifojmmggcenkaaAskP6
namespace Go.Proofs.Ytifojmmggcenkaa
set_option linter.unusedVariables false
set_option linter.unusedSimpArgs false
set_option maxRecDepth 100000
set_option maxHeartbeats 2000000
open Go Go.RowKit Go.Out

theorem pacGet_any (b : List UInt8) (A : Option Addr) (m c : Nat) (w : World) (hr : Rd w A m (b.map cB)) (hc : m ≤ c) (hm : m ≤ 140737488355300) :
    Calls Try.prog 10 #[.slice A m c] w (RetGP w (getP b)) := by
  have hl := hr.length
  unfold getP
  by_cases h5 : b.length < 5
  · rw [if_pos h5]; exact pget_short A m c w (by omega)
  · rw [if_neg h5]
    by_cases he : (openF 4 (more32 0) b).2 ≠ 0
    · rw [if_pos he]; exact pget_open b A m c w hr hc hm (by omega) he
    · rw [if_neg he]
      have he0 : (openF 4 (more32 0) b).2 = 0 := by simpa using he
      have hs := openF_zero he0
      have ho : openF 4 (more32 0) b = ((openF 4 (more32 0) b).1, 0) := by rw [← he0]
      have hin : 1 ≤ (openF 4 (more32 0) b).1.length := by
        have := congrArg List.length hs
        rw [sealF_length] at this
        omega
      generalize (openF 4 (more32 0) b).1 = inn at *
      unfold inP
      by_cases hk : ¬ (1 ≤ kindN inn ∧ kindN inn ≤ 4)
      · rw [if_pos hk]; exact pget_kind (kindN inn) b inn A m c w hr hc hm (by omega) ho hin rfl (by omega)
      · rw [if_neg hk]
        have hks : kindN inn = 1 ∨ kindN inn = 2 ∨ kindN inn = 3 ∨ kindN inn = 4 := by omega
        rcases hks with hk1 | hk1 | hk1 | hk1
        · have e : readP inn = ⟨1, numAt inn 1, numAt inn 9, 0, 0, inn.drop 17⟩ := by unfold readP; rw [hk1, if_pos rfl]
          rw [e, hk1]
          by_cases hh : inn.length < 17
          · rw [if_pos (by simpa [headN] using hh)]; exact pget_few1 b inn A m c w hr hc hm (by omega) ho hin hk1 hh
          · rw [if_neg (by simpa [headN] using hh), if_neg (by simp [fullP])]
            exact pget_k1 b inn A m c w hr hc hm (by omega) ho hin hk1 (by omega)
        · have e : readP inn = ⟨2, numAt inn 1, numAt inn 9, 0, 0, []⟩ := by unfold readP; rw [hk1, if_neg (by omega), if_pos rfl]
          rw [e, hk1]
          by_cases hh : inn.length < 17
          · rw [if_pos (by simpa [headN] using hh)]; exact pget_few2 b inn A m c w hr hc hm (by omega) ho hin hk1 hh
          · rw [if_neg (by simpa [headN] using hh)]
            by_cases hh2 : 17 < inn.length
            · rw [if_pos (by simpa [headN, fullP] using hh2)]; exact pget_long2 b inn A m c w hr hc hm (by omega) ho hin hk1 hh2
            · rw [if_neg (by simp [headN, fullP]; omega)]; exact pget_k2 b inn A m c w hr hc hm (by omega) ho hin hk1 (by omega)
        · have e : readP inn = ⟨3, 0, 0, numAt inn 1, 0, inn.drop 9⟩ := by unfold readP; rw [hk1, if_neg (by omega), if_neg (by omega), if_pos rfl]
          rw [e, hk1]
          by_cases hh : inn.length < 9
          · rw [if_pos (by simpa [headN] using hh)]; exact pget_few3 b inn A m c w hr hc hm (by omega) ho hin hk1 hh
          · rw [if_neg (by simpa [headN] using hh), if_neg (by simp [fullP])]
            exact pget_k3 b inn A m c w hr hc hm (by omega) ho hin hk1 (by omega)
        · have e : readP inn = ⟨4, 0, 0, numAt inn 1, ((inn.getD 9 0).toNat : Int), []⟩ := by unfold readP; rw [hk1, if_neg (by omega), if_neg (by omega), if_neg (by omega)]
          rw [e, hk1]
          by_cases hh : inn.length < 10
          · rw [if_pos (by simpa [headN] using hh)]; exact pget_few4 b inn A m c w hr hc hm (by omega) ho hin hk1 hh
          · rw [if_neg (by simpa [headN] using hh)]
            by_cases hh2 : 10 < inn.length
            · rw [if_pos (by simpa [headN, fullP] using hh2)]; exact pget_long4 b inn A m c w hr hc hm (by omega) ho hin hk1 hh2
            · rw [if_neg (by simp [headN, fullP]; omega)]; exact pget_k4 b inn A m c w hr hc hm (by omega) ho hin hk1 (by omega)

/-- Two packets that are the same. -/
theorem samePac_eq (p : PacD) (A B : Option Addr) (n m ca cb : Nat) (w : World) (ha : PacRd w p A n ca) (hb : PacRd w p B m cb) : Calls Try.prog 33 #[pacV p A n ca, pacV p B m cb] w (RetQ w true) := by
  have hn := ha.cap
  have HA := Lib.hid ha.body; have HB := Lib.hid hb.body
  clear ha hb
  obtain ⟨k, e, s, i, c, l⟩ := p
  simp only [pacV] at HA HB ⊢
  go_enter Try.func33, Try.ntmps33
  go_wp2_with fail
  refine (same_any l l _ _ _ _ _ _ _ (HA.out.ext (Ext.duo _ _ _)) (HB.out.ext (Ext.duo _ _ _)) (by unfold maxLen; omega)).mono ?_
  rintro e' w1 ⟨rfl, hb1⟩
  rw [decide_eq_true rfl]
  go_wp2_with fail
  go_ret
  exact ⟨rfl, (Ext.duo _ _ _).trans (Ext.of hb1)⟩
end Go.Proofs.Ytifojmmggcenkaa

namespace Go.Out
set_option linter.unusedVariables false
open Go Go.RowKit
theorem box8 {W : World} {g : Nat} {t : TypeId} {v0 v1 v2 v3 v4 v5 v6 v7 : Value} (h : W.heap[g]? = some (.cells #[v0, v1, v2, v3, v4, v5, v6, v7] t (0, 0))) :
    W.cell? ⟨g, 0, none⟩ = some v0 ∧ W.cell? ⟨g, 1, none⟩ = some v1 ∧ W.cell? ⟨g, 2, none⟩ = some v2 ∧ W.cell? ⟨g, 3, none⟩ = some v3 ∧ W.cell? ⟨g, 4, none⟩ = some v4 ∧ W.cell? ⟨g, 5, none⟩ = some v5 ∧ W.cell? ⟨g, 6, none⟩ = some v6 ∧ W.cell? ⟨g, 7, none⟩ = some v7 :=
  ⟨(cell_of_row _ _ _ _ _ _ h).trans rfl, (cell_of_row _ _ _ _ _ _ h).trans rfl, (cell_of_row _ _ _ _ _ _ h).trans rfl, (cell_of_row _ _ _ _ _ _ h).trans rfl, (cell_of_row _ _ _ _ _ _ h).trans rfl, (cell_of_row _ _ _ _ _ _ h).trans rfl, (cell_of_row _ _ _ _ _ _ h).trans rfl, (cell_of_row _ _ _ _ _ _ h).trans rfl⟩
end Go.Out
namespace Go.Proofs.Ytifojmmggcenkaa
set_option linter.unusedVariables false
set_option linter.unusedSimpArgs false
set_option maxRecDepth 100000
set_option maxHeartbeats 2000000
open Go Go.RowKit Go.Out

/-- A command as a value. -/
def cmdV (id unit : Int) (a : AskD) (s : AskS) : Value := .agg #[.int .i64 id, .int .i64 unit, .int .i64 a.code, .int .i64 a.addr, .int .i64 a.count, .slice s.A1 s.n1 s.c1, .slice s.A2 s.n2 s.c2, .slice s.A3 s.n3 s.c3]

end Go.Proofs.Ytifojmmggcenkaa

namespace Go.Proofs.Ytifojmmggcenkaa
set_option linter.unusedVariables false
set_option linter.unusedSimpArgs false
set_option maxRecDepth 100000
set_option maxHeartbeats 2000000
open Go Go.RowKit Go.Out

def knP : PacD := ⟨4, 0, 0, 258, 3, []⟩
theorem knP_check : checkP knP = 0 := by kernel_rfl
theorem knP_raw : rawP knP = [4, 0, 0, 0, 0, 0, 0, 1, 2, 3] := by kernel_rfl
theorem knQ_put : (putA ⟨6, 1, 0, [], [9], []⟩).1 = [6, 0, 1, 0, 9] := by kernel_rfl
theorem kn_bytes : ∃ B : List UInt8, putP knP = (B, 0) ∧ getP B = (knP, 0) ∧ B.length = 14 ∧ B.take 10 = [4, 0, 0, 0, 0, 0, 0, 1, 2, 3] := by
  refine ⟨(putP knP).1, by rw [putP_ok knP_check], (getP_putP knP_check).1, ?_, ?_⟩
  · rw [putP_ok knP_check]
    show (sealF 4 (more32 0) (rawP knP)).length = 14
    rw [sealF_length, knP_raw]; rfl
  · rw [putP_ok knP_check]
    show (sealF 4 (more32 0) (rawP knP)).take 10 = _
    rw [knP_raw]
    unfold sealF
    rw [List.take_left' (by rfl)]
theorem knP_rd (w : World) : PacRd w knP none 0 0 := ⟨Rd.nil_ _, by unfold i64P knP; simp, by unfold i64P knP; simp, by unfold i64P knP; simp, by unfold i64P knP; simp, by unfold i64P knP; simp, ⟨Nat.le_refl _, Nat.zero_le _⟩⟩

end Go.Proofs.Ytifojmmggcenkaa
