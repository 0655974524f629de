/- A sink's Take, whatever the bytes; the law's own data, put, answer. -/
import Derived.Test.YtifojmmggcenkaaSinkT2
import Derived.Test.YtifojmmggcenkaaSinkT3
import Derived.Test.YtifojmmggcenkaaSinkR
import Derived.Test.YtifojmmggcenkaaSinkR2
namespace Go.Out
open Go Go.RowKit
set_option linter.unusedVariables false
theorem takeF_no {d : SinkD} {b : List UInt8} (h : (getP b).2 ≠ 0) : takeF d b = (d, []) := by unfold takeF; rw [if_pos h]
theorem takeF_ok {d : SinkD} {b : List UInt8} {P : PacD} (h : getP b = (P, 0)) : takeF d b = (takeP d P, sayP (takeP d P) P) := by unfold takeF; rw [h, if_neg (by simp)]
theorem getP_eta {b : List UInt8} {K : Int} (h : (getP b).2 = K) : getP b = ((getP b).1, K) := by rw [← h]
theorem takeF_len (d : SinkD) (b : List UInt8) : (takeF d b).1.rows.length ≤ d.rows.length + 1 ∧ (takeF d b).1.done.length ≤ d.done.length + 1 := by
  unfold takeF takeP
  split
  · simp
  · split
    · split <;> simp
    · split
      · split <;> simp
      · simp
end Go.Out
namespace Go.Proofs.Ytifojmmggcenkaa
set_option linter.unusedVariables false
set_option linter.unusedSimpArgs false
set_option maxRecDepth 100000
set_option maxHeartbeats 1000000
open Go Go.RowKit Go.Out

theorem take_any (b : List UInt8) (A0 : Option Addr) (m c0 : Nat) (w : World) (p : Nat) (F : Nat → Prop) (d : SinkD) (h : SinkAt w p F d) (hr : Rd w A0 m (b.map cB)) (hc : m ≤ c0) (hm : m ≤ 140737488355300) (h1 : d.rows.length ≤ 1000000) (h2 : d.done.length ≤ 1000000) :
    Calls Try.prog 11 #[pS p, .slice A0 m c0] w (RetTake SinkAt w p F (takeF d b).1 (takeF d b).2) := by
  obtain ⟨rows, done⟩ := d
  by_cases he : (getP b).2 = 0
  · have hP := getP_eta he
    have hk := (putP_getP he).2
    generalize (getP b).1 = P at hP hk
    rw [takeF_ok hP]
    rcases pac_cases hk with ⟨E, S, l, e1, e2, s1, l1, l2, rfl⟩ | ⟨E, S, e1, e2, s1, rfl⟩ | ⟨I, l, i1, i2, l1, l2, rfl⟩ | ⟨I, C, i1, i2, c1, rfl⟩
    · by_cases hS : S = rows.length
      · have e : takeP ⟨rows, done⟩ ⟨1, (E : Int), (S : Int), 0, 0, l⟩ = ⟨rows ++ [l], done⟩ := by
          unfold takeP; rw [if_pos rfl, if_pos (by simp only; omega)]
        rw [e]
        subst hS
        have := take_row E rows.length l b A0 m c0 w p F rows done h hr hc hm rfl h1 e2 hP
        unfold sayP
        rw [if_pos rfl]
        simpa using this
      · have e : takeP ⟨rows, done⟩ ⟨1, (E : Int), (S : Int), 0, 0, l⟩ = ⟨rows, done⟩ := by
          unfold takeP; rw [if_pos rfl, if_neg (by simp only; omega)]
        rw [e]
        have := take_late E S rows.length l b A0 m c0 w p F rows done h hr hc hm rfl h1 e2 hS hP
        unfold sayP
        rw [if_pos rfl]
        exact this
    · exact take_other 2 E S 0 [] b A0 m c0 w p F rows done h hr hc hm (.inl rfl) hP
    · exact take_other 3 0 0 I l b A0 m c0 w p F rows done h hr hc hm (.inr rfl) hP
    · have e : sayP (takeP ⟨rows, done⟩ ⟨4, 0, 0, (I : Int), (C : Int), []⟩) ⟨4, 0, 0, (I : Int), (C : Int), []⟩ = [] := by unfold sayP; rw [if_neg (by simp)]
      rw [e]
      unfold takeP
      rw [if_neg (by simp), if_pos rfl]
      by_cases hs : (I : Int) ∈ done.map (·.id)
      · rw [if_pos hs]
        exact take_seen I C rows.length b A0 m c0 w p F rows done h hr hc hm rfl i2 c1 hs hP
      · rw [if_neg hs]
        exact take_done I C rows.length b A0 m c0 w p F rows done h hr hc hm rfl i2 c1 h2 hs hP
  · rw [takeF_no he]
    exact take_err (getP b).2 b A0 m c0 w p F rows done h hr hc hm (by rw [← getP_err he]) he

theorem rtake_any (b : List UInt8) (A0 : Option Addr) (m c0 : Nat) (w : World) (p : Nat) (F : Nat → Prop) (d : SinkD) (h : RefAt w p F d) (hr : Rd w A0 m (b.map cB)) (hc : m ≤ c0) (hm : m ≤ 140737488355300) (h1 : d.rows.length ≤ 1000000) (h2 : d.done.length ≤ 1000000) :
    Calls Try.prog 20 #[pS p, .slice A0 m c0] w (RetTake RefAt w p F (takeF d b).1 (takeF d b).2) := by
  obtain ⟨rows, done⟩ := d
  by_cases he : (getP b).2 = 0
  · have hP := getP_eta he
    have hk := (putP_getP he).2
    generalize (getP b).1 = P at hP hk
    rw [takeF_ok hP]
    rcases pac_cases hk with ⟨E, S, l, e1, e2, s1, l1, l2, rfl⟩ | ⟨E, S, e1, e2, s1, rfl⟩ | ⟨I, l, i1, i2, l1, l2, rfl⟩ | ⟨I, C, i1, i2, c1, rfl⟩
    · by_cases hS : S = rows.length
      · have e : takeP ⟨rows, done⟩ ⟨1, (E : Int), (S : Int), 0, 0, l⟩ = ⟨rows ++ [l], done⟩ := by
          unfold takeP; rw [if_pos rfl, if_pos (by simp only; omega)]
        rw [e]
        subst hS
        have := rtake_row E rows.length l b A0 m c0 w p F rows done h hr hc hm rfl h1 e2 hP
        unfold sayP
        rw [if_pos rfl]
        simpa using this
      · have e : takeP ⟨rows, done⟩ ⟨1, (E : Int), (S : Int), 0, 0, l⟩ = ⟨rows, done⟩ := by
          unfold takeP; rw [if_pos rfl, if_neg (by simp only; omega)]
        rw [e]
        have := rtake_late E S rows.length l b A0 m c0 w p F rows done h hr hc hm rfl h1 e2 hS hP
        unfold sayP
        rw [if_pos rfl]
        exact this
    · exact rtake_other 2 E S 0 [] b A0 m c0 w p F rows done h hr hc hm (.inl rfl) hP
    · exact rtake_other 3 0 0 I l b A0 m c0 w p F rows done h hr hc hm (.inr rfl) hP
    · have e : sayP (takeP ⟨rows, done⟩ ⟨4, 0, 0, (I : Int), (C : Int), []⟩) ⟨4, 0, 0, (I : Int), (C : Int), []⟩ = [] := by unfold sayP; rw [if_neg (by simp)]
      rw [e]
      have := rtake_four I C rows.length b A0 m c0 w p F rows done h hr hc hm rfl i2 c1 h2 hP
      unfold takeP
      rw [if_neg (by simp), if_pos rfl]
      by_cases hs : (I : Int) ∈ done.map (·.id)
      · rw [if_pos hs] at this ⊢; exact this
      · rw [if_neg hs] at this ⊢; exact this
  · rw [takeF_no he]
    exact rtake_err (getP b).2 b A0 m c0 w p F rows done h hr hc hm (by rw [← getP_err he]) he

/-- The call hands back bytes in memory of its own. -/
def RetY (w : World) (l : List UInt8) (e : Ending) (w' : World) : Prop := ∃ A n c, e = .returned (.slice A n c) ∧ Own w' w.heap.size 5 IsU8 A n c (l.map cB) ∧ Ext w w'
theorem put23_any (p : PacD) (A : Option Addr) (n c : Nat) (w : World) (hr : PacRd w p A n c) : Calls Try.prog 25 #[pacV p A n c] w (RetY w (putP p).1) := by
  have HP := Lib.hid (fun W (hX : Ext w W) => pacPut_any p A n c W (hr.ext hX))
  generalize putP p = out at *
  obtain ⟨k, e, s, i, cd, l⟩ := p
  simp only [pacV] at HP ⊢
  clear hr
  go_enter Try.func25, Try.ntmps25
  go_wp2_with fail
  refine (HP.out _ (Ext.alloc _ _)).mono ?_
  rintro e w1 ⟨A1, n1, c1, rfl, ho, hx⟩
  have HO := Lib.hid ho
  have X1 := Lib.hid ((Ext.alloc _ _).trans hx)
  clear ho hx HP
  go_wp2_with fail
  go_ret
  exact ⟨A1, n1, c1, rfl, HO.out.mono (by simp), X1.out⟩
theorem data23_any (E S : Int) (l : List UInt8) (A : Option Addr) (n c : Nat) (w : World) (hr : Rd w A n (l.map cB)) (hE : i64P E) (hS : i64P S) (hc : n ≤ c) (hm : c ≤ 9223372036854775807) :
    Calls Try.prog 15 #[.int .i64 E, .int .i64 S, .slice A n c] w (RetY w (putP ⟨1, E, S, 0, 0, l⟩).1) := by
  have HP := Lib.hid (put23_any ⟨1, E, S, 0, 0, l⟩ A n c w ⟨hr, i64P_lit _ (by simp), hE, hS, i64P_lit _ (by simp), i64P_lit _ (by simp), hc, hm⟩)
  generalize putP ⟨1, E, S, 0, 0, l⟩ = out at *
  simp only [pacV] at HP
  clear hr hE hS
  go_enter Try.func15, Try.ntmps15
  go_wp2_with fail
  refine HP.out.mono ?_
  rintro e w1 ⟨A1, n1, c1, rfl, ho, hx⟩
  have HO := Lib.hid ho
  have X1 := Lib.hid hx
  clear ho hx HP
  go_wp2_with fail
  go_ret
  exact ⟨A1, n1, c1, rfl, HO.out, X1.out⟩
theorem answer23_ack (E N : Nat) (b : List UInt8) (A : Option Addr) (m c : Nat) (w : World) (hr : Rd w A m (b.map cB)) (hc : m ≤ c) (hm : m ≤ 140737488355300) (hg : getP b = (ackP E N, 0)) :
    Calls Try.prog 14 #[.slice A m c, .int .i64 (E : Int)] w (fun e w' => e = .returned (.int .i64 (N : Int)) ∧ Ext w w') := by
  have HG := Lib.hid (pacGet_any b A m c w hr hc hm)
  rw [hg] at HG
  clear hr hg
  go_enter Try.func14, Try.ntmps14
  go_wp2_with fail
  refine HG.out.mono ?_
  rintro e w1 ⟨A1, n1, c1, rfl, ho, hx⟩
  simp only [pacV, ackP]
  have X1 := Lib.hid hx
  clear ho hx HG
  go_wp2_with fail
  go_ret
  exact ⟨rfl, X1.out.trans (Ext.alloc _ _)⟩
theorem ack_check {E N : Nat} (h1 : 1 ≤ E) (h2 : E ≤ 1099511627776) (h3 : N ≤ 1099511627776) : checkP (ackP E N) = 0 := by
  unfold checkP ackP
  rw [if_neg (by simp), if_neg (by unfold fieldPP runsP fullP; simp), if_neg (by unfold rangeP runsP; simp; omega)]
  simp [leastF, mostFP]
theorem data_check {E S : Nat} {l : List UInt8} (h1 : 1 ≤ E) (h2 : E ≤ 1099511627776) (h3 : S < 1099511627776) (h4 : 1 ≤ l.length) (h5 : l.length ≤ 1024) : checkP ⟨1, E, S, 0, 0, l⟩ = 0 := by
  unfold checkP
  rw [if_neg (by simp), if_neg (by unfold fieldPP runsP fullP; simp), if_neg (by unfold rangeP runsP; simp; omega)]
  show (if l.length < 1 then (1 : Int) else if 1024 < l.length then 2 else 0) = 0
  rw [if_neg (by omega), if_neg (by omega)]
end Go.Proofs.Ytifojmmggcenkaa
