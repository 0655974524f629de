/- The law's known. (sinkwalk.py prints this.) -/
import Derived.Test.YtifojmmggcenkaaSinkS
import Derived.Lib.SlBytesConst
namespace Go.Proofs.Ytifojmmggcenkaa
set_option linter.unusedVariables false
set_option linter.unusedSimpArgs false
set_option maxRecDepth 100000
set_option maxHeartbeats 1000000
open Go Go.RowKit Go.Out
theorem rowK_lit1 {W : World} {g : Nat} {t : TypeId} {A : Option Addr} {n c : Nat} {l : List UInt8} (hh : W.heap[g]? = some (.cells #[.slice A n c] t (0, 0))) (hr : Rd W A n (l.map cB)) (h1 : n ≤ c) (h2 : c ≤ 9223372036854775807) : RdL rowK W (some ⟨g, 0, none⟩) 1 [l] :=
  ⟨rfl, fun _ => ⟨g, 0, rfl, lt_of_heap hh, fun i x hx => by
    have hi : i = 0 := by have := (List.getElem?_eq_some_iff.1 hx).1; simpa using this
    subst hi
    simp only [List.getElem?_cons_zero, Option.some.injEq] at hx
    subst hx
    refine ⟨[.slice A n c], rfl, fun j u hu => ?_, A, n, c, rfl, hr, h1, h2⟩
    rw [cell_of_row _ _ _ _ _ _ hh]
    rw [show 0 + (0 * rowK.k + j) = j from by show 0 + (0 * 1 + j) = j; omega]
    simpa using hu⟩⟩
theorem rowK_lit2 {W : World} {g : Nat} {t : TypeId} {A B : Option Addr} {n c m e : Nat} {l k : List UInt8} (hh : W.heap[g]? = some (.cells #[.slice A n c, .slice B m e] t (0, 0))) (hr : Rd W A n (l.map cB)) (h1 : n ≤ c) (h2 : c ≤ 9223372036854775807) (hr2 : Rd W B m (k.map cB)) (h3 : m ≤ e) (h4 : e ≤ 9223372036854775807) : RdL rowK W (some ⟨g, 0, none⟩) 2 [l, k] :=
  ⟨rfl, fun _ => ⟨g, 0, rfl, lt_of_heap hh, fun i x hx => by
    have hi : i < 2 := by have := (List.getElem?_eq_some_iff.1 hx).1; simpa using this
    have hi2 : i = 0 ∨ i = 1 := by omega
    rcases hi2 with rfl | rfl
    · simp only [List.getElem?_cons_zero, Option.some.injEq] at hx
      subst hx
      refine ⟨[.slice A n c], rfl, fun j u hu => ?_, A, n, c, rfl, hr, h1, h2⟩
      have hj : j = 0 := by have := (List.getElem?_eq_some_iff.1 hu).1; simpa using this
      subst hj
      rw [cell_of_row _ _ _ _ _ _ hh]
      simpa using hu
    · simp only [List.getElem?_cons_succ, List.getElem?_cons_zero, Option.some.injEq] at hx
      subst hx
      refine ⟨[.slice B m e], rfl, fun j u hu => ?_, B, m, e, rfl, hr2, h3, h4⟩
      have hj : j = 0 := by have := (List.getElem?_eq_some_iff.1 hu).1; simpa using this
      subst hj
      rw [cell_of_row _ _ _ _ _ _ hh, show 0 + (1 * rowK.k + 0) = 1 from rfl]
      simpa using hu⟩⟩
theorem take_lit {d : SinkD} {P : PacD} (h : checkP P = 0) : takeF d (putP P).1 = (takeP d P, sayP (takeP d P) P) := takeF_ok (getP_putP h).1
theorem kT1_c : checkP ⟨1, 3, 1, 0, 0, [98]⟩ = 0 := by kernel_rfl
theorem kT1 : takeF ⟨[], []⟩ (putP ⟨1, 3, 1, 0, 0, [98]⟩).1 = (⟨[], []⟩, (putP (ackP (3 : Nat) (0 : Nat))).1) := take_lit kT1_c
theorem kT2_c : checkP ⟨1, 3, 0, 0, 0, [97]⟩ = 0 := by kernel_rfl
theorem kT2 : takeF ⟨[], []⟩ (putP ⟨1, 3, 0, 0, 0, [97]⟩).1 = (⟨[[97]], []⟩, (putP (ackP (3 : Nat) (1 : Nat))).1) := take_lit kT2_c
theorem known23_any (w : World) : Calls Try.prog 9 #[] w (RetQ w true) := by
  have kc := fun (w : World) (C : Array Value) (n c : Nat) => Lib.run_convert_bytes_const (P := Try.prog) w 27 5 C n c Try.underlying27 Try.underlying5
  go_enter Try.func9, Try.ntmps9
  go_wp2_with fail
  refine (sink_new _).mono ?_
  rintro e w1 ⟨p, F1, rfl, hs, hx, hf⟩
  have S1 : Hid (SinkAt w1 p F1 ⟨[], []⟩) := hs
  have X1 := Lib.hid hx; have FB1 := Lib.hid hf
  clear hs hx hf
  simp only [pS]
  go_wp2_with fail
  refine (data23_any 3 1 [98] _ 1 1 _ (Rd.lit _ (([98] : List UInt8).map cB) _ _ 1 _ rfl (by first | rfl | simp)) (i64P_lit _ (by omega)) (i64P_lit _ (by omega)) (by omega) (by omega)).mono ?_
  rintro e w2 ⟨A2, n2, c2, rfl, ho, hx⟩
  have D2 := Lib.hid ho
  have Y2 := Lib.hid ((Ext.alloc _ _).trans (hx))
  have S2 := Lib.hid (S1.out.ext Y2.out); have X2 := Lib.hid (X1.out.trans Y2.out)
  clear ho hx
  go_wp2_with fail
  have q2 := (getP_putP kT1_c).2.2
  have r2 := D2.out.rd.length
  refine (take_any (putP ⟨1, 3, 1, 0, 0, [98]⟩).1 A2 n2 c2 _ p F1 ⟨[], []⟩ S2.out D2.out.rd D2.out.cap (by omega) (Nat.le_of_ble_eq_true rfl) (Nat.le_of_ble_eq_true rfl)).mono ?_
  rw [kT1]
  rintro e w3 ⟨F3, A3, n3, c3, rfl, hs, ho, hf, hO, hn⟩
  have S3 := Lib.hid hs; have X3 := Lib.hid (Only.ext ho X2.out FB1.out); have D3 := Lib.hid hO
  have FB3 : Hid (∀ k, F3 k → w.heap.size ≤ k) := fun k hk => by
    rcases hf k hk with h | h
    · exact FB1.out k h
    · exact Nat.le_trans X2.out.size h
  clear hs ho hf hO hn
  go_wp2_with fail
  have q3 := (getP_putP (ack_check (E := 3) (N := 0) (by omega) (by omega) (by omega))).2.2
  have r3 := D3.out.rd.length
  refine (answer23_ack 3 0 (putP (ackP (3 : Nat) (0 : Nat))).1 A3 n3 c3 _ D3.out.rd D3.out.cap (by omega) (getP_putP (ack_check (by omega) (by omega) (by omega))).1).mono ?_
  rintro e w4 ⟨rfl, hx⟩
  have Y4 := Lib.hid (hx)
  have S4 := Lib.hid (S3.out.ext Y4.out); have X4 := Lib.hid (X3.out.trans Y4.out)
  clear hx q3 r3
  go_wp2_with fail
  refine (data23_any 3 0 [97] _ 1 1 _ (Rd.lit _ (([97] : List UInt8).map cB) _ _ 1 _ rfl (by first | rfl | simp)) (i64P_lit _ (by omega)) (i64P_lit _ (by omega)) (by omega) (by omega)).mono ?_
  rintro e w5 ⟨A5, n5, c5, rfl, ho, hx⟩
  have D5 := Lib.hid ho
  have Y5 := Lib.hid ((Ext.alloc _ _).trans (hx))
  have S5 := Lib.hid (S4.out.ext Y5.out); have X5 := Lib.hid (X4.out.trans Y5.out)
  clear ho hx
  go_wp2_with fail
  have q5 := (getP_putP kT2_c).2.2
  have r5 := D5.out.rd.length
  refine (take_any (putP ⟨1, 3, 0, 0, 0, [97]⟩).1 A5 n5 c5 _ p F3 ⟨[], []⟩ S5.out D5.out.rd D5.out.cap (by omega) (Nat.le_of_ble_eq_true rfl) (Nat.le_of_ble_eq_true rfl)).mono ?_
  rw [kT2]
  rintro e w6 ⟨F6, A6, n6, c6, rfl, hs, ho, hf, hO, hn⟩
  have S6 := Lib.hid hs; have X6 := Lib.hid (Only.ext ho X5.out FB3.out); have D6 := Lib.hid hO
  have FB6 : Hid (∀ k, F6 k → w.heap.size ≤ k) := fun k hk => by
    rcases hf k hk with h | h
    · exact FB3.out k h
    · exact Nat.le_trans X5.out.size h
  clear hs ho hf hO hn
  go_wp2_with fail
  have q6 := (getP_putP (ack_check (E := 3) (N := 1) (by omega) (by omega) (by omega))).2.2
  have r6 := D6.out.rd.length
  refine (answer23_ack 3 1 (putP (ackP (3 : Nat) (1 : Nat))).1 A6 n6 c6 _ D6.out.rd D6.out.cap (by omega) (getP_putP (ack_check (by omega) (by omega) (by omega))).1).mono ?_
  rintro e w7 ⟨rfl, hx⟩
  have Y7 := Lib.hid (hx)
  have S7 := Lib.hid (S6.out.ext Y7.out); have X7 := Lib.hid (X6.out.trans Y7.out)
  clear hx q6 r6
  go_wp2_with fail
  refine (sink_next p F6 ⟨[[97]], []⟩ _ S7.out).mono ?_
  rintro e w8 ⟨rfl, rfl⟩
  go_wp2_with fail
  refine (got_any p F6 ⟨[[97]], []⟩ _ S7.out (Nat.le_of_ble_eq_true rfl) (by simp [sink0])).mono ?_
  rintro e w8 ⟨A8, c8, rfl, ho, hx⟩
  have G8 := Lib.hid ho.rd
  simp only [List.length_nil, List.length_cons, Nat.reduceAdd] at G8 ⊢
  have Y8 := Lib.hid (hx)
  have S8 := Lib.hid (S7.out.ext Y8.out); have X8 := Lib.hid (X7.out.trans Y8.out)
  clear ho hx
  go_wp2_with fail
  refine (sameRows_eq [[97]] A8 _ 1 c8 1 _ (G8.out.ext (Ext.duo _ _ _)) (rowK_lit1 (heap_at _ _ _ (by simp)) ((Rd.lit _ (([97] : List UInt8).map cB) _ _ 1 _ rfl (by first | rfl | simp)).ext (Ext.alloc _ _)) (by omega) (by omega)) (by omega)).mono ?_
  rintro e w9 ⟨rfl, hx⟩
  go_wp2_with fail
  go_ret
  exact ⟨rfl, X8.out.trans ((Ext.duo _ _ _).trans hx)⟩
end Go.Proofs.Ytifojmmggcenkaa
