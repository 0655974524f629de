/- SinkKnown, the walk. (sinkwalk.py n prints this.) -/
import Derived.Test.YtifojmmggcenkaaSinkK
import Derived.Lib.SmallJoins
namespace Go.Proofs.Ytifojmmggcenkaa
set_option linter.unusedVariables false
set_option linter.unusedSimpArgs false
set_option maxRecDepth 100000
set_option maxHeartbeats 1000000
open Go Go.RowKit Go.Out
theorem doneK_lit1 {W : World} {g : Nat} {t : TypeId} (hh : W.heap[g]? = some (.cells #[.int .i64 4, .int .i64 0, .int .i64 0, .int .i64 7, .int .i64 0, .slice none 0 0] t (0, 0))) : RdL doneK W (some ⟨g, 0, none⟩) 1 [⟨4, 0, 0, 7, 0, []⟩] :=
  ⟨rfl, fun _ => ⟨g, 0, rfl, lt_of_heap hh, fun i x hx => by
    have hi : i = 0 := by have := (List.getElem?_eq_some_iff.1 hx).1; simpa using this
    subst hi
    simp only [List.getElem?_cons_zero, Option.some.injEq] at hx
    subst hx
    refine ⟨[.int .i64 4, .int .i64 0, .int .i64 0, .int .i64 7, .int .i64 0, .slice none 0 0], rfl, fun j u hu => ?_, rfl, i64P_lit _ (by simp), none, 0, by omega, rfl, i64P_lit _ (by simp), i64P_lit _ (by simp), i64P_lit _ (by simp), i64P_lit _ (by simp)⟩
    rw [cell_of_row _ _ _ _ _ _ hh]
    rw [show 0 + (0 * doneK.k + j) = j from by show 0 + (0 * 6 + j) = j; omega]
    simpa using hu⟩⟩
theorem na_c : checkP ⟨1, 3, 1, 0, 0, [98]⟩ = 0 := by kernel_rfl
theorem nb_c : checkP ⟨1, 3, 0, 0, 0, [97]⟩ = 0 := by kernel_rfl
theorem nd_c : checkP ⟨1, 4, 0, 0, 0, [120]⟩ = 0 := by kernel_rfl
theorem ne_c : checkP ⟨4, 0, 0, 7, 0, []⟩ = 0 := by kernel_rfl
theorem nf_c : checkP ⟨4, 0, 0, 7, 3, []⟩ = 0 := by kernel_rfl
theorem ng_c : checkP ⟨2, 1, 5, 0, 0, []⟩ = 0 := by kernel_rfl
theorem ni_c : checkP ⟨3, 0, 0, 7, 0, [1, 2]⟩ = 0 := by kernel_rfl
theorem nj_c : checkP ⟨1, 9, 1, 0, 0, [98]⟩ = 0 := by kernel_rfl
theorem sTa_c : checkP ⟨1, 3, 1, 0, 0, [98]⟩ = 0 := na_c
theorem sTa : takeF ⟨[], []⟩ (putP ⟨1, 3, 1, 0, 0, [98]⟩).1 = (⟨[], []⟩, (putP (ackP (3 : Nat) (0 : Nat))).1) := take_lit na_c
theorem sTb_c : checkP ⟨1, 3, 0, 0, 0, [97]⟩ = 0 := nb_c
theorem sTb : takeF ⟨[], []⟩ (putP ⟨1, 3, 0, 0, 0, [97]⟩).1 = (⟨[[97]], []⟩, (putP (ackP (3 : Nat) (1 : Nat))).1) := take_lit nb_c
theorem sTc_c : checkP ⟨1, 3, 0, 0, 0, [97]⟩ = 0 := nb_c
theorem sTc : takeF ⟨[[97]], []⟩ (putP ⟨1, 3, 0, 0, 0, [97]⟩).1 = (⟨[[97]], []⟩, (putP (ackP (3 : Nat) (1 : Nat))).1) := take_lit nb_c
theorem sTd_c : checkP ⟨1, 4, 0, 0, 0, [120]⟩ = 0 := nd_c
theorem sTd : takeF ⟨[[97]], []⟩ (putP ⟨1, 4, 0, 0, 0, [120]⟩).1 = (⟨[[97]], []⟩, (putP (ackP (4 : Nat) (1 : Nat))).1) := take_lit nd_c
theorem sTe_c : checkP ⟨4, 0, 0, 7, 0, []⟩ = 0 := ne_c
theorem sTe : takeF ⟨[[97]], []⟩ (putP ⟨4, 0, 0, 7, 0, []⟩).1 = (⟨[[97]], [⟨4, 0, 0, 7, 0, []⟩]⟩, []) := take_lit ne_c
theorem sTf_c : checkP ⟨4, 0, 0, 7, 3, []⟩ = 0 := nf_c
theorem sTf : takeF ⟨[[97]], [⟨4, 0, 0, 7, 0, []⟩]⟩ (putP ⟨4, 0, 0, 7, 3, []⟩).1 = (⟨[[97]], [⟨4, 0, 0, 7, 0, []⟩]⟩, []) := take_lit nf_c
theorem sTg_c : checkP ⟨2, 1, 5, 0, 0, []⟩ = 0 := ng_c
theorem sTg : takeF ⟨[[97]], [⟨4, 0, 0, 7, 0, []⟩]⟩ (putP ⟨2, 1, 5, 0, 0, []⟩).1 = (⟨[[97]], [⟨4, 0, 0, 7, 0, []⟩]⟩, []) := take_lit ng_c
theorem sTi_c : checkP ⟨3, 0, 0, 7, 0, [1, 2]⟩ = 0 := ni_c
theorem sTi : takeF ⟨[[97]], [⟨4, 0, 0, 7, 0, []⟩]⟩ (putP ⟨3, 0, 0, 7, 0, [1, 2]⟩).1 = (⟨[[97]], [⟨4, 0, 0, 7, 0, []⟩]⟩, []) := take_lit ni_c
theorem sTj_c : checkP ⟨1, 9, 1, 0, 0, [98]⟩ = 0 := nj_c
theorem sTj : takeF ⟨[[97]], [⟨4, 0, 0, 7, 0, []⟩]⟩ (putP ⟨1, 9, 1, 0, 0, [98]⟩).1 = (⟨[[97], [98]], [⟨4, 0, 0, 7, 0, []⟩]⟩, (putP (ackP (9 : Nat) (2 : Nat))).1) := take_lit nj_c
theorem sTh : takeF ⟨[[97]], [⟨4, 0, 0, 7, 0, []⟩]⟩ [0, 0, 0, 0, 0] = (⟨[[97]], [⟨4, 0, 0, 7, 0, []⟩]⟩, []) := takeF_no (by decide +kernel)
theorem lawSinkKnown (w : World) : Calls Try.prog 6 #[] w (RetQ w true) := by
  have kc := fun (w : World) (C : Array Value) (n c : Nat) => Lib.run_convert_bytes_const (P := Try.prog) w 27 5 C n c Try.underlying27 Try.underlying5
  have kc2 := fun (w : World) (o : Obj) (C : Array Value) (n c : Nat) => Joins.run_convert_bytes_const_at (P := Try.prog) (w.alloc o) 27 5 C n c (w.heap.size + 1) (by simp) Try.underlying27 Try.underlying5
  go_enter Try.func6, Try.ntmps6
  go_wp2_with fail
  refine (sink_new _).mono ?_
  rintro e w1 ⟨p, F1, rfl, hs, hx, hf⟩
  have S1 : Hid (SinkAt w1 p F1 ⟨[], []⟩) := hs
  have X1 := Lib.hid hx; have FB1 := Lib.hid hf
  clear hs hx hf
  simp only [pS]
  go_wp2_with fail
  refine (sink_next p F1 ⟨[], []⟩ _ S1.out).mono ?_
  rintro e w2 ⟨rfl, rfl⟩
  go_wp2_with fail
  refine (got_any p F1 ⟨[], []⟩ _ S1.out (Nat.le_of_ble_eq_true rfl) (by simp [sink0])).mono ?_
  rintro e w2 ⟨A2, c2, rfl, ho, hx⟩
  have G2 := Lib.hid ho.rd
  simp only [List.length_nil, List.length_cons, Nat.reduceAdd] at G2 ⊢
  have Y2 := Lib.hid (hx)
  have S2 := Lib.hid (S1.out.ext Y2.out); have X2 := Lib.hid (X1.out.trans Y2.out)
  clear ho hx
  go_wp2_with fail
  refine (results_any p F1 ⟨[], []⟩ _ S2.out (Nat.le_of_ble_eq_true rfl)).mono ?_
  rintro e w3 ⟨v3, xs3, rfl, ho, hit, hx⟩
  obtain ⟨A3, c3, rfl, -, -, hrl, -⟩ := OwL.form ⟨xs3, ho, hit _⟩
  have R3 := Lib.hid hrl
  simp only [List.length_nil, List.length_cons, Nat.reduceAdd] at R3 ⊢
  have Y3 := Lib.hid (hx)
  have S3 := Lib.hid (S2.out.ext Y3.out); have X3 := Lib.hid (X2.out.trans Y3.out)
  clear ho hx hit hrl
  go_wp2_with fail
  refine (data23_any 3 1 [98] _ 1 1 _ (Rd.lit _ (([98] : List UInt8).map cB) _ _ 1 _ rfl (by first | rfl | simp)) (i64P_lit _ (by omega)) (i64P_lit _ (by omega)) (by omega) (by omega)).mono ?_
  rintro e w4 ⟨A4, n4, c4, rfl, ho, hx⟩
  have D4 := Lib.hid ho
  have Y4 := Lib.hid ((Ext.alloc _ _).trans (hx))
  have S4 := Lib.hid (S3.out.ext Y4.out); have X4 := Lib.hid (X3.out.trans Y4.out)
  clear ho hx
  go_wp2_with fail
  have q4 := (getP_putP sTa_c).2.2
  have r4 := D4.out.rd.length
  refine (take_any (putP ⟨1, 3, 1, 0, 0, [98]⟩).1 A4 n4 c4 _ p F1 ⟨[], []⟩ S4.out D4.out.rd D4.out.cap (by omega) (Nat.le_of_ble_eq_true rfl) (Nat.le_of_ble_eq_true rfl)).mono ?_
  rw [sTa]
  rintro e w5 ⟨F5, A5, n5, c5, rfl, hs, ho, hf, hO, hn⟩
  have S5 := Lib.hid hs; have X5 := Lib.hid (Only.ext ho X4.out FB1.out); have D5 := Lib.hid hO
  have FB5 : Hid (∀ k, F5 k → w.heap.size ≤ k) := fun k hk => by
    rcases hf k hk with h | h
    · exact FB1.out k h
    · exact Nat.le_trans X4.out.size h
  clear hs ho hf hO hn
  go_wp2_with fail
  have q5 := (getP_putP (ack_check (E := 3) (N := 0) (by omega) (by omega) (by omega))).2.2
  have r5 := D5.out.rd.length
  refine (answer23_ack 3 0 (putP (ackP (3 : Nat) (0 : Nat))).1 A5 n5 c5 _ D5.out.rd D5.out.cap (by omega) (getP_putP (ack_check (by omega) (by omega) (by omega))).1).mono ?_
  rintro e w6 ⟨rfl, hx⟩
  have Y6 := Lib.hid (hx)
  have S6 := Lib.hid (S5.out.ext Y6.out); have X6 := Lib.hid (X5.out.trans Y6.out)
  clear hx q5 r5
  go_wp2_with fail
  refine (data23_any 3 0 [97] _ 1 1 _ (Rd.lit _ (([97] : List UInt8).map cB) _ _ 1 _ rfl (by first | rfl | simp)) (i64P_lit _ (by omega)) (i64P_lit _ (by omega)) (by omega) (by omega)).mono ?_
  rintro e w7 ⟨A7, n7, c7, rfl, ho, hx⟩
  have D7 := Lib.hid ho
  have Y7 := Lib.hid ((Ext.alloc _ _).trans (hx))
  have S7 := Lib.hid (S6.out.ext Y7.out); have X7 := Lib.hid (X6.out.trans Y7.out)
  clear ho hx
  go_wp2_with fail
  have q7 := (getP_putP sTb_c).2.2
  have r7 := D7.out.rd.length
  refine (take_any (putP ⟨1, 3, 0, 0, 0, [97]⟩).1 A7 n7 c7 _ p F5 ⟨[], []⟩ S7.out D7.out.rd D7.out.cap (by omega) (Nat.le_of_ble_eq_true rfl) (Nat.le_of_ble_eq_true rfl)).mono ?_
  rw [sTb]
  rintro e w8 ⟨F8, A8, n8, c8, rfl, hs, ho, hf, hO, hn⟩
  have S8 := Lib.hid hs; have X8 := Lib.hid (Only.ext ho X7.out FB5.out); have D8 := Lib.hid hO
  have FB8 : Hid (∀ k, F8 k → w.heap.size ≤ k) := fun k hk => by
    rcases hf k hk with h | h
    · exact FB5.out k h
    · exact Nat.le_trans X7.out.size h
  clear hs ho hf hO hn
  go_wp2_with fail
  have q8 := (getP_putP (ack_check (E := 3) (N := 1) (by omega) (by omega) (by omega))).2.2
  have r8 := D8.out.rd.length
  refine (answer23_ack 3 1 (putP (ackP (3 : Nat) (1 : Nat))).1 A8 n8 c8 _ D8.out.rd D8.out.cap (by omega) (getP_putP (ack_check (by omega) (by omega) (by omega))).1).mono ?_
  rintro e w9 ⟨rfl, hx⟩
  have Y9 := Lib.hid (hx)
  have S9 := Lib.hid (S8.out.ext Y9.out); have X9 := Lib.hid (X8.out.trans Y9.out)
  clear hx q8 r8
  go_wp2_with fail
  refine (data23_any 3 0 [97] _ 1 1 _ (Rd.lit _ (([97] : List UInt8).map cB) _ _ 1 _ rfl (by first | rfl | simp)) (i64P_lit _ (by omega)) (i64P_lit _ (by omega)) (by omega) (by omega)).mono ?_
  rintro e w10 ⟨A10, n10, c10, rfl, ho, hx⟩
  have D10 := Lib.hid ho
  have Y10 := Lib.hid ((Ext.alloc _ _).trans (hx))
  have S10 := Lib.hid (S9.out.ext Y10.out); have X10 := Lib.hid (X9.out.trans Y10.out)
  clear ho hx
  go_wp2_with fail
  have q10 := (getP_putP sTc_c).2.2
  have r10 := D10.out.rd.length
  refine (take_any (putP ⟨1, 3, 0, 0, 0, [97]⟩).1 A10 n10 c10 _ p F8 ⟨[[97]], []⟩ S10.out D10.out.rd D10.out.cap (by omega) (Nat.le_of_ble_eq_true rfl) (Nat.le_of_ble_eq_true rfl)).mono ?_
  rw [sTc]
  rintro e w11 ⟨F11, A11, n11, c11, rfl, hs, ho, hf, hO, hn⟩
  have S11 := Lib.hid hs; have X11 := Lib.hid (Only.ext ho X10.out FB8.out); have D11 := Lib.hid hO
  have FB11 : Hid (∀ k, F11 k → w.heap.size ≤ k) := fun k hk => by
    rcases hf k hk with h | h
    · exact FB8.out k h
    · exact Nat.le_trans X10.out.size h
  clear hs ho hf hO hn
  go_wp2_with fail
  have q11 := (getP_putP (ack_check (E := 3) (N := 1) (by omega) (by omega) (by omega))).2.2
  have r11 := D11.out.rd.length
  refine (answer23_ack 3 1 (putP (ackP (3 : Nat) (1 : Nat))).1 A11 n11 c11 _ D11.out.rd D11.out.cap (by omega) (getP_putP (ack_check (by omega) (by omega) (by omega))).1).mono ?_
  rintro e w12 ⟨rfl, hx⟩
  have Y12 := Lib.hid (hx)
  have S12 := Lib.hid (S11.out.ext Y12.out); have X12 := Lib.hid (X11.out.trans Y12.out)
  clear hx q11 r11
  go_wp2_with fail
  refine (data23_any 4 0 [120] _ 1 1 _ (Rd.lit _ (([120] : List UInt8).map cB) _ _ 1 _ rfl (by first | rfl | simp)) (i64P_lit _ (by omega)) (i64P_lit _ (by omega)) (by omega) (by omega)).mono ?_
  rintro e w13 ⟨A13, n13, c13, rfl, ho, hx⟩
  have D13 := Lib.hid ho
  have Y13 := Lib.hid ((Ext.alloc _ _).trans (hx))
  have S13 := Lib.hid (S12.out.ext Y13.out); have X13 := Lib.hid (X12.out.trans Y13.out)
  clear ho hx
  go_wp2_with fail
  have q13 := (getP_putP sTd_c).2.2
  have r13 := D13.out.rd.length
  refine (take_any (putP ⟨1, 4, 0, 0, 0, [120]⟩).1 A13 n13 c13 _ p F11 ⟨[[97]], []⟩ S13.out D13.out.rd D13.out.cap (by omega) (Nat.le_of_ble_eq_true rfl) (Nat.le_of_ble_eq_true rfl)).mono ?_
  rw [sTd]
  rintro e w14 ⟨F14, A14, n14, c14, rfl, hs, ho, hf, hO, hn⟩
  have S14 := Lib.hid hs; have X14 := Lib.hid (Only.ext ho X13.out FB11.out); have D14 := Lib.hid hO
  have FB14 : Hid (∀ k, F14 k → w.heap.size ≤ k) := fun k hk => by
    rcases hf k hk with h | h
    · exact FB11.out k h
    · exact Nat.le_trans X13.out.size h
  clear hs ho hf hO hn
  go_wp2_with fail
  have q14 := (getP_putP (ack_check (E := 4) (N := 1) (by omega) (by omega) (by omega))).2.2
  have r14 := D14.out.rd.length
  refine (answer23_ack 4 1 (putP (ackP (4 : Nat) (1 : Nat))).1 A14 n14 c14 _ D14.out.rd D14.out.cap (by omega) (getP_putP (ack_check (by omega) (by omega) (by omega))).1).mono ?_
  rintro e w15 ⟨rfl, hx⟩
  have Y15 := Lib.hid (hx)
  have S15 := Lib.hid (S14.out.ext Y15.out); have X15 := Lib.hid (X14.out.trans Y15.out)
  clear hx q14 r14
  go_wp2_with fail
  refine (put23_any ⟨4, 0, 0, 7, 0, []⟩ none 0 0 _ ⟨Rd.nil_ _, i64P_lit _ (by simp), i64P_lit _ (by simp), i64P_lit _ (by simp), i64P_lit _ (by simp), i64P_lit _ (by simp), by omega, by omega⟩).mono ?_
  rintro e w16 ⟨A16, n16, c16, rfl, ho, hx⟩
  have D16 := Lib.hid ho
  have Y16 := Lib.hid (hx)
  have S16 := Lib.hid (S15.out.ext Y16.out); have X16 := Lib.hid (X15.out.trans Y16.out)
  clear ho hx
  go_wp2_with fail
  have q16 := (getP_putP sTe_c).2.2
  have r16 := D16.out.rd.length
  refine (take_any (putP ⟨4, 0, 0, 7, 0, []⟩).1 A16 n16 c16 _ p F14 ⟨[[97]], []⟩ S16.out D16.out.rd D16.out.cap (by omega) (Nat.le_of_ble_eq_true rfl) (Nat.le_of_ble_eq_true rfl)).mono ?_
  rw [sTe]
  rintro e w17 ⟨F17, A17, n17, c17, rfl, hs, ho, hf, hO, hn⟩
  have S17 := Lib.hid hs; have X17 := Lib.hid (Only.ext ho X16.out FB14.out); have D17 := Lib.hid hO
  have FB17 : Hid (∀ k, F17 k → w.heap.size ≤ k) := fun k hk => by
    rcases hf k hk with h | h
    · exact FB14.out k h
    · exact Nat.le_trans X16.out.size h
  obtain rfl : n17 = 0 := by have := hO.len; simpa using this.symm
  clear hs ho hf hO hn
  go_wp2_with fail
  refine (put23_any ⟨4, 0, 0, 7, 3, []⟩ none 0 0 _ ⟨Rd.nil_ _, i64P_lit _ (by simp), i64P_lit _ (by simp), i64P_lit _ (by simp), i64P_lit _ (by simp), i64P_lit _ (by simp), by omega, by omega⟩).mono ?_
  rintro e w18 ⟨A18, n18, c18, rfl, ho, hx⟩
  have D18 := Lib.hid ho
  have Y18 := Lib.hid (hx)
  have S18 := Lib.hid (S17.out.ext Y18.out); have X18 := Lib.hid (X17.out.trans Y18.out)
  clear ho hx
  go_wp2_with fail
  have q18 := (getP_putP sTf_c).2.2
  have r18 := D18.out.rd.length
  refine (take_any (putP ⟨4, 0, 0, 7, 3, []⟩).1 A18 n18 c18 _ p F17 ⟨[[97]], [⟨4, 0, 0, 7, 0, []⟩]⟩ S18.out D18.out.rd D18.out.cap (by omega) (Nat.le_of_ble_eq_true rfl) (Nat.le_of_ble_eq_true rfl)).mono ?_
  rw [sTf]
  rintro e w19 ⟨F19, A19, n19, c19, rfl, hs, ho, hf, hO, hn⟩
  have S19 := Lib.hid hs; have X19 := Lib.hid (Only.ext ho X18.out FB17.out); have D19 := Lib.hid hO
  have FB19 : Hid (∀ k, F19 k → w.heap.size ≤ k) := fun k hk => by
    rcases hf k hk with h | h
    · exact FB17.out k h
    · exact Nat.le_trans X18.out.size h
  obtain rfl : n19 = 0 := by have := hO.len; simpa using this.symm
  clear hs ho hf hO hn
  go_wp2_with fail
  refine (put23_any ⟨2, 1, 5, 0, 0, []⟩ none 0 0 _ ⟨Rd.nil_ _, i64P_lit _ (by simp), i64P_lit _ (by simp), i64P_lit _ (by simp), i64P_lit _ (by simp), i64P_lit _ (by simp), by omega, by omega⟩).mono ?_
  rintro e w20 ⟨A20, n20, c20, rfl, ho, hx⟩
  have D20 := Lib.hid ho
  have Y20 := Lib.hid (hx)
  have S20 := Lib.hid (S19.out.ext Y20.out); have X20 := Lib.hid (X19.out.trans Y20.out)
  clear ho hx
  go_wp2_with fail
  have q20 := (getP_putP sTg_c).2.2
  have r20 := D20.out.rd.length
  refine (take_any (putP ⟨2, 1, 5, 0, 0, []⟩).1 A20 n20 c20 _ p F19 ⟨[[97]], [⟨4, 0, 0, 7, 0, []⟩]⟩ S20.out D20.out.rd D20.out.cap (by omega) (Nat.le_of_ble_eq_true rfl) (Nat.le_of_ble_eq_true rfl)).mono ?_
  rw [sTg]
  rintro e w21 ⟨F21, A21, n21, c21, rfl, hs, ho, hf, hO, hn⟩
  have S21 := Lib.hid hs; have X21 := Lib.hid (Only.ext ho X20.out FB19.out); have D21 := Lib.hid hO
  have FB21 : Hid (∀ k, F21 k → w.heap.size ≤ k) := fun k hk => by
    rcases hf k hk with h | h
    · exact FB19.out k h
    · exact Nat.le_trans X20.out.size h
  obtain rfl : n21 = 0 := by have := hO.len; simpa using this.symm
  clear hs ho hf hO hn
  go_wp2_with fail
  refine (take_any ([0, 0, 0, 0, 0] : List UInt8) _ 5 5 _ p F21 ⟨[[97]], [⟨4, 0, 0, 7, 0, []⟩]⟩ (S21.out.ext (Ext.alloc _ _)) (Rd.lit _ (([0, 0, 0, 0, 0] : List UInt8).map cB) _ _ 5 _ rfl (by first | rfl | simp)) (by omega) (by omega) (Nat.le_of_ble_eq_true rfl) (Nat.le_of_ble_eq_true rfl)).mono ?_
  rw [sTh]
  rintro e w22 ⟨F22, A22, n22, c22, rfl, hs, ho, hf, hO, hn⟩
  have S22 := Lib.hid hs; have X22 := Lib.hid (Only.ext ho (X21.out.trans (Ext.alloc _ _)) FB21.out); have D22 := Lib.hid hO
  have FB22 : Hid (∀ k, F22 k → w.heap.size ≤ k) := fun k hk => by
    rcases hf k hk with h | h
    · exact FB21.out k h
    · exact Nat.le_trans (Nat.le_trans X21.out.size (Ext.alloc _ _).size) h
  obtain rfl : n22 = 0 := by have := hO.len; simpa using this.symm
  clear hs ho hf hO hn
  go_wp2_with fail
  refine (put23_any ⟨3, 0, 0, 7, 0, [1, 2]⟩ _ 2 2 _ ⟨Rd.lit _ (([1, 2] : List UInt8).map cB) _ _ 2 _ rfl (by first | rfl | simp), i64P_lit _ (by simp), i64P_lit _ (by simp), i64P_lit _ (by simp), i64P_lit _ (by simp), i64P_lit _ (by simp), by omega, by omega⟩).mono ?_
  rintro e w23 ⟨A23, n23, c23, rfl, ho, hx⟩
  have D23 := Lib.hid ho
  have Y23 := Lib.hid ((Ext.alloc _ _).trans (hx))
  have S23 := Lib.hid (S22.out.ext Y23.out); have X23 := Lib.hid (X22.out.trans Y23.out)
  clear ho hx
  go_wp2_with fail
  have q23 := (getP_putP sTi_c).2.2
  have r23 := D23.out.rd.length
  refine (take_any (putP ⟨3, 0, 0, 7, 0, [1, 2]⟩).1 A23 n23 c23 _ p F22 ⟨[[97]], [⟨4, 0, 0, 7, 0, []⟩]⟩ S23.out D23.out.rd D23.out.cap (by omega) (Nat.le_of_ble_eq_true rfl) (Nat.le_of_ble_eq_true rfl)).mono ?_
  rw [sTi]
  rintro e w24 ⟨F24, A24, n24, c24, rfl, hs, ho, hf, hO, hn⟩
  have S24 := Lib.hid hs; have X24 := Lib.hid (Only.ext ho X23.out FB22.out); have D24 := Lib.hid hO
  have FB24 : Hid (∀ k, F24 k → w.heap.size ≤ k) := fun k hk => by
    rcases hf k hk with h | h
    · exact FB22.out k h
    · exact Nat.le_trans X23.out.size h
  obtain rfl : n24 = 0 := by have := hO.len; simpa using this.symm
  clear hs ho hf hO hn
  go_wp2_with fail
  refine (data23_any 9 1 [98] _ 1 1 _ (Rd.lit _ (([98] : List UInt8).map cB) _ _ 1 _ rfl (by first | rfl | simp)) (i64P_lit _ (by omega)) (i64P_lit _ (by omega)) (by omega) (by omega)).mono ?_
  rintro e w25 ⟨A25, n25, c25, rfl, ho, hx⟩
  have D25 := Lib.hid ho
  have Y25 := Lib.hid ((Ext.alloc _ _).trans (hx))
  have S25 := Lib.hid (S24.out.ext Y25.out); have X25 := Lib.hid (X24.out.trans Y25.out)
  clear ho hx
  go_wp2_with fail
  have q25 := (getP_putP sTj_c).2.2
  have r25 := D25.out.rd.length
  refine (take_any (putP ⟨1, 9, 1, 0, 0, [98]⟩).1 A25 n25 c25 _ p F24 ⟨[[97]], [⟨4, 0, 0, 7, 0, []⟩]⟩ S25.out D25.out.rd D25.out.cap (by omega) (Nat.le_of_ble_eq_true rfl) (Nat.le_of_ble_eq_true rfl)).mono ?_
  rw [sTj]
  rintro e w26 ⟨F26, A26, n26, c26, rfl, hs, ho, hf, hO, hn⟩
  have S26 := Lib.hid hs; have X26 := Lib.hid (Only.ext ho X25.out FB24.out); have D26 := Lib.hid hO
  have FB26 : Hid (∀ k, F26 k → w.heap.size ≤ k) := fun k hk => by
    rcases hf k hk with h | h
    · exact FB24.out k h
    · exact Nat.le_trans X25.out.size h
  clear hs ho hf hO hn
  go_wp2_with fail
  have q26 := (getP_putP (ack_check (E := 9) (N := 2) (by omega) (by omega) (by omega))).2.2
  have r26 := D26.out.rd.length
  refine (answer23_ack 9 2 (putP (ackP (9 : Nat) (2 : Nat))).1 A26 n26 c26 _ D26.out.rd D26.out.cap (by omega) (getP_putP (ack_check (by omega) (by omega) (by omega))).1).mono ?_
  rintro e w27 ⟨rfl, hx⟩
  have Y27 := Lib.hid (hx)
  have S27 := Lib.hid (S26.out.ext Y27.out); have X27 := Lib.hid (X26.out.trans Y27.out)
  clear hx q26 r26
  go_wp2_with fail
  refine (got_any p F26 ⟨[[97], [98]], [⟨4, 0, 0, 7, 0, []⟩]⟩ _ S27.out (Nat.le_of_ble_eq_true rfl) (by simp [sink0])).mono ?_
  rintro e w28 ⟨A28, c28, rfl, ho, hx⟩
  have G28 := Lib.hid ho.rd
  simp only [List.length_nil, List.length_cons, Nat.reduceAdd] at G28 ⊢
  have Y28 := Lib.hid (hx)
  have S28 := Lib.hid (S27.out.ext Y28.out); have X28 := Lib.hid (X27.out.trans Y28.out)
  clear ho hx
  go_wp2_with fail
  refine (sameRows_eq [[97], [98]] A28 _ 2 c28 2 _ (G28.out.ext ((Ext.duo _ _ _).trans (Ext.alloc _ _))) (rowK_lit2 (heap_at _ _ _ (by simp)) ((Rd.lit _ (([97] : List UInt8).map cB) _ _ 1 _ rfl (by first | rfl | simp)).ext (Ext.duo _ _ _)) (by omega) (by omega) ((Rd.lit _ (([98] : List UInt8).map cB) _ _ 1 _ rfl (by first | rfl | simp)).ext (Ext.alloc _ _)) (by omega) (by omega)) (by omega)).mono ?_
  rintro e w29 ⟨rfl, hx⟩
  have Y29 := Lib.hid ((Ext.alloc _ _).trans ((Ext.alloc _ _).trans ((Ext.alloc _ _).trans (hx))))
  have S29 := Lib.hid (S28.out.ext Y29.out); have X29 := Lib.hid (X28.out.trans Y29.out)
  clear hx
  go_wp2_with fail
  refine (results_any p F26 ⟨[[97], [98]], [⟨4, 0, 0, 7, 0, []⟩]⟩ _ S29.out (Nat.le_of_ble_eq_true rfl)).mono ?_
  rintro e w30 ⟨v30, xs30, rfl, ho, hit, hx⟩
  obtain ⟨A30, c30, rfl, -, -, hrl, -⟩ := OwL.form ⟨xs30, ho, hit _⟩
  have R30 := Lib.hid hrl
  simp only [List.length_nil, List.length_cons, Nat.reduceAdd] at R30 ⊢
  have Y30 := Lib.hid (hx)
  have S30 := Lib.hid (S29.out.ext Y30.out); have X30 := Lib.hid (X29.out.trans Y30.out)
  clear ho hx hit hrl
  go_wp2_with fail
  refine (samePackets_eq [⟨4, 0, 0, 7, 0, []⟩] A30 _ 1 c30 1 _ (R30.out.ext (Ext.alloc _ _)) (doneK_lit1 (heap_alloc_new _ _)) (by omega)).mono ?_
  rintro e w31 ⟨rfl, hx⟩
  have Y31 := Lib.hid ((Ext.alloc _ _).trans (hx))
  have S31 := Lib.hid (S30.out.ext Y31.out); have X31 := Lib.hid (X30.out.trans Y31.out)
  clear hx
  go_wp2_with fail
  refine (known23_any _).mono ?_
  rintro e w32 ⟨rfl, hx⟩
  go_wp2_with fail
  go_ret
  exact ⟨rfl, X31.out.trans hx⟩
end Go.Proofs.Ytifojmmggcenkaa
