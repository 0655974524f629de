/- SinkTwice, the walk: a packet that is taken again leaves what there is. -/
import Derived.Test.YtifojmmggcenkaaSinkL
namespace Go.Proofs.Ytifojmmggcenkaa
set_option linter.unusedVariables false
set_option linter.unusedSimpArgs false
set_option maxRecDepth 100000
set_option maxHeartbeats 1000000
open Go Go.RowKit Go.Out

theorem lawSinkTwice (l : List (List UInt8)) (A : Option Addr) (n c : Nat) (b : List UInt8) (B : Option Addr) (m e : Nat) (w : World) (hr : RdL rowK w A n l) (hc : n ≤ c) (hcm : c ≤ 9223372036854775807) (hrb : Rd w B m (b.map cB)) (hme : m ≤ e) (hem : e ≤ 9223372036854775807) (hbb : e * 1 ≤ 140737488351232) :
    Calls Try.prog 5 #[.slice A n c, .slice B m e] w (RetQ w true) := by
  have HR := Lib.hid hr; have HB := Lib.hid hrb
  clear hr hrb
  go_enter Try.func5, Try.ntmps5
  go_wp2_with fail
  refine (sink_new _).mono ?_
  rintro e1 w1 ⟨p, F1, rfl, hs, hx, hf⟩
  simp only [pS]
  have S1 := Lib.hid hs; have X1 := Lib.hid hx; have FB1 := Lib.hid hf
  clear hs hx hf
  by_cases hm : (65536 : Int) < (m : Int)
  · go_wp2_with fail
    go_ret
    exact ⟨rfl, X1.out⟩
  · have hm2 : m ≤ 65536 := by omega
    go_wp2_with fail
    go_loopw [6] (fun i wr => ∃ (k : Nat) (F : Nat → Prop) (d : SinkD), k ≤ n ∧ k ≤ 100 ∧ i = .int .i64 (k : Int) ∧ Hid (SinkAt wr p F d) ∧ Hid (d.rows.length ≤ k ∧ d.done.length ≤ k ∧ RowsOk d) ∧ Hid (Ext w wr) ∧ Hid (∀ k, F k → w.heap.size ≤ k)) (fun i _ => n - (intOf i).toNat)
    case atStart => exact ⟨0, F1, sink0, Nat.zero_le _, Nat.zero_le _, rfl, S1.out, ⟨Nat.le_refl _, Nat.le_refl _, fun l hl => by simp [sink0] at hl⟩, X1.out, FB1.out⟩
    case round =>
      obtain ⟨k, F, d, hk, hk100, rfl, HS, HD, HX, HF⟩ := hrel
      by_cases hgo : k < n ∧ k < 100
      · obtain ⟨hlt, hlt2⟩ := hgo
        obtain ⟨bk, off, B1, m1, c1, rfl, hbk, hcell, hr1, hm1, hc1⟩ := rows_at (HR.out.ext HX.out) hlt
        have HR1 := Lib.hid hr1
        have i1 : (0 : Int) ≤ (k : Int) := by omega
        have i2 : (k : Int) < (n : Int) := by omega
        have i3 : (k : Int) < 100 := by omega
        have i5 : IntKind.i64.wrap ((k : Int) + 1) = (k : Int) + 1 := IntWalk.i64_in _ (by omega)
        clear hr1
        by_cases hm1' : (65536 : Int) < (m1 : Int)
        · go_wp2_with fail
          refine (known23_any _).mono ?_
          rintro e2 w2 ⟨rfl, hx⟩
          go_wp2_with fail
          go_ret
          exact ⟨rfl, HX.out.trans hx⟩
        · go_wp2_with fail
          refine (take_any (l.getD k []) B1 m1 c1 _ p F d HS.out HR1.out hm1 (by omega) (by have := HD.out.1; omega) (by have := HD.out.2.1; omega)).mono ?_
          rintro e2 w2 ⟨F2, A2, n2, c2, rfl, hs, ho, hf, -, -⟩
          have S2 := Lib.hid hs; have X2 := Lib.hid (Only.ext ho HX.out HF.out)
          have D2 : Hid ((takeF d (l.getD k [])).1.rows.length ≤ k + 1 ∧ (takeF d (l.getD k [])).1.done.length ≤ k + 1 ∧ RowsOk (takeF d (l.getD k [])).1) := by
            have h1 := takeF_len d (l.getD k [])
            obtain ⟨h2, h3, h4⟩ := HD.out
            exact ⟨by omega, by omega, takeF_rows h4⟩
          have FB2 : Hid (∀ k, F2 k → w.heap.size ≤ k) := fun k hk => by
            rcases hf k hk with h | h
            · exact HF.out k h
            · exact Nat.le_trans HX.out.size h
          clear hs ho hf hcell hbk
          go_wp2_with fail
          go_roundw
          case rel => exact ⟨k + 1, F2, _, by omega, by omega, by go_num, S2, D2, X2, FB2⟩
          case measure => simp [intOf]; omega
      · have hgo2 : ¬ (k : Int) < (n : Int) ∨ ((k : Int) < (n : Int) ∧ ¬ (k : Int) < 100) := by omega
        have HK : Hid (k ≤ 100) := hk100
        clear hgo hk100 hk
        have HT := Lib.hid (takeF_twice d b)
        obtain ⟨d1, hd1⟩ : ∃ d1, (takeF d b).1 = d1 := ⟨_, rfl⟩
        have D1 : Hid (d1.rows.length ≤ 101 ∧ d1.done.length ≤ 101 ∧ RowsOk d1) := by
          have h1 := takeF_len d b
          obtain ⟨h2, h3, h4⟩ := HD.out
          rw [← hd1]
          have := HK.out
          exact ⟨by omega, by omega, takeF_rows h4⟩
        have HT1 := Lib.hid (take_any b B m e wr p F d HS.out (HB.out.ext HX.out) hme (by omega) (by have := HD.out.1; have := HK.out; omega) (by have := HD.out.2.1; have := HK.out; omega))
        have HT2 := Lib.hid (fun W F (h : SinkAt W p F d1) (hX : Ext w W) => take_any b B m e W p F d1 h (HB.out.ext hX) hme (by omega) (by have := D1.out.1; omega) (by have := D1.out.2.1; omega))
        obtain ⟨x, hxx⟩ : ∃ x, (takeF d b).2 = x := ⟨_, rfl⟩
        have hT := HT.out
        rw [hd1] at hT
        rw [hT] at HT2
        rw [hd1, hxx] at HT1 HT2
        have HRO := Lib.hid (fun l (hl : l ∈ d1.rows) => Nat.le_trans (D1.out.2.2 l hl).2 (by omega : 1024 ≤ 1000000))
        obtain ⟨N, hN⟩ : ∃ N, d1.rows.length = N := ⟨_, rfl⟩
        obtain ⟨M, hM⟩ : ∃ M, d1.done.length = M := ⟨_, rfl⟩
        have HGOT := Lib.hid (fun W F (h : SinkAt W p F d1) => got_any p F d1 W h (by have := D1.out.1; omega) HRO.out)
        have HRES := Lib.hid (fun W F (h : SinkAt W p F d1) => results_any p F d1 W h (by have := D1.out.2.1; omega))
        have HNX := Lib.hid (fun W F (h : SinkAt W p F d1) => sink_next p F d1 W h)
        have HNM : Hid (N ≤ 101 ∧ M ≤ 101) := ⟨by have := D1.out.1; omega, by have := D1.out.2.1; omega⟩
        rw [hN] at HGOT HNX
        rw [hM] at HRES
        have HNN := Lib.hid hN
        have HMM := Lib.hid hM
        clear hT HT hd1 hxx HD HS hN hM D1
        unfold pS at HT1 HT2 HGOT HRES HNX
        rcases hgo2 with hg | ⟨hg, hg2⟩
        all_goals
          go_wp2_with fail
          refine HT1.out.mono ?_
          rintro e2 w2 ⟨F2, A2, n2, c2, rfl, hs, ho, hf, hO, hn⟩
          have S2 := Lib.hid hs; have X2 := Lib.hid (Only.ext ho HX.out HF.out); have O2 := Lib.hid hO; have N2 := Lib.hid hn
          have FB2 : Hid (∀ k, F2 k → w.heap.size ≤ k) := fun k hk => by
            rcases hf k hk with h | h
            · exact HF.out k h
            · exact Nat.le_trans HX.out.size h
          clear hs ho hf hO hn
          go_wp2_with fail
          refine (HGOT.out _ _ S2.out).mono ?_
          rintro e3 w3 ⟨A3, c3, rfl, ho, hx⟩
          have Z3 := Lib.hid hx.size
          have G3 := Lib.hid ho; have X3 := Lib.hid (X2.out.trans hx); have S3 := Lib.hid (S2.out.ext hx); have O3 := Lib.hid (O2.out.ext hx)
          clear ho hx
          go_wp2_with fail
          refine (HRES.out _ _ S3.out).mono ?_
          rintro e4 w4 ⟨v4, xs4, rfl, ho, hit, hx⟩
          obtain ⟨A4, c4, rfl, -, -, -⟩ := ownsRow_slice ho
          have R4 := Lib.hid ho; have I4 := Lib.hid hit; have X4 := Lib.hid (X3.out.trans hx); have S4 := Lib.hid (S3.out.ext hx); have O4 := Lib.hid (O3.out.ext hx); have G4 := Lib.hid (G3.out.ext hx)
          have L2 := Lib.hid S2.out.lt
          clear ho hx hit
          go_wp2_with fail
          refine (HT2.out _ _ S4.out X4.out).mono ?_
          rintro e5 w5 ⟨F5, A5, n5, c5, rfl, hs, ho, hf, hO, hn⟩
          have S5 := Lib.hid hs; have X5 := Lib.hid (Only.ext ho X4.out FB2.out); have O5 := Lib.hid (O4.out.only ho N2.out).rd; have Y5 := Lib.hid hO.rd
          have G5 := Lib.hid (rows_rd (G4.out.only ho L2.out) HNN.out); have R5 := Lib.hid (done_rd (ownsRow_only R4.out ho (fun k hk => Nat.lt_of_lt_of_le (L2.out k hk) Z3.out)) I4.out HMM.out)
          have hn5 : n5 ≤ 9223372036854775807 := Nat.le_trans hO.cap hO.capLe
          have hn2 : n2 ≤ 9223372036854775807 := Nat.le_trans O4.out.cap O4.out.capLe
          clear hs ho hf hO hn O4 G4 R4
          go_wp2_with fail
          refine (same_any x x A2 A5 n2 n5 c2 c5 _ O5.out Y5.out (by unfold maxLen; omega)).mono ?_
          rintro e6 w6 ⟨rfl, hb6⟩
          rw [decide_eq_true rfl]
          have E6 := Lib.hid (Ext.of hb6)
          have S6 := Lib.hid (S5.out.ext E6.out); have X6 := Lib.hid (X5.out.trans E6.out); have G6 := Lib.hid (G5.out.ext E6.out); have R6 := Lib.hid (R5.out.ext E6.out)
          clear hb6 O5 Y5 G5 R5
          go_wp2_with fail
          refine (HGOT.out _ _ S6.out).mono ?_
          rintro e7 w7 ⟨A7, c7, rfl, ho, hx⟩
          have H7 := Lib.hid (rows_rd ho HNN.out); have X7 := Lib.hid (X6.out.trans hx); have S7 := Lib.hid (S6.out.ext hx); have G7 := Lib.hid (G6.out.ext hx); have R7 := Lib.hid (R6.out.ext hx)
          clear ho hx
          go_wp2_with fail
          refine (sameRows_eq d1.rows A3 A7 N c3 c7 _ G7.out H7.out (by have := HNM.out.1; omega)).mono ?_
          rintro e8 w8 ⟨rfl, hx⟩
          have X8 := Lib.hid (X7.out.trans hx); have S8 := Lib.hid (S7.out.ext hx); have R8 := Lib.hid (R7.out.ext hx)
          clear hx
          go_wp2_with fail
          refine (HRES.out _ _ S8.out).mono ?_
          rintro e9 w9 ⟨v9, xs9, rfl, ho, hit, hx⟩
          obtain ⟨A9, c9, rfl, -, -, -⟩ := ownsRow_slice ho
          have H9 := Lib.hid (done_rd ho hit HMM.out); have X9 := Lib.hid (X8.out.trans hx); have S9 := Lib.hid (S8.out.ext hx); have R9 := Lib.hid (R8.out.ext hx)
          clear ho hx hit
          go_wp2_with fail
          refine (samePackets_eq d1.done A4 A9 M c4 c9 _ R9.out H9.out (by have := HNM.out.2; omega)).mono ?_
          rintro e10 w10 ⟨rfl, hx⟩
          have X10 := Lib.hid (X9.out.trans hx); have S10 := Lib.hid (S9.out.ext hx)
          clear hx
          go_wp2_with fail
          refine (HNX.out _ _ S10.out).mono ?_
          rintro e11 w11 ⟨rfl, rfl⟩
          go_wp2_with fail
          refine (known23_any _).mono ?_
          rintro e12 w12 ⟨rfl, hx⟩
          go_wp2_with fail
          go_ret
          exact ⟨rfl, X10.out.trans hx⟩
end Go.Proofs.Ytifojmmggcenkaa
