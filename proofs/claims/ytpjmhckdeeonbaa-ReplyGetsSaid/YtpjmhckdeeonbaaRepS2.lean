/- Contract of the reference's shape (chapter 04): bits, rows of files. (genreps.py prints this.) -/
import Derived.Test.YtpjmhckdeeonbaaRepS
namespace Go.Proofs.Ytpjmhckdeeonbaa
set_option linter.unusedVariables false
set_option linter.unusedSimpArgs false
set_option maxRecDepth 100000
set_option maxHeartbeats 4000000
open Go Go.RowKit Go.Out

theorem shape_bits (code addr count : Int) (A1 A2 A3 : Option Addr) (n1 c1 n2 c2 n3 c3 : Nat) (w : World) (n : Nat) (hct : count = (n : Int)) (hn1 : n ≤ 2000) (A : Option Addr) (N c : Nat) (b : List UInt8) (hb : Rd w A N (b.map cB)) (hnd : N = 2 + need n) (hN : N ≤ 253) (hc : N ≤ c ∧ c ≤ 9223372036854775807) (HB : Hid (∀ W, Calls Try.prog 56 #[.agg #[.int .i64 code, .int .i64 addr, .int .i64 count, .slice A1 n1 c1, .slice A2 n2 c2, .slice A3 n3 c3]] W (RetQ W true)))(HW : Hid (∀ W, Calls Try.prog 57 #[.agg #[.int .i64 code, .int .i64 addr, .int .i64 count, .slice A1 n1 c1, .slice A2 n2 c2, .slice A3 n3 c3]] W (RetQ W false)))(HF : Hid (∀ W, Calls Try.prog 58 #[.agg #[.int .i64 code, .int .i64 addr, .int .i64 count, .slice A1 n1 c1, .slice A2 n2 c2, .slice A3 n3 c3]] W (RetQ W false))) :
    Calls Try.prog 81 #[.agg #[.int .i64 code, .int .i64 addr, .int .i64 count, .slice A1 n1 c1, .slice A2 n2 c2, .slice A3 n3 c3], .slice A N c] w (RetSh w ⟨0, (List.range n).map (ubit (b.drop 2)), [], []⟩) := by
  subst hct
  have HR := Lib.hid hb
  have HBL := Lib.hid hb.length
  have hnd2 : 8 * N ≥ n + 16 := by unfold need at hnd; omega
  clear hb hnd
  go_enter Try.func81, Try.ntmps81
  go_wp2_with fail
  refine (HB.out _).mono ?_
  rintro e w1 ⟨rfl, hx⟩
  have Z := Lib.hid (show Ext w w1 from (((Ext.alloc _ _).trans (Ext.alloc _ _)).trans (Ext.alloc _ _)).trans hx)
  have BA := Lib.hid (show w1.heap[w.heap.size]? = some (.cells #[.int .i64 code, .int .i64 addr, .int .i64 (n : Int), .slice A1 n1 c1, .slice A2 n2 c2, .slice A3 n3 c3] 26 (0, 0)) from hx.block ((Ext.alloc _ _).block ((Ext.alloc _ _).block (heap_at _ _ _ (by simp)))))
  have BO := Lib.hid (show w1.heap[w.heap.size + 1]? = some (.cells #[.int .i64 0, .slice none 0 0, .slice none 0 0, .slice none 0 0] 29 (0, 0)) from hx.block ((Ext.alloc _ _).block (heap_at _ _ _ (by simp))))
  have BX := Lib.hid (show w1.heap[w.heap.size + 2]? = some (.cells #[.int .i64 0, .slice none 0 0, .slice none 0 0, .slice none 0 0] 29 (0, 0)) from hx.block (heap_at _ _ _ (by simp)))
  have X := Lib.hid Z.out
  clear hx Z
  obtain ⟨d0, d1, d2, d3, d4, d5⟩ := cells6 BA.out
  obtain ⟨f0, f1, f2, f3⟩ := cells4 BO.out
  obtain ⟨g0, g1, g2, g3⟩ := cells4 BX.out
  have hz := lt_of_heap BX.out
  go_wp2_with fail
  clear d0 d1 d2 d3 d4 d5 f0 f1 f2 f3 g0 g1 g2 g3
  go_loopw [6, 7, 8] (fun i _ _ wr => ∃ (k : Nat) (A5 : Option Addr) (c5 : Nat), k ≤ n ∧ i = .int .i64 (k : Int) ∧ Hid (wr.heap[w.heap.size]? = w1.heap[w.heap.size]?) ∧ Hid (wr.heap[w.heap.size + 1]? = w1.heap[w.heap.size + 1]?) ∧ Hid (wr.heap[w.heap.size + 2]? = some (.cells #[.int .i64 0, .slice A5 k c5, .slice none 0 0, .slice none 0 0] 29 (0, 0))) ∧
    Hid (Own wr w1.heap.size 4 IsBo A5 k c5 (((List.range k).map (ubit (b.drop 2))).map cL)) ∧ Hid (Ext w wr) ∧ Hid (w1.heap.size ≤ wr.heap.size)) (fun i _ _ _ => n - (intOf i).toNat)
  case atStart => exact ⟨0, none, 0, Nat.zero_le _, rfl, Lib.hid rfl, Lib.hid rfl, BX, Lib.hid (Own.nil_ _ _ _ _), X, Lib.hid (Nat.le_refl _)⟩
  case round =>
    obtain ⟨k, A5, c5, hk, rfl, H1, H2, H3, HO, HX, HZ⟩ := hrel
    obtain ⟨d0, d1, d2, d3, d4, d5⟩ := cells6 (H1.out.trans BA.out)
    rcases Nat.lt_or_ge k n with hlt | hge
    · have hqN : 2 + k / 8 < N := by omega
      obtain ⟨b1, o1, rfl, hb1, hl1, hc1⟩ := (HR.out.ext HX.out).u8at hqN
      have hx := b[2 + k / 8].toNat_lt
      have hub : ubit (b.drop 2) k = decide (b[2 + k / 8].toNat / 2 ^ (k % 8) % 2 = 1) := by
        unfold ubit
        rw [List.getD_eq_getElem?_getD, List.getElem?_drop, List.getElem?_eq_getElem hl1]
        rfl
      have Hub := Lib.hid hub
      generalize b[2 + k / 8].toNat = Xb at *
      have e1 : (k : Int).tdiv 8 = ((k / 8 : Nat) : Int) := by rw [Int.tdiv_eq_ediv_of_nonneg (by omega)]; rfl
      have e2 : (k : Int).tmod 8 = ((k % 8 : Nat) : Int) := by rw [Int.tmod_eq_emod_of_nonneg (by omega)]; rfl
      have hm8 : k % 8 < 8 := Nat.mod_lt _ (by omega)
      have H8 := Lib.hid hnd2
      obtain ⟨q, hq⟩ : ∃ q, k / 8 = q := ⟨_, rfl⟩
      obtain ⟨m, hm⟩ : ∃ m, k % 8 = m := ⟨_, rfl⟩
      rw [hq] at e1 hqN hc1
      rw [hm] at e2 hm8 Hub
      have hqi : (2 : Int) + (q : Int) < (N : Int) := by omega
      clear hub hl1 hq hm hnd2
      go_wp2_with fail
      go_loopw [7, 8] (fun x j wr2 => ∃ (jj : Nat) (y : Nat), jj ≤ m ∧ x = .int .i64 (y : Int) ∧ Hid (y = Xb / 2 ^ jj) ∧ y ≤ 255 ∧ j = .int .i64 (jj : Int) ∧ wr2 = wr) (fun _ j _ => m - (intOf j).toNat)
      case atStart => exact ⟨0, Xb, Nat.zero_le _, rfl, Lib.hid (by simp), by omega, rfl, by first | rfl | trivial⟩
      case round =>
        obtain ⟨jj, y, hj, rfl, Hy, hy, rfl, rfl⟩ := hrel
        rcases Nat.lt_or_ge jj m with hjl | hjg
        · have e3 : (y : Int).tdiv 2 = ((y / 2 : Nat) : Int) := by rw [Int.tdiv_eq_ediv_of_nonneg (by omega)]; rfl
          go_wp2_with fail
          go_roundw
          case rel => exact ⟨jj + 1, y / 2, by omega, by first | rfl | (simp; omega), Lib.hid (by rw [Hy.out, Nat.div_div_eq_div_mul, Nat.pow_succ]), by omega, by go_num, by first | rfl | trivial⟩
          case measure => simp [intOf]; omega
        · obtain rfl : jj = m := by omega
          have e3 : (y : Int).tmod 2 = ((y % 2 : Nat) : Int) := by rw [Int.tmod_eq_emod_of_nonneg (by omega)]; rfl
          have hbit : ((y : Int) % 2 == 1) = ubit (b.drop 2) k := by
            rw [Hub.out, ← Hy.out, Bool.eq_iff_iff, beq_iff_eq, decide_eq_true_eq]; omega
          have HBit := Lib.hid hbit
          clear hbit
          obtain ⟨g0, g1, g2, g3⟩ := cells4 H3.out
          have hlt2 : w.heap.size + 2 < wr.heap.size := lt_of_heap H3.out
          go_wp2_with (at_builtin; refine app_bo _ rfl (.tmp 38) (.tmp 42) rfl rfl (HO.out.ext (Ext.alloc _ _)) rfl (Rd.one _ _ _) (by intro u hu; simp at hu; subst hu; exact ⟨_, rfl⟩) (by omega) (by simp; have := HZ.out; omega) ?_
                       intro A2 c2 w2 hown hg hbk
                       have hne : ∀ g, g ≤ w.heap.size + 2 → some g ≠ blk A5 := fun g hg' e => by have := (HO.out.lt g e.symm).1; omega
                       have K1 := Lib.hid ((hg.block w.heap.size (by simp; omega) (hne _ (by omega))).trans (((Ext.alloc wr _).below.block w.heap.size (by omega)).trans H1.out))
                       have K2 := Lib.hid ((hg.block (w.heap.size + 1) (by simp; omega) (hne _ (by omega))).trans (((Ext.alloc wr _).below.block (w.heap.size + 1) (by omega)).trans H2.out))
                       have K3 := Lib.hid ((hg.block (w.heap.size + 2) (by simp; omega) (hne _ (by omega))).trans ((Ext.alloc wr _).block H3.out))
                       have KX := Lib.hid ((HX.out.trans (Ext.alloc _ _)).grown' hg (fun g e => by have := (HO.out.lt g e).1; omega))
                       have KZ := Lib.hid (Nat.le_trans HZ.out (Nat.le_trans (Ext.alloc _ _).size hg.size))
                       have KO := Lib.hid hown
                       clear g0 g1 g2 g3 hown hg hbk hne
                       obtain ⟨g0, g1, g2, g3⟩ := cells4 K3.out
                       have z1 := frozen_of_row _ _ 1 _ _ K3.out)
          go_roundw
          case rel =>
            refine ⟨k + 1, A2, c2, by omega, by go_num, Lib.hid ?_, Lib.hid ?_, Lib.hid (heap_setCell_same _ _ _ _ _ _ K3.out), Lib.hid ?_, Lib.hid (KX.out.set' (by simp <;> omega) _), Lib.hid (by simp; exact KZ.out)⟩
            · exact (Below.heap_setCell _ ⟨w.heap.size + 2, 1, none⟩ _ w.heap.size (by simp)).trans K1.out
            · exact (Below.heap_setCell _ ⟨w.heap.size + 2, 1, none⟩ _ (w.heap.size + 1) (by simp)).trans K2.out
            · refine Own.set_below ?_ (by simp; omega) _
              have h := KO.out
              rw [HBit.out] at h
              rw [List.range_succ, List.map_append, List.map_append]
              exact h
          case measure => simp [intOf]; omega
    · obtain rfl : k = n := by omega
      replace BA := Lib.hid (H1.out.trans BA.out)
      replace BO := Lib.hid (H2.out.trans BO.out)
      have BX := H3
      replace X := HX
      clear H1 H2 HX d0 d1 d2 d3 d4 d5
      obtain ⟨d0, d1, d2, d3, d4, d5⟩ := cells6 BA.out
      go_wp2_with fail
      refine (HW.out _).mono ?_
      rintro e w2 ⟨rfl, hx⟩
      have Z := Lib.hid (show Ext wr w2 from hx)
      replace BA := Lib.hid (Z.out.block BA.out)
      replace BO := Lib.hid (Z.out.block BO.out)
      replace BX := Lib.hid (Z.out.block BX.out)
      replace X := Lib.hid (X.out.trans Z.out)
      replace HO := Lib.hid (HO.out.ext Z.out)
      clear d0 d1 d2 d3 d4 d5
      clear hx Z
      obtain ⟨d0, d1, d2, d3, d4, d5⟩ := cells6 BA.out
      obtain ⟨f0, f1, f2, f3⟩ := cells4 BO.out
      obtain ⟨g0, g1, g2, g3⟩ := cells4 BX.out
      go_wp2_with fail
      refine wp_loop_rounds 1 ?_
      rw [rounds_succ]
      go_wp2_with fail
      refine (HF.out _).mono ?_
      rintro e w3 ⟨rfl, hx⟩
      have Z := Lib.hid (show Ext w2 w3 from hx)
      replace BA := Lib.hid (Z.out.block BA.out)
      replace BO := Lib.hid (Z.out.block BO.out)
      replace BX := Lib.hid (Z.out.block BX.out)
      replace X := Lib.hid (X.out.trans Z.out)
      replace HO := Lib.hid (HO.out.ext Z.out)
      clear d0 d1 d2 d3 d4 d5 f0 f1 f2 f3 g0 g1 g2 g3
      clear hx Z
      obtain ⟨d0, d1, d2, d3, d4, d5⟩ := cells6 BA.out
      obtain ⟨f0, f1, f2, f3⟩ := cells4 BO.out
      obtain ⟨g0, g1, g2, g3⟩ := cells4 BX.out
      have u0 := frozen_of_row _ _ 0 _ _ BO.out
      have u1 := frozen_of_row _ _ 1 _ _ BO.out
      have u2 := frozen_of_row _ _ 2 _ _ BO.out
      have u3 := frozen_of_row _ _ 3 _ _ BO.out
      have v0 := frozen_of_row _ _ 0 _ _ BX.out
      have v1 := frozen_of_row _ _ 1 _ _ BX.out
      have v2 := frozen_of_row _ _ 2 _ _ BX.out
      have v3 := frozen_of_row _ _ 3 _ _ BX.out
      go_wp2_with fail
      refine bodyPost_ret (v := repV ⟨0, (List.range k).map (ubit (b.drop 2)), [], []⟩ ⟨A5, k, c5, none, 0, 0, none, 0, 0⟩) (by simp [results, Try.results81, go_sem, repV, rep0, repS0, *]) rfl ⟨_, rfl, ?_, ?_⟩
      · refine RepOw.mono (base := w.heap.size + 3) ?_ (by omega)
        repeat' (first | with_reducible exact (⟨HO.out.mono (by omega), Own.nil_ _ _ _ _, OwL.nil_ _ _ _ _, rfl, by simp, by unfold i64P; simp⟩ : RepOw w3 (w.heap.size + 3) ⟨0, (List.range k).map (ubit (b.drop 2)), [], []⟩ ⟨A5, k, c5, none, 0, 0, none, 0, 0⟩) | with_reducible refine RepOw.set_below ?_ (by simp) _)
      · repeat' (first | with_reducible exact X.out | with_reducible refine Ext.set' ?_ (by simp <;> omega) _)
theorem shape_files (code addr count : Int) (A1 A2 A3 : Option Addr) (n1 c1 n2 c2 n3 c3 : Nat) (w : World) (parts : List PartD) (hp : RdL partK w A3 n3 parts) (hn3 : n3 ≤ 35) (A : Option Addr) (N c : Nat) (b : List UInt8) (hb : Rd w A N (b.map cB)) (hs : 2 + sumP parts = (N : Int)) (hg : parts.any (fun p => decide (badP p)) = false) (hN : N ≤ 253) (hc : N ≤ c ∧ c ≤ 9223372036854775807) (HB : Hid (∀ W, Calls Try.prog 56 #[.agg #[.int .i64 code, .int .i64 addr, .int .i64 count, .slice A1 n1 c1, .slice A2 n2 c2, .slice A3 n3 c3]] W (RetQ W false)))(HW : Hid (∀ W, Calls Try.prog 57 #[.agg #[.int .i64 code, .int .i64 addr, .int .i64 count, .slice A1 n1 c1, .slice A2 n2 c2, .slice A3 n3 c3]] W (RetQ W false)))(HF : Hid (∀ W, Calls Try.prog 58 #[.agg #[.int .i64 code, .int .i64 addr, .int .i64 count, .slice A1 n1 c1, .slice A2 n2 c2, .slice A3 n3 c3]] W (RetQ W true))) :
    Calls Try.prog 81 #[.agg #[.int .i64 code, .int .i64 addr, .int .i64 count, .slice A1 n1 c1, .slice A2 n2 c2, .slice A3 n3 c3], .slice A N c] w (RetSh w ⟨0, [], [], rowsOf parts (b.drop 2)⟩) := by
  have HR := Lib.hid hb
  have HBL := Lib.hid hb.length
  have HP := Lib.hid hp; have HG := Lib.hid hg; have HS := Lib.hid hs; have HL3 := Lib.hid hp.length
  obtain ⟨R, hR⟩ : ∃ R, rowsOf parts (b.drop 2) = R := ⟨_, rfl⟩
  rw [hR]
  have HR0 := Lib.hid hR
  clear hb hp hg hs hR
  go_enter Try.func81, Try.ntmps81
  go_wp2_with fail
  refine (HB.out _).mono ?_
  rintro e w1 ⟨rfl, hx⟩
  have Z := Lib.hid (show Ext w w1 from (((Ext.alloc _ _).trans (Ext.alloc _ _)).trans (Ext.alloc _ _)).trans hx)
  have BA := Lib.hid (show w1.heap[w.heap.size]? = some (.cells #[.int .i64 code, .int .i64 addr, .int .i64 count, .slice A1 n1 c1, .slice A2 n2 c2, .slice A3 n3 c3] 26 (0, 0)) from hx.block ((Ext.alloc _ _).block ((Ext.alloc _ _).block (heap_at _ _ _ (by simp)))))
  have BO := Lib.hid (show w1.heap[w.heap.size + 1]? = some (.cells #[.int .i64 0, .slice none 0 0, .slice none 0 0, .slice none 0 0] 29 (0, 0)) from hx.block ((Ext.alloc _ _).block (heap_at _ _ _ (by simp))))
  have BX := Lib.hid (show w1.heap[w.heap.size + 2]? = some (.cells #[.int .i64 0, .slice none 0 0, .slice none 0 0, .slice none 0 0] 29 (0, 0)) from hx.block (heap_at _ _ _ (by simp)))
  have X := Lib.hid Z.out
  clear hx Z
  obtain ⟨d0, d1, d2, d3, d4, d5⟩ := cells6 BA.out
  obtain ⟨f0, f1, f2, f3⟩ := cells4 BO.out
  obtain ⟨g0, g1, g2, g3⟩ := cells4 BX.out
  go_wp2_with fail
  refine (HW.out _).mono ?_
  rintro e w2 ⟨rfl, hx⟩
  have Z := Lib.hid (show Ext w1 w2 from hx)
  replace BA := Lib.hid (Z.out.block BA.out)
  replace BO := Lib.hid (Z.out.block BO.out)
  replace BX := Lib.hid (Z.out.block BX.out)
  replace X := Lib.hid (X.out.trans Z.out)
  clear d0 d1 d2 d3 d4 d5 f0 f1 f2 f3 g0 g1 g2 g3
  clear hx Z
  obtain ⟨d0, d1, d2, d3, d4, d5⟩ := cells6 BA.out
  obtain ⟨f0, f1, f2, f3⟩ := cells4 BO.out
  obtain ⟨g0, g1, g2, g3⟩ := cells4 BX.out
  have hz := lt_of_heap BX.out
  go_wp2_with fail
  clear d0 d1 d2 d3 d4 d5 f0 f1 f2 f3 g0 g1 g2 g3
  go_loopw [9, 10, 11, 12, 13] (fun x i _ _ _ wr => ∃ (k at_ : Nat) (A5 : Option Addr) (c5 : Nat) (done : List (List UInt16)), k ≤ n3 ∧ x = .int .i64 (at_ : Int) ∧ i = .int .i64 (k : Int) ∧ Hid ((at_ : Int) = 2 + sumP (parts.take k)) ∧ Hid (done.length = k) ∧ Hid (R = done ++ rowsOf (parts.drop k) (b.drop at_)) ∧
    Hid (wr.heap[w.heap.size]? = w2.heap[w.heap.size]?) ∧ Hid (wr.heap[w.heap.size + 1]? = w2.heap[w.heap.size + 1]?) ∧ Hid (wr.heap[w.heap.size + 2]? = some (.cells #[.int .i64 0, .slice none 0 0, .slice none 0 0, .slice A5 k c5] 29 (0, 0))) ∧
    Hid (OwL (fileO w2.heap.size) wr w2.heap.size 23 (.slice A5 k c5) done) ∧ Hid (Ext w wr) ∧ Hid (w2.heap.size ≤ wr.heap.size)) (fun _ i _ _ _ _ => n3 - (intOf i).toNat)
  case atStart => exact ⟨0, 2, none, 0, [], Nat.zero_le _, rfl, rfl, Lib.hid (by simp [sumP]), Lib.hid rfl, Lib.hid (by rw [List.drop_zero, HR0.out]; rfl), Lib.hid rfl, Lib.hid rfl, BX, Lib.hid (OwL.nil_ _ _ _ _), X, Lib.hid (Nat.le_refl _)⟩
  case round =>
    obtain ⟨k, at_, A5, c5, done, hk, rfl, rfl, Hat, Hdl, HRd, H1, H2, H3, HO, HX, HZ⟩ := hrel
    have B1 := BA; have B2 := BO
    replace BA := Lib.hid (H1.out.trans BA.out)
    replace BO := Lib.hid (H2.out.trans BO.out)
    replace BX := H3
    have X1 := X
    replace X := HX
    clear H1 H2 H3
    obtain ⟨d0, d1, d2, d3, d4, d5⟩ := cells6 BA.out
    go_wp2_with fail
    refine (HF.out _).mono ?_
    rintro e w3 ⟨rfl, hx⟩
    have Z := Lib.hid (show Ext wr w3 from hx)
    replace BA := Lib.hid (Z.out.block BA.out)
    replace BO := Lib.hid (Z.out.block BO.out)
    replace BX := Lib.hid (Z.out.block BX.out)
    replace X := Lib.hid (X.out.trans Z.out)
    replace HO := Lib.hid (HO.out.ext Z.out)
    have KZ := Lib.hid (Nat.le_trans HZ.out Z.out.size)
    clear d0 d1 d2 d3 d4 d5
    clear hx Z
    obtain ⟨d0, d1, d2, d3, d4, d5⟩ := cells6 BA.out
    obtain ⟨f0, f1, f2, f3⟩ := cells4 BO.out
    obtain ⟨g0, g1, g2, g3⟩ := cells4 BX.out
    rcases Nat.lt_or_ge k n3 with hlt | hge
    · obtain ⟨b1, o1, p, hpk, rfl, hb1, -, -, e2, -⟩ := part_cells (HP.out.ext X.out) hlt
      obtain ⟨hkl, hpe⟩ := List.getElem?_eq_some_iff.1 hpk
      have hdk : parts.drop k = p :: parts.drop (k + 1) := by rw [List.drop_eq_getElem_cons hkl, hpe]
      have hbad : ¬ badP p := by
        have h1 := (List.any_eq_false.1 HG.out) p (hpe ▸ List.getElem_mem hkl)
        simpa using h1
      unfold badP at hbad
      obtain ⟨L, hL⟩ : ∃ L : Nat, p.len = (L : Int) := ⟨p.len.toNat, by omega⟩
      have hL1 : 1 ≤ L := by omega
      have hLt : p.len.toNat = L := by omega
      have hs2 := sumP_split parts k
      have hs3 := sumP_nn (k := k + 1) HG.out
      have hs4 := sumP_tn (k := k) HG.out
      rw [hdk] at hs2
      simp only [sumP] at hs2
      have hat := Hat.out
      have hN2 := HS.out
      have hbound : at_ + 2 + 2 * L ≤ N := by omega
      have hnext : ((at_ + 2 + 2 * L : Nat) : Int) = 2 + sumP (parts.take (k + 1)) := by
        have h5 := sumP_split parts (k + 1)
        omega
      have hro := HRd.out
      rw [hdk] at hro
      simp only [rowsOf, hLt, List.drop_drop] at hro
      rw [← Nat.add_assoc] at hro
      have hT2 : (((b.drop (at_ + 2)).take (2 * L))).length = 2 * L := by rw [List.length_take, List.length_drop]; have := HBL.out; omega
      have hwf : wordsF ((b.drop (at_ + 2)).take (2 * L)) = (bw ((b.drop (at_ + 2)).take (2 * L)), 0) := by unfold wordsF; rw [if_neg (by rw [hT2]; omega)]
      have hbwl : (bw ((b.drop (at_ + 2)).take (2 * L))).length = L := by rw [bw_length, hT2]; omega
      rw [hL] at e2
      have hrc : ∀ W, Ext w W → Rd W (Option.map (fun x => x.add (at_ + 2)) A) (2 * L) (((b.drop (at_ + 2)).take (2 * L)).map cB) := fun W hX => by
        rw [List.map_take, List.map_drop]; exact (HR.out.ext hX).cut (by omega)
      have HCUT := Lib.hid hrc
      have HCALL := Lib.hid (fun W A' c' (hr : Rd W A' (2 * L) (((b.drop (at_ + 2)).take (2 * L)).map cB)) => refWords_any ((b.drop (at_ + 2)).take (2 * L)) A' (2 * L) c' W hr (by omega))
      rw [hwf] at HCALL
      simp only at HCALL
      have HRo := Lib.hid hro; have Hnx := Lib.hid hnext; have HBW := Lib.hid hbwl; have HB2 := Lib.hid hbound
      generalize bw ((b.drop (at_ + 2)).take (2 * L)) = Fw at *
      generalize (b.drop (at_ + 2)).take (2 * L) = rr at *
      have hLs : L ≤ 125 := by omega
      have hats : at_ ≤ 253 := by omega
      have hb63 : (at_ : Int) + 2 + 2 * (L : Int) ≤ (N : Int) := by omega
      have hcN : (N : Int) ≤ (c : Int) := by omega
      have hz3 := HZ.out
      clear hpk hkl hpe hdk hbad hL hLt hs2 hs3 hs4 hat hN2 hbound hnext hro hT2 hwf hbwl hrc
      obtain ⟨g0, g1, g2, g3⟩ := cells4 BX.out
      have hcne : ¬ c = at_ + 2 := by omega
      go_wp2_with fail
      refine (HCALL.out _ _ _ (HCUT.out _ X.out)).mono ?_
      rintro e w4 ⟨A7, n7, c7, rfl, ho7, hb7⟩
      obtain rfl : L = n7 := by have h1 := ho7.len; have h2 := HBW.out; simp at h1; omega
      have hX4 : Ext w3 w4 := Ext.of hb7
      have K1 := Lib.hid (hX4.block BA.out); have K2 := Lib.hid (hX4.block BO.out); have K3 := Lib.hid (hX4.block BX.out)
      have KX := Lib.hid (X.out.trans hX4)
      have KO := Lib.hid (HO.out.ext hX4)
      have KZ4 := Lib.hid (Nat.le_trans KZ.out hX4.size)
      have HO7 := Lib.hid (show Own w4 w2.heap.size 54 IsU16 A7 L c7 (Fw.map cW) from ho7.mono KZ.out)
      clear hX4 ho7 hb7 d0 d1 d2 d3 d4 d5 g0 g1 g2 g3
      obtain ⟨g0, g1, g2, g3⟩ := cells4 K3.out
      have hdl := Hdl.out
      go_wp2_with (at_builtin; refine app_file _ rfl (.tmp 85) (.tmp 87) rfl rfl (KO.out.ext (Ext.alloc _ _)) rfl (heap_alloc_new w4 _) (HO7.out.ext (Ext.alloc _ _)) (by omega) (by omega) (by have := KZ4.out; simp; omega) ?_
                   intro v5 w5 hol hg hlo
                   have hne : ∀ g, g ≤ w.heap.size + 2 → some g ≠ (Value.slice A5 k c5).ownBlock := fun g hg' e => by have := hlo g e.symm; omega
                   have hlt2 : w.heap.size + 2 < w4.heap.size := lt_of_heap K3.out
                   have M1 := Lib.hid ((hg.block w.heap.size (by simp; omega) (hne _ (by omega))).trans ((Ext.alloc w4 _).block K1.out))
                   have M2 := Lib.hid ((hg.block (w.heap.size + 1) (by simp; omega) (hne _ (by omega))).trans ((Ext.alloc w4 _).block K2.out))
                   have M3 := Lib.hid ((hg.block (w.heap.size + 2) (by simp; omega) (hne _ (by omega))).trans ((Ext.alloc w4 _).block K3.out))
                   have MX := Lib.hid ((KX.out.trans (Ext.alloc _ _)).grown' hg (fun g e => by have := hlo g e; omega))
                   have MZ := Lib.hid (Nat.le_trans KZ4.out (Nat.le_trans (Ext.alloc _ _).size hg.size))
                   obtain ⟨A8, c8, hv, -⟩ := hol.form
                   have hl8 : (done ++ [Fw]).length = k + 1 := by simp; exact hdl
                   rw [hl8] at hv
                   subst hv
                   have MO := Lib.hid hol
                   clear g0 g1 g2 g3 hol hg hlo hne hl8
                   obtain ⟨g0, g1, g2, g3⟩ := cells4 M3.out
                   have z3 := frozen_of_row _ _ 3 _ _ M3.out)
      go_roundw
      case rel =>
        refine ⟨k + 1, at_ + 2 + 2 * L, A8, c8, done ++ [Fw], by omega, by first | rfl | (simp; omega), by go_num, Hnx, Lib.hid (by simp; exact Hdl.out), Lib.hid (by rw [HRo.out]; simp), Lib.hid ?_, Lib.hid ?_, Lib.hid (heap_setCell_same _ _ _ _ _ _ M3.out), Lib.hid ?_, Lib.hid (MX.out.set' (by simp <;> omega) _), Lib.hid (by simp; exact MZ.out)⟩
        · exact (Below.heap_setCell _ ⟨w.heap.size + 2, 3, none⟩ _ w.heap.size (by simp)).trans (M1.out.trans B1.out.symm)
        · exact (Below.heap_setCell _ ⟨w.heap.size + 2, 3, none⟩ _ (w.heap.size + 1) (by simp)).trans (M2.out.trans B2.out.symm)
        · exact OwL.set_belowO MO.out (by simp; omega) _
      case measure => simp [intOf]; omega
    · obtain rfl : k = n3 := by omega
      have hl3 := HL3.out
      have hro := HRd.out
      rw [List.drop_of_length_le (by omega)] at hro
      have hro2 : R = done := by rw [hro]; simp [rowsOf]
      subst hro2
      have hdl := Hdl.out
      have hz3 := HZ.out
      clear hro
      have u0 := frozen_of_row _ _ 0 _ _ BO.out
      have u1 := frozen_of_row _ _ 1 _ _ BO.out
      have u2 := frozen_of_row _ _ 2 _ _ BO.out
      have u3 := frozen_of_row _ _ 3 _ _ BO.out
      have v0 := frozen_of_row _ _ 0 _ _ BX.out
      have v1 := frozen_of_row _ _ 1 _ _ BX.out
      have v2 := frozen_of_row _ _ 2 _ _ BX.out
      have v3 := frozen_of_row _ _ 3 _ _ BX.out
      obtain ⟨x0, x1, x2, x3⟩ := cells4 BX.out
      obtain ⟨y0, y1, y2, y3⟩ := cells4 BO.out
      go_wp2_with fail
      refine bodyPost_ret (v := repV ⟨0, [], [], R⟩ ⟨none, 0, 0, none, 0, 0, A5, k, c5⟩) (by simp [results, Try.results81, go_sem, repV, rep0, repS0, *]) rfl ⟨_, rfl, ?_, ?_⟩
      · refine RepOw.mono (base := w.heap.size + 3) ?_ (by omega)
        have hfm := HO.out.form
        obtain ⟨A8, c8, hv, h91, h92, -⟩ := hfm
        rw [hdl] at hv
        injection hv with _ _ hc8
        subst hc8
        have h93 : k ≤ c5 := by omega
        have hO3 := OwL.monoO HO.out (show w.heap.size + 3 ≤ w2.heap.size by omega)
        repeat' (first | with_reducible exact (⟨Own.nil_ _ _ _ _, Own.nil_ _ _ _ _, hO3, hdl, ⟨h93, h92⟩, by unfold i64P; simp⟩ : RepOw w3 (w.heap.size + 3) ⟨0, [], [], R⟩ ⟨none, 0, 0, none, 0, 0, A5, k, c5⟩) | with_reducible refine RepOw.set_below ?_ (by simp) _)
      · repeat' (first | with_reducible exact X.out | with_reducible refine Ext.set' ?_ (by simp <;> omega) _)
end Go.Proofs.Ytpjmhckdeeonbaa
