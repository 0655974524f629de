/- Contracts of the reference's Length and shape (chapter 04). (genreps.py prints this.) -/
import Derived.Test.YtpjmhckdeeonbaaRepQ2
import Derived.Test.YtpjmhckdeeonbaaRepGA
namespace Go.Out
open Go Go.RowKit
set_option linter.unusedVariables false
/-- The rows that bytes of the right length would be. -/
def rowsOf : List PartD → List UInt8 → List (List UInt16)
  | [], _ => []
  | p :: ps, r => bw ((r.drop 2).take (2 * p.len.toNat)) :: rowsOf ps (r.drop (2 + 2 * p.len.toNat))
/-- The answer that bytes of the right length would be. -/
def shapeR (a : AskD) (b : List UInt8) : RepD :=
  if a.code = 1 ∨ a.code = 2 then ⟨0, (List.range a.count.toNat).map (ubit (b.drop 2)), [], []⟩
  else if a.code = 3 ∨ a.code = 4 then ⟨0, [], bw (b.drop 2), []⟩
  else if a.code = 20 then ⟨0, [], [], rowsOf a.parts (b.drop 2)⟩ else rep0
end Go.Out
namespace Go.Proofs.Ytpjmhckdeeonbaa
set_option linter.unusedVariables false
set_option linter.unusedSimpArgs false
set_option maxRecDepth 100000
set_option maxHeartbeats 2000000
open Go Go.RowKit Go.Out

theorem len4_bits (code addr count : Int) (A1 A2 A3 : Option Addr) (n1 c1 n2 c2 n3 c3 : Nat) (w : World) (m : Nat) (hm : count = (m : Int)) (hm2 : m ≤ 2000) (HB : Hid (∀ W, Calls Try.prog 56 #[.agg #[.int .i64 code, .int .i64 addr, .int .i64 count, .slice A1 n1 c1, .slice A2 n2 c2, .slice A3 n3 c3]] W (RetQ W true))) :
    Calls Try.prog 80 #[.agg #[.int .i64 code, .int .i64 addr, .int .i64 count, .slice A1 n1 c1, .slice A2 n2 c2, .slice A3 n3 c3]] w (RetI w (2 + (need m : Nat))) := by
  subst hm
  have hnd := need_le hm2
  go_enter Try.func80, Try.ntmps80
  go_wp2_with fail
  refine (HB.out _).mono ?_
  rintro e w1 ⟨rfl, hx⟩
  have Z := Lib.hid (show Ext w w1 from (Ext.alloc _ _).trans hx)
  have BA := Lib.hid (show w1.heap[w.heap.size]? = some (.cells #[.int .i64 code, .int .i64 addr, .int .i64 (m : Int), .slice A1 n1 c1, .slice A2 n2 c2, .slice A3 n3 c3] 26 (0, 0)) from hx.block (heap_at _ _ _ (by simp)))
  have X := Lib.hid Z.out
  clear hx Z
  obtain ⟨d0, d1, d2, d3, d4, d5⟩ := cells6 BA.out
  go_wp2_with fail
  refine (refNeed_any m _ (by omega)).mono ?_
  rintro e v_ ⟨rfl, rfl⟩
  go_wp2_with fail
  go_ret
  exact RetI.of (by simp) X.out
theorem len4_words (code addr count : Int) (A1 A2 A3 : Option Addr) (n1 c1 n2 c2 n3 c3 : Nat) (w : World) (h : 0 ≤ count) (hm2 : count ≤ 2000) (HB : Hid (∀ W, Calls Try.prog 56 #[.agg #[.int .i64 code, .int .i64 addr, .int .i64 count, .slice A1 n1 c1, .slice A2 n2 c2, .slice A3 n3 c3]] W (RetQ W false)))(HW : Hid (∀ W, Calls Try.prog 57 #[.agg #[.int .i64 code, .int .i64 addr, .int .i64 count, .slice A1 n1 c1, .slice A2 n2 c2, .slice A3 n3 c3]] W (RetQ W true))) :
    Calls Try.prog 80 #[.agg #[.int .i64 code, .int .i64 addr, .int .i64 count, .slice A1 n1 c1, .slice A2 n2 c2, .slice A3 n3 c3]] w (RetI w (2 + 2 * count)) := by
  go_enter Try.func80, Try.ntmps80
  go_wp2_with fail
  refine (HB.out _).mono ?_
  rintro e w1 ⟨rfl, hx⟩
  have Z := Lib.hid (show Ext w w1 from (Ext.alloc _ _).trans hx)
  have BA := Lib.hid (show w1.heap[w.heap.size]? = some (.cells #[.int .i64 code, .int .i64 addr, .int .i64 count, .slice A1 n1 c1, .slice A2 n2 c2, .slice A3 n3 c3] 26 (0, 0)) from hx.block (heap_at _ _ _ (by simp)))
  have X := Lib.hid Z.out
  clear hx Z
  obtain ⟨d0, d1, d2, d3, d4, d5⟩ := cells6 BA.out
  go_wp2_with fail
  refine (HW.out _).mono ?_
  rintro e w2 ⟨rfl, hx⟩
  have Z := Lib.hid (show Ext w1 w2 from hx)
  replace BA := Lib.hid (Z.out.block BA.out)
  replace X := Lib.hid (X.out.trans Z.out)
  clear d0 d1 d2 d3 d4 d5
  clear hx Z
  obtain ⟨d0, d1, d2, d3, d4, d5⟩ := cells6 BA.out
  go_wp2_with fail
  go_ret
  exact RetI.of (by simp) X.out
theorem len4_write (code addr count : Int) (A1 A2 A3 : Option Addr) (n1 c1 n2 c2 n3 c3 : Nat) (w : World) (HB : Hid (∀ W, Calls Try.prog 56 #[.agg #[.int .i64 code, .int .i64 addr, .int .i64 count, .slice A1 n1 c1, .slice A2 n2 c2, .slice A3 n3 c3]] W (RetQ W false)))(HW : Hid (∀ W, Calls Try.prog 57 #[.agg #[.int .i64 code, .int .i64 addr, .int .i64 count, .slice A1 n1 c1, .slice A2 n2 c2, .slice A3 n3 c3]] W (RetQ W false)))(HF : Hid (∀ W, Calls Try.prog 58 #[.agg #[.int .i64 code, .int .i64 addr, .int .i64 count, .slice A1 n1 c1, .slice A2 n2 c2, .slice A3 n3 c3]] W (RetQ W false))) :
    Calls Try.prog 80 #[.agg #[.int .i64 code, .int .i64 addr, .int .i64 count, .slice A1 n1 c1, .slice A2 n2 c2, .slice A3 n3 c3]] w (RetI w 5) := by
  go_enter Try.func80, Try.ntmps80
  go_wp2_with fail
  refine (HB.out _).mono ?_
  rintro e w1 ⟨rfl, hx⟩
  have Z := Lib.hid (show Ext w w1 from (Ext.alloc _ _).trans hx)
  have BA := Lib.hid (show w1.heap[w.heap.size]? = some (.cells #[.int .i64 code, .int .i64 addr, .int .i64 count, .slice A1 n1 c1, .slice A2 n2 c2, .slice A3 n3 c3] 26 (0, 0)) from hx.block (heap_at _ _ _ (by simp)))
  have X := Lib.hid Z.out
  clear hx Z
  obtain ⟨d0, d1, d2, d3, d4, d5⟩ := cells6 BA.out
  go_wp2_with fail
  refine (HW.out _).mono ?_
  rintro e w2 ⟨rfl, hx⟩
  have Z := Lib.hid (show Ext w1 w2 from hx)
  replace BA := Lib.hid (Z.out.block BA.out)
  replace X := Lib.hid (X.out.trans Z.out)
  clear d0 d1 d2 d3 d4 d5
  clear hx Z
  obtain ⟨d0, d1, d2, d3, d4, d5⟩ := cells6 BA.out
  go_wp2_with fail
  refine (HF.out _).mono ?_
  rintro e w3 ⟨rfl, hx⟩
  have Z := Lib.hid (show Ext w2 w3 from hx)
  replace BA := Lib.hid (Z.out.block BA.out)
  replace X := Lib.hid (X.out.trans Z.out)
  clear d0 d1 d2 d3 d4 d5
  clear hx Z
  obtain ⟨d0, d1, d2, d3, d4, d5⟩ := cells6 BA.out
  go_wp2_with fail
  go_ret
  exact RetI.of rfl X.out
theorem len4_files (code addr count : Int) (A1 A2 A3 : Option Addr) (n1 c1 n2 c2 n3 c3 : Nat) (w : World) (parts : List PartD) (hp : RdL partK w A3 n3 parts) (hn : n3 ≤ 35) (hg : ∀ i (hi : i < parts.length), ¬ badP parts[i]) (HB : Hid (∀ W, Calls Try.prog 56 #[.agg #[.int .i64 code, .int .i64 addr, .int .i64 count, .slice A1 n1 c1, .slice A2 n2 c2, .slice A3 n3 c3]] W (RetQ W false)))(HW : Hid (∀ W, Calls Try.prog 57 #[.agg #[.int .i64 code, .int .i64 addr, .int .i64 count, .slice A1 n1 c1, .slice A2 n2 c2, .slice A3 n3 c3]] W (RetQ W false)))(HF : Hid (∀ W, Calls Try.prog 58 #[.agg #[.int .i64 code, .int .i64 addr, .int .i64 count, .slice A1 n1 c1, .slice A2 n2 c2, .slice A3 n3 c3]] W (RetQ W true))) :
    Calls Try.prog 80 #[.agg #[.int .i64 code, .int .i64 addr, .int .i64 count, .slice A1 n1 c1, .slice A2 n2 c2, .slice A3 n3 c3]] w (RetI w (2 + sumP (parts.take n3))) := by
  have Hgd := Lib.hid hg; have E3 := Lib.hid hp.length; have HA := Lib.hid hp
  clear hg hp
  go_enter Try.func80, Try.ntmps80
  go_wp2_with fail
  refine (HB.out _).mono ?_
  rintro e w1 ⟨rfl, hx⟩
  have Z := Lib.hid (show Ext w w1 from (Ext.alloc _ _).trans hx)
  have BA := Lib.hid (show w1.heap[w.heap.size]? = some (.cells #[.int .i64 code, .int .i64 addr, .int .i64 count, .slice A1 n1 c1, .slice A2 n2 c2, .slice A3 n3 c3] 26 (0, 0)) from hx.block (heap_at _ _ _ (by simp)))
  have X := Lib.hid Z.out
  clear hx Z
  obtain ⟨d0, d1, d2, d3, d4, d5⟩ := cells6 BA.out
  go_wp2_with fail
  refine (HW.out _).mono ?_
  rintro e w2 ⟨rfl, hx⟩
  have Z := Lib.hid (show Ext w1 w2 from hx)
  replace BA := Lib.hid (Z.out.block BA.out)
  replace X := Lib.hid (X.out.trans Z.out)
  clear d0 d1 d2 d3 d4 d5
  clear hx Z
  obtain ⟨d0, d1, d2, d3, d4, d5⟩ := cells6 BA.out
  go_wp2_with fail
  refine (HF.out _).mono ?_
  rintro e w3 ⟨rfl, hx⟩
  have Z := Lib.hid (show Ext w2 w3 from hx)
  replace BA := Lib.hid (Z.out.block BA.out)
  replace X := Lib.hid (X.out.trans Z.out)
  clear d0 d1 d2 d3 d4 d5
  clear hx Z
  obtain ⟨d0, d1, d2, d3, d4, d5⟩ := cells6 BA.out
  go_wp2_with fail
  clear d0 d1 d2 d3 d4 d5
  go_loopw [3, 4] (fun x j wr => ∃ (k : Nat) (y : Int), k ≤ n3 ∧ x = .int .i64 y ∧ Hid (y = 2 + sumP (parts.take k)) ∧ j = .int .i64 (k : Int) ∧ Hid (Ext w3 wr)) (fun _ j _ => n3 - (intOf j).toNat)
  case atStart => exact ⟨0, 2, by omega, rfl, Lib.hid (by simp [sumP]), rfl, Lib.hid (Ext.refl _)⟩
  case round =>
    obtain ⟨k, y, hk, rfl, HY, rfl, HX⟩ := hrel
    obtain ⟨d0, d1, d2, d3, d4, d5⟩ := cells6 (HX.out.block BA.out)
    rcases Nat.lt_or_ge k n3 with hlt | hge
    · obtain ⟨b1, o1, p, hp, rfl, hb1, -, -, e2, -⟩ := part_cells (HA.out.ext (X.out.trans HX.out)) hlt
      have hkl : k < parts.length := by rw [E3.out]; exact hlt
      have hst := sumP_take hkl
      have hpe : parts[k] = p := by rw [List.getElem?_eq_getElem hkl] at hp; injection hp
      rw [hpe] at hst
      have hbad := Hgd.out k hkl
      rw [hpe] at hbad
      have hbd := sumP_bound Hgd.out (k := k) (by omega)
      have hy := HY.out
      unfold badP at hbad
      generalize p.file = F at *
      generalize p.record = R at *
      generalize p.len = L at *
      have HS := Lib.hid hst
      have b1 : 0 ≤ y ∧ y ≤ 1000000 := by omega
      clear hst hpe hbd hp hy hkl
      go_wp2_with fail
      go_roundw
      case rel => exact ⟨k + 1, y + 2 + 2 * L, by omega, by first | rfl | (simp; omega), Lib.hid (by rw [HS.out, HY.out]; omega), by go_num, HX⟩
      case measure => simp [intOf]; omega
    · obtain rfl : k = n3 := by omega
      have hy := HY.out
      subst hy
      go_wp2_with fail
      go_ret
      exact ⟨rfl, X.out.trans HX.out⟩
theorem ref04Length_any (a : AskD) (s : AskS) (w : World) (ha : AskRd w a s) (hK : checkF a = 0) : Calls Try.prog 80 #[askV a s] w (RetI w (lenR a : Nat)) := by
  have hc := codeP_cases (checkF_parts a hK).1
  obtain ⟨m1, m2, m3⟩ := many_parts hK
  have hp := (checkF_parts a hK).2.2.2.2.2.2.2
  have HB := Lib.hid (fun W => bits04_any a s W)
  have HW := Lib.hid (fun W => words04_any a s W)
  have HF := Lib.hid (fun W => files04_any a s W)
  by_cases h1 : a.code = 1 ∨ a.code = 2
  · have hm := m1 h1
    obtain ⟨m, hmc⟩ := Int.eq_ofNat_of_zero_le (show 0 ≤ a.count by omega)
    rw [lenR1 h1, show a.count.toNat = m by omega]
    rw [decide_eq_true h1] at HB
    exact (len4_bits a.code a.addr a.count s.A1 s.A2 s.A3 s.n1 s.c1 s.n2 s.c2 s.n3 s.c3 w m hmc (by omega) HB).mono fun e w' h => by rw [Int.natCast_add]; exact h
  rw [decide_eq_false h1] at HB
  by_cases h2 : a.code = 3 ∨ a.code = 4
  · have hm := m2 h2
    rw [lenR3 h2]
    rw [decide_eq_true h2] at HW
    exact (len4_words a.code a.addr a.count s.A1 s.A2 s.A3 s.n1 s.c1 s.n2 s.c2 s.n3 s.c3 w (by omega) (by omega) HB HW).mono fun e w' h => by rw [show ((2 + 2 * a.count.toNat : Nat) : Int) = 2 + 2 * a.count by omega]; exact h
  rw [decide_eq_false h2] at HW
  by_cases h3 : a.code = 20
  · have hm := m3 h3
    rw [lenR20 h3]
    rw [decide_eq_true h3] at HF
    have hn := ha.n3
    have hgd : ∀ i (hi : i < a.parts.length), ¬ badP a.parts[i] := fun i hi hbd => by
      have := partsF_bad hi hbd
      omega
    have q3 := sumP_nonneg (partsF_zero hp).1
    refine (len4_files a.code a.addr a.count s.A1 s.A2 s.A3 s.n1 s.c1 s.n2 s.c2 s.n3 s.c3 w a.parts ha.parts (by omega) hgd HB HW HF).mono fun e w' h => ?_
    rw [← hn, List.take_length] at h
    rw [show ((2 + (sumP a.parts).toNat : Nat) : Int) = 2 + sumP a.parts by omega]; exact h
  · rw [decide_eq_false h3] at HF
    rw [lenR5 (by unfold plainC; omega)]
    exact len4_write a.code a.addr a.count s.A1 s.A2 s.A3 s.n1 s.c1 s.n2 s.c2 s.n3 s.c3 w HB HW HF

/-- What the reference's shape hands back. -/
def RetSh (w : World) (r : RepD) (e : Ending) (w' : World) : Prop := ∃ t, e = .returned (repV r t) ∧ RepOw w' w.heap.size r t ∧ Ext w w'

theorem shape_write (code addr count : Int) (A1 A2 A3 : Option Addr) (n1 c1 n2 c2 n3 c3 : Nat) (w : World) (HB : Hid (∀ W, Calls Try.prog 56 #[.agg #[.int .i64 code, .int .i64 addr, .int .i64 count, .slice A1 n1 c1, .slice A2 n2 c2, .slice A3 n3 c3]] W (RetQ W false)))(HW : Hid (∀ W, Calls Try.prog 57 #[.agg #[.int .i64 code, .int .i64 addr, .int .i64 count, .slice A1 n1 c1, .slice A2 n2 c2, .slice A3 n3 c3]] W (RetQ W false)))(HF : Hid (∀ W, Calls Try.prog 58 #[.agg #[.int .i64 code, .int .i64 addr, .int .i64 count, .slice A1 n1 c1, .slice A2 n2 c2, .slice A3 n3 c3]] W (RetQ W false))) (A : Option Addr) (N c : Nat) :
    Calls Try.prog 81 #[.agg #[.int .i64 code, .int .i64 addr, .int .i64 count, .slice A1 n1 c1, .slice A2 n2 c2, .slice A3 n3 c3], .slice A N c] w (RetSh w rep0) := by
  go_enter Try.func81, Try.ntmps81
  go_wp2_with fail
  refine (HB.out _).mono ?_
  rintro e w1 ⟨rfl, hx⟩
  have Z := Lib.hid (show Ext w w1 from (((Ext.alloc _ _).trans (Ext.alloc _ _)).trans (Ext.alloc _ _)).trans hx)
  have BA := Lib.hid (show w1.heap[w.heap.size]? = some (.cells #[.int .i64 code, .int .i64 addr, .int .i64 count, .slice A1 n1 c1, .slice A2 n2 c2, .slice A3 n3 c3] 26 (0, 0)) from hx.block ((Ext.alloc _ _).block ((Ext.alloc _ _).block (heap_at _ _ _ (by simp)))))
  have BO := Lib.hid (show w1.heap[w.heap.size + 1]? = some (.cells #[.int .i64 0, .slice none 0 0, .slice none 0 0, .slice none 0 0] 29 (0, 0)) from hx.block ((Ext.alloc _ _).block (heap_at _ _ _ (by simp))))
  have BX := Lib.hid (show w1.heap[w.heap.size + 2]? = some (.cells #[.int .i64 0, .slice none 0 0, .slice none 0 0, .slice none 0 0] 29 (0, 0)) from hx.block (heap_at _ _ _ (by simp)))
  have X := Lib.hid Z.out
  clear hx Z
  obtain ⟨d0, d1, d2, d3, d4, d5⟩ := cells6 BA.out
  obtain ⟨f0, f1, f2, f3⟩ := cells4 BO.out
  obtain ⟨g0, g1, g2, g3⟩ := cells4 BX.out
  go_wp2_with fail
  refine (HW.out _).mono ?_
  rintro e w2 ⟨rfl, hx⟩
  have Z := Lib.hid (show Ext w1 w2 from hx)
  replace BA := Lib.hid (Z.out.block BA.out)
  replace BO := Lib.hid (Z.out.block BO.out)
  replace BX := Lib.hid (Z.out.block BX.out)
  replace X := Lib.hid (X.out.trans Z.out)
  clear d0 d1 d2 d3 d4 d5 f0 f1 f2 f3 g0 g1 g2 g3
  clear hx Z
  obtain ⟨d0, d1, d2, d3, d4, d5⟩ := cells6 BA.out
  obtain ⟨f0, f1, f2, f3⟩ := cells4 BO.out
  obtain ⟨g0, g1, g2, g3⟩ := cells4 BX.out
  go_wp2_with fail
  refine wp_loop_rounds 1 ?_
  rw [rounds_succ]
  go_wp2_with fail
  refine (HF.out _).mono ?_
  rintro e w3 ⟨rfl, hx⟩
  have Z := Lib.hid (show Ext w2 w3 from hx)
  replace BA := Lib.hid (Z.out.block BA.out)
  replace BO := Lib.hid (Z.out.block BO.out)
  replace BX := Lib.hid (Z.out.block BX.out)
  replace X := Lib.hid (X.out.trans Z.out)
  clear d0 d1 d2 d3 d4 d5 f0 f1 f2 f3 g0 g1 g2 g3
  clear hx Z
  obtain ⟨d0, d1, d2, d3, d4, d5⟩ := cells6 BA.out
  obtain ⟨f0, f1, f2, f3⟩ := cells4 BO.out
  obtain ⟨g0, g1, g2, g3⟩ := cells4 BX.out
  have u0 := frozen_of_row _ _ 0 _ _ BO.out
  have u1 := frozen_of_row _ _ 1 _ _ BO.out
  have u2 := frozen_of_row _ _ 2 _ _ BO.out
  have u3 := frozen_of_row _ _ 3 _ _ BO.out
  have v0 := frozen_of_row _ _ 0 _ _ BX.out
  have v1 := frozen_of_row _ _ 1 _ _ BX.out
  have v2 := frozen_of_row _ _ 2 _ _ BX.out
  have v3 := frozen_of_row _ _ 3 _ _ BX.out
  go_wp2_with fail
  refine bodyPost_ret (v := repV rep0 repS0) (by simp [results, Try.results81, go_sem, repV, rep0, repS0, *]) rfl ⟨repS0, rfl, repOw0 _ _, ?_⟩
  repeat' (first | with_reducible exact X.out | with_reducible refine Ext.set' ?_ (by simp <;> omega) _)
theorem shape_words (code addr count : Int) (A1 A2 A3 : Option Addr) (n1 c1 n2 c2 n3 c3 : Nat) (w : World) (A : Option Addr) (N c : Nat) (b : List UInt8) (hb : Rd w A N (b.map cB)) (h2 : 4 ≤ N) (hN : N ≤ 253) (hev : N % 2 = 0) (hc : N ≤ c ∧ c ≤ 9223372036854775807) (HB : Hid (∀ W, Calls Try.prog 56 #[.agg #[.int .i64 code, .int .i64 addr, .int .i64 count, .slice A1 n1 c1, .slice A2 n2 c2, .slice A3 n3 c3]] W (RetQ W false)))(HW : Hid (∀ W, Calls Try.prog 57 #[.agg #[.int .i64 code, .int .i64 addr, .int .i64 count, .slice A1 n1 c1, .slice A2 n2 c2, .slice A3 n3 c3]] W (RetQ W true)))(HF : Hid (∀ W, Calls Try.prog 58 #[.agg #[.int .i64 code, .int .i64 addr, .int .i64 count, .slice A1 n1 c1, .slice A2 n2 c2, .slice A3 n3 c3]] W (RetQ W false))) :
    Calls Try.prog 81 #[.agg #[.int .i64 code, .int .i64 addr, .int .i64 count, .slice A1 n1 c1, .slice A2 n2 c2, .slice A3 n3 c3], .slice A N c] w (RetSh w ⟨0, [], bw (b.drop 2), []⟩) := by
  have HR := Lib.hid hb
  have hbl := hb.length
  have hwf : wordsF (b.drop 2) = (bw (b.drop 2), 0) := by unfold wordsF; rw [if_neg (by rw [List.length_drop]; omega)]
  have HCALL := Lib.hid (fun W A' c' (hr : Rd W A' (N - 2) ((b.drop 2).map cB)) => refWords_any (b.drop 2) A' (N - 2) c' W hr (by omega))
  rw [hwf] at HCALL
  have hcn : ¬ c = 2 := by omega
  have HF2 := Lib.hid (fun W (hX : Ext w W) => (by
    have h := (HR.out.ext hX).from8 (c := c) (k := 2) (by omega) hc.1
    rwa [if_neg hcn] at h : Rd W (Option.map (fun x => x.add 2) A) (N - 2) ((b.drop 2).map cB)))
  generalize b.drop 2 = r at *
  have hN2 : ((N - 2 : Nat) : Int) = (N : Int) - 2 := by omega
  have hc1 : (2 : Int) ≤ (N : Int) := by omega
  have hc2 : (N : Int) ≤ (c : Int) := by omega
  clear hb hbl hwf
  go_enter Try.func81, Try.ntmps81
  go_wp2_with fail
  refine (HB.out _).mono ?_
  rintro e w1 ⟨rfl, hx⟩
  have Z := Lib.hid (show Ext w w1 from (((Ext.alloc _ _).trans (Ext.alloc _ _)).trans (Ext.alloc _ _)).trans hx)
  have BA := Lib.hid (show w1.heap[w.heap.size]? = some (.cells #[.int .i64 code, .int .i64 addr, .int .i64 count, .slice A1 n1 c1, .slice A2 n2 c2, .slice A3 n3 c3] 26 (0, 0)) from hx.block ((Ext.alloc _ _).block ((Ext.alloc _ _).block (heap_at _ _ _ (by simp)))))
  have BO := Lib.hid (show w1.heap[w.heap.size + 1]? = some (.cells #[.int .i64 0, .slice none 0 0, .slice none 0 0, .slice none 0 0] 29 (0, 0)) from hx.block ((Ext.alloc _ _).block (heap_at _ _ _ (by simp))))
  have BX := Lib.hid (show w1.heap[w.heap.size + 2]? = some (.cells #[.int .i64 0, .slice none 0 0, .slice none 0 0, .slice none 0 0] 29 (0, 0)) from hx.block (heap_at _ _ _ (by simp)))
  have X := Lib.hid Z.out
  clear hx Z
  obtain ⟨d0, d1, d2, d3, d4, d5⟩ := cells6 BA.out
  obtain ⟨f0, f1, f2, f3⟩ := cells4 BO.out
  obtain ⟨g0, g1, g2, g3⟩ := cells4 BX.out
  go_wp2_with fail
  refine (HW.out _).mono ?_
  rintro e w2 ⟨rfl, hx⟩
  have Z := Lib.hid (show Ext w1 w2 from hx)
  replace BA := Lib.hid (Z.out.block BA.out)
  replace BO := Lib.hid (Z.out.block BO.out)
  replace BX := Lib.hid (Z.out.block BX.out)
  replace X := Lib.hid (X.out.trans Z.out)
  clear d0 d1 d2 d3 d4 d5 f0 f1 f2 f3 g0 g1 g2 g3
  clear hx Z
  obtain ⟨d0, d1, d2, d3, d4, d5⟩ := cells6 BA.out
  obtain ⟨f0, f1, f2, f3⟩ := cells4 BO.out
  obtain ⟨g0, g1, g2, g3⟩ := cells4 BX.out
  go_wp2_with fail
  have BXO := BX
  refine (HCALL.out _ _ _ (HF2.out _ X.out)).mono ?_
  rintro e w3 ⟨A7, n7, c7, rfl, ho7, hx⟩
  have Z := Lib.hid (show Ext w2 w3 from (Ext.of hx))
  replace BA := Lib.hid (Z.out.block BA.out)
  replace BO := Lib.hid (Z.out.block BO.out)
  replace BX := Lib.hid (Z.out.block BX.out)
  replace X := Lib.hid (X.out.trans Z.out)
  obtain rfl : (bw r).length = n7 := by have := ho7.len; simpa using this
  have HO := Lib.hid (ho7.mono (show w.heap.size + 3 ≤ _ from by have := lt_of_heap BXO.out; omega))
  clear ho7
  clear d0 d1 d2 d3 d4 d5 f0 f1 f2 f3 g0 g1 g2 g3
  clear hx Z
  obtain ⟨d0, d1, d2, d3, d4, d5⟩ := cells6 BA.out
  obtain ⟨f0, f1, f2, f3⟩ := cells4 BO.out
  obtain ⟨g0, g1, g2, g3⟩ := cells4 BX.out
  have u0 := frozen_of_row _ _ 0 _ _ BO.out
  have u1 := frozen_of_row _ _ 1 _ _ BO.out
  have u2 := frozen_of_row _ _ 2 _ _ BO.out
  have u3 := frozen_of_row _ _ 3 _ _ BO.out
  have v0 := frozen_of_row _ _ 0 _ _ BX.out
  have v1 := frozen_of_row _ _ 1 _ _ BX.out
  have v2 := frozen_of_row _ _ 2 _ _ BX.out
  have v3 := frozen_of_row _ _ 3 _ _ BX.out
  go_wp2_with fail
  refine wp_loop_rounds 1 ?_
  rw [rounds_succ]
  obtain ⟨V, hV⟩ : ∃ V, w3.setCell ⟨w.heap.size + 2, 2, none⟩ (.slice A7 (bw r).length c7) = V := ⟨_, rfl⟩
  rw [hV]
  replace BA := Lib.hid (show V.heap[w.heap.size]? = some (.cells #[.int .i64 code, .int .i64 addr, .int .i64 count, .slice A1 n1 c1, .slice A2 n2 c2, .slice A3 n3 c3] 26 (0, 0)) from hV ▸ (Below.heap_setCell w3 ⟨w.heap.size + 2, 2, none⟩ _ (w.heap.size) (by simp <;> omega)).trans BA.out)
  replace BO := Lib.hid (show V.heap[w.heap.size + 1]? = some (.cells #[.int .i64 0, .slice none 0 0, .slice none 0 0, .slice none 0 0] 29 (0, 0)) from hV ▸ (Below.heap_setCell w3 ⟨w.heap.size + 2, 2, none⟩ _ (w.heap.size + 1) (by simp <;> omega)).trans BO.out)
  replace BX := Lib.hid (show V.heap[w.heap.size + 2]? = some (.cells #[.int .i64 0, .slice none 0 0, .slice A7 (bw r).length c7, .slice none 0 0] 29 (0, 0)) from hV ▸ heap_setCell_same _ _ _ _ _ _ BX.out)
  replace X := Lib.hid (show Ext w V from hV ▸ X.out.set' (by simp <;> omega) _)
  replace HO := Lib.hid (by have h := HO.out.set_below (q := ⟨w.heap.size + 2, 2, none⟩) (by simp) (.slice A7 (bw r).length c7); rw [hV] at h; exact h)
  clear hV
  clear d0 d1 d2 d3 d4 d5 f0 f1 f2 f3 g0 g1 g2 g3 u0 u1 u2 u3 v0 v1 v2 v3
  obtain ⟨d0, d1, d2, d3, d4, d5⟩ := cells6 BA.out
  obtain ⟨f0, f1, f2, f3⟩ := cells4 BO.out
  obtain ⟨g0, g1, g2, g3⟩ := cells4 BX.out
  go_wp2_with fail
  refine (HF.out _).mono ?_
  rintro e w4 ⟨rfl, hx⟩
  have Z := Lib.hid (show Ext V w4 from hx)
  replace BA := Lib.hid (Z.out.block BA.out)
  replace BO := Lib.hid (Z.out.block BO.out)
  replace BX := Lib.hid (Z.out.block BX.out)
  replace X := Lib.hid (X.out.trans Z.out)
  replace HO := Lib.hid (HO.out.ext Z.out)
  clear d0 d1 d2 d3 d4 d5 f0 f1 f2 f3 g0 g1 g2 g3
  clear hx Z
  obtain ⟨d0, d1, d2, d3, d4, d5⟩ := cells6 BA.out
  obtain ⟨f0, f1, f2, f3⟩ := cells4 BO.out
  obtain ⟨g0, g1, g2, g3⟩ := cells4 BX.out
  have u0 := frozen_of_row _ _ 0 _ _ BO.out
  have u1 := frozen_of_row _ _ 1 _ _ BO.out
  have u2 := frozen_of_row _ _ 2 _ _ BO.out
  have u3 := frozen_of_row _ _ 3 _ _ BO.out
  have v0 := frozen_of_row _ _ 0 _ _ BX.out
  have v1 := frozen_of_row _ _ 1 _ _ BX.out
  have v2 := frozen_of_row _ _ 2 _ _ BX.out
  have v3 := frozen_of_row _ _ 3 _ _ BX.out
  go_wp2_with fail
  refine bodyPost_ret (v := repV ⟨0, [], bw r, []⟩ ⟨none, 0, 0, A7, (bw r).length, c7, none, 0, 0⟩) (by simp [results, Try.results81, go_sem, repV, rep0, repS0, *]) rfl ⟨_, rfl, ?_, ?_⟩
  · refine RepOw.mono (base := w.heap.size + 3) ?_ (by omega)
    repeat' (first | with_reducible exact (⟨Own.nil_ _ _ _ _, HO.out, OwL.nil_ _ _ _ _, rfl, by simp, by unfold i64P; simp⟩ : RepOw V (w.heap.size + 3) ⟨0, [], bw r, []⟩ ⟨none, 0, 0, A7, (bw r).length, c7, none, 0, 0⟩) | with_reducible exact (⟨Own.nil_ _ _ _ _, HO.out, OwL.nil_ _ _ _ _, rfl, by simp, by unfold i64P; simp⟩ : RepOw w4 (w.heap.size + 3) ⟨0, [], bw r, []⟩ ⟨none, 0, 0, A7, (bw r).length, c7, none, 0, 0⟩) | with_reducible refine RepOw.set_below ?_ (by simp) _)
  · repeat' (first | with_reducible exact X.out | with_reducible refine Ext.set' ?_ (by simp <;> omega) _)
end Go.Proofs.Ytpjmhckdeeonbaa
