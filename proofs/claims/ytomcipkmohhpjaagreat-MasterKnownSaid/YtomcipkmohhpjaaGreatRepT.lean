/- Contracts of the reference's Length and shape (chapter 04). (genreps.py prints this.) -/
import Derived.Test.YtomcipkmohhpjaaGreatG11
import Derived.Test.YtomcipkmohhpjaaGreatRepGA
import Derived.BigQuiet
import Derived.Deep.QuietTactic
namespace Go.Out
open Go Go.RowKit
set_option linter.unusedVariables false
/-- The rows that bytes of the right length would be. -/
def rowsOf : List PartD → List UInt8 → List (List UInt16)
  | [], _ => []
  | p :: ps, r => bw ((r.drop 2).take (2 * p.len.toNat)) :: rowsOf ps (r.drop (2 + 2 * p.len.toNat))
/-- The answer that bytes of the right length would be. -/
def shapeR (a : AskD) (b : List UInt8) : RepD :=
  if a.code = 1 ∨ a.code = 2 then ⟨0, (List.range a.count.toNat).map (ubit (b.drop 2)), [], []⟩
  else if a.code = 3 ∨ a.code = 4 then ⟨0, [], bw (b.drop 2), []⟩
  else if a.code = 20 then ⟨0, [], [], rowsOf a.parts (b.drop 2)⟩ else rep0
end Go.Out
namespace Go.Proofs.YtomcipkmohhpjaaGreat
set_option linter.unusedVariables false
set_option linter.unusedSimpArgs false
set_option maxRecDepth 100000
set_option maxHeartbeats 2000000
open Go Go.RowKit Go.Out

theorem len4_bits (code addr count : Int) (A1 A2 A3 : Option Addr) (n1 c1 n2 c2 n3 c3 : Nat) (w : World) (m : Nat) (hm : count = (m : Int)) (hm2 : m ≤ 2000) (HB : Hid (∀ W, Calls Tryz.prog 59 #[.agg #[.int .i64 code, .int .i64 addr, .int .i64 count, .slice A1 n1 c1, .slice A2 n2 c2, .slice A3 n3 c3]] W (RetQ W true))) :
    Calls Tryz.prog 113 #[.agg #[.int .i64 code, .int .i64 addr, .int .i64 count, .slice A1 n1 c1, .slice A2 n2 c2, .slice A3 n3 c3]] w (RetI w (2 + (need m : Nat))) := by
  subst hm
  have hnd := need_le hm2
  go_enter Tryz.func113, Tryz.ntmps113
  go_wp2_with fail
  refine (HB.out _).mono ?_
  rintro e w1 ⟨rfl, hx⟩
  have Z := Lib.hid (show Ext w w1 from (Ext.alloc _ _).trans hx)
  have BA := Lib.hid (show w1.heap[w.heap.size]? = some (.cells #[.int .i64 code, .int .i64 addr, .int .i64 (m : Int), .slice A1 n1 c1, .slice A2 n2 c2, .slice A3 n3 c3] 37 (0, 0)) from hx.block (heap_at _ _ _ (by simp)))
  have X := Lib.hid Z.out
  clear hx Z
  obtain ⟨d0, d1, d2, d3, d4, d5⟩ := cells6 BA.out
  go_wp2_with fail
  refine (refNeed_any m _ (by omega)).mono ?_
  rintro e v_ ⟨rfl, rfl⟩
  go_wp2_with fail
  go_ret
  exact RetI.of (by simp) X.out
theorem len4_words (code addr count : Int) (A1 A2 A3 : Option Addr) (n1 c1 n2 c2 n3 c3 : Nat) (w : World) (h : 0 ≤ count) (hm2 : count ≤ 2000) (HB : Hid (∀ W, Calls Tryz.prog 59 #[.agg #[.int .i64 code, .int .i64 addr, .int .i64 count, .slice A1 n1 c1, .slice A2 n2 c2, .slice A3 n3 c3]] W (RetQ W false)))(HW : Hid (∀ W, Calls Tryz.prog 61 #[.agg #[.int .i64 code, .int .i64 addr, .int .i64 count, .slice A1 n1 c1, .slice A2 n2 c2, .slice A3 n3 c3]] W (RetQ W true))) :
    Calls Tryz.prog 113 #[.agg #[.int .i64 code, .int .i64 addr, .int .i64 count, .slice A1 n1 c1, .slice A2 n2 c2, .slice A3 n3 c3]] w (RetI w (2 + 2 * count)) := by
  go_enter Tryz.func113, Tryz.ntmps113
  go_wp2_with fail
  refine (HB.out _).mono ?_
  rintro e w1 ⟨rfl, hx⟩
  have Z := Lib.hid (show Ext w w1 from (Ext.alloc _ _).trans hx)
  have BA := Lib.hid (show w1.heap[w.heap.size]? = some (.cells #[.int .i64 code, .int .i64 addr, .int .i64 count, .slice A1 n1 c1, .slice A2 n2 c2, .slice A3 n3 c3] 37 (0, 0)) from hx.block (heap_at _ _ _ (by simp)))
  have X := Lib.hid Z.out
  clear hx Z
  obtain ⟨d0, d1, d2, d3, d4, d5⟩ := cells6 BA.out
  go_wp2_with fail
  refine (HW.out _).mono ?_
  rintro e w2 ⟨rfl, hx⟩
  have Z := Lib.hid (show Ext w1 w2 from hx)
  replace BA := Lib.hid (Z.out.block BA.out)
  replace X := Lib.hid (X.out.trans Z.out)
  clear d0 d1 d2 d3 d4 d5
  clear hx Z
  obtain ⟨d0, d1, d2, d3, d4, d5⟩ := cells6 BA.out
  go_wp2_with fail
  go_ret
  exact RetI.of (by simp) X.out
theorem len4_write (code addr count : Int) (A1 A2 A3 : Option Addr) (n1 c1 n2 c2 n3 c3 : Nat) (w : World) (HB : Hid (∀ W, Calls Tryz.prog 59 #[.agg #[.int .i64 code, .int .i64 addr, .int .i64 count, .slice A1 n1 c1, .slice A2 n2 c2, .slice A3 n3 c3]] W (RetQ W false)))(HW : Hid (∀ W, Calls Tryz.prog 61 #[.agg #[.int .i64 code, .int .i64 addr, .int .i64 count, .slice A1 n1 c1, .slice A2 n2 c2, .slice A3 n3 c3]] W (RetQ W false)))(HF : Hid (∀ W, Calls Tryz.prog 63 #[.agg #[.int .i64 code, .int .i64 addr, .int .i64 count, .slice A1 n1 c1, .slice A2 n2 c2, .slice A3 n3 c3]] W (RetQ W false))) :
    Calls Tryz.prog 113 #[.agg #[.int .i64 code, .int .i64 addr, .int .i64 count, .slice A1 n1 c1, .slice A2 n2 c2, .slice A3 n3 c3]] w (RetI w 5) := by
  go_enter Tryz.func113, Tryz.ntmps113
  go_wp2_with fail
  refine (HB.out _).mono ?_
  rintro e w1 ⟨rfl, hx⟩
  have Z := Lib.hid (show Ext w w1 from (Ext.alloc _ _).trans hx)
  have BA := Lib.hid (show w1.heap[w.heap.size]? = some (.cells #[.int .i64 code, .int .i64 addr, .int .i64 count, .slice A1 n1 c1, .slice A2 n2 c2, .slice A3 n3 c3] 37 (0, 0)) from hx.block (heap_at _ _ _ (by simp)))
  have X := Lib.hid Z.out
  clear hx Z
  obtain ⟨d0, d1, d2, d3, d4, d5⟩ := cells6 BA.out
  go_wp2_with fail
  refine (HW.out _).mono ?_
  rintro e w2 ⟨rfl, hx⟩
  have Z := Lib.hid (show Ext w1 w2 from hx)
  replace BA := Lib.hid (Z.out.block BA.out)
  replace X := Lib.hid (X.out.trans Z.out)
  clear d0 d1 d2 d3 d4 d5
  clear hx Z
  obtain ⟨d0, d1, d2, d3, d4, d5⟩ := cells6 BA.out
  go_wp2_with fail
  refine (HF.out _).mono ?_
  rintro e w3 ⟨rfl, hx⟩
  have Z := Lib.hid (show Ext w2 w3 from hx)
  replace BA := Lib.hid (Z.out.block BA.out)
  replace X := Lib.hid (X.out.trans Z.out)
  clear d0 d1 d2 d3 d4 d5
  clear hx Z
  obtain ⟨d0, d1, d2, d3, d4, d5⟩ := cells6 BA.out
  go_wp2_with fail
  go_ret
  exact RetI.of rfl X.out
theorem len4_files (code addr count : Int) (A1 A2 A3 : Option Addr) (n1 c1 n2 c2 n3 c3 : Nat) (w : World) (parts : List PartD) (hp : RdL partK w A3 n3 parts) (hn : n3 ≤ 35) (hg : ∀ i (hi : i < parts.length), ¬ badP parts[i]) (HB : Hid (∀ W, Calls Tryz.prog 59 #[.agg #[.int .i64 code, .int .i64 addr, .int .i64 count, .slice A1 n1 c1, .slice A2 n2 c2, .slice A3 n3 c3]] W (RetQ W false)))(HW : Hid (∀ W, Calls Tryz.prog 61 #[.agg #[.int .i64 code, .int .i64 addr, .int .i64 count, .slice A1 n1 c1, .slice A2 n2 c2, .slice A3 n3 c3]] W (RetQ W false)))(HF : Hid (∀ W, Calls Tryz.prog 63 #[.agg #[.int .i64 code, .int .i64 addr, .int .i64 count, .slice A1 n1 c1, .slice A2 n2 c2, .slice A3 n3 c3]] W (RetQ W true))) :
    Calls Tryz.prog 113 #[.agg #[.int .i64 code, .int .i64 addr, .int .i64 count, .slice A1 n1 c1, .slice A2 n2 c2, .slice A3 n3 c3]] w (RetI w (2 + sumP (parts.take n3))) := by
  have Hgd := Lib.hid hg; have E3 := Lib.hid hp.length; have HA := Lib.hid hp
  clear hg hp
  go_enter Tryz.func113, Tryz.ntmps113
  go_wp2_with fail
  refine (HB.out _).mono ?_
  rintro e w1 ⟨rfl, hx⟩
  have Z := Lib.hid (show Ext w w1 from (Ext.alloc _ _).trans hx)
  have BA := Lib.hid (show w1.heap[w.heap.size]? = some (.cells #[.int .i64 code, .int .i64 addr, .int .i64 count, .slice A1 n1 c1, .slice A2 n2 c2, .slice A3 n3 c3] 37 (0, 0)) from hx.block (heap_at _ _ _ (by simp)))
  have X := Lib.hid Z.out
  clear hx Z
  obtain ⟨d0, d1, d2, d3, d4, d5⟩ := cells6 BA.out
  go_wp2_with fail
  refine (HW.out _).mono ?_
  rintro e w2 ⟨rfl, hx⟩
  have Z := Lib.hid (show Ext w1 w2 from hx)
  replace BA := Lib.hid (Z.out.block BA.out)
  replace X := Lib.hid (X.out.trans Z.out)
  clear d0 d1 d2 d3 d4 d5
  clear hx Z
  obtain ⟨d0, d1, d2, d3, d4, d5⟩ := cells6 BA.out
  go_wp2_with fail
  refine (HF.out _).mono ?_
  rintro e w3 ⟨rfl, hx⟩
  have Z := Lib.hid (show Ext w2 w3 from hx)
  replace BA := Lib.hid (Z.out.block BA.out)
  replace X := Lib.hid (X.out.trans Z.out)
  clear d0 d1 d2 d3 d4 d5
  clear hx Z
  obtain ⟨d0, d1, d2, d3, d4, d5⟩ := cells6 BA.out
  go_wp2_with fail
  clear d0 d1 d2 d3 d4 d5
  go_loopw [3, 4] (fun x j wr => ∃ (k : Nat) (y : Int), k ≤ n3 ∧ x = .int .i64 y ∧ Hid (y = 2 + sumP (parts.take k)) ∧ j = .int .i64 (k : Int) ∧ Hid (Ext w3 wr)) (fun _ j _ => n3 - (intOf j).toNat)
  case atStart => exact ⟨0, 2, by omega, rfl, Lib.hid (by simp [sumP]), rfl, Lib.hid (Ext.refl _)⟩
  case round =>
    obtain ⟨k, y, hk, rfl, HY, rfl, HX⟩ := hrel
    obtain ⟨d0, d1, d2, d3, d4, d5⟩ := cells6 (HX.out.block BA.out)
    rcases Nat.lt_or_ge k n3 with hlt | hge
    · obtain ⟨b1, o1, p, hp, rfl, hb1, -, -, e2, -⟩ := part_cells (HA.out.ext (X.out.trans HX.out)) hlt
      have hkl : k < parts.length := by rw [E3.out]; exact hlt
      have hst := sumP_take hkl
      have hpe : parts[k] = p := by rw [List.getElem?_eq_getElem hkl] at hp; injection hp
      rw [hpe] at hst
      have hbad := Hgd.out k hkl
      rw [hpe] at hbad
      have hbd := sumP_bound Hgd.out (k := k) (by omega)
      have hy := HY.out
      unfold badP at hbad
      generalize p.file = F at *
      generalize p.record = R at *
      generalize p.len = L at *
      have HS := Lib.hid hst
      have b1 : 0 ≤ y ∧ y ≤ 1000000 := by omega
      clear hst hpe hbd hp hy hkl
      go_wp2_with fail
      go_roundw
      case rel => exact ⟨k + 1, y + 2 + 2 * L, by omega, by first | rfl | (simp; omega), Lib.hid (by rw [HS.out, HY.out]; omega), by go_num, HX⟩
      case measure => simp [intOf]; omega
    · obtain rfl : k = n3 := by omega
      have hy := HY.out
      subst hy
      go_wp2_with fail
      go_ret
      exact ⟨rfl, X.out.trans HX.out⟩
theorem ref04Length_any (a : AskD) (s : AskS) (w : World) (ha : AskRd w a s) (hK : checkF a = 0) : Calls Tryz.prog 113 #[askV a s] w (RetI w (lenR a : Nat)) := by
  have hc := codeP_cases (checkF_parts a hK).1
  obtain ⟨m1, m2, m3⟩ := many_parts hK
  have hp := (checkF_parts a hK).2.2.2.2.2.2.2
  have HB := Lib.hid (fun W => bits04_any a s W)
  have HW := Lib.hid (fun W => words04_any a s W)
  have HF := Lib.hid (fun W => files04_any a s W)
  by_cases h1 : a.code = 1 ∨ a.code = 2
  · have hm := m1 h1
    obtain ⟨m, hmc⟩ := Int.eq_ofNat_of_zero_le (show 0 ≤ a.count by omega)
    rw [lenR1 h1, show a.count.toNat = m by omega]
    rw [decide_eq_true h1] at HB
    exact (len4_bits a.code a.addr a.count s.A1 s.A2 s.A3 s.n1 s.c1 s.n2 s.c2 s.n3 s.c3 w m hmc (by omega) HB).mono fun e w' h => by rw [Int.natCast_add]; exact h
  rw [decide_eq_false h1] at HB
  by_cases h2 : a.code = 3 ∨ a.code = 4
  · have hm := m2 h2
    rw [lenR3 h2]
    rw [decide_eq_true h2] at HW
    exact (len4_words a.code a.addr a.count s.A1 s.A2 s.A3 s.n1 s.c1 s.n2 s.c2 s.n3 s.c3 w (by omega) (by omega) HB HW).mono fun e w' h => by rw [show ((2 + 2 * a.count.toNat : Nat) : Int) = 2 + 2 * a.count by omega]; exact h
  rw [decide_eq_false h2] at HW
  by_cases h3 : a.code = 20
  · have hm := m3 h3
    rw [lenR20 h3]
    rw [decide_eq_true h3] at HF
    have hn := ha.n3
    have hgd : ∀ i (hi : i < a.parts.length), ¬ badP a.parts[i] := fun i hi hbd => by
      have := partsF_bad hi hbd
      omega
    have q3 := sumP_nonneg (partsF_zero hp).1
    refine (len4_files a.code a.addr a.count s.A1 s.A2 s.A3 s.n1 s.c1 s.n2 s.c2 s.n3 s.c3 w a.parts ha.parts (by omega) hgd HB HW HF).mono fun e w' h => ?_
    rw [← hn, List.take_length] at h
    rw [show ((2 + (sumP a.parts).toNat : Nat) : Int) = 2 + sumP a.parts by omega]; exact h
  · rw [decide_eq_false h3] at HF
    rw [lenR5 (by unfold plainC; omega)]
    exact len4_write a.code a.addr a.count s.A1 s.A2 s.A3 s.n1 s.c1 s.n2 s.c2 s.n3 s.c3 w HB HW HF

/-- What the reference's shape hands back. -/
def RetSh (w : World) (r : RepD) (e : Ending) (w' : World) : Prop := ∃ t, e = .returned (repV r t) ∧ RepOw w' w.heap.size r t ∧ Ext w w'

theorem shape_write (code addr count : Int) (A1 A2 A3 : Option Addr) (n1 c1 n2 c2 n3 c3 : Nat) (w : World) (HB : Hid (∀ W, Calls Tryz.prog 59 #[.agg #[.int .i64 code, .int .i64 addr, .int .i64 count, .slice A1 n1 c1, .slice A2 n2 c2, .slice A3 n3 c3]] W (RetQ W false)))(HW : Hid (∀ W, Calls Tryz.prog 61 #[.agg #[.int .i64 code, .int .i64 addr, .int .i64 count, .slice A1 n1 c1, .slice A2 n2 c2, .slice A3 n3 c3]] W (RetQ W false)))(HF : Hid (∀ W, Calls Tryz.prog 63 #[.agg #[.int .i64 code, .int .i64 addr, .int .i64 count, .slice A1 n1 c1, .slice A2 n2 c2, .slice A3 n3 c3]] W (RetQ W false))) (A : Option Addr) (N c : Nat) :
    Calls Tryz.prog 114 #[.agg #[.int .i64 code, .int .i64 addr, .int .i64 count, .slice A1 n1 c1, .slice A2 n2 c2, .slice A3 n3 c3], .slice A N c] w (RetSh w rep0) := by
  go_enter Tryz.func114, Tryz.ntmps114
  go_wp2_with fail
  refine (HB.out _).mono ?_
  rintro e w1 ⟨rfl, hx⟩
  have Z := Lib.hid (show Ext w w1 from (((Ext.alloc _ _).trans (Ext.alloc _ _)).trans (Ext.alloc _ _)).trans hx)
  have BA := Lib.hid (show w1.heap[w.heap.size]? = some (.cells #[.int .i64 code, .int .i64 addr, .int .i64 count, .slice A1 n1 c1, .slice A2 n2 c2, .slice A3 n3 c3] 37 (0, 0)) from hx.block ((Ext.alloc _ _).block ((Ext.alloc _ _).block (heap_at _ _ _ (by simp)))))
  have BO := Lib.hid (show w1.heap[w.heap.size + 1]? = some (.cells #[.int .i64 0, .slice none 0 0, .slice none 0 0, .slice none 0 0] 40 (0, 0)) from hx.block ((Ext.alloc _ _).block (heap_at _ _ _ (by simp))))
  have BX := Lib.hid (show w1.heap[w.heap.size + 2]? = some (.cells #[.int .i64 0, .slice none 0 0, .slice none 0 0, .slice none 0 0] 40 (0, 0)) from hx.block (heap_at _ _ _ (by simp)))
  have X := Lib.hid Z.out
  clear hx Z
  obtain ⟨d0, d1, d2, d3, d4, d5⟩ := cells6 BA.out
  obtain ⟨f0, f1, f2, f3⟩ := cells4 BO.out
  obtain ⟨g0, g1, g2, g3⟩ := cells4 BX.out
  go_wp2_with fail
  refine (HW.out _).mono ?_
  rintro e w2 ⟨rfl, hx⟩
  have Z := Lib.hid (show Ext w1 w2 from hx)
  replace BA := Lib.hid (Z.out.block BA.out)
  replace BO := Lib.hid (Z.out.block BO.out)
  replace BX := Lib.hid (Z.out.block BX.out)
  replace X := Lib.hid (X.out.trans Z.out)
  clear d0 d1 d2 d3 d4 d5 f0 f1 f2 f3 g0 g1 g2 g3
  clear hx Z
  obtain ⟨d0, d1, d2, d3, d4, d5⟩ := cells6 BA.out
  obtain ⟨f0, f1, f2, f3⟩ := cells4 BO.out
  obtain ⟨g0, g1, g2, g3⟩ := cells4 BX.out
  go_wp2_with fail
  refine wp_loop_rounds 1 ?_
  rw [rounds_succ]
  go_wp2_with fail
  refine (HF.out _).mono ?_
  rintro e w3 ⟨rfl, hx⟩
  have Z := Lib.hid (show Ext w2 w3 from hx)
  replace BA := Lib.hid (Z.out.block BA.out)
  replace BO := Lib.hid (Z.out.block BO.out)
  replace BX := Lib.hid (Z.out.block BX.out)
  replace X := Lib.hid (X.out.trans Z.out)
  clear d0 d1 d2 d3 d4 d5 f0 f1 f2 f3 g0 g1 g2 g3
  clear hx Z
  obtain ⟨d0, d1, d2, d3, d4, d5⟩ := cells6 BA.out
  obtain ⟨f0, f1, f2, f3⟩ := cells4 BO.out
  obtain ⟨g0, g1, g2, g3⟩ := cells4 BX.out
  have u0 := frozen_of_row _ _ 0 _ _ BO.out
  have u1 := frozen_of_row _ _ 1 _ _ BO.out
  have u2 := frozen_of_row _ _ 2 _ _ BO.out
  have u3 := frozen_of_row _ _ 3 _ _ BO.out
  have v0 := frozen_of_row _ _ 0 _ _ BX.out
  have v1 := frozen_of_row _ _ 1 _ _ BX.out
  have v2 := frozen_of_row _ _ 2 _ _ BX.out
  have v3 := frozen_of_row _ _ 3 _ _ BX.out
  go_wp2_with fail
  refine bodyPost_ret (v := repV rep0 repS0) (by simp [results, Tryz.results114, go_sem, repV, rep0, repS0, *]) rfl ⟨repS0, rfl, repOw0 _ _, ?_⟩
  repeat' (first | with_reducible exact X.out | with_reducible refine Ext.set' ?_ (by simp <;> omega) _)
theorem shape_words (code addr count : Int) (A1 A2 A3 : Option Addr) (n1 c1 n2 c2 n3 c3 : Nat) (w : World) (A : Option Addr) (N c : Nat) (b : List UInt8) (hb : Rd w A N (b.map cB)) (h2 : 4 ≤ N) (hN : N ≤ 253) (hev : N % 2 = 0) (hc : N ≤ c ∧ c ≤ 9223372036854775807) (HB : Hid (∀ W, Calls Tryz.prog 59 #[.agg #[.int .i64 code, .int .i64 addr, .int .i64 count, .slice A1 n1 c1, .slice A2 n2 c2, .slice A3 n3 c3]] W (RetQ W false)))(HW : Hid (∀ W, Calls Tryz.prog 61 #[.agg #[.int .i64 code, .int .i64 addr, .int .i64 count, .slice A1 n1 c1, .slice A2 n2 c2, .slice A3 n3 c3]] W (RetQ W true)))(HF : Hid (∀ W, Calls Tryz.prog 63 #[.agg #[.int .i64 code, .int .i64 addr, .int .i64 count, .slice A1 n1 c1, .slice A2 n2 c2, .slice A3 n3 c3]] W (RetQ W false))) :
    Calls Tryz.prog 114 #[.agg #[.int .i64 code, .int .i64 addr, .int .i64 count, .slice A1 n1 c1, .slice A2 n2 c2, .slice A3 n3 c3], .slice A N c] w (RetSh w ⟨0, [], bw (b.drop 2), []⟩) := by
  have HR := Lib.hid hb
  have hbl := hb.length
  have hwf : wordsF (b.drop 2) = (bw (b.drop 2), 0) := by unfold wordsF; rw [if_neg (by rw [List.length_drop]; omega)]
  have HCALL := Lib.hid (fun W A' c' (hr : Rd W A' (N - 2) ((b.drop 2).map cB)) => refWords_any (b.drop 2) A' (N - 2) c' W hr (by omega))
  rw [hwf] at HCALL
  have hcn : ¬ c = 2 := by omega
  have HF2 := Lib.hid (fun W (hX : Ext w W) => (by
    have h := (HR.out.ext hX).from8 (c := c) (k := 2) (by omega) hc.1
    rwa [if_neg hcn] at h : Rd W (Option.map (fun x => x.add 2) A) (N - 2) ((b.drop 2).map cB)))
  generalize b.drop 2 = r at *
  have hN2 : ((N - 2 : Nat) : Int) = (N : Int) - 2 := by omega
  have hc1 : (2 : Int) ≤ (N : Int) := by omega
  have hc2 : (N : Int) ≤ (c : Int) := by omega
  clear hb hbl hwf
  go_enter Tryz.func114, Tryz.ntmps114
  go_wp2_with fail
  refine (HB.out _).mono ?_
  rintro e w1 ⟨rfl, hx⟩
  have Z := Lib.hid (show Ext w w1 from (((Ext.alloc _ _).trans (Ext.alloc _ _)).trans (Ext.alloc _ _)).trans hx)
  have BA := Lib.hid (show w1.heap[w.heap.size]? = some (.cells #[.int .i64 code, .int .i64 addr, .int .i64 count, .slice A1 n1 c1, .slice A2 n2 c2, .slice A3 n3 c3] 37 (0, 0)) from hx.block ((Ext.alloc _ _).block ((Ext.alloc _ _).block (heap_at _ _ _ (by simp)))))
  have BO := Lib.hid (show w1.heap[w.heap.size + 1]? = some (.cells #[.int .i64 0, .slice none 0 0, .slice none 0 0, .slice none 0 0] 40 (0, 0)) from hx.block ((Ext.alloc _ _).block (heap_at _ _ _ (by simp))))
  have BX := Lib.hid (show w1.heap[w.heap.size + 2]? = some (.cells #[.int .i64 0, .slice none 0 0, .slice none 0 0, .slice none 0 0] 40 (0, 0)) from hx.block (heap_at _ _ _ (by simp)))
  have X := Lib.hid Z.out
  clear hx Z
  obtain ⟨d0, d1, d2, d3, d4, d5⟩ := cells6 BA.out
  obtain ⟨f0, f1, f2, f3⟩ := cells4 BO.out
  obtain ⟨g0, g1, g2, g3⟩ := cells4 BX.out
  go_wp2_with fail
  refine (HW.out _).mono ?_
  rintro e w2 ⟨rfl, hx⟩
  have Z := Lib.hid (show Ext w1 w2 from hx)
  replace BA := Lib.hid (Z.out.block BA.out)
  replace BO := Lib.hid (Z.out.block BO.out)
  replace BX := Lib.hid (Z.out.block BX.out)
  replace X := Lib.hid (X.out.trans Z.out)
  clear d0 d1 d2 d3 d4 d5 f0 f1 f2 f3 g0 g1 g2 g3
  clear hx Z
  obtain ⟨d0, d1, d2, d3, d4, d5⟩ := cells6 BA.out
  obtain ⟨f0, f1, f2, f3⟩ := cells4 BO.out
  obtain ⟨g0, g1, g2, g3⟩ := cells4 BX.out
  go_wp2_with fail
  have BXO := BX
  refine (HCALL.out _ _ _ (HF2.out _ X.out)).mono ?_
  rintro e w3 ⟨A7, n7, c7, rfl, ho7, hx⟩
  have Z := Lib.hid (show Ext w2 w3 from (Ext.of hx))
  replace BA := Lib.hid (Z.out.block BA.out)
  replace BO := Lib.hid (Z.out.block BO.out)
  replace BX := Lib.hid (Z.out.block BX.out)
  replace X := Lib.hid (X.out.trans Z.out)
  obtain rfl : (bw r).length = n7 := by have := ho7.len; simpa using this
  have HO := Lib.hid (ho7.mono (show w.heap.size + 3 ≤ _ from by have := lt_of_heap BXO.out; omega))
  clear ho7
  clear d0 d1 d2 d3 d4 d5 f0 f1 f2 f3 g0 g1 g2 g3
  clear hx Z
  obtain ⟨d0, d1, d2, d3, d4, d5⟩ := cells6 BA.out
  obtain ⟨f0, f1, f2, f3⟩ := cells4 BO.out
  obtain ⟨g0, g1, g2, g3⟩ := cells4 BX.out
  have u0 := frozen_of_row _ _ 0 _ _ BO.out
  have u1 := frozen_of_row _ _ 1 _ _ BO.out
  have u2 := frozen_of_row _ _ 2 _ _ BO.out
  have u3 := frozen_of_row _ _ 3 _ _ BO.out
  have v0 := frozen_of_row _ _ 0 _ _ BX.out
  have v1 := frozen_of_row _ _ 1 _ _ BX.out
  have v2 := frozen_of_row _ _ 2 _ _ BX.out
  have v3 := frozen_of_row _ _ 3 _ _ BX.out
  go_wp2_with fail
  refine wp_loop_rounds 1 ?_
  rw [rounds_succ]
  obtain ⟨V, hV⟩ : ∃ V, w3.setCell ⟨w.heap.size + 2, 2, none⟩ (.slice A7 (bw r).length c7) = V := ⟨_, rfl⟩
  rw [hV]
  replace BA := Lib.hid (show V.heap[w.heap.size]? = some (.cells #[.int .i64 code, .int .i64 addr, .int .i64 count, .slice A1 n1 c1, .slice A2 n2 c2, .slice A3 n3 c3] 37 (0, 0)) from hV ▸ (Below.heap_setCell w3 ⟨w.heap.size + 2, 2, none⟩ _ (w.heap.size) (by simp <;> omega)).trans BA.out)
  replace BO := Lib.hid (show V.heap[w.heap.size + 1]? = some (.cells #[.int .i64 0, .slice none 0 0, .slice none 0 0, .slice none 0 0] 40 (0, 0)) from hV ▸ (Below.heap_setCell w3 ⟨w.heap.size + 2, 2, none⟩ _ (w.heap.size + 1) (by simp <;> omega)).trans BO.out)
  replace BX := Lib.hid (show V.heap[w.heap.size + 2]? = some (.cells #[.int .i64 0, .slice none 0 0, .slice A7 (bw r).length c7, .slice none 0 0] 40 (0, 0)) from hV ▸ heap_setCell_same _ _ _ _ _ _ BX.out)
  replace X := Lib.hid (show Ext w V from hV ▸ X.out.set' (by simp <;> omega) _)
  replace HO := Lib.hid (by have h := HO.out.set_below (q := ⟨w.heap.size + 2, 2, none⟩) (by simp) (.slice A7 (bw r).length c7); rw [hV] at h; exact h)
  clear hV
  clear d0 d1 d2 d3 d4 d5 f0 f1 f2 f3 g0 g1 g2 g3 u0 u1 u2 u3 v0 v1 v2 v3
  obtain ⟨d0, d1, d2, d3, d4, d5⟩ := cells6 BA.out
  obtain ⟨f0, f1, f2, f3⟩ := cells4 BO.out
  obtain ⟨g0, g1, g2, g3⟩ := cells4 BX.out
  go_wp2_with fail
  refine (HF.out _).mono ?_
  rintro e w4 ⟨rfl, hx⟩
  have Z := Lib.hid (show Ext V w4 from hx)
  replace BA := Lib.hid (Z.out.block BA.out)
  replace BO := Lib.hid (Z.out.block BO.out)
  replace BX := Lib.hid (Z.out.block BX.out)
  replace X := Lib.hid (X.out.trans Z.out)
  replace HO := Lib.hid (HO.out.ext Z.out)
  clear d0 d1 d2 d3 d4 d5 f0 f1 f2 f3 g0 g1 g2 g3
  clear hx Z
  obtain ⟨d0, d1, d2, d3, d4, d5⟩ := cells6 BA.out
  obtain ⟨f0, f1, f2, f3⟩ := cells4 BO.out
  obtain ⟨g0, g1, g2, g3⟩ := cells4 BX.out
  have u0 := frozen_of_row _ _ 0 _ _ BO.out
  have u1 := frozen_of_row _ _ 1 _ _ BO.out
  have u2 := frozen_of_row _ _ 2 _ _ BO.out
  have u3 := frozen_of_row _ _ 3 _ _ BO.out
  have v0 := frozen_of_row _ _ 0 _ _ BX.out
  have v1 := frozen_of_row _ _ 1 _ _ BX.out
  have v2 := frozen_of_row _ _ 2 _ _ BX.out
  have v3 := frozen_of_row _ _ 3 _ _ BX.out
  go_wp2_with fail
  refine bodyPost_ret (v := repV ⟨0, [], bw r, []⟩ ⟨none, 0, 0, A7, (bw r).length, c7, none, 0, 0⟩) (by simp [results, Tryz.results114, go_sem, repV, rep0, repS0, *]) rfl ⟨_, rfl, ?_, ?_⟩
  · refine RepOw.mono (base := w.heap.size + 3) ?_ (by omega)
    repeat' (first | with_reducible exact (⟨Own.nil_ _ _ _ _, HO.out, OwL.nil_ _ _ _ _, rfl, by simp, by unfold i64P; simp⟩ : RepOw V (w.heap.size + 3) ⟨0, [], bw r, []⟩ ⟨none, 0, 0, A7, (bw r).length, c7, none, 0, 0⟩) | with_reducible exact (⟨Own.nil_ _ _ _ _, HO.out, OwL.nil_ _ _ _ _, rfl, by simp, by unfold i64P; simp⟩ : RepOw w4 (w.heap.size + 3) ⟨0, [], bw r, []⟩ ⟨none, 0, 0, A7, (bw r).length, c7, none, 0, 0⟩) | with_reducible refine RepOw.set_below ?_ (by simp) _)
  · repeat' (first | with_reducible exact X.out | with_reducible refine Ext.set' ?_ (by simp <;> omega) _)
end Go.Proofs.YtomcipkmohhpjaaGreat

namespace Go.Proofs.YtomcipkmohhpjaaGreat
set_option linter.unusedVariables false
set_option linter.unusedSimpArgs false
set_option maxRecDepth 100000
set_option maxHeartbeats 4000000
open Go Go.RowKit Go.Out

theorem shape_bits (code addr count : Int) (A1 A2 A3 : Option Addr) (n1 c1 n2 c2 n3 c3 : Nat) (w : World) (n : Nat) (hct : count = (n : Int)) (hn1 : n ≤ 2000) (A : Option Addr) (N c : Nat) (b : List UInt8) (hb : Rd w A N (b.map cB)) (hnd : N = 2 + need n) (hN : N ≤ 253) (hc : N ≤ c ∧ c ≤ 9223372036854775807) (HB : Hid (∀ W, Calls Tryz.prog 59 #[.agg #[.int .i64 code, .int .i64 addr, .int .i64 count, .slice A1 n1 c1, .slice A2 n2 c2, .slice A3 n3 c3]] W (RetQ W true)))(HW : Hid (∀ W, Calls Tryz.prog 61 #[.agg #[.int .i64 code, .int .i64 addr, .int .i64 count, .slice A1 n1 c1, .slice A2 n2 c2, .slice A3 n3 c3]] W (RetQ W false)))(HF : Hid (∀ W, Calls Tryz.prog 63 #[.agg #[.int .i64 code, .int .i64 addr, .int .i64 count, .slice A1 n1 c1, .slice A2 n2 c2, .slice A3 n3 c3]] W (RetQ W false))) :
    Calls Tryz.prog 114 #[.agg #[.int .i64 code, .int .i64 addr, .int .i64 count, .slice A1 n1 c1, .slice A2 n2 c2, .slice A3 n3 c3], .slice A N c] w (RetSh w ⟨0, (List.range n).map (ubit (b.drop 2)), [], []⟩) := by
  subst hct
  have HR := Lib.hid hb
  have HBL := Lib.hid hb.length
  have hnd2 : 8 * N ≥ n + 16 := by unfold need at hnd; omega
  clear hb hnd
  go_enter Tryz.func114, Tryz.ntmps114
  go_wp2_with fail
  refine (HB.out _).mono ?_
  rintro e w1 ⟨rfl, hx⟩
  have Z := Lib.hid (show Ext w w1 from (((Ext.alloc _ _).trans (Ext.alloc _ _)).trans (Ext.alloc _ _)).trans hx)
  have BA := Lib.hid (show w1.heap[w.heap.size]? = some (.cells #[.int .i64 code, .int .i64 addr, .int .i64 (n : Int), .slice A1 n1 c1, .slice A2 n2 c2, .slice A3 n3 c3] 37 (0, 0)) from hx.block ((Ext.alloc _ _).block ((Ext.alloc _ _).block (heap_at _ _ _ (by simp)))))
  have BO := Lib.hid (show w1.heap[w.heap.size + 1]? = some (.cells #[.int .i64 0, .slice none 0 0, .slice none 0 0, .slice none 0 0] 40 (0, 0)) from hx.block ((Ext.alloc _ _).block (heap_at _ _ _ (by simp))))
  have BX := Lib.hid (show w1.heap[w.heap.size + 2]? = some (.cells #[.int .i64 0, .slice none 0 0, .slice none 0 0, .slice none 0 0] 40 (0, 0)) from hx.block (heap_at _ _ _ (by simp)))
  have X := Lib.hid Z.out
  clear hx Z
  obtain ⟨d0, d1, d2, d3, d4, d5⟩ := cells6 BA.out
  obtain ⟨f0, f1, f2, f3⟩ := cells4 BO.out
  obtain ⟨g0, g1, g2, g3⟩ := cells4 BX.out
  have hz := lt_of_heap BX.out
  go_wp2_with fail
  clear d0 d1 d2 d3 d4 d5 f0 f1 f2 f3 g0 g1 g2 g3
  go_loopw [6, 7, 8] (fun i _ _ wr => ∃ (k : Nat) (A5 : Option Addr) (c5 : Nat), k ≤ n ∧ i = .int .i64 (k : Int) ∧ Hid (wr.heap[w.heap.size]? = w1.heap[w.heap.size]?) ∧ Hid (wr.heap[w.heap.size + 1]? = w1.heap[w.heap.size + 1]?) ∧ Hid (wr.heap[w.heap.size + 2]? = some (.cells #[.int .i64 0, .slice A5 k c5, .slice none 0 0, .slice none 0 0] 40 (0, 0))) ∧
    Hid (Own wr w1.heap.size 4 IsBo A5 k c5 (((List.range k).map (ubit (b.drop 2))).map cL)) ∧ Hid (Ext w wr) ∧ Hid (w1.heap.size ≤ wr.heap.size)) (fun i _ _ _ => n - (intOf i).toNat)
  case atStart => exact ⟨0, none, 0, Nat.zero_le _, rfl, Lib.hid rfl, Lib.hid rfl, BX, Lib.hid (Own.nil_ _ _ _ _), X, Lib.hid (Nat.le_refl _)⟩
  case round =>
    obtain ⟨k, A5, c5, hk, rfl, H1, H2, H3, HO, HX, HZ⟩ := hrel
    obtain ⟨d0, d1, d2, d3, d4, d5⟩ := cells6 (H1.out.trans BA.out)
    rcases Nat.lt_or_ge k n with hlt | hge
    · have hqN : 2 + k / 8 < N := by omega
      obtain ⟨b1, o1, rfl, hb1, hl1, hc1⟩ := (HR.out.ext HX.out).u8at hqN
      have hx := b[2 + k / 8].toNat_lt
      have hub : ubit (b.drop 2) k = decide (b[2 + k / 8].toNat / 2 ^ (k % 8) % 2 = 1) := by
        unfold ubit
        rw [List.getD_eq_getElem?_getD, List.getElem?_drop, List.getElem?_eq_getElem hl1]
        rfl
      have Hub := Lib.hid hub
      generalize b[2 + k / 8].toNat = Xb at *
      have e1 : (k : Int).tdiv 8 = ((k / 8 : Nat) : Int) := by rw [Int.tdiv_eq_ediv_of_nonneg (by omega)]; rfl
      have e2 : (k : Int).tmod 8 = ((k % 8 : Nat) : Int) := by rw [Int.tmod_eq_emod_of_nonneg (by omega)]; rfl
      have hm8 : k % 8 < 8 := Nat.mod_lt _ (by omega)
      have H8 := Lib.hid hnd2
      obtain ⟨q, hq⟩ : ∃ q, k / 8 = q := ⟨_, rfl⟩
      obtain ⟨m, hm⟩ : ∃ m, k % 8 = m := ⟨_, rfl⟩
      rw [hq] at e1 hqN hc1
      rw [hm] at e2 hm8 Hub
      have hqi : (2 : Int) + (q : Int) < (N : Int) := by omega
      clear hub hl1 hq hm hnd2
      go_wp2_with fail
      go_loopw [7, 8] (fun x j wr2 => ∃ (jj : Nat) (y : Nat), jj ≤ m ∧ x = .int .i64 (y : Int) ∧ Hid (y = Xb / 2 ^ jj) ∧ y ≤ 255 ∧ j = .int .i64 (jj : Int) ∧ wr2 = wr) (fun _ j _ => m - (intOf j).toNat)
      case atStart => exact ⟨0, Xb, Nat.zero_le _, rfl, Lib.hid (by simp), by omega, rfl, by first | rfl | trivial⟩
      case round =>
        obtain ⟨jj, y, hj, rfl, Hy, hy, rfl, rfl⟩ := hrel
        rcases Nat.lt_or_ge jj m with hjl | hjg
        · have e3 : (y : Int).tdiv 2 = ((y / 2 : Nat) : Int) := by rw [Int.tdiv_eq_ediv_of_nonneg (by omega)]; rfl
          go_wp2_with fail
          go_roundw
          case rel => exact ⟨jj + 1, y / 2, by omega, by first | rfl | (simp; omega), Lib.hid (by rw [Hy.out, Nat.div_div_eq_div_mul, Nat.pow_succ]), by omega, by go_num, by first | rfl | trivial⟩
          case measure => simp [intOf]; omega
        · obtain rfl : jj = m := by omega
          have e3 : (y : Int).tmod 2 = ((y % 2 : Nat) : Int) := by rw [Int.tmod_eq_emod_of_nonneg (by omega)]; rfl
          have hbit : ((y : Int) % 2 == 1) = ubit (b.drop 2) k := by
            rw [Hub.out, ← Hy.out, Bool.eq_iff_iff, beq_iff_eq, decide_eq_true_eq]; omega
          have HBit := Lib.hid hbit
          clear hbit
          obtain ⟨g0, g1, g2, g3⟩ := cells4 H3.out
          have hlt2 : w.heap.size + 2 < wr.heap.size := lt_of_heap H3.out
          go_wp2_with (at_builtin; refine app_bo _ rfl (.tmp 38) (.tmp 42) rfl rfl (HO.out.ext (Ext.alloc _ _)) rfl (Rd.one _ _ _) (by intro u hu; simp at hu; subst hu; exact ⟨_, rfl⟩) (by omega) (by simp; have := HZ.out; omega) ?_
                       intro A2 c2 w2 hown hg hbk
                       have hne : ∀ g, g ≤ w.heap.size + 2 → some g ≠ blk A5 := fun g hg' e => by have := (HO.out.lt g e.symm).1; omega
                       have K1 := Lib.hid ((hg.block w.heap.size (by simp; omega) (hne _ (by omega))).trans (((Ext.alloc wr _).below.block w.heap.size (by omega)).trans H1.out))
                       have K2 := Lib.hid ((hg.block (w.heap.size + 1) (by simp; omega) (hne _ (by omega))).trans (((Ext.alloc wr _).below.block (w.heap.size + 1) (by omega)).trans H2.out))
                       have K3 := Lib.hid ((hg.block (w.heap.size + 2) (by simp; omega) (hne _ (by omega))).trans ((Ext.alloc wr _).block H3.out))
                       have KX := Lib.hid ((HX.out.trans (Ext.alloc _ _)).grown' hg (fun g e => by have := (HO.out.lt g e).1; omega))
                       have KZ := Lib.hid (Nat.le_trans HZ.out (Nat.le_trans (Ext.alloc _ _).size hg.size))
                       have KO := Lib.hid hown
                       clear g0 g1 g2 g3 hown hg hbk hne
                       obtain ⟨g0, g1, g2, g3⟩ := cells4 K3.out
                       have z1 := frozen_of_row _ _ 1 _ _ K3.out)
          go_roundw
          case rel =>
            refine ⟨k + 1, A2, c2, by omega, by go_num, Lib.hid ?_, Lib.hid ?_, Lib.hid (heap_setCell_same _ _ _ _ _ _ K3.out), Lib.hid ?_, Lib.hid (KX.out.set' (by simp <;> omega) _), Lib.hid (by simp; exact KZ.out)⟩
            · exact (Below.heap_setCell _ ⟨w.heap.size + 2, 1, none⟩ _ w.heap.size (by simp)).trans K1.out
            · exact (Below.heap_setCell _ ⟨w.heap.size + 2, 1, none⟩ _ (w.heap.size + 1) (by simp)).trans K2.out
            · refine Own.set_below ?_ (by simp; omega) _
              have h := KO.out
              rw [HBit.out] at h
              rw [List.range_succ, List.map_append, List.map_append]
              exact h
          case measure => simp [intOf]; omega
    · obtain rfl : k = n := by omega
      replace BA := Lib.hid (H1.out.trans BA.out)
      replace BO := Lib.hid (H2.out.trans BO.out)
      have BX := H3
      replace X := HX
      clear H1 H2 HX d0 d1 d2 d3 d4 d5
      obtain ⟨d0, d1, d2, d3, d4, d5⟩ := cells6 BA.out
      go_wp2_with fail
      refine (HW.out _).mono ?_
      rintro e w2 ⟨rfl, hx⟩
      have Z := Lib.hid (show Ext wr w2 from hx)
      replace BA := Lib.hid (Z.out.block BA.out)
      replace BO := Lib.hid (Z.out.block BO.out)
      replace BX := Lib.hid (Z.out.block BX.out)
      replace X := Lib.hid (X.out.trans Z.out)
      replace HO := Lib.hid (HO.out.ext Z.out)
      clear d0 d1 d2 d3 d4 d5
      clear hx Z
      obtain ⟨d0, d1, d2, d3, d4, d5⟩ := cells6 BA.out
      obtain ⟨f0, f1, f2, f3⟩ := cells4 BO.out
      obtain ⟨g0, g1, g2, g3⟩ := cells4 BX.out
      go_wp2_with fail
      refine wp_loop_rounds 1 ?_
      rw [rounds_succ]
      go_wp2_with fail
      refine (HF.out _).mono ?_
      rintro e w3 ⟨rfl, hx⟩
      have Z := Lib.hid (show Ext w2 w3 from hx)
      replace BA := Lib.hid (Z.out.block BA.out)
      replace BO := Lib.hid (Z.out.block BO.out)
      replace BX := Lib.hid (Z.out.block BX.out)
      replace X := Lib.hid (X.out.trans Z.out)
      replace HO := Lib.hid (HO.out.ext Z.out)
      clear d0 d1 d2 d3 d4 d5 f0 f1 f2 f3 g0 g1 g2 g3
      clear hx Z
      obtain ⟨d0, d1, d2, d3, d4, d5⟩ := cells6 BA.out
      obtain ⟨f0, f1, f2, f3⟩ := cells4 BO.out
      obtain ⟨g0, g1, g2, g3⟩ := cells4 BX.out
      have u0 := frozen_of_row _ _ 0 _ _ BO.out
      have u1 := frozen_of_row _ _ 1 _ _ BO.out
      have u2 := frozen_of_row _ _ 2 _ _ BO.out
      have u3 := frozen_of_row _ _ 3 _ _ BO.out
      have v0 := frozen_of_row _ _ 0 _ _ BX.out
      have v1 := frozen_of_row _ _ 1 _ _ BX.out
      have v2 := frozen_of_row _ _ 2 _ _ BX.out
      have v3 := frozen_of_row _ _ 3 _ _ BX.out
      go_wp2_with fail
      refine bodyPost_ret (v := repV ⟨0, (List.range k).map (ubit (b.drop 2)), [], []⟩ ⟨A5, k, c5, none, 0, 0, none, 0, 0⟩) (by simp [results, Tryz.results114, go_sem, repV, rep0, repS0, *]) rfl ⟨_, rfl, ?_, ?_⟩
      · refine RepOw.mono (base := w.heap.size + 3) ?_ (by omega)
        repeat' (first | with_reducible exact (⟨HO.out.mono (by omega), Own.nil_ _ _ _ _, OwL.nil_ _ _ _ _, rfl, by simp, by unfold i64P; simp⟩ : RepOw w3 (w.heap.size + 3) ⟨0, (List.range k).map (ubit (b.drop 2)), [], []⟩ ⟨A5, k, c5, none, 0, 0, none, 0, 0⟩) | with_reducible refine RepOw.set_below ?_ (by simp) _)
      · repeat' (first | with_reducible exact X.out | with_reducible refine Ext.set' ?_ (by simp <;> omega) _)
theorem shape_files (code addr count : Int) (A1 A2 A3 : Option Addr) (n1 c1 n2 c2 n3 c3 : Nat) (w : World) (parts : List PartD) (hp : RdL partK w A3 n3 parts) (hn3 : n3 ≤ 35) (A : Option Addr) (N c : Nat) (b : List UInt8) (hb : Rd w A N (b.map cB)) (hs : 2 + sumP parts = (N : Int)) (hg : parts.any (fun p => decide (badP p)) = false) (hN : N ≤ 253) (hc : N ≤ c ∧ c ≤ 9223372036854775807) (HB : Hid (∀ W, Calls Tryz.prog 59 #[.agg #[.int .i64 code, .int .i64 addr, .int .i64 count, .slice A1 n1 c1, .slice A2 n2 c2, .slice A3 n3 c3]] W (RetQ W false)))(HW : Hid (∀ W, Calls Tryz.prog 61 #[.agg #[.int .i64 code, .int .i64 addr, .int .i64 count, .slice A1 n1 c1, .slice A2 n2 c2, .slice A3 n3 c3]] W (RetQ W false)))(HF : Hid (∀ W, Calls Tryz.prog 63 #[.agg #[.int .i64 code, .int .i64 addr, .int .i64 count, .slice A1 n1 c1, .slice A2 n2 c2, .slice A3 n3 c3]] W (RetQ W true))) :
    Calls Tryz.prog 114 #[.agg #[.int .i64 code, .int .i64 addr, .int .i64 count, .slice A1 n1 c1, .slice A2 n2 c2, .slice A3 n3 c3], .slice A N c] w (RetSh w ⟨0, [], [], rowsOf parts (b.drop 2)⟩) := by
  have HR := Lib.hid hb
  have HBL := Lib.hid hb.length
  have HP := Lib.hid hp; have HG := Lib.hid hg; have HS := Lib.hid hs; have HL3 := Lib.hid hp.length
  obtain ⟨R, hR⟩ : ∃ R, rowsOf parts (b.drop 2) = R := ⟨_, rfl⟩
  rw [hR]
  have HR0 := Lib.hid hR
  clear hb hp hg hs hR
  go_enter Tryz.func114, Tryz.ntmps114
  go_wp2_with fail
  refine (HB.out _).mono ?_
  rintro e w1 ⟨rfl, hx⟩
  have Z := Lib.hid (show Ext w w1 from (((Ext.alloc _ _).trans (Ext.alloc _ _)).trans (Ext.alloc _ _)).trans hx)
  have BA := Lib.hid (show w1.heap[w.heap.size]? = some (.cells #[.int .i64 code, .int .i64 addr, .int .i64 count, .slice A1 n1 c1, .slice A2 n2 c2, .slice A3 n3 c3] 37 (0, 0)) from hx.block ((Ext.alloc _ _).block ((Ext.alloc _ _).block (heap_at _ _ _ (by simp)))))
  have BO := Lib.hid (show w1.heap[w.heap.size + 1]? = some (.cells #[.int .i64 0, .slice none 0 0, .slice none 0 0, .slice none 0 0] 40 (0, 0)) from hx.block ((Ext.alloc _ _).block (heap_at _ _ _ (by simp))))
  have BX := Lib.hid (show w1.heap[w.heap.size + 2]? = some (.cells #[.int .i64 0, .slice none 0 0, .slice none 0 0, .slice none 0 0] 40 (0, 0)) from hx.block (heap_at _ _ _ (by simp)))
  have X := Lib.hid Z.out
  clear hx Z
  obtain ⟨d0, d1, d2, d3, d4, d5⟩ := cells6 BA.out
  obtain ⟨f0, f1, f2, f3⟩ := cells4 BO.out
  obtain ⟨g0, g1, g2, g3⟩ := cells4 BX.out
  go_wp2_with fail
  refine (HW.out _).mono ?_
  rintro e w2 ⟨rfl, hx⟩
  have Z := Lib.hid (show Ext w1 w2 from hx)
  replace BA := Lib.hid (Z.out.block BA.out)
  replace BO := Lib.hid (Z.out.block BO.out)
  replace BX := Lib.hid (Z.out.block BX.out)
  replace X := Lib.hid (X.out.trans Z.out)
  clear d0 d1 d2 d3 d4 d5 f0 f1 f2 f3 g0 g1 g2 g3
  clear hx Z
  obtain ⟨d0, d1, d2, d3, d4, d5⟩ := cells6 BA.out
  obtain ⟨f0, f1, f2, f3⟩ := cells4 BO.out
  obtain ⟨g0, g1, g2, g3⟩ := cells4 BX.out
  have hz := lt_of_heap BX.out
  go_wp2_with fail
  clear d0 d1 d2 d3 d4 d5 f0 f1 f2 f3 g0 g1 g2 g3
  go_loopw [9, 10, 11, 12, 13] (fun x i _ _ _ wr => ∃ (k at_ : Nat) (A5 : Option Addr) (c5 : Nat) (done : List (List UInt16)), k ≤ n3 ∧ x = .int .i64 (at_ : Int) ∧ i = .int .i64 (k : Int) ∧ Hid ((at_ : Int) = 2 + sumP (parts.take k)) ∧ Hid (done.length = k) ∧ Hid (R = done ++ rowsOf (parts.drop k) (b.drop at_)) ∧
    Hid (wr.heap[w.heap.size]? = w2.heap[w.heap.size]?) ∧ Hid (wr.heap[w.heap.size + 1]? = w2.heap[w.heap.size + 1]?) ∧ Hid (wr.heap[w.heap.size + 2]? = some (.cells #[.int .i64 0, .slice none 0 0, .slice none 0 0, .slice A5 k c5] 40 (0, 0))) ∧
    Hid (OwL (fileO w2.heap.size) wr w2.heap.size 34 (.slice A5 k c5) done) ∧ Hid (Ext w wr) ∧ Hid (w2.heap.size ≤ wr.heap.size)) (fun _ i _ _ _ _ => n3 - (intOf i).toNat)
  case atStart => exact ⟨0, 2, none, 0, [], Nat.zero_le _, rfl, rfl, Lib.hid (by simp [sumP]), Lib.hid rfl, Lib.hid (by rw [List.drop_zero, HR0.out]; rfl), Lib.hid rfl, Lib.hid rfl, BX, Lib.hid (OwL.nil_ _ _ _ _), X, Lib.hid (Nat.le_refl _)⟩
  case round =>
    obtain ⟨k, at_, A5, c5, done, hk, rfl, rfl, Hat, Hdl, HRd, H1, H2, H3, HO, HX, HZ⟩ := hrel
    have B1 := BA; have B2 := BO
    replace BA := Lib.hid (H1.out.trans BA.out)
    replace BO := Lib.hid (H2.out.trans BO.out)
    replace BX := H3
    have X1 := X
    replace X := HX
    clear H1 H2 H3
    obtain ⟨d0, d1, d2, d3, d4, d5⟩ := cells6 BA.out
    go_wp2_with fail
    refine (HF.out _).mono ?_
    rintro e w3 ⟨rfl, hx⟩
    have Z := Lib.hid (show Ext wr w3 from hx)
    replace BA := Lib.hid (Z.out.block BA.out)
    replace BO := Lib.hid (Z.out.block BO.out)
    replace BX := Lib.hid (Z.out.block BX.out)
    replace X := Lib.hid (X.out.trans Z.out)
    replace HO := Lib.hid (HO.out.ext Z.out)
    have KZ := Lib.hid (Nat.le_trans HZ.out Z.out.size)
    clear d0 d1 d2 d3 d4 d5
    clear hx Z
    obtain ⟨d0, d1, d2, d3, d4, d5⟩ := cells6 BA.out
    obtain ⟨f0, f1, f2, f3⟩ := cells4 BO.out
    obtain ⟨g0, g1, g2, g3⟩ := cells4 BX.out
    rcases Nat.lt_or_ge k n3 with hlt | hge
    · obtain ⟨b1, o1, p, hpk, rfl, hb1, -, -, e2, -⟩ := part_cells (HP.out.ext X.out) hlt
      obtain ⟨hkl, hpe⟩ := List.getElem?_eq_some_iff.1 hpk
      have hdk : parts.drop k = p :: parts.drop (k + 1) := by rw [List.drop_eq_getElem_cons hkl, hpe]
      have hbad : ¬ badP p := by
        have h1 := (List.any_eq_false.1 HG.out) p (hpe ▸ List.getElem_mem hkl)
        simpa using h1
      unfold badP at hbad
      obtain ⟨L, hL⟩ : ∃ L : Nat, p.len = (L : Int) := ⟨p.len.toNat, by omega⟩
      have hL1 : 1 ≤ L := by omega
      have hLt : p.len.toNat = L := by omega
      have hs2 := sumP_split parts k
      have hs3 := sumP_nn (k := k + 1) HG.out
      have hs4 := sumP_tn (k := k) HG.out
      rw [hdk] at hs2
      simp only [sumP] at hs2
      have hat := Hat.out
      have hN2 := HS.out
      have hbound : at_ + 2 + 2 * L ≤ N := by omega
      have hnext : ((at_ + 2 + 2 * L : Nat) : Int) = 2 + sumP (parts.take (k + 1)) := by
        have h5 := sumP_split parts (k + 1)
        omega
      have hro := HRd.out
      rw [hdk] at hro
      simp only [rowsOf, hLt, List.drop_drop] at hro
      rw [← Nat.add_assoc] at hro
      have hT2 : (((b.drop (at_ + 2)).take (2 * L))).length = 2 * L := by rw [List.length_take, List.length_drop]; have := HBL.out; omega
      have hwf : wordsF ((b.drop (at_ + 2)).take (2 * L)) = (bw ((b.drop (at_ + 2)).take (2 * L)), 0) := by unfold wordsF; rw [if_neg (by rw [hT2]; omega)]
      have hbwl : (bw ((b.drop (at_ + 2)).take (2 * L))).length = L := by rw [bw_length, hT2]; omega
      rw [hL] at e2
      have hrc : ∀ W, Ext w W → Rd W (Option.map (fun x => x.add (at_ + 2)) A) (2 * L) (((b.drop (at_ + 2)).take (2 * L)).map cB) := fun W hX => by
        rw [List.map_take, List.map_drop]; exact (HR.out.ext hX).cut (by omega)
      have HCUT := Lib.hid hrc
      have HCALL := Lib.hid (fun W A' c' (hr : Rd W A' (2 * L) (((b.drop (at_ + 2)).take (2 * L)).map cB)) => refWords_any ((b.drop (at_ + 2)).take (2 * L)) A' (2 * L) c' W hr (by omega))
      rw [hwf] at HCALL
      simp only at HCALL
      have HRo := Lib.hid hro; have Hnx := Lib.hid hnext; have HBW := Lib.hid hbwl; have HB2 := Lib.hid hbound
      generalize bw ((b.drop (at_ + 2)).take (2 * L)) = Fw at *
      generalize (b.drop (at_ + 2)).take (2 * L) = rr at *
      have hLs : L ≤ 125 := by omega
      have hats : at_ ≤ 253 := by omega
      have hb63 : (at_ : Int) + 2 + 2 * (L : Int) ≤ (N : Int) := by omega
      have hcN : (N : Int) ≤ (c : Int) := by omega
      have hz3 := HZ.out
      clear hpk hkl hpe hdk hbad hL hLt hs2 hs3 hs4 hat hN2 hbound hnext hro hT2 hwf hbwl hrc
      obtain ⟨g0, g1, g2, g3⟩ := cells4 BX.out
      have hcne : ¬ c = at_ + 2 := by omega
      go_wp2_with fail
      refine (HCALL.out _ _ _ (HCUT.out _ X.out)).mono ?_
      rintro e w4 ⟨A7, n7, c7, rfl, ho7, hb7⟩
      obtain rfl : L = n7 := by have h1 := ho7.len; have h2 := HBW.out; simp at h1; omega
      have hX4 : Ext w3 w4 := Ext.of hb7
      have K1 := Lib.hid (hX4.block BA.out); have K2 := Lib.hid (hX4.block BO.out); have K3 := Lib.hid (hX4.block BX.out)
      have KX := Lib.hid (X.out.trans hX4)
      have KO := Lib.hid (HO.out.ext hX4)
      have KZ4 := Lib.hid (Nat.le_trans KZ.out hX4.size)
      have HO7 := Lib.hid (show Own w4 w2.heap.size 48 IsU16 A7 L c7 (Fw.map cW) from ho7.mono KZ.out)
      clear hX4 ho7 hb7 d0 d1 d2 d3 d4 d5 g0 g1 g2 g3
      obtain ⟨g0, g1, g2, g3⟩ := cells4 K3.out
      have hdl := Hdl.out
      go_wp2_with (at_builtin; refine app_file _ rfl (.tmp 85) (.tmp 87) rfl rfl (KO.out.ext (Ext.alloc _ _)) rfl (heap_alloc_new w4 _) (HO7.out.ext (Ext.alloc _ _)) (by omega) (by omega) (by have := KZ4.out; simp; omega) ?_
                   intro v5 w5 hol hg hlo
                   have hne : ∀ g, g ≤ w.heap.size + 2 → some g ≠ (Value.slice A5 k c5).ownBlock := fun g hg' e => by have := hlo g e.symm; omega
                   have hlt2 : w.heap.size + 2 < w4.heap.size := lt_of_heap K3.out
                   have M1 := Lib.hid ((hg.block w.heap.size (by simp; omega) (hne _ (by omega))).trans ((Ext.alloc w4 _).block K1.out))
                   have M2 := Lib.hid ((hg.block (w.heap.size + 1) (by simp; omega) (hne _ (by omega))).trans ((Ext.alloc w4 _).block K2.out))
                   have M3 := Lib.hid ((hg.block (w.heap.size + 2) (by simp; omega) (hne _ (by omega))).trans ((Ext.alloc w4 _).block K3.out))
                   have MX := Lib.hid ((KX.out.trans (Ext.alloc _ _)).grown' hg (fun g e => by have := hlo g e; omega))
                   have MZ := Lib.hid (Nat.le_trans KZ4.out (Nat.le_trans (Ext.alloc _ _).size hg.size))
                   obtain ⟨A8, c8, hv, -⟩ := hol.form
                   have hl8 : (done ++ [Fw]).length = k + 1 := by simp; exact hdl
                   rw [hl8] at hv
                   subst hv
                   have MO := Lib.hid hol
                   clear g0 g1 g2 g3 hol hg hlo hne hl8
                   obtain ⟨g0, g1, g2, g3⟩ := cells4 M3.out
                   have z3 := frozen_of_row _ _ 3 _ _ M3.out)
      go_roundw
      case rel =>
        refine ⟨k + 1, at_ + 2 + 2 * L, A8, c8, done ++ [Fw], by omega, by first | rfl | (simp; omega), by go_num, Hnx, Lib.hid (by simp; exact Hdl.out), Lib.hid (by rw [HRo.out]; simp), Lib.hid ?_, Lib.hid ?_, Lib.hid (heap_setCell_same _ _ _ _ _ _ M3.out), Lib.hid ?_, Lib.hid (MX.out.set' (by simp <;> omega) _), Lib.hid (by simp; exact MZ.out)⟩
        · exact (Below.heap_setCell _ ⟨w.heap.size + 2, 3, none⟩ _ w.heap.size (by simp)).trans (M1.out.trans B1.out.symm)
        · exact (Below.heap_setCell _ ⟨w.heap.size + 2, 3, none⟩ _ (w.heap.size + 1) (by simp)).trans (M2.out.trans B2.out.symm)
        · exact OwL.set_belowO MO.out (by simp; omega) _
      case measure => simp [intOf]; omega
    · obtain rfl : k = n3 := by omega
      have hl3 := HL3.out
      have hro := HRd.out
      rw [List.drop_of_length_le (by omega)] at hro
      have hro2 : R = done := by rw [hro]; simp [rowsOf]
      subst hro2
      have hdl := Hdl.out
      have hz3 := HZ.out
      clear hro
      have u0 := frozen_of_row _ _ 0 _ _ BO.out
      have u1 := frozen_of_row _ _ 1 _ _ BO.out
      have u2 := frozen_of_row _ _ 2 _ _ BO.out
      have u3 := frozen_of_row _ _ 3 _ _ BO.out
      have v0 := frozen_of_row _ _ 0 _ _ BX.out
      have v1 := frozen_of_row _ _ 1 _ _ BX.out
      have v2 := frozen_of_row _ _ 2 _ _ BX.out
      have v3 := frozen_of_row _ _ 3 _ _ BX.out
      obtain ⟨x0, x1, x2, x3⟩ := cells4 BX.out
      obtain ⟨y0, y1, y2, y3⟩ := cells4 BO.out
      go_wp2_with fail
      refine bodyPost_ret (v := repV ⟨0, [], [], R⟩ ⟨none, 0, 0, none, 0, 0, A5, k, c5⟩) (by simp [results, Tryz.results114, go_sem, repV, rep0, repS0, *]) rfl ⟨_, rfl, ?_, ?_⟩
      · refine RepOw.mono (base := w.heap.size + 3) ?_ (by omega)
        have hfm := HO.out.form
        obtain ⟨A8, c8, hv, h91, h92, -⟩ := hfm
        rw [hdl] at hv
        injection hv with _ _ hc8
        subst hc8
        have h93 : k ≤ c5 := by omega
        have hO3 := OwL.monoO HO.out (show w.heap.size + 3 ≤ w2.heap.size by omega)
        repeat' (first | with_reducible exact (⟨Own.nil_ _ _ _ _, Own.nil_ _ _ _ _, hO3, hdl, ⟨h93, h92⟩, by unfold i64P; simp⟩ : RepOw w3 (w.heap.size + 3) ⟨0, [], [], R⟩ ⟨none, 0, 0, none, 0, 0, A5, k, c5⟩) | with_reducible refine RepOw.set_below ?_ (by simp) _)
      · repeat' (first | with_reducible exact X.out | with_reducible refine Ext.set' ?_ (by simp <;> omega) _)
end Go.Proofs.YtomcipkmohhpjaaGreat

namespace Go.Out
open Go Go.RowKit
set_option linter.unusedVariables false
theorem rows_sized : ∀ (ps : List PartD) (r : List UInt8), ps.any (fun p => decide (badP p)) = false → sumP ps ≤ (r.length : Int) → sizedB (rowsOf ps r) ps = true
  | [], _, _, _ => rfl
  | p :: ps, r, hb, hl => by
    simp only [List.any_cons, Bool.or_eq_false_iff, decide_eq_false_iff_not] at hb
    have hb1 := hb.1
    unfold badP at hb1
    have hn := sumP_nonneg hb.2
    simp only [sumP] at hl
    unfold rowsOf
    rw [sizedB_cons]
    refine ⟨?_, rows_sized ps _ hb.2 (by rw [List.length_drop]; omega)⟩
    rw [bw_length, List.length_take, List.length_drop]
    omega
theorem rows_of_some : ∀ (ps : List PartD) (r : List UInt8) (l : List (List UInt16)), filesOf ps r = some l → l = rowsOf ps r
  | [], _, l, h => by unfold filesOf at h; injection h with h; exact h.symm
  | p :: ps, [], l, h => by simp [filesOf] at h
  | p :: ps, [x], l, h => by simp [filesOf] at h
  | p :: ps, x :: y :: r, l, h => by
    unfold filesOf at h
    split at h
    · cases hq : filesOf ps (r.drop (2 * p.len.toNat)) with
      | none => rw [hq] at h; simp at h
      | some l' =>
        rw [hq] at h
        simp only [Option.map_some, Option.some.injEq] at h
        subst h
        have e : (x :: y :: r).drop (2 + 2 * p.len.toNat) = r.drop (2 * p.len.toNat) := by rw [Nat.add_comm]; rfl
        show bw (r.take (2 * p.len.toNat)) :: l' = bw (r.take (2 * p.len.toNat)) :: rowsOf ps ((x :: y :: r).drop (2 + 2 * p.len.toNat))
        rw [e, rows_of_some ps _ l' hq]
    · simp at h
theorem shape_exc (a : AskD) (b : List UInt8) : (shapeR a b).exc = 0 := by
  unfold shapeR
  repeat' split
  all_goals rfl
theorem shape_check {a : AskD} {b : List UInt8} (hK : checkF a = 0) (hl : b.length = lenR a) : checkR a (shapeR a b) = 0 := by
  have hc := codeP_cases (checkF_parts a hK).1
  by_cases h1 : a.code = 1 ∨ a.code = 2
  · have hcnt : 1 ≤ a.count := by
      have h3 : manyF a = a.count := by unfold manyF; rw [if_pos (by unfold isCnt; omega)]
      have := (checkF_parts a hK).2.2.2.2.1; omega
    unfold shapeR
    rw [if_pos h1]
    refine check_plain hK rfl ?_ ?_
    · unfold foreignB; rw [if_pos h1]; simp
    · unfold countedB; rw [if_pos h1]; simp; omega
  by_cases h2 : a.code = 3 ∨ a.code = 4
  · have hm := many_of3 hK h2
    rw [lenR3 h2] at hl
    unfold shapeR
    rw [if_neg h1, if_pos h2]
    refine check_plain hK rfl ?_ ?_
    · unfold foreignB; rw [if_neg h1, if_pos h2]; simp
    · unfold countedB; rw [if_neg h1, if_pos h2]
      simp only [bw_length, List.length_drop, decide_eq_true_eq]
      omega
  by_cases h3 : a.code = 20
  · obtain ⟨p1, p2⟩ := partsF_zero (checkF_parts a hK).2.2.2.2.2.2.2
    have p3 := sumP_nonneg p1
    rw [lenR20 h3] at hl
    unfold shapeR
    rw [if_neg h1, if_neg h2, if_pos h3]
    refine check_plain hK rfl ?_ ?_
    · unfold foreignB; rw [if_neg h1, if_neg h2, if_pos h3]; simp
    · unfold countedB; rw [if_neg h1, if_neg h2]; exact rows_sized _ _ p1 (by rw [List.length_drop]; omega)
  · unfold shapeR
    rw [if_neg h1, if_neg h2, if_neg h3]
    exact check_rep0 hK (by unfold plainC; omega)
end Go.Out
namespace Go.Proofs.YtomcipkmohhpjaaGreat
set_option linter.unusedVariables false
set_option linter.unusedSimpArgs false
set_option maxRecDepth 100000
set_option maxHeartbeats 2000000
open Go Go.RowKit Go.Out

theorem read_some {a : AskD} {b : List UInt8} {r : RepD} (hK : checkF a = 0) (hl : b.length = lenR a) (h : readR a b = some r) : r = shapeR a b := by
  by_cases hp : plainC a.code
  · by_cases hbad : ((b.getD 1 0).toNat : Int) = (b.length : Int) - 2
    · rcases plainC_cases hp with hc | hc | hc
      · have hcnt : 1 ≤ a.count := by
          have h3 : manyF a = a.count := by unfold manyF; rw [if_pos (by unfold isCnt; omega)]
          have := (checkF_parts a hK).2.2.2.2.1; omega
        rw [readR1 hc hbad] at h
        rw [lenR1 hc] at hl
        obtain ⟨n, hn⟩ := Int.eq_ofNat_of_zero_le (show 0 ≤ a.count by omega)
        have hu := unbits_mid (b.drop 2) n (by rw [List.length_drop]; have : a.count.toNat = n := by omega
                                               rw [this] at hl; omega)
        rw [hn] at h
        split at h
        · rename_i hz
          injection h with h
          subst h
          unfold shapeR
          rw [if_pos hc, hn]
          cases hsp : spare (b.drop 2) n with
          | true => rw [hu, hsp] at hz; simp at hz
          | false => rw [hu, hsp]; rfl
        · simp at h
      · rw [readR3 hc hbad] at h
        injection h with h
        unfold shapeR
        rw [if_neg (by omega), if_pos hc]; exact h.symm
      · rw [readR20 hc hbad] at h
        cases hf : filesOf a.parts (b.drop 2) with
        | none => rw [hf] at h; simp at h
        | some l =>
          rw [hf] at h
          simp only [Option.map_some, Option.some.injEq] at h
          unfold shapeR
          rw [if_neg (by omega), if_neg (by omega), if_pos hc, ← rows_of_some _ _ _ hf]; exact h.symm
    · rw [readR_bad hp hbad] at h; simp at h
  · rw [readR_echo hp] at h
    split at h
    · injection h with h
      unfold plainC at hp
      unfold shapeR
      rw [if_neg (by omega), if_neg (by omega), if_neg (by omega)]; exact h.symm
    · simp at h
theorem read_shape {a : AskD} {b : List UInt8} (hK : checkF a = 0) (hb : b.length ≠ 0) (h0 : (b0 b : Int) = a.code) (hl : b.length = lenR a) : readR a b = if (putR a (shapeR a b)).1 = b then some (shapeR a b) else none := by
  have hck := shape_check hK hl
  by_cases h : (putR a (shapeR a b)).1 = b
  · rw [if_pos h]
    have := readR_putR hck (shape_exc a b)
    rwa [h] at this
  · rw [if_neg h]
    cases hr : readR a b with
    | none => rfl
    | some r =>
      obtain rfl := read_some hK hl hr
      have hg : getR a b = (shapeR a b, 0) := by
        unfold getR
        rw [if_neg (by simpa using hK), if_neg hb, if_neg (by omega), if_neg (by omega), if_neg (by omega), if_neg (by omega), hr]
      have := (putR_getR (a := a) (b := b) (by rw [hg])).2
      rw [hg] at this
      exact absurd (by rw [this]) h
theorem ref04Shape_any (a : AskD) (b : List UInt8) (s : AskS) (A : Option Addr) (N c : Nat) (w : World) (ha : AskRd w a s) (hb : Rd w A N (b.map cB)) (hcp : N ≤ c ∧ c ≤ 9223372036854775807) (hK : checkF a = 0) (hl : lenR a = N) :
    Calls Tryz.prog 114 #[askV a s, .slice A N c] w (RetSh w (shapeR a b)) := by
  have hc := codeP_cases (checkF_parts a hK).1
  obtain ⟨m1, m2, m3⟩ := many_parts hK
  have hp := (checkF_parts a hK).2.2.2.2.2.2.2
  have HB := Lib.hid (fun W => bits04_any a s W)
  have HW := Lib.hid (fun W => words04_any a s W)
  have HF := Lib.hid (fun W => files04_any a s W)
  unfold shapeR
  by_cases h1 : a.code = 1 ∨ a.code = 2
  · have hm := m1 h1
    obtain ⟨m, hmc⟩ := Int.eq_ofNat_of_zero_le (show 0 ≤ a.count by omega)
    have hmt : a.count.toNat = m := by omega
    rw [lenR1 h1, hmt] at hl
    rw [if_pos h1, hmt]
    rw [decide_eq_true h1] at HB
    rw [decide_eq_false (by omega)] at HW
    rw [decide_eq_false (by omega)] at HF
    have := need_le (n := m) (by omega)
    exact shape_bits a.code a.addr a.count s.A1 s.A2 s.A3 s.n1 s.c1 s.n2 s.c2 s.n3 s.c3 w m hmc (by omega) A N c b hb (by omega) (by omega) hcp HB HW HF
  rw [if_neg h1]
  rw [decide_eq_false h1] at HB
  by_cases h2 : a.code = 3 ∨ a.code = 4
  · have hm := m2 h2
    rw [lenR3 h2] at hl
    rw [if_pos h2]
    rw [decide_eq_true h2] at HW
    rw [decide_eq_false (by omega)] at HF
    exact shape_words a.code a.addr a.count s.A1 s.A2 s.A3 s.n1 s.c1 s.n2 s.c2 s.n3 s.c3 w A N c b hb (by omega) (by omega) (by omega) hcp HB HW HF
  rw [if_neg h2]
  rw [decide_eq_false h2] at HW
  by_cases h3 : a.code = 20
  · have hm := m3 h3
    rw [lenR20 h3] at hl
    rw [if_pos h3]
    rw [decide_eq_true h3] at HF
    obtain ⟨p1, p2⟩ := partsF_zero hp
    have p3 := sumP_nonneg p1
    have hn := ha.n3
    exact shape_files a.code a.addr a.count s.A1 s.A2 s.A3 s.n1 s.c1 s.n2 s.c2 s.n3 s.c3 w a.parts ha.parts (by omega) A N c b hb (by omega) p1 (by omega) hcp HB HW HF
  · rw [if_neg h3]
    rw [decide_eq_false h3] at HF
    exact shape_write a.code a.addr a.count s.A1 s.A2 s.A3 s.n1 s.c1 s.n2 s.c2 s.n3 s.c3 w HB HW HF A N c

theorem r4g_no (code addr count : Int) (A1 A2 A3 : Option Addr) (n1 c1 n2 c2 n3 c3 : Nat) (w : World) (A : Option Addr) (N c : Nat) (K : Int) (hK : (K != 0) = true) (HC : Hid (∀ W, Ext w W → Calls Tryz.prog 45 #[.agg #[.int .i64 code, .int .i64 addr, .int .i64 count, .slice A1 n1 c1, .slice A2 n2 c2, .slice A3 n3 c3]] W (RetI W K))) :
    Calls Tryz.prog 96 #[.agg #[.int .i64 code, .int .i64 addr, .int .i64 count, .slice A1 n1 c1, .slice A2 n2 c2, .slice A3 n3 c3], .slice A N c] w (RetGR w (rep0, K)) := by
  go_enter Tryz.func96, Tryz.ntmps96
  go_wp2_with fail
  refine (HC.out _ ((Ext.alloc _ _).trans (Ext.alloc _ _))).mono ?_
  rintro e w1 ⟨rfl, hx⟩
  have Z := Lib.hid (show Ext w w1 from ((Ext.alloc _ _).trans (Ext.alloc _ _)).trans hx)
  have BA := Lib.hid (show w1.heap[w.heap.size]? = some (.cells #[.int .i64 code, .int .i64 addr, .int .i64 count, .slice A1 n1 c1, .slice A2 n2 c2, .slice A3 n3 c3] 37 (0, 0)) from hx.block ((Ext.alloc _ _).block (heap_at _ _ _ (by simp))))
  have BO := Lib.hid (show w1.heap[w.heap.size + 1]? = some (.cells #[.int .i64 0, .slice none 0 0, .slice none 0 0, .slice none 0 0] 40 (0, 0)) from hx.block (heap_at _ _ _ (by simp)))
  have X := Lib.hid Z.out
  clear hx Z
  obtain ⟨d0, d1, d2, d3, d4, d5⟩ := cells6 BA.out
  obtain ⟨f0, f1, f2, f3⟩ := cells4 BO.out
  have fz0 := frozen_of_row _ _ 0 _ _ BO.out
  have fz1 := frozen_of_row _ _ 1 _ _ BO.out
  have fz2 := frozen_of_row _ _ 2 _ _ BO.out
  have fz3 := frozen_of_row _ _ 3 _ _ BO.out
  go_wp2_with fail
  refine bodyPost_ret (v := .tuple #[repV rep0 repS0, .int .i64 K]) (by simp [results, Tryz.results96, go_sem, repV, rep0, repS0, *]) rfl ⟨repS0, rfl, repOw0 _ _, ?_⟩
  repeat' (first | with_reducible exact X.out | with_reducible refine Ext.drewN' ?_ _ | with_reducible refine Ext.drew' ?_ | with_reducible refine Ext.alloc' ?_ _ | with_reducible refine Ext.set' ?_ (by simp <;> omega) _)
theorem r4g_nil (code addr count : Int) (A1 A2 A3 : Option Addr) (n1 c1 n2 c2 n3 c3 : Nat) (w : World) (A : Option Addr) (N c : Nat) (HC : Hid (∀ W, Ext w W → Calls Tryz.prog 45 #[.agg #[.int .i64 code, .int .i64 addr, .int .i64 count, .slice A1 n1 c1, .slice A2 n2 c2, .slice A3 n3 c3]] W (RetI W 0))) (hN : N = 0) :
    Calls Tryz.prog 96 #[.agg #[.int .i64 code, .int .i64 addr, .int .i64 count, .slice A1 n1 c1, .slice A2 n2 c2, .slice A3 n3 c3], .slice A N c] w (RetGR w (rep0, 1)) := by
  subst hN
  go_enter Tryz.func96, Tryz.ntmps96
  go_wp2_with fail
  refine (HC.out _ ((Ext.alloc _ _).trans (Ext.alloc _ _))).mono ?_
  rintro e w1 ⟨rfl, hx⟩
  have Z := Lib.hid (show Ext w w1 from ((Ext.alloc _ _).trans (Ext.alloc _ _)).trans hx)
  have BA := Lib.hid (show w1.heap[w.heap.size]? = some (.cells #[.int .i64 code, .int .i64 addr, .int .i64 count, .slice A1 n1 c1, .slice A2 n2 c2, .slice A3 n3 c3] 37 (0, 0)) from hx.block ((Ext.alloc _ _).block (heap_at _ _ _ (by simp))))
  have BO := Lib.hid (show w1.heap[w.heap.size + 1]? = some (.cells #[.int .i64 0, .slice none 0 0, .slice none 0 0, .slice none 0 0] 40 (0, 0)) from hx.block (heap_at _ _ _ (by simp)))
  have X := Lib.hid Z.out
  clear hx Z
  obtain ⟨d0, d1, d2, d3, d4, d5⟩ := cells6 BA.out
  obtain ⟨f0, f1, f2, f3⟩ := cells4 BO.out
  have fz0 := frozen_of_row _ _ 0 _ _ BO.out
  have fz1 := frozen_of_row _ _ 1 _ _ BO.out
  have fz2 := frozen_of_row _ _ 2 _ _ BO.out
  have fz3 := frozen_of_row _ _ 3 _ _ BO.out
  go_wp2_with fail
  refine bodyPost_ret (v := .tuple #[repV rep0 repS0, .int .i64 1]) (by simp [results, Tryz.results96, go_sem, repV, rep0, repS0, *]) rfl ⟨repS0, rfl, repOw0 _ _, ?_⟩
  repeat' (first | with_reducible exact X.out | with_reducible refine Ext.drewN' ?_ _ | with_reducible refine Ext.drew' ?_ | with_reducible refine Ext.alloc' ?_ _ | with_reducible refine Ext.set' ?_ (by simp <;> omega) _)
theorem r4g_ex1 (code addr count : Int) (A1 A2 A3 : Option Addr) (n1 c1 n2 c2 n3 c3 : Nat) (w : World) (A : Option Addr) (N c : Nat) (HC : Hid (∀ W, Ext w W → Calls Tryz.prog 45 #[.agg #[.int .i64 code, .int .i64 addr, .int .i64 count, .slice A1 n1 c1, .slice A2 n2 c2, .slice A3 n3 c3]] W (RetI W 0)))(x0 : Nat) (bk off : Nat) (hA : A = some ⟨bk, off, none⟩) (hN : 0 < N) (hN0 : ((N : Int) == 0) = false) (hbk : bk < w.heap.size) (hc0 : w.cell? ⟨bk, off, none⟩ = some (.int .u8 (x0 : Int))) (hex : (IntKind.i64.wrap (x0 : Int) == IntKind.i64.wrap (code + 128)) = true) (hexw : (wrap64 (x0 : Int) == wrap64 (code + 128)) = true) (h1 : N = 1) :
    Calls Tryz.prog 96 #[.agg #[.int .i64 code, .int .i64 addr, .int .i64 count, .slice A1 n1 c1, .slice A2 n2 c2, .slice A3 n3 c3], .slice A N c] w (RetGR w (rep0, 1)) := by
  subst h1
  subst hA
  have HC0 := Lib.hid (fun W (hX : Ext w W) => hX.cell hbk hc0)
  clear hc0
  go_enter Tryz.func96, Tryz.ntmps96
  go_wp2_with fail
  refine (HC.out _ ((Ext.alloc _ _).trans (Ext.alloc _ _))).mono ?_
  rintro e w1 ⟨rfl, hx⟩
  have Z := Lib.hid (show Ext w w1 from ((Ext.alloc _ _).trans (Ext.alloc _ _)).trans hx)
  have BA := Lib.hid (show w1.heap[w.heap.size]? = some (.cells #[.int .i64 code, .int .i64 addr, .int .i64 count, .slice A1 n1 c1, .slice A2 n2 c2, .slice A3 n3 c3] 37 (0, 0)) from hx.block ((Ext.alloc _ _).block (heap_at _ _ _ (by simp))))
  have BO := Lib.hid (show w1.heap[w.heap.size + 1]? = some (.cells #[.int .i64 0, .slice none 0 0, .slice none 0 0, .slice none 0 0] 40 (0, 0)) from hx.block (heap_at _ _ _ (by simp)))
  have X := Lib.hid Z.out
  clear hx Z
  obtain ⟨d0, d1, d2, d3, d4, d5⟩ := cells6 BA.out
  obtain ⟨f0, f1, f2, f3⟩ := cells4 BO.out
  have fz0 := frozen_of_row _ _ 0 _ _ BO.out
  have fz1 := frozen_of_row _ _ 1 _ _ BO.out
  have fz2 := frozen_of_row _ _ 2 _ _ BO.out
  have fz3 := frozen_of_row _ _ 3 _ _ BO.out
  have e0 := HC0.out _ X.out
  go_wp2_with fail
  go_quiet (fail)
  go_wp2_with fail
  refine bodyPost_ret (v := .tuple #[repV rep0 repS0, .int .i64 1]) (by simp [results, Tryz.results96, go_sem, repV, rep0, repS0, *]) rfl ⟨repS0, rfl, repOw0 _ _, ?_⟩
  repeat' (first | with_reducible exact X.out | with_reducible refine Ext.drewN' ?_ _ | with_reducible refine Ext.drew' ?_ | with_reducible refine Ext.alloc' ?_ _ | with_reducible refine Ext.set' ?_ (by simp <;> omega) _)
theorem r4g_exl (code addr count : Int) (A1 A2 A3 : Option Addr) (n1 c1 n2 c2 n3 c3 : Nat) (w : World) (A : Option Addr) (N c : Nat) (HC : Hid (∀ W, Ext w W → Calls Tryz.prog 45 #[.agg #[.int .i64 code, .int .i64 addr, .int .i64 count, .slice A1 n1 c1, .slice A2 n2 c2, .slice A3 n3 c3]] W (RetI W 0)))(x0 : Nat) (bk off : Nat) (hA : A = some ⟨bk, off, none⟩) (hN : 0 < N) (hN0 : ((N : Int) == 0) = false) (hbk : bk < w.heap.size) (hc0 : w.cell? ⟨bk, off, none⟩ = some (.int .u8 (x0 : Int))) (hex : (IntKind.i64.wrap (x0 : Int) == IntKind.i64.wrap (code + 128)) = true) (hexw : (wrap64 (x0 : Int) == wrap64 (code + 128)) = true) (h1 : 2 < N) (h2 : ((N : Int) == 1) = false) :
    Calls Tryz.prog 96 #[.agg #[.int .i64 code, .int .i64 addr, .int .i64 count, .slice A1 n1 c1, .slice A2 n2 c2, .slice A3 n3 c3], .slice A N c] w (RetGR w (rep0, 2)) := by
  subst hA
  have HC0 := Lib.hid (fun W (hX : Ext w W) => hX.cell hbk hc0)
  clear hc0
  go_enter Tryz.func96, Tryz.ntmps96
  go_wp2_with fail
  refine (HC.out _ ((Ext.alloc _ _).trans (Ext.alloc _ _))).mono ?_
  rintro e w1 ⟨rfl, hx⟩
  have Z := Lib.hid (show Ext w w1 from ((Ext.alloc _ _).trans (Ext.alloc _ _)).trans hx)
  have BA := Lib.hid (show w1.heap[w.heap.size]? = some (.cells #[.int .i64 code, .int .i64 addr, .int .i64 count, .slice A1 n1 c1, .slice A2 n2 c2, .slice A3 n3 c3] 37 (0, 0)) from hx.block ((Ext.alloc _ _).block (heap_at _ _ _ (by simp))))
  have BO := Lib.hid (show w1.heap[w.heap.size + 1]? = some (.cells #[.int .i64 0, .slice none 0 0, .slice none 0 0, .slice none 0 0] 40 (0, 0)) from hx.block (heap_at _ _ _ (by simp)))
  have X := Lib.hid Z.out
  clear hx Z
  obtain ⟨d0, d1, d2, d3, d4, d5⟩ := cells6 BA.out
  obtain ⟨f0, f1, f2, f3⟩ := cells4 BO.out
  have fz0 := frozen_of_row _ _ 0 _ _ BO.out
  have fz1 := frozen_of_row _ _ 1 _ _ BO.out
  have fz2 := frozen_of_row _ _ 2 _ _ BO.out
  have fz3 := frozen_of_row _ _ 3 _ _ BO.out
  have e0 := HC0.out _ X.out
  go_wp2_with fail
  go_quiet (fail)
  go_wp2_with fail
  refine bodyPost_ret (v := .tuple #[repV rep0 repS0, .int .i64 2]) (by simp [results, Tryz.results96, go_sem, repV, rep0, repS0, *]) rfl ⟨repS0, rfl, repOw0 _ _, ?_⟩
  repeat' (first | with_reducible exact X.out | with_reducible refine Ext.drewN' ?_ _ | with_reducible refine Ext.drew' ?_ | with_reducible refine Ext.alloc' ?_ _ | with_reducible refine Ext.set' ?_ (by simp <;> omega) _)
theorem r4g_exz (code addr count : Int) (A1 A2 A3 : Option Addr) (n1 c1 n2 c2 n3 c3 : Nat) (w : World) (A : Option Addr) (N c : Nat) (HC : Hid (∀ W, Ext w W → Calls Tryz.prog 45 #[.agg #[.int .i64 code, .int .i64 addr, .int .i64 count, .slice A1 n1 c1, .slice A2 n2 c2, .slice A3 n3 c3]] W (RetI W 0)))(x0 : Nat) (bk off : Nat) (hA : A = some ⟨bk, off, none⟩) (hN : 0 < N) (hN0 : ((N : Int) == 0) = false) (hbk : bk < w.heap.size) (hc0 : w.cell? ⟨bk, off, none⟩ = some (.int .u8 (x0 : Int))) (hex : (IntKind.i64.wrap (x0 : Int) == IntKind.i64.wrap (code + 128)) = true) (hexw : (wrap64 (x0 : Int) == wrap64 (code + 128)) = true) (x1 : Nat) (hx1 : x1 < 256) (hc1 : w.cell? ⟨bk, off + 1, none⟩ = some (.int .u8 (x1 : Int))) (h2 : N = 2) (h1 : x1 = 0) :
    Calls Tryz.prog 96 #[.agg #[.int .i64 code, .int .i64 addr, .int .i64 count, .slice A1 n1 c1, .slice A2 n2 c2, .slice A3 n3 c3], .slice A N c] w (RetGR w (rep0, 3)) := by
  subst h2; subst h1
  subst hA
  have HC0 := Lib.hid (fun W (hX : Ext w W) => hX.cell hbk hc0)
  have HC1 := Lib.hid (fun W (hX : Ext w W) => hX.cell hbk hc1)
  clear hc1
  clear hc0
  go_enter Tryz.func96, Tryz.ntmps96
  go_wp2_with fail
  refine (HC.out _ ((Ext.alloc _ _).trans (Ext.alloc _ _))).mono ?_
  rintro e w1 ⟨rfl, hx⟩
  have Z := Lib.hid (show Ext w w1 from ((Ext.alloc _ _).trans (Ext.alloc _ _)).trans hx)
  have BA := Lib.hid (show w1.heap[w.heap.size]? = some (.cells #[.int .i64 code, .int .i64 addr, .int .i64 count, .slice A1 n1 c1, .slice A2 n2 c2, .slice A3 n3 c3] 37 (0, 0)) from hx.block ((Ext.alloc _ _).block (heap_at _ _ _ (by simp))))
  have BO := Lib.hid (show w1.heap[w.heap.size + 1]? = some (.cells #[.int .i64 0, .slice none 0 0, .slice none 0 0, .slice none 0 0] 40 (0, 0)) from hx.block (heap_at _ _ _ (by simp)))
  have X := Lib.hid Z.out
  clear hx Z
  obtain ⟨d0, d1, d2, d3, d4, d5⟩ := cells6 BA.out
  obtain ⟨f0, f1, f2, f3⟩ := cells4 BO.out
  have fz0 := frozen_of_row _ _ 0 _ _ BO.out
  have fz1 := frozen_of_row _ _ 1 _ _ BO.out
  have fz2 := frozen_of_row _ _ 2 _ _ BO.out
  have fz3 := frozen_of_row _ _ 3 _ _ BO.out
  have e0 := HC0.out _ X.out
  have e1 := HC1.out _ X.out
  go_wp2_with fail
  go_quiet (fail)
  go_wp2_with fail
  refine bodyPost_ret (v := .tuple #[repV rep0 repS0, .int .i64 3]) (by simp [results, Tryz.results96, go_sem, repV, rep0, repS0, *]) rfl ⟨repS0, rfl, repOw0 _ _, ?_⟩
  repeat' (first | with_reducible exact X.out | with_reducible refine Ext.drewN' ?_ _ | with_reducible refine Ext.drew' ?_ | with_reducible refine Ext.alloc' ?_ _ | with_reducible refine Ext.set' ?_ (by simp <;> omega) _)
theorem r4g_exh (code addr count : Int) (A1 A2 A3 : Option Addr) (n1 c1 n2 c2 n3 c3 : Nat) (w : World) (A : Option Addr) (N c : Nat) (HC : Hid (∀ W, Ext w W → Calls Tryz.prog 45 #[.agg #[.int .i64 code, .int .i64 addr, .int .i64 count, .slice A1 n1 c1, .slice A2 n2 c2, .slice A3 n3 c3]] W (RetI W 0)))(x0 : Nat) (bk off : Nat) (hA : A = some ⟨bk, off, none⟩) (hN : 0 < N) (hN0 : ((N : Int) == 0) = false) (hbk : bk < w.heap.size) (hc0 : w.cell? ⟨bk, off, none⟩ = some (.int .u8 (x0 : Int))) (hex : (IntKind.i64.wrap (x0 : Int) == IntKind.i64.wrap (code + 128)) = true) (hexw : (wrap64 (x0 : Int) == wrap64 (code + 128)) = true) (x1 : Nat) (hx1 : x1 < 256) (hc1 : w.cell? ⟨bk, off + 1, none⟩ = some (.int .u8 (x1 : Int))) (h2 : N = 2) (h1 : (127 : Int) < (x1 : Int)) (q0 : ((x1 : Int) == 0) = false) :
    Calls Tryz.prog 96 #[.agg #[.int .i64 code, .int .i64 addr, .int .i64 count, .slice A1 n1 c1, .slice A2 n2 c2, .slice A3 n3 c3], .slice A N c] w (RetGR w (rep0, 3)) := by
  subst h2
  have n0 : ¬ (x1 : Int) = 0 := by omega
  subst hA
  have HC0 := Lib.hid (fun W (hX : Ext w W) => hX.cell hbk hc0)
  have HC1 := Lib.hid (fun W (hX : Ext w W) => hX.cell hbk hc1)
  clear hc1
  clear hc0
  go_enter Tryz.func96, Tryz.ntmps96
  go_wp2_with fail
  refine (HC.out _ ((Ext.alloc _ _).trans (Ext.alloc _ _))).mono ?_
  rintro e w1 ⟨rfl, hx⟩
  have Z := Lib.hid (show Ext w w1 from ((Ext.alloc _ _).trans (Ext.alloc _ _)).trans hx)
  have BA := Lib.hid (show w1.heap[w.heap.size]? = some (.cells #[.int .i64 code, .int .i64 addr, .int .i64 count, .slice A1 n1 c1, .slice A2 n2 c2, .slice A3 n3 c3] 37 (0, 0)) from hx.block ((Ext.alloc _ _).block (heap_at _ _ _ (by simp))))
  have BO := Lib.hid (show w1.heap[w.heap.size + 1]? = some (.cells #[.int .i64 0, .slice none 0 0, .slice none 0 0, .slice none 0 0] 40 (0, 0)) from hx.block (heap_at _ _ _ (by simp)))
  have X := Lib.hid Z.out
  clear hx Z
  obtain ⟨d0, d1, d2, d3, d4, d5⟩ := cells6 BA.out
  obtain ⟨f0, f1, f2, f3⟩ := cells4 BO.out
  have fz0 := frozen_of_row _ _ 0 _ _ BO.out
  have fz1 := frozen_of_row _ _ 1 _ _ BO.out
  have fz2 := frozen_of_row _ _ 2 _ _ BO.out
  have fz3 := frozen_of_row _ _ 3 _ _ BO.out
  have e0 := HC0.out _ X.out
  have e1 := HC1.out _ X.out
  go_wp2_with fail
  go_quiet (fail)
  go_wp2_with fail
  refine bodyPost_ret (v := .tuple #[repV rep0 repS0, .int .i64 3]) (by simp [results, Tryz.results96, go_sem, repV, rep0, repS0, *]) rfl ⟨repS0, rfl, repOw0 _ _, ?_⟩
  repeat' (first | with_reducible exact X.out | with_reducible refine Ext.drewN' ?_ _ | with_reducible refine Ext.drew' ?_ | with_reducible refine Ext.alloc' ?_ _ | with_reducible refine Ext.set' ?_ (by simp <;> omega) _)
theorem r4g_exo (code addr count : Int) (A1 A2 A3 : Option Addr) (n1 c1 n2 c2 n3 c3 : Nat) (w : World) (A : Option Addr) (N c : Nat) (HC : Hid (∀ W, Ext w W → Calls Tryz.prog 45 #[.agg #[.int .i64 code, .int .i64 addr, .int .i64 count, .slice A1 n1 c1, .slice A2 n2 c2, .slice A3 n3 c3]] W (RetI W 0)))(x0 : Nat) (bk off : Nat) (hA : A = some ⟨bk, off, none⟩) (hN : 0 < N) (hN0 : ((N : Int) == 0) = false) (hbk : bk < w.heap.size) (hc0 : w.cell? ⟨bk, off, none⟩ = some (.int .u8 (x0 : Int))) (hex : (IntKind.i64.wrap (x0 : Int) == IntKind.i64.wrap (code + 128)) = true) (hexw : (wrap64 (x0 : Int) == wrap64 (code + 128)) = true) (x1 : Nat) (hx1 : x1 < 256) (hc1 : w.cell? ⟨bk, off + 1, none⟩ = some (.int .u8 (x1 : Int))) (h2 : N = 2) (h1 : ¬ (127 : Int) < (x1 : Int)) (q0 : ((x1 : Int) == 0) = false) :
    Calls Tryz.prog 96 #[.agg #[.int .i64 code, .int .i64 addr, .int .i64 count, .slice A1 n1 c1, .slice A2 n2 c2, .slice A3 n3 c3], .slice A N c] w (RetGR w (⟨(x1 : Int), [], [], []⟩, 0)) := by
  subst h2
  have n0 : ¬ (x1 : Int) = 0 := by simpa using q0
  have v2 : IntKind.i64.wrap (x1 : Int) = (x1 : Int) := IntWalk.i64_in _ (by omega)
  subst hA
  have HC0 := Lib.hid (fun W (hX : Ext w W) => hX.cell hbk hc0)
  have HC1 := Lib.hid (fun W (hX : Ext w W) => hX.cell hbk hc1)
  clear hc1
  clear hc0
  go_enter Tryz.func96, Tryz.ntmps96
  go_wp2_with fail
  refine (HC.out _ ((Ext.alloc _ _).trans (Ext.alloc _ _))).mono ?_
  rintro e w1 ⟨rfl, hx⟩
  have Z := Lib.hid (show Ext w w1 from ((Ext.alloc _ _).trans (Ext.alloc _ _)).trans hx)
  have BA := Lib.hid (show w1.heap[w.heap.size]? = some (.cells #[.int .i64 code, .int .i64 addr, .int .i64 count, .slice A1 n1 c1, .slice A2 n2 c2, .slice A3 n3 c3] 37 (0, 0)) from hx.block ((Ext.alloc _ _).block (heap_at _ _ _ (by simp))))
  have BO := Lib.hid (show w1.heap[w.heap.size + 1]? = some (.cells #[.int .i64 0, .slice none 0 0, .slice none 0 0, .slice none 0 0] 40 (0, 0)) from hx.block (heap_at _ _ _ (by simp)))
  have X := Lib.hid Z.out
  clear hx Z
  obtain ⟨d0, d1, d2, d3, d4, d5⟩ := cells6 BA.out
  obtain ⟨f0, f1, f2, f3⟩ := cells4 BO.out
  have fz0 := frozen_of_row _ _ 0 _ _ BO.out
  have fz1 := frozen_of_row _ _ 1 _ _ BO.out
  have fz2 := frozen_of_row _ _ 2 _ _ BO.out
  have fz3 := frozen_of_row _ _ 3 _ _ BO.out
  have e0 := HC0.out _ X.out
  have e1 := HC1.out _ X.out
  go_wp2_with fail
  go_quiet (fail)
  go_wp2_with fail
  refine bodyPost_ret (v := .tuple #[repV ⟨(x1 : Int), [], [], []⟩ repS0, .int .i64 0]) (by simp [results, Tryz.results96, go_sem, repV, rep0, repS0, *]) rfl ⟨repS0, rfl, repOwE _ _ _ (by unfold i64P; omega), ?_⟩
  repeat' (first | with_reducible exact X.out | with_reducible refine Ext.drewN' ?_ _ | with_reducible refine Ext.drew' ?_ | with_reducible refine Ext.alloc' ?_ _ | with_reducible refine Ext.set' ?_ (by simp <;> omega) _)
theorem r4g_code (code addr count : Int) (A1 A2 A3 : Option Addr) (n1 c1 n2 c2 n3 c3 : Nat) (w : World) (A : Option Addr) (N c : Nat) (HC : Hid (∀ W, Ext w W → Calls Tryz.prog 45 #[.agg #[.int .i64 code, .int .i64 addr, .int .i64 count, .slice A1 n1 c1, .slice A2 n2 c2, .slice A3 n3 c3]] W (RetI W 0)))(x0 : Nat) (bk off : Nat) (hA : A = some ⟨bk, off, none⟩) (hN : 0 < N) (hN0 : ((N : Int) == 0) = false) (hbk : bk < w.heap.size) (hc0 : w.cell? ⟨bk, off, none⟩ = some (.int .u8 (x0 : Int))) (hex : (IntKind.i64.wrap (x0 : Int) == IntKind.i64.wrap (code + 128)) = false) (hexw : (wrap64 (x0 : Int) == wrap64 (code + 128)) = false) (hce : (IntKind.i64.wrap (x0 : Int) != IntKind.i64.wrap code) = true) (hcew : (wrap64 (x0 : Int) != code) = true)  :
    Calls Tryz.prog 96 #[.agg #[.int .i64 code, .int .i64 addr, .int .i64 count, .slice A1 n1 c1, .slice A2 n2 c2, .slice A3 n3 c3], .slice A N c] w (RetGR w (rep0, 20)) := by
  subst hA
  have HC0 := Lib.hid (fun W (hX : Ext w W) => hX.cell hbk hc0)
  clear hc0
  go_enter Tryz.func96, Tryz.ntmps96
  go_wp2_with fail
  refine (HC.out _ ((Ext.alloc _ _).trans (Ext.alloc _ _))).mono ?_
  rintro e w1 ⟨rfl, hx⟩
  have Z := Lib.hid (show Ext w w1 from ((Ext.alloc _ _).trans (Ext.alloc _ _)).trans hx)
  have BA := Lib.hid (show w1.heap[w.heap.size]? = some (.cells #[.int .i64 code, .int .i64 addr, .int .i64 count, .slice A1 n1 c1, .slice A2 n2 c2, .slice A3 n3 c3] 37 (0, 0)) from hx.block ((Ext.alloc _ _).block (heap_at _ _ _ (by simp))))
  have BO := Lib.hid (show w1.heap[w.heap.size + 1]? = some (.cells #[.int .i64 0, .slice none 0 0, .slice none 0 0, .slice none 0 0] 40 (0, 0)) from hx.block (heap_at _ _ _ (by simp)))
  have X := Lib.hid Z.out
  clear hx Z
  obtain ⟨d0, d1, d2, d3, d4, d5⟩ := cells6 BA.out
  obtain ⟨f0, f1, f2, f3⟩ := cells4 BO.out
  have fz0 := frozen_of_row _ _ 0 _ _ BO.out
  have fz1 := frozen_of_row _ _ 1 _ _ BO.out
  have fz2 := frozen_of_row _ _ 2 _ _ BO.out
  have fz3 := frozen_of_row _ _ 3 _ _ BO.out
  have e0 := HC0.out _ X.out
  go_wp2_with fail
  go_quiet (fail)
  go_wp2_with fail
  go_quiet (fail)
  go_wp2_with fail
  refine bodyPost_ret (v := .tuple #[repV rep0 repS0, .int .i64 20]) (by simp [results, Tryz.results96, go_sem, repV, rep0, repS0, *]) rfl ⟨repS0, rfl, repOw0 _ _, ?_⟩
  repeat' (first | with_reducible exact X.out | with_reducible refine Ext.drewN' ?_ _ | with_reducible refine Ext.drew' ?_ | with_reducible refine Ext.alloc' ?_ _ | with_reducible refine Ext.set' ?_ (by simp <;> omega) _)
theorem r4g_short (code addr count : Int) (A1 A2 A3 : Option Addr) (n1 c1 n2 c2 n3 c3 : Nat) (w : World) (A : Option Addr) (N c : Nat) (HC : Hid (∀ W, Ext w W → Calls Tryz.prog 45 #[.agg #[.int .i64 code, .int .i64 addr, .int .i64 count, .slice A1 n1 c1, .slice A2 n2 c2, .slice A3 n3 c3]] W (RetI W 0)))(x0 : Nat) (bk off : Nat) (hA : A = some ⟨bk, off, none⟩) (hN : 0 < N) (hN0 : ((N : Int) == 0) = false) (hbk : bk < w.heap.size) (hc0 : w.cell? ⟨bk, off, none⟩ = some (.int .u8 (x0 : Int))) (hex : (IntKind.i64.wrap (x0 : Int) == IntKind.i64.wrap (code + 128)) = false) (hexw : (wrap64 (x0 : Int) == wrap64 (code + 128)) = false) (hce : (IntKind.i64.wrap (x0 : Int) != IntKind.i64.wrap code) = false) (hcew : (wrap64 (x0 : Int) != code) = false) (L : Nat) (HL : Hid (∀ W, Ext w W → Calls Tryz.prog 113 #[.agg #[.int .i64 code, .int .i64 addr, .int .i64 count, .slice A1 n1 c1, .slice A2 n2 c2, .slice A3 n3 c3]] W (RetI W (L : Nat)))) (hs : (N : Int) < (L : Int)) :
    Calls Tryz.prog 96 #[.agg #[.int .i64 code, .int .i64 addr, .int .i64 count, .slice A1 n1 c1, .slice A2 n2 c2, .slice A3 n3 c3], .slice A N c] w (RetGR w (rep0, 1)) := by
  subst hA
  have HC0 := Lib.hid (fun W (hX : Ext w W) => hX.cell hbk hc0)
  clear hc0
  go_enter Tryz.func96, Tryz.ntmps96
  go_wp2_with fail
  refine (HC.out _ ((Ext.alloc _ _).trans (Ext.alloc _ _))).mono ?_
  rintro e w1 ⟨rfl, hx⟩
  have Z := Lib.hid (show Ext w w1 from ((Ext.alloc _ _).trans (Ext.alloc _ _)).trans hx)
  have BA := Lib.hid (show w1.heap[w.heap.size]? = some (.cells #[.int .i64 code, .int .i64 addr, .int .i64 count, .slice A1 n1 c1, .slice A2 n2 c2, .slice A3 n3 c3] 37 (0, 0)) from hx.block ((Ext.alloc _ _).block (heap_at _ _ _ (by simp))))
  have BO := Lib.hid (show w1.heap[w.heap.size + 1]? = some (.cells #[.int .i64 0, .slice none 0 0, .slice none 0 0, .slice none 0 0] 40 (0, 0)) from hx.block (heap_at _ _ _ (by simp)))
  have X := Lib.hid Z.out
  clear hx Z
  obtain ⟨d0, d1, d2, d3, d4, d5⟩ := cells6 BA.out
  obtain ⟨f0, f1, f2, f3⟩ := cells4 BO.out
  have fz0 := frozen_of_row _ _ 0 _ _ BO.out
  have fz1 := frozen_of_row _ _ 1 _ _ BO.out
  have fz2 := frozen_of_row _ _ 2 _ _ BO.out
  have fz3 := frozen_of_row _ _ 3 _ _ BO.out
  have e0 := HC0.out _ X.out
  go_wp2_with fail
  go_quiet (fail)
  go_wp2_with fail
  go_quiet (fail)
  go_wp2_with fail
  refine (HL.out _ (X.out.trans (Ext.draws _ _))).mono ?_
  rintro e w2 ⟨rfl, hx⟩
  have Z := Lib.hid (show Ext w1 w2 from (Ext.draws _ _).trans hx)
  replace BA := Lib.hid (Z.out.block BA.out)
  replace BO := Lib.hid (Z.out.block BO.out)
  replace X := Lib.hid (X.out.trans Z.out)
  clear d0 d1 d2 d3 d4 d5 f0 f1 f2 f3 fz0 fz1 fz2 fz3 e0
  clear hx Z
  obtain ⟨d0, d1, d2, d3, d4, d5⟩ := cells6 BA.out
  obtain ⟨f0, f1, f2, f3⟩ := cells4 BO.out
  have fz0 := frozen_of_row _ _ 0 _ _ BO.out
  have fz1 := frozen_of_row _ _ 1 _ _ BO.out
  have fz2 := frozen_of_row _ _ 2 _ _ BO.out
  have fz3 := frozen_of_row _ _ 3 _ _ BO.out
  go_wp2_with fail
  refine bodyPost_ret (v := .tuple #[repV rep0 repS0, .int .i64 1]) (by simp [results, Tryz.results96, go_sem, repV, rep0, repS0, *]) rfl ⟨repS0, rfl, repOw0 _ _, ?_⟩
  repeat' (first | with_reducible exact X.out | with_reducible refine Ext.drewN' ?_ _ | with_reducible refine Ext.drew' ?_ | with_reducible refine Ext.alloc' ?_ _ | with_reducible refine Ext.set' ?_ (by simp <;> omega) _)
theorem r4g_long (code addr count : Int) (A1 A2 A3 : Option Addr) (n1 c1 n2 c2 n3 c3 : Nat) (w : World) (A : Option Addr) (N c : Nat) (HC : Hid (∀ W, Ext w W → Calls Tryz.prog 45 #[.agg #[.int .i64 code, .int .i64 addr, .int .i64 count, .slice A1 n1 c1, .slice A2 n2 c2, .slice A3 n3 c3]] W (RetI W 0)))(x0 : Nat) (bk off : Nat) (hA : A = some ⟨bk, off, none⟩) (hN : 0 < N) (hN0 : ((N : Int) == 0) = false) (hbk : bk < w.heap.size) (hc0 : w.cell? ⟨bk, off, none⟩ = some (.int .u8 (x0 : Int))) (hex : (IntKind.i64.wrap (x0 : Int) == IntKind.i64.wrap (code + 128)) = false) (hexw : (wrap64 (x0 : Int) == wrap64 (code + 128)) = false) (hce : (IntKind.i64.wrap (x0 : Int) != IntKind.i64.wrap code) = false) (hcew : (wrap64 (x0 : Int) != code) = false) (L : Nat) (HL : Hid (∀ W, Ext w W → Calls Tryz.prog 113 #[.agg #[.int .i64 code, .int .i64 addr, .int .i64 count, .slice A1 n1 c1, .slice A2 n2 c2, .slice A3 n3 c3]] W (RetI W (L : Nat)))) (hs : (L : Int) < (N : Int)) :
    Calls Tryz.prog 96 #[.agg #[.int .i64 code, .int .i64 addr, .int .i64 count, .slice A1 n1 c1, .slice A2 n2 c2, .slice A3 n3 c3], .slice A N c] w (RetGR w (rep0, 2)) := by
  subst hA
  have HC0 := Lib.hid (fun W (hX : Ext w W) => hX.cell hbk hc0)
  clear hc0
  go_enter Tryz.func96, Tryz.ntmps96
  go_wp2_with fail
  refine (HC.out _ ((Ext.alloc _ _).trans (Ext.alloc _ _))).mono ?_
  rintro e w1 ⟨rfl, hx⟩
  have Z := Lib.hid (show Ext w w1 from ((Ext.alloc _ _).trans (Ext.alloc _ _)).trans hx)
  have BA := Lib.hid (show w1.heap[w.heap.size]? = some (.cells #[.int .i64 code, .int .i64 addr, .int .i64 count, .slice A1 n1 c1, .slice A2 n2 c2, .slice A3 n3 c3] 37 (0, 0)) from hx.block ((Ext.alloc _ _).block (heap_at _ _ _ (by simp))))
  have BO := Lib.hid (show w1.heap[w.heap.size + 1]? = some (.cells #[.int .i64 0, .slice none 0 0, .slice none 0 0, .slice none 0 0] 40 (0, 0)) from hx.block (heap_at _ _ _ (by simp)))
  have X := Lib.hid Z.out
  clear hx Z
  obtain ⟨d0, d1, d2, d3, d4, d5⟩ := cells6 BA.out
  obtain ⟨f0, f1, f2, f3⟩ := cells4 BO.out
  have fz0 := frozen_of_row _ _ 0 _ _ BO.out
  have fz1 := frozen_of_row _ _ 1 _ _ BO.out
  have fz2 := frozen_of_row _ _ 2 _ _ BO.out
  have fz3 := frozen_of_row _ _ 3 _ _ BO.out
  have e0 := HC0.out _ X.out
  go_wp2_with fail
  go_quiet (fail)
  go_wp2_with fail
  go_quiet (fail)
  go_wp2_with fail
  refine (HL.out _ (X.out.trans (Ext.draws _ _))).mono ?_
  rintro e w2 ⟨rfl, hx⟩
  have Z := Lib.hid (show Ext w1 w2 from (Ext.draws _ _).trans hx)
  replace BA := Lib.hid (Z.out.block BA.out)
  replace BO := Lib.hid (Z.out.block BO.out)
  replace X := Lib.hid (X.out.trans Z.out)
  clear d0 d1 d2 d3 d4 d5 f0 f1 f2 f3 fz0 fz1 fz2 fz3 e0
  clear hx Z
  obtain ⟨d0, d1, d2, d3, d4, d5⟩ := cells6 BA.out
  obtain ⟨f0, f1, f2, f3⟩ := cells4 BO.out
  have fz0 := frozen_of_row _ _ 0 _ _ BO.out
  have fz1 := frozen_of_row _ _ 1 _ _ BO.out
  have fz2 := frozen_of_row _ _ 2 _ _ BO.out
  have fz3 := frozen_of_row _ _ 3 _ _ BO.out
  go_wp2_with fail
  refine (HL.out _ X.out).mono ?_
  rintro e w3 ⟨rfl, hx⟩
  have Z := Lib.hid (show Ext w2 w3 from hx)
  replace BA := Lib.hid (Z.out.block BA.out)
  replace BO := Lib.hid (Z.out.block BO.out)
  replace X := Lib.hid (X.out.trans Z.out)
  clear d0 d1 d2 d3 d4 d5 f0 f1 f2 f3 fz0 fz1 fz2 fz3
  clear hx Z
  obtain ⟨d0, d1, d2, d3, d4, d5⟩ := cells6 BA.out
  obtain ⟨f0, f1, f2, f3⟩ := cells4 BO.out
  have fz0 := frozen_of_row _ _ 0 _ _ BO.out
  have fz1 := frozen_of_row _ _ 1 _ _ BO.out
  have fz2 := frozen_of_row _ _ 2 _ _ BO.out
  have fz3 := frozen_of_row _ _ 3 _ _ BO.out
  go_wp2_with fail
  refine bodyPost_ret (v := .tuple #[repV rep0 repS0, .int .i64 2]) (by simp [results, Tryz.results96, go_sem, repV, rep0, repS0, *]) rfl ⟨repS0, rfl, repOw0 _ _, ?_⟩
  repeat' (first | with_reducible exact X.out | with_reducible refine Ext.drewN' ?_ _ | with_reducible refine Ext.drew' ?_ | with_reducible refine Ext.alloc' ?_ _ | with_reducible refine Ext.set' ?_ (by simp <;> omega) _)
theorem r4g_ok (code addr count : Int) (A1 A2 A3 : Option Addr) (n1 c1 n2 c2 n3 c3 : Nat) (w : World) (A : Option Addr) (N c : Nat) (HC : Hid (∀ W, Ext w W → Calls Tryz.prog 45 #[.agg #[.int .i64 code, .int .i64 addr, .int .i64 count, .slice A1 n1 c1, .slice A2 n2 c2, .slice A3 n3 c3]] W (RetI W 0)))(x0 : Nat) (bk off : Nat) (hA : A = some ⟨bk, off, none⟩) (hN : 0 < N) (hN0 : ((N : Int) == 0) = false) (hbk : bk < w.heap.size) (hc0 : w.cell? ⟨bk, off, none⟩ = some (.int .u8 (x0 : Int))) (hex : (IntKind.i64.wrap (x0 : Int) == IntKind.i64.wrap (code + 128)) = false) (hexw : (wrap64 (x0 : Int) == wrap64 (code + 128)) = false) (hce : (IntKind.i64.wrap (x0 : Int) != IntKind.i64.wrap code) = false) (hcew : (wrap64 (x0 : Int) != code) = false) (L : Nat) (HL : Hid (∀ W, Ext w W → Calls Tryz.prog 113 #[.agg #[.int .i64 code, .int .i64 addr, .int .i64 count, .slice A1 n1 c1, .slice A2 n2 c2, .slice A3 n3 c3]] W (RetI W (L : Nat)))) (hs : L = N) (r1 : RepD) (he : r1.exc = 0) (xs : List UInt8) (b : List UInt8) (hb : Rd w A N (b.map cB)) (hNN : N ≤ 300) (HSH : Hid (∀ W, Ext w W → Calls Tryz.prog 114 #[.agg #[.int .i64 code, .int .i64 addr, .int .i64 count, .slice A1 n1 c1, .slice A2 n2 c2, .slice A3 n3 c3], .slice A N c] W (RetSh W r1)))(HPT : Hid (∀ W t, Ext w W → RepRd W r1 t → Calls Tryz.prog 28 #[.agg #[.int .i64 code, .int .i64 addr, .int .i64 count, .slice A1 n1 c1, .slice A2 n2 c2, .slice A3 n3 c3], repV r1 t] W (RetU W xs 0)))(hxe : xs = b) :
    Calls Tryz.prog 96 #[.agg #[.int .i64 code, .int .i64 addr, .int .i64 count, .slice A1 n1 c1, .slice A2 n2 c2, .slice A3 n3 c3], .slice A N c] w (RetGR w (r1, 0)) := by
  subst hs
  have HBB := Lib.hid hb
  obtain ⟨exc, ron, rset, files⟩ := r1
  simp only at he
  subst he
  simp only [repV] at HPT
  clear hb
  subst hxe
  have hxl : xs.length ≤ 300 := by have := HBB.out.length; omega
  subst hA
  have HC0 := Lib.hid (fun W (hX : Ext w W) => hX.cell hbk hc0)
  clear hc0
  go_enter Tryz.func96, Tryz.ntmps96
  go_wp2_with fail
  refine (HC.out _ ((Ext.alloc _ _).trans (Ext.alloc _ _))).mono ?_
  rintro e w1 ⟨rfl, hx⟩
  have Z := Lib.hid (show Ext w w1 from ((Ext.alloc _ _).trans (Ext.alloc _ _)).trans hx)
  have BA := Lib.hid (show w1.heap[w.heap.size]? = some (.cells #[.int .i64 code, .int .i64 addr, .int .i64 count, .slice A1 n1 c1, .slice A2 n2 c2, .slice A3 n3 c3] 37 (0, 0)) from hx.block ((Ext.alloc _ _).block (heap_at _ _ _ (by simp))))
  have BO := Lib.hid (show w1.heap[w.heap.size + 1]? = some (.cells #[.int .i64 0, .slice none 0 0, .slice none 0 0, .slice none 0 0] 40 (0, 0)) from hx.block (heap_at _ _ _ (by simp)))
  have X := Lib.hid Z.out
  clear hx Z
  obtain ⟨d0, d1, d2, d3, d4, d5⟩ := cells6 BA.out
  obtain ⟨f0, f1, f2, f3⟩ := cells4 BO.out
  have fz0 := frozen_of_row _ _ 0 _ _ BO.out
  have fz1 := frozen_of_row _ _ 1 _ _ BO.out
  have fz2 := frozen_of_row _ _ 2 _ _ BO.out
  have fz3 := frozen_of_row _ _ 3 _ _ BO.out
  have e0 := HC0.out _ X.out
  go_wp2_with fail
  go_quiet (fail)
  go_wp2_with fail
  go_quiet (fail)
  go_wp2_with fail
  refine (HL.out _ (X.out.trans (Ext.draws _ _))).mono ?_
  rintro e w2 ⟨rfl, hx⟩
  have Z := Lib.hid (show Ext w1 w2 from (Ext.draws _ _).trans hx)
  replace BA := Lib.hid (Z.out.block BA.out)
  replace BO := Lib.hid (Z.out.block BO.out)
  replace X := Lib.hid (X.out.trans Z.out)
  clear d0 d1 d2 d3 d4 d5 f0 f1 f2 f3 fz0 fz1 fz2 fz3 e0
  clear hx Z
  obtain ⟨d0, d1, d2, d3, d4, d5⟩ := cells6 BA.out
  obtain ⟨f0, f1, f2, f3⟩ := cells4 BO.out
  have fz0 := frozen_of_row _ _ 0 _ _ BO.out
  have fz1 := frozen_of_row _ _ 1 _ _ BO.out
  have fz2 := frozen_of_row _ _ 2 _ _ BO.out
  have fz3 := frozen_of_row _ _ 3 _ _ BO.out
  go_wp2_with fail
  refine (HL.out _ X.out).mono ?_
  rintro e w3 ⟨rfl, hx⟩
  have Z := Lib.hid (show Ext w2 w3 from hx)
  replace BA := Lib.hid (Z.out.block BA.out)
  replace BO := Lib.hid (Z.out.block BO.out)
  replace X := Lib.hid (X.out.trans Z.out)
  clear d0 d1 d2 d3 d4 d5 f0 f1 f2 f3 fz0 fz1 fz2 fz3
  clear hx Z
  obtain ⟨d0, d1, d2, d3, d4, d5⟩ := cells6 BA.out
  obtain ⟨f0, f1, f2, f3⟩ := cells4 BO.out
  have fz0 := frozen_of_row _ _ 0 _ _ BO.out
  have fz1 := frozen_of_row _ _ 1 _ _ BO.out
  have fz2 := frozen_of_row _ _ 2 _ _ BO.out
  have fz3 := frozen_of_row _ _ 3 _ _ BO.out
  go_wp2_with fail
  have BOO := BO
  refine (HSH.out _ X.out).mono ?_
  rintro e w4 ⟨t, rfl, how, hx⟩
  have Z := Lib.hid (show Ext w3 w4 from hx)
  replace BA := Lib.hid (Z.out.block BA.out)
  replace BO := Lib.hid (Z.out.block BO.out)
  replace X := Lib.hid (X.out.trans Z.out)
  have HW := Lib.hid (how.mono (show w.heap.size + 2 ≤ _ from by have := lt_of_heap BOO.out; omega))
  clear how
  obtain ⟨B1, m1, k1, B2, m2, k2, B3, m3, k3⟩ := t
  simp only [repV]
  clear d0 d1 d2 d3 d4 d5 f0 f1 f2 f3 fz0 fz1 fz2 fz3
  clear hx Z
  obtain ⟨d0, d1, d2, d3, d4, d5⟩ := cells6 BA.out
  have da0 := fun o : Obj => (cells6 ((Ext.alloc _ o).block BA.out)).1
  have da1 := fun o : Obj => (cells6 ((Ext.alloc _ o).block BA.out)).2.1
  have da2 := fun o : Obj => (cells6 ((Ext.alloc _ o).block BA.out)).2.2.1
  have da3 := fun o : Obj => (cells6 ((Ext.alloc _ o).block BA.out)).2.2.2.1
  have da4 := fun o : Obj => (cells6 ((Ext.alloc _ o).block BA.out)).2.2.2.2.1
  have da5 := fun o : Obj => (cells6 ((Ext.alloc _ o).block BA.out)).2.2.2.2.2
  obtain ⟨f0, f1, f2, f3⟩ := cells4 BO.out
  have fa0 := fun o : Obj => (cells4 ((Ext.alloc _ o).block BO.out)).1
  have fa1 := fun o : Obj => (cells4 ((Ext.alloc _ o).block BO.out)).2.1
  have fa2 := fun o : Obj => (cells4 ((Ext.alloc _ o).block BO.out)).2.2.1
  have fa3 := fun o : Obj => (cells4 ((Ext.alloc _ o).block BO.out)).2.2.2
  have fz0 := frozen_of_row _ _ 0 _ _ BO.out
  have fz1 := frozen_of_row _ _ 1 _ _ BO.out
  have fz2 := frozen_of_row _ _ 2 _ _ BO.out
  have fz3 := frozen_of_row _ _ 3 _ _ BO.out
  go_wp2_with fail
  refine (HPT.out _ ⟨B1, m1, k1, B2, m2, k2, B3, m3, k3⟩ (X.out.trans (Ext.alloc _ _)) (HW.out.ext (Ext.alloc _ _)).rd).mono ?_
  rintro e w5 ⟨A5, n5, c5, rfl, ho5, hx⟩
  have Z := Lib.hid (show Ext w4 w5 from (Ext.alloc _ _).trans hx)
  replace BA := Lib.hid (Z.out.block BA.out)
  replace BO := Lib.hid (Z.out.block BO.out)
  have BX := Lib.hid (show w5.heap[w4.heap.size]? = some (.cells #[.int .i64 0, .slice B1 m1 k1, .slice B2 m2 k2, .slice B3 m3 k3] 40 (0, 0)) from hx.block (heap_at _ _ _ (by simp)))
  replace X := Lib.hid (X.out.trans Z.out)
  replace HW := Lib.hid (HW.out.ext Z.out)
  obtain rfl : xs.length = n5 := by have := ho5.len; simpa using this
  have HO := Lib.hid ho5.rd
  clear ho5
  clear d0 d1 d2 d3 d4 d5 da0 da1 da2 da3 da4 da5 f0 f1 f2 f3 fa0 fa1 fa2 fa3 fz0 fz1 fz2 fz3
  clear hx Z
  obtain ⟨d0, d1, d2, d3, d4, d5⟩ := cells6 BA.out
  obtain ⟨f0, f1, f2, f3⟩ := cells4 BO.out
  have fz0 := frozen_of_row _ _ 0 _ _ BO.out
  have fz1 := frozen_of_row _ _ 1 _ _ BO.out
  have fz2 := frozen_of_row _ _ 2 _ _ BO.out
  have fz3 := frozen_of_row _ _ 3 _ _ BO.out
  obtain ⟨g0, g1, g2, g3⟩ := cells4 BX.out
  go_wp2_with fail
  refine (same_any xs xs _ _ _ _ _ _ _ HO.out (HBB.out.ext X.out) (by unfold maxLen; omega)).mono ?_
  rintro e w6 ⟨rfl, hx⟩
  have Z := Lib.hid (show Ext w5 w6 from (Ext.of hx))
  replace BA := Lib.hid (Z.out.block BA.out)
  replace BO := Lib.hid (Z.out.block BO.out)
  replace BX := Lib.hid (Z.out.block BX.out)
  replace X := Lib.hid (X.out.trans Z.out)
  replace HW := Lib.hid (HW.out.ext Z.out)
  replace HO := Lib.hid (HO.out.ext Z.out)
  rw [decide_eq_true rfl]
  clear d0 d1 d2 d3 d4 d5 f0 f1 f2 f3 fz0 fz1 fz2 fz3 g0 g1 g2 g3
  clear hx Z
  obtain ⟨d0, d1, d2, d3, d4, d5⟩ := cells6 BA.out
  have da0 := fun o : Obj => (cells6 ((Ext.alloc _ o).block BA.out)).1
  have da1 := fun o : Obj => (cells6 ((Ext.alloc _ o).block BA.out)).2.1
  have da2 := fun o : Obj => (cells6 ((Ext.alloc _ o).block BA.out)).2.2.1
  have da3 := fun o : Obj => (cells6 ((Ext.alloc _ o).block BA.out)).2.2.2.1
  have da4 := fun o : Obj => (cells6 ((Ext.alloc _ o).block BA.out)).2.2.2.2.1
  have da5 := fun o : Obj => (cells6 ((Ext.alloc _ o).block BA.out)).2.2.2.2.2
  obtain ⟨f0, f1, f2, f3⟩ := cells4 BO.out
  have fa0 := fun o : Obj => (cells4 ((Ext.alloc _ o).block BO.out)).1
  have fa1 := fun o : Obj => (cells4 ((Ext.alloc _ o).block BO.out)).2.1
  have fa2 := fun o : Obj => (cells4 ((Ext.alloc _ o).block BO.out)).2.2.1
  have fa3 := fun o : Obj => (cells4 ((Ext.alloc _ o).block BO.out)).2.2.2
  have fz0 := frozen_of_row _ _ 0 _ _ BO.out
  have fz1 := frozen_of_row _ _ 1 _ _ BO.out
  have fz2 := frozen_of_row _ _ 2 _ _ BO.out
  have fz3 := frozen_of_row _ _ 3 _ _ BO.out
  obtain ⟨g0, g1, g2, g3⟩ := cells4 BX.out
  have ga0 := fun o : Obj => (cells4 ((Ext.alloc _ o).block BX.out)).1
  have ga1 := fun o : Obj => (cells4 ((Ext.alloc _ o).block BX.out)).2.1
  have ga2 := fun o : Obj => (cells4 ((Ext.alloc _ o).block BX.out)).2.2.1
  have ga3 := fun o : Obj => (cells4 ((Ext.alloc _ o).block BX.out)).2.2.2
  go_wp2_with fail
  refine bodyPost_ret (v := .tuple #[repV ⟨0, ron, rset, files⟩ ⟨B1, m1, k1, B2, m2, k2, B3, m3, k3⟩, .int .i64 0]) (by simp [results, Tryz.results96, go_sem, repV, rep0, repS0, *]) rfl ⟨_, rfl, ?_, ?_⟩
  · refine RepOw.mono (base := w.heap.size + 2) ?_ (by omega)
    repeat' (first | with_reducible exact HW.out | with_reducible refine RepOw.set_below ?_ (by simp) _)
  · repeat' (first | with_reducible exact X.out | with_reducible refine Ext.drewN' ?_ _ | with_reducible refine Ext.drew' ?_ | with_reducible refine Ext.alloc' ?_ _ | with_reducible refine Ext.set' ?_ (by simp <;> omega) _)
theorem r4g_form (code addr count : Int) (A1 A2 A3 : Option Addr) (n1 c1 n2 c2 n3 c3 : Nat) (w : World) (A : Option Addr) (N c : Nat) (HC : Hid (∀ W, Ext w W → Calls Tryz.prog 45 #[.agg #[.int .i64 code, .int .i64 addr, .int .i64 count, .slice A1 n1 c1, .slice A2 n2 c2, .slice A3 n3 c3]] W (RetI W 0)))(x0 : Nat) (bk off : Nat) (hA : A = some ⟨bk, off, none⟩) (hN : 0 < N) (hN0 : ((N : Int) == 0) = false) (hbk : bk < w.heap.size) (hc0 : w.cell? ⟨bk, off, none⟩ = some (.int .u8 (x0 : Int))) (hex : (IntKind.i64.wrap (x0 : Int) == IntKind.i64.wrap (code + 128)) = false) (hexw : (wrap64 (x0 : Int) == wrap64 (code + 128)) = false) (hce : (IntKind.i64.wrap (x0 : Int) != IntKind.i64.wrap code) = false) (hcew : (wrap64 (x0 : Int) != code) = false) (L : Nat) (HL : Hid (∀ W, Ext w W → Calls Tryz.prog 113 #[.agg #[.int .i64 code, .int .i64 addr, .int .i64 count, .slice A1 n1 c1, .slice A2 n2 c2, .slice A3 n3 c3]] W (RetI W (L : Nat)))) (hs : L = N) (r1 : RepD) (he : r1.exc = 0) (xs : List UInt8) (b : List UInt8) (hb : Rd w A N (b.map cB)) (hNN : N ≤ 300) (HSH : Hid (∀ W, Ext w W → Calls Tryz.prog 114 #[.agg #[.int .i64 code, .int .i64 addr, .int .i64 count, .slice A1 n1 c1, .slice A2 n2 c2, .slice A3 n3 c3], .slice A N c] W (RetSh W r1)))(HPT : Hid (∀ W t, Ext w W → RepRd W r1 t → Calls Tryz.prog 28 #[.agg #[.int .i64 code, .int .i64 addr, .int .i64 count, .slice A1 n1 c1, .slice A2 n2 c2, .slice A3 n3 c3], repV r1 t] W (RetU W xs 0)))(hxe : xs ≠ b) (hxl : xs.length ≤ 300) :
    Calls Tryz.prog 96 #[.agg #[.int .i64 code, .int .i64 addr, .int .i64 count, .slice A1 n1 c1, .slice A2 n2 c2, .slice A3 n3 c3], .slice A N c] w (RetGR w (rep0, 4)) := by
  subst hs
  have HBB := Lib.hid hb
  obtain ⟨exc, ron, rset, files⟩ := r1
  simp only at he
  subst he
  simp only [repV] at HPT
  clear hb
  subst hA
  have HC0 := Lib.hid (fun W (hX : Ext w W) => hX.cell hbk hc0)
  clear hc0
  go_enter Tryz.func96, Tryz.ntmps96
  go_wp2_with fail
  refine (HC.out _ ((Ext.alloc _ _).trans (Ext.alloc _ _))).mono ?_
  rintro e w1 ⟨rfl, hx⟩
  have Z := Lib.hid (show Ext w w1 from ((Ext.alloc _ _).trans (Ext.alloc _ _)).trans hx)
  have BA := Lib.hid (show w1.heap[w.heap.size]? = some (.cells #[.int .i64 code, .int .i64 addr, .int .i64 count, .slice A1 n1 c1, .slice A2 n2 c2, .slice A3 n3 c3] 37 (0, 0)) from hx.block ((Ext.alloc _ _).block (heap_at _ _ _ (by simp))))
  have BO := Lib.hid (show w1.heap[w.heap.size + 1]? = some (.cells #[.int .i64 0, .slice none 0 0, .slice none 0 0, .slice none 0 0] 40 (0, 0)) from hx.block (heap_at _ _ _ (by simp)))
  have X := Lib.hid Z.out
  clear hx Z
  obtain ⟨d0, d1, d2, d3, d4, d5⟩ := cells6 BA.out
  obtain ⟨f0, f1, f2, f3⟩ := cells4 BO.out
  have fz0 := frozen_of_row _ _ 0 _ _ BO.out
  have fz1 := frozen_of_row _ _ 1 _ _ BO.out
  have fz2 := frozen_of_row _ _ 2 _ _ BO.out
  have fz3 := frozen_of_row _ _ 3 _ _ BO.out
  have e0 := HC0.out _ X.out
  go_wp2_with fail
  go_quiet (fail)
  go_wp2_with fail
  go_quiet (fail)
  go_wp2_with fail
  refine (HL.out _ (X.out.trans (Ext.draws _ _))).mono ?_
  rintro e w2 ⟨rfl, hx⟩
  have Z := Lib.hid (show Ext w1 w2 from (Ext.draws _ _).trans hx)
  replace BA := Lib.hid (Z.out.block BA.out)
  replace BO := Lib.hid (Z.out.block BO.out)
  replace X := Lib.hid (X.out.trans Z.out)
  clear d0 d1 d2 d3 d4 d5 f0 f1 f2 f3 fz0 fz1 fz2 fz3 e0
  clear hx Z
  obtain ⟨d0, d1, d2, d3, d4, d5⟩ := cells6 BA.out
  obtain ⟨f0, f1, f2, f3⟩ := cells4 BO.out
  have fz0 := frozen_of_row _ _ 0 _ _ BO.out
  have fz1 := frozen_of_row _ _ 1 _ _ BO.out
  have fz2 := frozen_of_row _ _ 2 _ _ BO.out
  have fz3 := frozen_of_row _ _ 3 _ _ BO.out
  go_wp2_with fail
  refine (HL.out _ X.out).mono ?_
  rintro e w3 ⟨rfl, hx⟩
  have Z := Lib.hid (show Ext w2 w3 from hx)
  replace BA := Lib.hid (Z.out.block BA.out)
  replace BO := Lib.hid (Z.out.block BO.out)
  replace X := Lib.hid (X.out.trans Z.out)
  clear d0 d1 d2 d3 d4 d5 f0 f1 f2 f3 fz0 fz1 fz2 fz3
  clear hx Z
  obtain ⟨d0, d1, d2, d3, d4, d5⟩ := cells6 BA.out
  obtain ⟨f0, f1, f2, f3⟩ := cells4 BO.out
  have fz0 := frozen_of_row _ _ 0 _ _ BO.out
  have fz1 := frozen_of_row _ _ 1 _ _ BO.out
  have fz2 := frozen_of_row _ _ 2 _ _ BO.out
  have fz3 := frozen_of_row _ _ 3 _ _ BO.out
  go_wp2_with fail
  have BOO := BO
  refine (HSH.out _ X.out).mono ?_
  rintro e w4 ⟨t, rfl, how, hx⟩
  have Z := Lib.hid (show Ext w3 w4 from hx)
  replace BA := Lib.hid (Z.out.block BA.out)
  replace BO := Lib.hid (Z.out.block BO.out)
  replace X := Lib.hid (X.out.trans Z.out)
  have HW := Lib.hid (how.mono (show w.heap.size + 2 ≤ _ from by have := lt_of_heap BOO.out; omega))
  clear how
  obtain ⟨B1, m1, k1, B2, m2, k2, B3, m3, k3⟩ := t
  simp only [repV]
  clear d0 d1 d2 d3 d4 d5 f0 f1 f2 f3 fz0 fz1 fz2 fz3
  clear hx Z
  obtain ⟨d0, d1, d2, d3, d4, d5⟩ := cells6 BA.out
  have da0 := fun o : Obj => (cells6 ((Ext.alloc _ o).block BA.out)).1
  have da1 := fun o : Obj => (cells6 ((Ext.alloc _ o).block BA.out)).2.1
  have da2 := fun o : Obj => (cells6 ((Ext.alloc _ o).block BA.out)).2.2.1
  have da3 := fun o : Obj => (cells6 ((Ext.alloc _ o).block BA.out)).2.2.2.1
  have da4 := fun o : Obj => (cells6 ((Ext.alloc _ o).block BA.out)).2.2.2.2.1
  have da5 := fun o : Obj => (cells6 ((Ext.alloc _ o).block BA.out)).2.2.2.2.2
  obtain ⟨f0, f1, f2, f3⟩ := cells4 BO.out
  have fa0 := fun o : Obj => (cells4 ((Ext.alloc _ o).block BO.out)).1
  have fa1 := fun o : Obj => (cells4 ((Ext.alloc _ o).block BO.out)).2.1
  have fa2 := fun o : Obj => (cells4 ((Ext.alloc _ o).block BO.out)).2.2.1
  have fa3 := fun o : Obj => (cells4 ((Ext.alloc _ o).block BO.out)).2.2.2
  have fz0 := frozen_of_row _ _ 0 _ _ BO.out
  have fz1 := frozen_of_row _ _ 1 _ _ BO.out
  have fz2 := frozen_of_row _ _ 2 _ _ BO.out
  have fz3 := frozen_of_row _ _ 3 _ _ BO.out
  go_wp2_with fail
  refine (HPT.out _ ⟨B1, m1, k1, B2, m2, k2, B3, m3, k3⟩ (X.out.trans (Ext.alloc _ _)) (HW.out.ext (Ext.alloc _ _)).rd).mono ?_
  rintro e w5 ⟨A5, n5, c5, rfl, ho5, hx⟩
  have Z := Lib.hid (show Ext w4 w5 from (Ext.alloc _ _).trans hx)
  replace BA := Lib.hid (Z.out.block BA.out)
  replace BO := Lib.hid (Z.out.block BO.out)
  have BX := Lib.hid (show w5.heap[w4.heap.size]? = some (.cells #[.int .i64 0, .slice B1 m1 k1, .slice B2 m2 k2, .slice B3 m3 k3] 40 (0, 0)) from hx.block (heap_at _ _ _ (by simp)))
  replace X := Lib.hid (X.out.trans Z.out)
  replace HW := Lib.hid (HW.out.ext Z.out)
  obtain rfl : xs.length = n5 := by have := ho5.len; simpa using this
  have HO := Lib.hid ho5.rd
  clear ho5
  clear d0 d1 d2 d3 d4 d5 da0 da1 da2 da3 da4 da5 f0 f1 f2 f3 fa0 fa1 fa2 fa3 fz0 fz1 fz2 fz3
  clear hx Z
  obtain ⟨d0, d1, d2, d3, d4, d5⟩ := cells6 BA.out
  obtain ⟨f0, f1, f2, f3⟩ := cells4 BO.out
  have fz0 := frozen_of_row _ _ 0 _ _ BO.out
  have fz1 := frozen_of_row _ _ 1 _ _ BO.out
  have fz2 := frozen_of_row _ _ 2 _ _ BO.out
  have fz3 := frozen_of_row _ _ 3 _ _ BO.out
  obtain ⟨g0, g1, g2, g3⟩ := cells4 BX.out
  go_wp2_with fail
  refine (same_any xs b _ _ _ _ _ _ _ HO.out (HBB.out.ext X.out) (by unfold maxLen; omega)).mono ?_
  rintro e w6 ⟨rfl, hx⟩
  have Z := Lib.hid (show Ext w5 w6 from (Ext.of hx))
  replace BA := Lib.hid (Z.out.block BA.out)
  replace BO := Lib.hid (Z.out.block BO.out)
  replace BX := Lib.hid (Z.out.block BX.out)
  replace X := Lib.hid (X.out.trans Z.out)
  replace HW := Lib.hid (HW.out.ext Z.out)
  replace HO := Lib.hid (HO.out.ext Z.out)
  rw [decide_eq_false hxe]
  clear d0 d1 d2 d3 d4 d5 f0 f1 f2 f3 fz0 fz1 fz2 fz3 g0 g1 g2 g3
  clear hx Z
  obtain ⟨d0, d1, d2, d3, d4, d5⟩ := cells6 BA.out
  have da0 := fun o : Obj => (cells6 ((Ext.alloc _ o).block BA.out)).1
  have da1 := fun o : Obj => (cells6 ((Ext.alloc _ o).block BA.out)).2.1
  have da2 := fun o : Obj => (cells6 ((Ext.alloc _ o).block BA.out)).2.2.1
  have da3 := fun o : Obj => (cells6 ((Ext.alloc _ o).block BA.out)).2.2.2.1
  have da4 := fun o : Obj => (cells6 ((Ext.alloc _ o).block BA.out)).2.2.2.2.1
  have da5 := fun o : Obj => (cells6 ((Ext.alloc _ o).block BA.out)).2.2.2.2.2
  obtain ⟨f0, f1, f2, f3⟩ := cells4 BO.out
  have fa0 := fun o : Obj => (cells4 ((Ext.alloc _ o).block BO.out)).1
  have fa1 := fun o : Obj => (cells4 ((Ext.alloc _ o).block BO.out)).2.1
  have fa2 := fun o : Obj => (cells4 ((Ext.alloc _ o).block BO.out)).2.2.1
  have fa3 := fun o : Obj => (cells4 ((Ext.alloc _ o).block BO.out)).2.2.2
  have fz0 := frozen_of_row _ _ 0 _ _ BO.out
  have fz1 := frozen_of_row _ _ 1 _ _ BO.out
  have fz2 := frozen_of_row _ _ 2 _ _ BO.out
  have fz3 := frozen_of_row _ _ 3 _ _ BO.out
  obtain ⟨g0, g1, g2, g3⟩ := cells4 BX.out
  have ga0 := fun o : Obj => (cells4 ((Ext.alloc _ o).block BX.out)).1
  have ga1 := fun o : Obj => (cells4 ((Ext.alloc _ o).block BX.out)).2.1
  have ga2 := fun o : Obj => (cells4 ((Ext.alloc _ o).block BX.out)).2.2.1
  have ga3 := fun o : Obj => (cells4 ((Ext.alloc _ o).block BX.out)).2.2.2
  go_wp2_with fail
  refine bodyPost_ret (v := .tuple #[repV rep0 repS0, .int .i64 4]) (by simp [results, Tryz.results96, go_sem, repV, rep0, repS0, *]) rfl ⟨repS0, rfl, repOw0 _ _, ?_⟩
  repeat' (first | with_reducible exact X.out | with_reducible refine Ext.drewN' ?_ _ | with_reducible refine Ext.drew' ?_ | with_reducible refine Ext.alloc' ?_ _ | with_reducible refine Ext.set' ?_ (by simp <;> omega) _)

theorem ref04Get_any (a : AskD) (b : List UInt8) (s : AskS) (A : Option Addr) (N c : Nat) (w : World) (ha : AskRd w a s) (hb : Rd w A N (b.map cB)) (hcp : N ≤ c ∧ c ≤ 9223372036854775807) (hN : N ≤ 140737488355328) :
    Calls Tryz.prog 96 #[askV a s, .slice A N c] w (RetGR w (getR a b)) := by
  have hbl := hb.length
  have HC := Lib.hid (fun W (hX : Ext w W) => refCheck_any a s W (ha.ext hX))
  by_cases hK : checkF a = 0
  · have HL := Lib.hid (fun W (hX : Ext w W) => ref04Length_any a s W (ha.ext hX) hK)
    have HSH := fun (h : lenR a = N) => Lib.hid (fun W (hX : Ext w W) => ref04Shape_any a b s A N c W (ha.ext hX) (hb.ext hX) hcp hK h)
    have HPT := fun (h : b.length = lenR a) => (by
      have h1 := (putR_shape (shape_check hK h) (shape_exc a b)).1
      have h2 := Lib.hid (fun W t (hX : Ext w W) (h : RepRd W (shapeR a b) t) => ref04Put_any a (shapeR a b) s t W (ha.ext hX) h)
      rwa [h1] at h2 : Hid (∀ W t, Ext w W → RepRd W (shapeR a b) t → Calls Tryz.prog 28 #[askV a s, repV (shapeR a b) t] W (RetU W (putR a (shapeR a b)).1 0)))
    have hcl := code_lt hK
    rw [hK] at HC
    by_cases h0 : N = 0
    · have hg : getR a b = (rep0, 1) := by unfold getR; rw [if_neg (by simpa using hK), if_pos (by omega)]
      rw [hg]
      exact r4g_nil a.code a.addr a.count s.A1 s.A2 s.A3 s.n1 s.c1 s.n2 s.c2 s.n3 s.c3 w A N c HC h0
    · obtain ⟨bk, off, hA, hbk, hcl0⟩ := hb.2 (by omega)
      obtain ⟨x0, r, hbe, hb0⟩ := b0_ne (b := b) (by omega)
      have hc0 : w.cell? ⟨bk, off, none⟩ = some (.int .u8 (x0.toNat : Int)) := by have := hcl0 0 (cB x0) (by rw [hbe]; rfl); rwa [Nat.add_zero] at this
      have hx0 := x0.toNat_lt
      have hN0 : ((N : Int) == 0) = false := by simp; omega
      have w1 : IntKind.i64.wrap (x0.toNat : Int) = (x0.toNat : Int) := IntWalk.i64_in _ (by omega)
      have w2 : IntKind.i64.wrap (a.code + 128) = a.code + 128 := IntWalk.i64_in _ (by omega)
      have w3 : IntKind.i64.wrap a.code = a.code := IntWalk.i64_in _ (by omega)
      have w4 : wrap64 (x0.toNat : Int) = (x0.toNat : Int) := IntWalk.wrap64_in _ (by omega)
      have w5 : wrap64 (a.code + 128) = a.code + 128 := IntWalk.wrap64_in _ (by omega)
      by_cases h1 : (x0.toNat : Int) = a.code + 128
      · have hg : getR a b = exR b := by unfold getR; rw [if_neg (by simpa using hK), if_neg (by omega), if_pos (by rw [hb0]; exact h1)]
        rw [hg]
        have e1 : (IntKind.i64.wrap (x0.toNat : Int) == IntKind.i64.wrap (a.code + 128)) = true := by rw [w1, w2]; simpa using h1
        have e2 : (wrap64 (x0.toNat : Int) == wrap64 (a.code + 128)) = true := by rw [w4, w5]; simpa using h1
        clear w1 w2 w3 w4 w5
        unfold exR
        by_cases h2 : N = 1
        · rw [if_pos (by omega)]
          exact r4g_ex1 a.code a.addr a.count s.A1 s.A2 s.A3 s.n1 s.c1 s.n2 s.c2 s.n3 s.c3 w A N c HC x0.toNat bk off hA (by omega) hN0 hbk hc0 e1 e2 h2
        · rw [if_neg (by omega)]
          by_cases h3 : 2 < N
          · rw [if_pos (by omega)]
            exact r4g_exl a.code a.addr a.count s.A1 s.A2 s.A3 s.n1 s.c1 s.n2 s.c2 s.n3 s.c3 w A N c HC x0.toNat bk off hA (by omega) hN0 hbk hc0 e1 e2 h3 (by simp; omega)
          · rw [if_neg (by omega)]
            obtain ⟨y0, x1, r2, hbe2⟩ := len2 (b := b) (by omega)
            have hc1 : w.cell? ⟨bk, off + 1, none⟩ = some (.int .u8 (x1.toNat : Int)) := hcl0 1 (cB x1) (by rw [hbe2]; rfl)
            have hg1 : b.getD 1 0 = x1 := by rw [hbe2]; rfl
            have hx1 := x1.toNat_lt
            have hz : x1 = 0 ↔ x1.toNat = 0 := ⟨fun h => by rw [h]; rfl, fun h => UInt8.toNat.inj (by rw [h]; rfl)⟩
            rw [hg1]
            by_cases h4 : x1 = 0 ∨ 127 < x1.toNat
            · rw [if_pos h4]
              rw [hz] at h4
              rcases Nat.eq_zero_or_pos x1.toNat with h5 | h5
              · exact r4g_exz a.code a.addr a.count s.A1 s.A2 s.A3 s.n1 s.c1 s.n2 s.c2 s.n3 s.c3 w A N c HC x0.toNat bk off hA (by omega) hN0 hbk hc0 e1 e2 x1.toNat hx1 hc1 (by omega) h5
              · exact r4g_exh a.code a.addr a.count s.A1 s.A2 s.A3 s.n1 s.c1 s.n2 s.c2 s.n3 s.c3 w A N c HC x0.toNat bk off hA (by omega) hN0 hbk hc0 e1 e2 x1.toNat hx1 hc1 (by omega) (by omega) (by simp; omega)
            · rw [if_neg h4]
              rw [hz] at h4
              exact r4g_exo a.code a.addr a.count s.A1 s.A2 s.A3 s.n1 s.c1 s.n2 s.c2 s.n3 s.c3 w A N c HC x0.toNat bk off hA (by omega) hN0 hbk hc0 e1 e2 x1.toNat hx1 hc1 (by omega) (by omega) (by simp; omega)
      · have e1 : (IntKind.i64.wrap (x0.toNat : Int) == IntKind.i64.wrap (a.code + 128)) = false := by rw [w1, w2]; simpa using h1
        have e2 : (wrap64 (x0.toNat : Int) == wrap64 (a.code + 128)) = false := by rw [w4, w5]; simpa using h1
        unfold getR
        rw [if_neg (by simpa using hK), if_neg (by omega), if_neg (by rw [hb0]; exact h1), hb0]
        by_cases h2 : (x0.toNat : Int) ≠ a.code
        · rw [if_pos h2]
          have e3 : (IntKind.i64.wrap (x0.toNat : Int) != IntKind.i64.wrap a.code) = true := by rw [w1, w3]; simpa using h2
          have e4 : (wrap64 (x0.toNat : Int) != a.code) = true := by rw [w4]; simpa using h2
          clear w1 w2 w3 w4 w5
          exact r4g_code a.code a.addr a.count s.A1 s.A2 s.A3 s.n1 s.c1 s.n2 s.c2 s.n3 s.c3 w A N c HC x0.toNat bk off hA (by omega) hN0 hbk hc0 e1 e2 e3 e4
        · rw [if_neg h2]
          have e3 : (IntKind.i64.wrap (x0.toNat : Int) != IntKind.i64.wrap a.code) = false := by rw [w1, w3]; simpa using h2
          have e4 : (wrap64 (x0.toNat : Int) != a.code) = false := by rw [w4]; simpa using h2
          clear w1 w2 w3 w4 w5
          by_cases h3 : b.length < lenR a
          · rw [if_pos h3]
            exact r4g_short a.code a.addr a.count s.A1 s.A2 s.A3 s.n1 s.c1 s.n2 s.c2 s.n3 s.c3 w A N c HC x0.toNat bk off hA (by omega) hN0 hbk hc0 e1 e2 e3 e4 _ HL (by omega)
          · rw [if_neg h3]
            by_cases h4 : lenR a < b.length
            · rw [if_pos h4]
              exact r4g_long a.code a.addr a.count s.A1 s.A2 s.A3 s.n1 s.c1 s.n2 s.c2 s.n3 s.c3 w A N c HC x0.toNat bk off hA (by omega) hN0 hbk hc0 e1 e2 e3 e4 _ HL (by omega)
            · rw [if_neg h4]
              have hlN : lenR a = N := by omega
              have hsh := putR_shape (shape_check (b := b) hK (by omega)) (shape_exc a b)
              rw [read_shape hK (by omega) (by rw [hb0]; exact Classical.not_not.1 h2) (by omega)]
              by_cases h5 : (putR a (shapeR a b)).1 = b
              · rw [if_pos h5]
                exact r4g_ok a.code a.addr a.count s.A1 s.A2 s.A3 s.n1 s.c1 s.n2 s.c2 s.n3 s.c3 w A N c HC x0.toNat bk off hA (by omega) hN0 hbk hc0 e1 e2 e3 e4 _ HL hlN (shapeR a b) (shape_exc a b) _ b hb (by omega) (HSH hlN) (HPT (by omega)) h5
              · rw [if_neg h5]
                exact r4g_form a.code a.addr a.count s.A1 s.A2 s.A3 s.n1 s.c1 s.n2 s.c2 s.n3 s.c3 w A N c HC x0.toNat bk off hA (by omega) hN0 hbk hc0 e1 e2 e3 e4 _ HL hlN (shapeR a b) (shape_exc a b) _ b hb (by omega) (HSH hlN) (HPT (by omega)) h5 (by omega)
  · have hg : getR a b = (rep0, checkF a) := by unfold getR; rw [if_pos hK]
    rw [hg]
    exact r4g_no a.code a.addr a.count s.A1 s.A2 s.A3 s.n1 s.c1 s.n2 s.c2 s.n3 s.c3 w A N c _ (by simpa using hK) HC
end Go.Proofs.YtomcipkmohhpjaaGreat
