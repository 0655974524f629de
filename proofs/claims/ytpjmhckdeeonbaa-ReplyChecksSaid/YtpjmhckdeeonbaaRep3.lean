/- Contracts of the reference's bits, words, files and Check (chapter 04). (genrep3.py prints this.) -/
import Derived.Test.YtpjmhckdeeonbaaRep2
import Derived.Test.YtpjmhckdeeonbaaAsk9
namespace Go.Proofs.Ytpjmhckdeeonbaa
set_option linter.unusedVariables false
set_option linter.unusedSimpArgs false
set_option maxRecDepth 100000
set_option maxHeartbeats 2000000
open Go Go.RowKit Go.Out

theorem bits04_any (a : AskD) (s : AskS) (w : World) : Calls Try.prog 56 #[askV a s] w (RetQ w (decide (a.code = 1 ∨ a.code = 2))) := by
  obtain ⟨code, addr, count, on, set, parts⟩ := a
  obtain ⟨A1, n1, c1, A2, n2, c2, A3, n3, c3⟩ := s
  simp only [askV]
  go_enter Try.func56, Try.ntmps56
  go_wp2_with fail
  all_goals
    go_ret
    refine RetQ.of ?_ (Ext.alloc _ _)
    first
      | rfl
      | (simp; done)
      | (simp_all; done)
      | (rename_i h0; by_cases h2 : code = 2 <;> simp [h0, h2])
theorem words04_any (a : AskD) (s : AskS) (w : World) : Calls Try.prog 57 #[askV a s] w (RetQ w (decide (a.code = 3 ∨ a.code = 4))) := by
  obtain ⟨code, addr, count, on, set, parts⟩ := a
  obtain ⟨A1, n1, c1, A2, n2, c2, A3, n3, c3⟩ := s
  simp only [askV]
  go_enter Try.func57, Try.ntmps57
  go_wp2_with fail
  all_goals
    go_ret
    refine RetQ.of ?_ (Ext.alloc _ _)
    first
      | rfl
      | (simp; done)
      | (simp_all; done)
      | (rename_i h0; by_cases h2 : code = 4 <;> simp [h0, h2])
theorem files04_any (a : AskD) (s : AskS) (w : World) : Calls Try.prog 58 #[askV a s] w (RetQ w (decide (a.code = 20))) := by
  obtain ⟨code, addr, count, on, set, parts⟩ := a
  obtain ⟨A1, n1, c1, A2, n2, c2, A3, n3, c3⟩ := s
  simp only [askV]
  go_enter Try.func58, Try.ntmps58
  go_wp2_with fail
  all_goals
    go_ret
    refine RetQ.of ?_ (Ext.alloc _ _)
    first
      | rfl
      | (simp; done)
      | (simp_all; done)
      | (rename_i h0; by_cases h2 : code = 20 <;> simp [h0, h2])
theorem ref04_p1 (code addr count exc : Int) (on : List Bool) (set : List UInt16) (parts : List PartD) (A1 A2 A3 B1 B2 B3 : Option Addr) (n1 c1 n2 c2 n3 c3 m1 k1 m2 k2 m3 k3 : Nat) (w : World) (HC : Hid (∀ W, Ext w W → Calls Try.prog 55 #[.agg #[.int .i64 code, .int .i64 addr, .int .i64 count, .slice A1 n1 c1, .slice A2 n2 c2, .slice A3 n3 c3]] W (RetI W 0))) (H1 : Hid (∀ W, Calls Try.prog 56 #[.agg #[.int .i64 code, .int .i64 addr, .int .i64 count, .slice A1 n1 c1, .slice A2 n2 c2, .slice A3 n3 c3]] W (RetQ W true))) (H2 : Hid (∀ W, Calls Try.prog 57 #[.agg #[.int .i64 code, .int .i64 addr, .int .i64 count, .slice A1 n1 c1, .slice A2 n2 c2, .slice A3 n3 c3]] W (RetQ W false))) (H3 : Hid (∀ W, Calls Try.prog 58 #[.agg #[.int .i64 code, .int .i64 addr, .int .i64 count, .slice A1 n1 c1, .slice A2 n2 c2, .slice A3 n3 c3]] W (RetQ W false))) (p3 : 0 < m3)  :
    Calls Try.prog 16 #[.agg #[.int .i64 code, .int .i64 addr, .int .i64 count, .slice A1 n1 c1, .slice A2 n2 c2, .slice A3 n3 c3], .agg #[.int .i64 0, .slice B1 0 k1, .slice B2 0 k2, .slice B3 m3 k3]] w (RetI w 23) := by
  have HB := Lib.hid (two_boxes w #[.int .i64 code, .int .i64 addr, .int .i64 count, .slice A1 n1 c1, .slice A2 n2 c2, .slice A3 n3 c3] #[.int .i64 0, .slice B1 0 k1, .slice B2 0 k2, .slice B3 m3 k3] 26 29)
  go_enter Try.func16, Try.ntmps16
  go_wp2_with fail
  refine (HC.out _ (ext_pair _ _ _)).mono ?_
  rintro e w1 ⟨rfl, hx⟩
  have HX := Lib.hid hx
  clear hx
  obtain ⟨hb1, hb2⟩ := HB.out _ HX.out
  obtain ⟨d0, d1, d2, d3, d4, d5⟩ := cells6 hb1
  obtain ⟨g0, g1, g2, g3⟩ := cells4 hb2
  clear hb1 hb2
  go_wp2_with fail
  refine (H3.out _).mono ?_
  rintro e wn ⟨rfl, hx⟩
  replace HX := Lib.hid (HX.out.trans hx)
  clear hx d0 d1 d2 d3 d4 d5 g0 g1 g2 g3
  obtain ⟨hb1, hb2⟩ := HB.out _ HX.out
  obtain ⟨d0, d1, d2, d3, d4, d5⟩ := cells6 hb1
  obtain ⟨g0, g1, g2, g3⟩ := cells4 hb2
  clear hb1 hb2
  go_wp2_with fail
  go_ret
  exact ⟨rfl, (ext_pair _ _ _).trans HX.out⟩
theorem ref04_p2 (code addr count exc : Int) (on : List Bool) (set : List UInt16) (parts : List PartD) (A1 A2 A3 B1 B2 B3 : Option Addr) (n1 c1 n2 c2 n3 c3 m1 k1 m2 k2 m3 k3 : Nat) (w : World) (HC : Hid (∀ W, Ext w W → Calls Try.prog 55 #[.agg #[.int .i64 code, .int .i64 addr, .int .i64 count, .slice A1 n1 c1, .slice A2 n2 c2, .slice A3 n3 c3]] W (RetI W 0))) (H1 : Hid (∀ W, Calls Try.prog 56 #[.agg #[.int .i64 code, .int .i64 addr, .int .i64 count, .slice A1 n1 c1, .slice A2 n2 c2, .slice A3 n3 c3]] W (RetQ W true))) (H2 : Hid (∀ W, Calls Try.prog 57 #[.agg #[.int .i64 code, .int .i64 addr, .int .i64 count, .slice A1 n1 c1, .slice A2 n2 c2, .slice A3 n3 c3]] W (RetQ W false))) (H3 : Hid (∀ W, Calls Try.prog 58 #[.agg #[.int .i64 code, .int .i64 addr, .int .i64 count, .slice A1 n1 c1, .slice A2 n2 c2, .slice A3 n3 c3]] W (RetQ W false))) (p2 : 0 < m2)  :
    Calls Try.prog 16 #[.agg #[.int .i64 code, .int .i64 addr, .int .i64 count, .slice A1 n1 c1, .slice A2 n2 c2, .slice A3 n3 c3], .agg #[.int .i64 0, .slice B1 0 k1, .slice B2 m2 k2, .slice B3 0 k3]] w (RetI w 23) := by
  have HB := Lib.hid (two_boxes w #[.int .i64 code, .int .i64 addr, .int .i64 count, .slice A1 n1 c1, .slice A2 n2 c2, .slice A3 n3 c3] #[.int .i64 0, .slice B1 0 k1, .slice B2 m2 k2, .slice B3 0 k3] 26 29)
  go_enter Try.func16, Try.ntmps16
  go_wp2_with fail
  refine (HC.out _ (ext_pair _ _ _)).mono ?_
  rintro e w1 ⟨rfl, hx⟩
  have HX := Lib.hid hx
  clear hx
  obtain ⟨hb1, hb2⟩ := HB.out _ HX.out
  obtain ⟨d0, d1, d2, d3, d4, d5⟩ := cells6 hb1
  obtain ⟨g0, g1, g2, g3⟩ := cells4 hb2
  clear hb1 hb2
  go_wp2_with fail
  refine (H2.out _).mono ?_
  rintro e wn ⟨rfl, hx⟩
  replace HX := Lib.hid (HX.out.trans hx)
  clear hx d0 d1 d2 d3 d4 d5 g0 g1 g2 g3
  obtain ⟨hb1, hb2⟩ := HB.out _ HX.out
  obtain ⟨d0, d1, d2, d3, d4, d5⟩ := cells6 hb1
  obtain ⟨g0, g1, g2, g3⟩ := cells4 hb2
  clear hb1 hb2
  go_wp2_with fail
  go_ret
  exact ⟨rfl, (ext_pair _ _ _).trans HX.out⟩
theorem ref04_p3 (code addr count exc : Int) (on : List Bool) (set : List UInt16) (parts : List PartD) (A1 A2 A3 B1 B2 B3 : Option Addr) (n1 c1 n2 c2 n3 c3 m1 k1 m2 k2 m3 k3 : Nat) (w : World) (HC : Hid (∀ W, Ext w W → Calls Try.prog 55 #[.agg #[.int .i64 code, .int .i64 addr, .int .i64 count, .slice A1 n1 c1, .slice A2 n2 c2, .slice A3 n3 c3]] W (RetI W 0))) (H1 : Hid (∀ W, Calls Try.prog 56 #[.agg #[.int .i64 code, .int .i64 addr, .int .i64 count, .slice A1 n1 c1, .slice A2 n2 c2, .slice A3 n3 c3]] W (RetQ W true))) (H2 : Hid (∀ W, Calls Try.prog 57 #[.agg #[.int .i64 code, .int .i64 addr, .int .i64 count, .slice A1 n1 c1, .slice A2 n2 c2, .slice A3 n3 c3]] W (RetQ W false))) (H3 : Hid (∀ W, Calls Try.prog 58 #[.agg #[.int .i64 code, .int .i64 addr, .int .i64 count, .slice A1 n1 c1, .slice A2 n2 c2, .slice A3 n3 c3]] W (RetQ W false))) (p2 : 0 < m2) (p3 : 0 < m3)  :
    Calls Try.prog 16 #[.agg #[.int .i64 code, .int .i64 addr, .int .i64 count, .slice A1 n1 c1, .slice A2 n2 c2, .slice A3 n3 c3], .agg #[.int .i64 0, .slice B1 0 k1, .slice B2 m2 k2, .slice B3 m3 k3]] w (RetI w 23) := by
  have HB := Lib.hid (two_boxes w #[.int .i64 code, .int .i64 addr, .int .i64 count, .slice A1 n1 c1, .slice A2 n2 c2, .slice A3 n3 c3] #[.int .i64 0, .slice B1 0 k1, .slice B2 m2 k2, .slice B3 m3 k3] 26 29)
  go_enter Try.func16, Try.ntmps16
  go_wp2_with fail
  refine (HC.out _ (ext_pair _ _ _)).mono ?_
  rintro e w1 ⟨rfl, hx⟩
  have HX := Lib.hid hx
  clear hx
  obtain ⟨hb1, hb2⟩ := HB.out _ HX.out
  obtain ⟨d0, d1, d2, d3, d4, d5⟩ := cells6 hb1
  obtain ⟨g0, g1, g2, g3⟩ := cells4 hb2
  clear hb1 hb2
  go_wp2_with fail
  refine (H2.out _).mono ?_
  rintro e wn ⟨rfl, hx⟩
  replace HX := Lib.hid (HX.out.trans hx)
  clear hx d0 d1 d2 d3 d4 d5 g0 g1 g2 g3
  obtain ⟨hb1, hb2⟩ := HB.out _ HX.out
  obtain ⟨d0, d1, d2, d3, d4, d5⟩ := cells6 hb1
  obtain ⟨g0, g1, g2, g3⟩ := cells4 hb2
  clear hb1 hb2
  go_wp2_with fail
  go_ret
  exact ⟨rfl, (ext_pair _ _ _).trans HX.out⟩
theorem ref04_p4 (code addr count exc : Int) (on : List Bool) (set : List UInt16) (parts : List PartD) (A1 A2 A3 B1 B2 B3 : Option Addr) (n1 c1 n2 c2 n3 c3 m1 k1 m2 k2 m3 k3 : Nat) (w : World) (HC : Hid (∀ W, Ext w W → Calls Try.prog 55 #[.agg #[.int .i64 code, .int .i64 addr, .int .i64 count, .slice A1 n1 c1, .slice A2 n2 c2, .slice A3 n3 c3]] W (RetI W 0))) (H1 : Hid (∀ W, Calls Try.prog 56 #[.agg #[.int .i64 code, .int .i64 addr, .int .i64 count, .slice A1 n1 c1, .slice A2 n2 c2, .slice A3 n3 c3]] W (RetQ W true))) (H2 : Hid (∀ W, Calls Try.prog 57 #[.agg #[.int .i64 code, .int .i64 addr, .int .i64 count, .slice A1 n1 c1, .slice A2 n2 c2, .slice A3 n3 c3]] W (RetQ W false))) (H3 : Hid (∀ W, Calls Try.prog 58 #[.agg #[.int .i64 code, .int .i64 addr, .int .i64 count, .slice A1 n1 c1, .slice A2 n2 c2, .slice A3 n3 c3]] W (RetQ W false))) (p1 : 0 < m1) (p3 : 0 < m3)  :
    Calls Try.prog 16 #[.agg #[.int .i64 code, .int .i64 addr, .int .i64 count, .slice A1 n1 c1, .slice A2 n2 c2, .slice A3 n3 c3], .agg #[.int .i64 0, .slice B1 m1 k1, .slice B2 0 k2, .slice B3 m3 k3]] w (RetI w 23) := by
  have HB := Lib.hid (two_boxes w #[.int .i64 code, .int .i64 addr, .int .i64 count, .slice A1 n1 c1, .slice A2 n2 c2, .slice A3 n3 c3] #[.int .i64 0, .slice B1 m1 k1, .slice B2 0 k2, .slice B3 m3 k3] 26 29)
  go_enter Try.func16, Try.ntmps16
  go_wp2_with fail
  refine (HC.out _ (ext_pair _ _ _)).mono ?_
  rintro e w1 ⟨rfl, hx⟩
  have HX := Lib.hid hx
  clear hx
  obtain ⟨hb1, hb2⟩ := HB.out _ HX.out
  obtain ⟨d0, d1, d2, d3, d4, d5⟩ := cells6 hb1
  obtain ⟨g0, g1, g2, g3⟩ := cells4 hb2
  clear hb1 hb2
  go_wp2_with fail
  refine (H1.out _).mono ?_
  rintro e wn ⟨rfl, hx⟩
  replace HX := Lib.hid (HX.out.trans hx)
  clear hx d0 d1 d2 d3 d4 d5 g0 g1 g2 g3
  obtain ⟨hb1, hb2⟩ := HB.out _ HX.out
  obtain ⟨d0, d1, d2, d3, d4, d5⟩ := cells6 hb1
  obtain ⟨g0, g1, g2, g3⟩ := cells4 hb2
  clear hb1 hb2
  go_wp2_with fail
  refine (H3.out _).mono ?_
  rintro e wn ⟨rfl, hx⟩
  replace HX := Lib.hid (HX.out.trans hx)
  clear hx d0 d1 d2 d3 d4 d5 g0 g1 g2 g3
  obtain ⟨hb1, hb2⟩ := HB.out _ HX.out
  obtain ⟨d0, d1, d2, d3, d4, d5⟩ := cells6 hb1
  obtain ⟨g0, g1, g2, g3⟩ := cells4 hb2
  clear hb1 hb2
  go_wp2_with fail
  go_ret
  exact ⟨rfl, (ext_pair _ _ _).trans HX.out⟩
theorem ref04_p5 (code addr count exc : Int) (on : List Bool) (set : List UInt16) (parts : List PartD) (A1 A2 A3 B1 B2 B3 : Option Addr) (n1 c1 n2 c2 n3 c3 m1 k1 m2 k2 m3 k3 : Nat) (w : World) (HC : Hid (∀ W, Ext w W → Calls Try.prog 55 #[.agg #[.int .i64 code, .int .i64 addr, .int .i64 count, .slice A1 n1 c1, .slice A2 n2 c2, .slice A3 n3 c3]] W (RetI W 0))) (H1 : Hid (∀ W, Calls Try.prog 56 #[.agg #[.int .i64 code, .int .i64 addr, .int .i64 count, .slice A1 n1 c1, .slice A2 n2 c2, .slice A3 n3 c3]] W (RetQ W true))) (H2 : Hid (∀ W, Calls Try.prog 57 #[.agg #[.int .i64 code, .int .i64 addr, .int .i64 count, .slice A1 n1 c1, .slice A2 n2 c2, .slice A3 n3 c3]] W (RetQ W false))) (H3 : Hid (∀ W, Calls Try.prog 58 #[.agg #[.int .i64 code, .int .i64 addr, .int .i64 count, .slice A1 n1 c1, .slice A2 n2 c2, .slice A3 n3 c3]] W (RetQ W false))) (p1 : 0 < m1) (p2 : 0 < m2)  :
    Calls Try.prog 16 #[.agg #[.int .i64 code, .int .i64 addr, .int .i64 count, .slice A1 n1 c1, .slice A2 n2 c2, .slice A3 n3 c3], .agg #[.int .i64 0, .slice B1 m1 k1, .slice B2 m2 k2, .slice B3 0 k3]] w (RetI w 23) := by
  have HB := Lib.hid (two_boxes w #[.int .i64 code, .int .i64 addr, .int .i64 count, .slice A1 n1 c1, .slice A2 n2 c2, .slice A3 n3 c3] #[.int .i64 0, .slice B1 m1 k1, .slice B2 m2 k2, .slice B3 0 k3] 26 29)
  go_enter Try.func16, Try.ntmps16
  go_wp2_with fail
  refine (HC.out _ (ext_pair _ _ _)).mono ?_
  rintro e w1 ⟨rfl, hx⟩
  have HX := Lib.hid hx
  clear hx
  obtain ⟨hb1, hb2⟩ := HB.out _ HX.out
  obtain ⟨d0, d1, d2, d3, d4, d5⟩ := cells6 hb1
  obtain ⟨g0, g1, g2, g3⟩ := cells4 hb2
  clear hb1 hb2
  go_wp2_with fail
  refine (H1.out _).mono ?_
  rintro e wn ⟨rfl, hx⟩
  replace HX := Lib.hid (HX.out.trans hx)
  clear hx d0 d1 d2 d3 d4 d5 g0 g1 g2 g3
  obtain ⟨hb1, hb2⟩ := HB.out _ HX.out
  obtain ⟨d0, d1, d2, d3, d4, d5⟩ := cells6 hb1
  obtain ⟨g0, g1, g2, g3⟩ := cells4 hb2
  clear hb1 hb2
  go_wp2_with fail
  refine (H2.out _).mono ?_
  rintro e wn ⟨rfl, hx⟩
  replace HX := Lib.hid (HX.out.trans hx)
  clear hx d0 d1 d2 d3 d4 d5 g0 g1 g2 g3
  obtain ⟨hb1, hb2⟩ := HB.out _ HX.out
  obtain ⟨d0, d1, d2, d3, d4, d5⟩ := cells6 hb1
  obtain ⟨g0, g1, g2, g3⟩ := cells4 hb2
  clear hb1 hb2
  go_wp2_with fail
  go_ret
  exact ⟨rfl, (ext_pair _ _ _).trans HX.out⟩
theorem ref04_p6 (code addr count exc : Int) (on : List Bool) (set : List UInt16) (parts : List PartD) (A1 A2 A3 B1 B2 B3 : Option Addr) (n1 c1 n2 c2 n3 c3 m1 k1 m2 k2 m3 k3 : Nat) (w : World) (HC : Hid (∀ W, Ext w W → Calls Try.prog 55 #[.agg #[.int .i64 code, .int .i64 addr, .int .i64 count, .slice A1 n1 c1, .slice A2 n2 c2, .slice A3 n3 c3]] W (RetI W 0))) (H1 : Hid (∀ W, Calls Try.prog 56 #[.agg #[.int .i64 code, .int .i64 addr, .int .i64 count, .slice A1 n1 c1, .slice A2 n2 c2, .slice A3 n3 c3]] W (RetQ W true))) (H2 : Hid (∀ W, Calls Try.prog 57 #[.agg #[.int .i64 code, .int .i64 addr, .int .i64 count, .slice A1 n1 c1, .slice A2 n2 c2, .slice A3 n3 c3]] W (RetQ W false))) (H3 : Hid (∀ W, Calls Try.prog 58 #[.agg #[.int .i64 code, .int .i64 addr, .int .i64 count, .slice A1 n1 c1, .slice A2 n2 c2, .slice A3 n3 c3]] W (RetQ W false))) (p1 : 0 < m1) (p2 : 0 < m2) (p3 : 0 < m3)  :
    Calls Try.prog 16 #[.agg #[.int .i64 code, .int .i64 addr, .int .i64 count, .slice A1 n1 c1, .slice A2 n2 c2, .slice A3 n3 c3], .agg #[.int .i64 0, .slice B1 m1 k1, .slice B2 m2 k2, .slice B3 m3 k3]] w (RetI w 23) := by
  have HB := Lib.hid (two_boxes w #[.int .i64 code, .int .i64 addr, .int .i64 count, .slice A1 n1 c1, .slice A2 n2 c2, .slice A3 n3 c3] #[.int .i64 0, .slice B1 m1 k1, .slice B2 m2 k2, .slice B3 m3 k3] 26 29)
  go_enter Try.func16, Try.ntmps16
  go_wp2_with fail
  refine (HC.out _ (ext_pair _ _ _)).mono ?_
  rintro e w1 ⟨rfl, hx⟩
  have HX := Lib.hid hx
  clear hx
  obtain ⟨hb1, hb2⟩ := HB.out _ HX.out
  obtain ⟨d0, d1, d2, d3, d4, d5⟩ := cells6 hb1
  obtain ⟨g0, g1, g2, g3⟩ := cells4 hb2
  clear hb1 hb2
  go_wp2_with fail
  refine (H1.out _).mono ?_
  rintro e wn ⟨rfl, hx⟩
  replace HX := Lib.hid (HX.out.trans hx)
  clear hx d0 d1 d2 d3 d4 d5 g0 g1 g2 g3
  obtain ⟨hb1, hb2⟩ := HB.out _ HX.out
  obtain ⟨d0, d1, d2, d3, d4, d5⟩ := cells6 hb1
  obtain ⟨g0, g1, g2, g3⟩ := cells4 hb2
  clear hb1 hb2
  go_wp2_with fail
  refine (H2.out _).mono ?_
  rintro e wn ⟨rfl, hx⟩
  replace HX := Lib.hid (HX.out.trans hx)
  clear hx d0 d1 d2 d3 d4 d5 g0 g1 g2 g3
  obtain ⟨hb1, hb2⟩ := HB.out _ HX.out
  obtain ⟨d0, d1, d2, d3, d4, d5⟩ := cells6 hb1
  obtain ⟨g0, g1, g2, g3⟩ := cells4 hb2
  clear hb1 hb2
  go_wp2_with fail
  go_ret
  exact ⟨rfl, (ext_pair _ _ _).trans HX.out⟩
theorem ref04_p7 (code addr count exc : Int) (on : List Bool) (set : List UInt16) (parts : List PartD) (A1 A2 A3 B1 B2 B3 : Option Addr) (n1 c1 n2 c2 n3 c3 m1 k1 m2 k2 m3 k3 : Nat) (w : World) (HC : Hid (∀ W, Ext w W → Calls Try.prog 55 #[.agg #[.int .i64 code, .int .i64 addr, .int .i64 count, .slice A1 n1 c1, .slice A2 n2 c2, .slice A3 n3 c3]] W (RetI W 0))) (H1 : Hid (∀ W, Calls Try.prog 56 #[.agg #[.int .i64 code, .int .i64 addr, .int .i64 count, .slice A1 n1 c1, .slice A2 n2 c2, .slice A3 n3 c3]] W (RetQ W false))) (H2 : Hid (∀ W, Calls Try.prog 57 #[.agg #[.int .i64 code, .int .i64 addr, .int .i64 count, .slice A1 n1 c1, .slice A2 n2 c2, .slice A3 n3 c3]] W (RetQ W true))) (H3 : Hid (∀ W, Calls Try.prog 58 #[.agg #[.int .i64 code, .int .i64 addr, .int .i64 count, .slice A1 n1 c1, .slice A2 n2 c2, .slice A3 n3 c3]] W (RetQ W false))) (p3 : 0 < m3)  :
    Calls Try.prog 16 #[.agg #[.int .i64 code, .int .i64 addr, .int .i64 count, .slice A1 n1 c1, .slice A2 n2 c2, .slice A3 n3 c3], .agg #[.int .i64 0, .slice B1 0 k1, .slice B2 0 k2, .slice B3 m3 k3]] w (RetI w 23) := by
  have HB := Lib.hid (two_boxes w #[.int .i64 code, .int .i64 addr, .int .i64 count, .slice A1 n1 c1, .slice A2 n2 c2, .slice A3 n3 c3] #[.int .i64 0, .slice B1 0 k1, .slice B2 0 k2, .slice B3 m3 k3] 26 29)
  go_enter Try.func16, Try.ntmps16
  go_wp2_with fail
  refine (HC.out _ (ext_pair _ _ _)).mono ?_
  rintro e w1 ⟨rfl, hx⟩
  have HX := Lib.hid hx
  clear hx
  obtain ⟨hb1, hb2⟩ := HB.out _ HX.out
  obtain ⟨d0, d1, d2, d3, d4, d5⟩ := cells6 hb1
  obtain ⟨g0, g1, g2, g3⟩ := cells4 hb2
  clear hb1 hb2
  go_wp2_with fail
  refine (H3.out _).mono ?_
  rintro e wn ⟨rfl, hx⟩
  replace HX := Lib.hid (HX.out.trans hx)
  clear hx d0 d1 d2 d3 d4 d5 g0 g1 g2 g3
  obtain ⟨hb1, hb2⟩ := HB.out _ HX.out
  obtain ⟨d0, d1, d2, d3, d4, d5⟩ := cells6 hb1
  obtain ⟨g0, g1, g2, g3⟩ := cells4 hb2
  clear hb1 hb2
  go_wp2_with fail
  go_ret
  exact ⟨rfl, (ext_pair _ _ _).trans HX.out⟩
theorem ref04_p8 (code addr count exc : Int) (on : List Bool) (set : List UInt16) (parts : List PartD) (A1 A2 A3 B1 B2 B3 : Option Addr) (n1 c1 n2 c2 n3 c3 m1 k1 m2 k2 m3 k3 : Nat) (w : World) (HC : Hid (∀ W, Ext w W → Calls Try.prog 55 #[.agg #[.int .i64 code, .int .i64 addr, .int .i64 count, .slice A1 n1 c1, .slice A2 n2 c2, .slice A3 n3 c3]] W (RetI W 0))) (H1 : Hid (∀ W, Calls Try.prog 56 #[.agg #[.int .i64 code, .int .i64 addr, .int .i64 count, .slice A1 n1 c1, .slice A2 n2 c2, .slice A3 n3 c3]] W (RetQ W false))) (H2 : Hid (∀ W, Calls Try.prog 57 #[.agg #[.int .i64 code, .int .i64 addr, .int .i64 count, .slice A1 n1 c1, .slice A2 n2 c2, .slice A3 n3 c3]] W (RetQ W true))) (H3 : Hid (∀ W, Calls Try.prog 58 #[.agg #[.int .i64 code, .int .i64 addr, .int .i64 count, .slice A1 n1 c1, .slice A2 n2 c2, .slice A3 n3 c3]] W (RetQ W false))) (p2 : 0 < m2) (p3 : 0 < m3)  :
    Calls Try.prog 16 #[.agg #[.int .i64 code, .int .i64 addr, .int .i64 count, .slice A1 n1 c1, .slice A2 n2 c2, .slice A3 n3 c3], .agg #[.int .i64 0, .slice B1 0 k1, .slice B2 m2 k2, .slice B3 m3 k3]] w (RetI w 23) := by
  have HB := Lib.hid (two_boxes w #[.int .i64 code, .int .i64 addr, .int .i64 count, .slice A1 n1 c1, .slice A2 n2 c2, .slice A3 n3 c3] #[.int .i64 0, .slice B1 0 k1, .slice B2 m2 k2, .slice B3 m3 k3] 26 29)
  go_enter Try.func16, Try.ntmps16
  go_wp2_with fail
  refine (HC.out _ (ext_pair _ _ _)).mono ?_
  rintro e w1 ⟨rfl, hx⟩
  have HX := Lib.hid hx
  clear hx
  obtain ⟨hb1, hb2⟩ := HB.out _ HX.out
  obtain ⟨d0, d1, d2, d3, d4, d5⟩ := cells6 hb1
  obtain ⟨g0, g1, g2, g3⟩ := cells4 hb2
  clear hb1 hb2
  go_wp2_with fail
  refine (H2.out _).mono ?_
  rintro e wn ⟨rfl, hx⟩
  replace HX := Lib.hid (HX.out.trans hx)
  clear hx d0 d1 d2 d3 d4 d5 g0 g1 g2 g3
  obtain ⟨hb1, hb2⟩ := HB.out _ HX.out
  obtain ⟨d0, d1, d2, d3, d4, d5⟩ := cells6 hb1
  obtain ⟨g0, g1, g2, g3⟩ := cells4 hb2
  clear hb1 hb2
  go_wp2_with fail
  refine (H3.out _).mono ?_
  rintro e wn ⟨rfl, hx⟩
  replace HX := Lib.hid (HX.out.trans hx)
  clear hx d0 d1 d2 d3 d4 d5 g0 g1 g2 g3
  obtain ⟨hb1, hb2⟩ := HB.out _ HX.out
  obtain ⟨d0, d1, d2, d3, d4, d5⟩ := cells6 hb1
  obtain ⟨g0, g1, g2, g3⟩ := cells4 hb2
  clear hb1 hb2
  go_wp2_with fail
  go_ret
  exact ⟨rfl, (ext_pair _ _ _).trans HX.out⟩
theorem ref04_p9 (code addr count exc : Int) (on : List Bool) (set : List UInt16) (parts : List PartD) (A1 A2 A3 B1 B2 B3 : Option Addr) (n1 c1 n2 c2 n3 c3 m1 k1 m2 k2 m3 k3 : Nat) (w : World) (HC : Hid (∀ W, Ext w W → Calls Try.prog 55 #[.agg #[.int .i64 code, .int .i64 addr, .int .i64 count, .slice A1 n1 c1, .slice A2 n2 c2, .slice A3 n3 c3]] W (RetI W 0))) (H1 : Hid (∀ W, Calls Try.prog 56 #[.agg #[.int .i64 code, .int .i64 addr, .int .i64 count, .slice A1 n1 c1, .slice A2 n2 c2, .slice A3 n3 c3]] W (RetQ W false))) (H2 : Hid (∀ W, Calls Try.prog 57 #[.agg #[.int .i64 code, .int .i64 addr, .int .i64 count, .slice A1 n1 c1, .slice A2 n2 c2, .slice A3 n3 c3]] W (RetQ W true))) (H3 : Hid (∀ W, Calls Try.prog 58 #[.agg #[.int .i64 code, .int .i64 addr, .int .i64 count, .slice A1 n1 c1, .slice A2 n2 c2, .slice A3 n3 c3]] W (RetQ W false))) (p1 : 0 < m1)  :
    Calls Try.prog 16 #[.agg #[.int .i64 code, .int .i64 addr, .int .i64 count, .slice A1 n1 c1, .slice A2 n2 c2, .slice A3 n3 c3], .agg #[.int .i64 0, .slice B1 m1 k1, .slice B2 0 k2, .slice B3 0 k3]] w (RetI w 23) := by
  have HB := Lib.hid (two_boxes w #[.int .i64 code, .int .i64 addr, .int .i64 count, .slice A1 n1 c1, .slice A2 n2 c2, .slice A3 n3 c3] #[.int .i64 0, .slice B1 m1 k1, .slice B2 0 k2, .slice B3 0 k3] 26 29)
  go_enter Try.func16, Try.ntmps16
  go_wp2_with fail
  refine (HC.out _ (ext_pair _ _ _)).mono ?_
  rintro e w1 ⟨rfl, hx⟩
  have HX := Lib.hid hx
  clear hx
  obtain ⟨hb1, hb2⟩ := HB.out _ HX.out
  obtain ⟨d0, d1, d2, d3, d4, d5⟩ := cells6 hb1
  obtain ⟨g0, g1, g2, g3⟩ := cells4 hb2
  clear hb1 hb2
  go_wp2_with fail
  refine (H1.out _).mono ?_
  rintro e wn ⟨rfl, hx⟩
  replace HX := Lib.hid (HX.out.trans hx)
  clear hx d0 d1 d2 d3 d4 d5 g0 g1 g2 g3
  obtain ⟨hb1, hb2⟩ := HB.out _ HX.out
  obtain ⟨d0, d1, d2, d3, d4, d5⟩ := cells6 hb1
  obtain ⟨g0, g1, g2, g3⟩ := cells4 hb2
  clear hb1 hb2
  go_wp2_with fail
  go_ret
  exact ⟨rfl, (ext_pair _ _ _).trans HX.out⟩
theorem ref04_p10 (code addr count exc : Int) (on : List Bool) (set : List UInt16) (parts : List PartD) (A1 A2 A3 B1 B2 B3 : Option Addr) (n1 c1 n2 c2 n3 c3 m1 k1 m2 k2 m3 k3 : Nat) (w : World) (HC : Hid (∀ W, Ext w W → Calls Try.prog 55 #[.agg #[.int .i64 code, .int .i64 addr, .int .i64 count, .slice A1 n1 c1, .slice A2 n2 c2, .slice A3 n3 c3]] W (RetI W 0))) (H1 : Hid (∀ W, Calls Try.prog 56 #[.agg #[.int .i64 code, .int .i64 addr, .int .i64 count, .slice A1 n1 c1, .slice A2 n2 c2, .slice A3 n3 c3]] W (RetQ W false))) (H2 : Hid (∀ W, Calls Try.prog 57 #[.agg #[.int .i64 code, .int .i64 addr, .int .i64 count, .slice A1 n1 c1, .slice A2 n2 c2, .slice A3 n3 c3]] W (RetQ W true))) (H3 : Hid (∀ W, Calls Try.prog 58 #[.agg #[.int .i64 code, .int .i64 addr, .int .i64 count, .slice A1 n1 c1, .slice A2 n2 c2, .slice A3 n3 c3]] W (RetQ W false))) (p1 : 0 < m1) (p3 : 0 < m3)  :
    Calls Try.prog 16 #[.agg #[.int .i64 code, .int .i64 addr, .int .i64 count, .slice A1 n1 c1, .slice A2 n2 c2, .slice A3 n3 c3], .agg #[.int .i64 0, .slice B1 m1 k1, .slice B2 0 k2, .slice B3 m3 k3]] w (RetI w 23) := by
  have HB := Lib.hid (two_boxes w #[.int .i64 code, .int .i64 addr, .int .i64 count, .slice A1 n1 c1, .slice A2 n2 c2, .slice A3 n3 c3] #[.int .i64 0, .slice B1 m1 k1, .slice B2 0 k2, .slice B3 m3 k3] 26 29)
  go_enter Try.func16, Try.ntmps16
  go_wp2_with fail
  refine (HC.out _ (ext_pair _ _ _)).mono ?_
  rintro e w1 ⟨rfl, hx⟩
  have HX := Lib.hid hx
  clear hx
  obtain ⟨hb1, hb2⟩ := HB.out _ HX.out
  obtain ⟨d0, d1, d2, d3, d4, d5⟩ := cells6 hb1
  obtain ⟨g0, g1, g2, g3⟩ := cells4 hb2
  clear hb1 hb2
  go_wp2_with fail
  refine (H1.out _).mono ?_
  rintro e wn ⟨rfl, hx⟩
  replace HX := Lib.hid (HX.out.trans hx)
  clear hx d0 d1 d2 d3 d4 d5 g0 g1 g2 g3
  obtain ⟨hb1, hb2⟩ := HB.out _ HX.out
  obtain ⟨d0, d1, d2, d3, d4, d5⟩ := cells6 hb1
  obtain ⟨g0, g1, g2, g3⟩ := cells4 hb2
  clear hb1 hb2
  go_wp2_with fail
  go_ret
  exact ⟨rfl, (ext_pair _ _ _).trans HX.out⟩
theorem ref04_p11 (code addr count exc : Int) (on : List Bool) (set : List UInt16) (parts : List PartD) (A1 A2 A3 B1 B2 B3 : Option Addr) (n1 c1 n2 c2 n3 c3 m1 k1 m2 k2 m3 k3 : Nat) (w : World) (HC : Hid (∀ W, Ext w W → Calls Try.prog 55 #[.agg #[.int .i64 code, .int .i64 addr, .int .i64 count, .slice A1 n1 c1, .slice A2 n2 c2, .slice A3 n3 c3]] W (RetI W 0))) (H1 : Hid (∀ W, Calls Try.prog 56 #[.agg #[.int .i64 code, .int .i64 addr, .int .i64 count, .slice A1 n1 c1, .slice A2 n2 c2, .slice A3 n3 c3]] W (RetQ W false))) (H2 : Hid (∀ W, Calls Try.prog 57 #[.agg #[.int .i64 code, .int .i64 addr, .int .i64 count, .slice A1 n1 c1, .slice A2 n2 c2, .slice A3 n3 c3]] W (RetQ W true))) (H3 : Hid (∀ W, Calls Try.prog 58 #[.agg #[.int .i64 code, .int .i64 addr, .int .i64 count, .slice A1 n1 c1, .slice A2 n2 c2, .slice A3 n3 c3]] W (RetQ W false))) (p1 : 0 < m1) (p2 : 0 < m2)  :
    Calls Try.prog 16 #[.agg #[.int .i64 code, .int .i64 addr, .int .i64 count, .slice A1 n1 c1, .slice A2 n2 c2, .slice A3 n3 c3], .agg #[.int .i64 0, .slice B1 m1 k1, .slice B2 m2 k2, .slice B3 0 k3]] w (RetI w 23) := by
  have HB := Lib.hid (two_boxes w #[.int .i64 code, .int .i64 addr, .int .i64 count, .slice A1 n1 c1, .slice A2 n2 c2, .slice A3 n3 c3] #[.int .i64 0, .slice B1 m1 k1, .slice B2 m2 k2, .slice B3 0 k3] 26 29)
  go_enter Try.func16, Try.ntmps16
  go_wp2_with fail
  refine (HC.out _ (ext_pair _ _ _)).mono ?_
  rintro e w1 ⟨rfl, hx⟩
  have HX := Lib.hid hx
  clear hx
  obtain ⟨hb1, hb2⟩ := HB.out _ HX.out
  obtain ⟨d0, d1, d2, d3, d4, d5⟩ := cells6 hb1
  obtain ⟨g0, g1, g2, g3⟩ := cells4 hb2
  clear hb1 hb2
  go_wp2_with fail
  refine (H1.out _).mono ?_
  rintro e wn ⟨rfl, hx⟩
  replace HX := Lib.hid (HX.out.trans hx)
  clear hx d0 d1 d2 d3 d4 d5 g0 g1 g2 g3
  obtain ⟨hb1, hb2⟩ := HB.out _ HX.out
  obtain ⟨d0, d1, d2, d3, d4, d5⟩ := cells6 hb1
  obtain ⟨g0, g1, g2, g3⟩ := cells4 hb2
  clear hb1 hb2
  go_wp2_with fail
  go_ret
  exact ⟨rfl, (ext_pair _ _ _).trans HX.out⟩
theorem ref04_p12 (code addr count exc : Int) (on : List Bool) (set : List UInt16) (parts : List PartD) (A1 A2 A3 B1 B2 B3 : Option Addr) (n1 c1 n2 c2 n3 c3 m1 k1 m2 k2 m3 k3 : Nat) (w : World) (HC : Hid (∀ W, Ext w W → Calls Try.prog 55 #[.agg #[.int .i64 code, .int .i64 addr, .int .i64 count, .slice A1 n1 c1, .slice A2 n2 c2, .slice A3 n3 c3]] W (RetI W 0))) (H1 : Hid (∀ W, Calls Try.prog 56 #[.agg #[.int .i64 code, .int .i64 addr, .int .i64 count, .slice A1 n1 c1, .slice A2 n2 c2, .slice A3 n3 c3]] W (RetQ W false))) (H2 : Hid (∀ W, Calls Try.prog 57 #[.agg #[.int .i64 code, .int .i64 addr, .int .i64 count, .slice A1 n1 c1, .slice A2 n2 c2, .slice A3 n3 c3]] W (RetQ W true))) (H3 : Hid (∀ W, Calls Try.prog 58 #[.agg #[.int .i64 code, .int .i64 addr, .int .i64 count, .slice A1 n1 c1, .slice A2 n2 c2, .slice A3 n3 c3]] W (RetQ W false))) (p1 : 0 < m1) (p2 : 0 < m2) (p3 : 0 < m3)  :
    Calls Try.prog 16 #[.agg #[.int .i64 code, .int .i64 addr, .int .i64 count, .slice A1 n1 c1, .slice A2 n2 c2, .slice A3 n3 c3], .agg #[.int .i64 0, .slice B1 m1 k1, .slice B2 m2 k2, .slice B3 m3 k3]] w (RetI w 23) := by
  have HB := Lib.hid (two_boxes w #[.int .i64 code, .int .i64 addr, .int .i64 count, .slice A1 n1 c1, .slice A2 n2 c2, .slice A3 n3 c3] #[.int .i64 0, .slice B1 m1 k1, .slice B2 m2 k2, .slice B3 m3 k3] 26 29)
  go_enter Try.func16, Try.ntmps16
  go_wp2_with fail
  refine (HC.out _ (ext_pair _ _ _)).mono ?_
  rintro e w1 ⟨rfl, hx⟩
  have HX := Lib.hid hx
  clear hx
  obtain ⟨hb1, hb2⟩ := HB.out _ HX.out
  obtain ⟨d0, d1, d2, d3, d4, d5⟩ := cells6 hb1
  obtain ⟨g0, g1, g2, g3⟩ := cells4 hb2
  clear hb1 hb2
  go_wp2_with fail
  refine (H1.out _).mono ?_
  rintro e wn ⟨rfl, hx⟩
  replace HX := Lib.hid (HX.out.trans hx)
  clear hx d0 d1 d2 d3 d4 d5 g0 g1 g2 g3
  obtain ⟨hb1, hb2⟩ := HB.out _ HX.out
  obtain ⟨d0, d1, d2, d3, d4, d5⟩ := cells6 hb1
  obtain ⟨g0, g1, g2, g3⟩ := cells4 hb2
  clear hb1 hb2
  go_wp2_with fail
  go_ret
  exact ⟨rfl, (ext_pair _ _ _).trans HX.out⟩
theorem ref04_p13 (code addr count exc : Int) (on : List Bool) (set : List UInt16) (parts : List PartD) (A1 A2 A3 B1 B2 B3 : Option Addr) (n1 c1 n2 c2 n3 c3 m1 k1 m2 k2 m3 k3 : Nat) (w : World) (HC : Hid (∀ W, Ext w W → Calls Try.prog 55 #[.agg #[.int .i64 code, .int .i64 addr, .int .i64 count, .slice A1 n1 c1, .slice A2 n2 c2, .slice A3 n3 c3]] W (RetI W 0))) (H1 : Hid (∀ W, Calls Try.prog 56 #[.agg #[.int .i64 code, .int .i64 addr, .int .i64 count, .slice A1 n1 c1, .slice A2 n2 c2, .slice A3 n3 c3]] W (RetQ W false))) (H2 : Hid (∀ W, Calls Try.prog 57 #[.agg #[.int .i64 code, .int .i64 addr, .int .i64 count, .slice A1 n1 c1, .slice A2 n2 c2, .slice A3 n3 c3]] W (RetQ W false))) (H3 : Hid (∀ W, Calls Try.prog 58 #[.agg #[.int .i64 code, .int .i64 addr, .int .i64 count, .slice A1 n1 c1, .slice A2 n2 c2, .slice A3 n3 c3]] W (RetQ W true))) (p2 : 0 < m2)  :
    Calls Try.prog 16 #[.agg #[.int .i64 code, .int .i64 addr, .int .i64 count, .slice A1 n1 c1, .slice A2 n2 c2, .slice A3 n3 c3], .agg #[.int .i64 0, .slice B1 0 k1, .slice B2 m2 k2, .slice B3 0 k3]] w (RetI w 23) := by
  have HB := Lib.hid (two_boxes w #[.int .i64 code, .int .i64 addr, .int .i64 count, .slice A1 n1 c1, .slice A2 n2 c2, .slice A3 n3 c3] #[.int .i64 0, .slice B1 0 k1, .slice B2 m2 k2, .slice B3 0 k3] 26 29)
  go_enter Try.func16, Try.ntmps16
  go_wp2_with fail
  refine (HC.out _ (ext_pair _ _ _)).mono ?_
  rintro e w1 ⟨rfl, hx⟩
  have HX := Lib.hid hx
  clear hx
  obtain ⟨hb1, hb2⟩ := HB.out _ HX.out
  obtain ⟨d0, d1, d2, d3, d4, d5⟩ := cells6 hb1
  obtain ⟨g0, g1, g2, g3⟩ := cells4 hb2
  clear hb1 hb2
  go_wp2_with fail
  refine (H2.out _).mono ?_
  rintro e wn ⟨rfl, hx⟩
  replace HX := Lib.hid (HX.out.trans hx)
  clear hx d0 d1 d2 d3 d4 d5 g0 g1 g2 g3
  obtain ⟨hb1, hb2⟩ := HB.out _ HX.out
  obtain ⟨d0, d1, d2, d3, d4, d5⟩ := cells6 hb1
  obtain ⟨g0, g1, g2, g3⟩ := cells4 hb2
  clear hb1 hb2
  go_wp2_with fail
  go_ret
  exact ⟨rfl, (ext_pair _ _ _).trans HX.out⟩
theorem ref04_p14 (code addr count exc : Int) (on : List Bool) (set : List UInt16) (parts : List PartD) (A1 A2 A3 B1 B2 B3 : Option Addr) (n1 c1 n2 c2 n3 c3 m1 k1 m2 k2 m3 k3 : Nat) (w : World) (HC : Hid (∀ W, Ext w W → Calls Try.prog 55 #[.agg #[.int .i64 code, .int .i64 addr, .int .i64 count, .slice A1 n1 c1, .slice A2 n2 c2, .slice A3 n3 c3]] W (RetI W 0))) (H1 : Hid (∀ W, Calls Try.prog 56 #[.agg #[.int .i64 code, .int .i64 addr, .int .i64 count, .slice A1 n1 c1, .slice A2 n2 c2, .slice A3 n3 c3]] W (RetQ W false))) (H2 : Hid (∀ W, Calls Try.prog 57 #[.agg #[.int .i64 code, .int .i64 addr, .int .i64 count, .slice A1 n1 c1, .slice A2 n2 c2, .slice A3 n3 c3]] W (RetQ W false))) (H3 : Hid (∀ W, Calls Try.prog 58 #[.agg #[.int .i64 code, .int .i64 addr, .int .i64 count, .slice A1 n1 c1, .slice A2 n2 c2, .slice A3 n3 c3]] W (RetQ W true))) (p2 : 0 < m2) (p3 : 0 < m3)  :
    Calls Try.prog 16 #[.agg #[.int .i64 code, .int .i64 addr, .int .i64 count, .slice A1 n1 c1, .slice A2 n2 c2, .slice A3 n3 c3], .agg #[.int .i64 0, .slice B1 0 k1, .slice B2 m2 k2, .slice B3 m3 k3]] w (RetI w 23) := by
  have HB := Lib.hid (two_boxes w #[.int .i64 code, .int .i64 addr, .int .i64 count, .slice A1 n1 c1, .slice A2 n2 c2, .slice A3 n3 c3] #[.int .i64 0, .slice B1 0 k1, .slice B2 m2 k2, .slice B3 m3 k3] 26 29)
  go_enter Try.func16, Try.ntmps16
  go_wp2_with fail
  refine (HC.out _ (ext_pair _ _ _)).mono ?_
  rintro e w1 ⟨rfl, hx⟩
  have HX := Lib.hid hx
  clear hx
  obtain ⟨hb1, hb2⟩ := HB.out _ HX.out
  obtain ⟨d0, d1, d2, d3, d4, d5⟩ := cells6 hb1
  obtain ⟨g0, g1, g2, g3⟩ := cells4 hb2
  clear hb1 hb2
  go_wp2_with fail
  refine (H2.out _).mono ?_
  rintro e wn ⟨rfl, hx⟩
  replace HX := Lib.hid (HX.out.trans hx)
  clear hx d0 d1 d2 d3 d4 d5 g0 g1 g2 g3
  obtain ⟨hb1, hb2⟩ := HB.out _ HX.out
  obtain ⟨d0, d1, d2, d3, d4, d5⟩ := cells6 hb1
  obtain ⟨g0, g1, g2, g3⟩ := cells4 hb2
  clear hb1 hb2
  go_wp2_with fail
  go_ret
  exact ⟨rfl, (ext_pair _ _ _).trans HX.out⟩
theorem ref04_p15 (code addr count exc : Int) (on : List Bool) (set : List UInt16) (parts : List PartD) (A1 A2 A3 B1 B2 B3 : Option Addr) (n1 c1 n2 c2 n3 c3 m1 k1 m2 k2 m3 k3 : Nat) (w : World) (HC : Hid (∀ W, Ext w W → Calls Try.prog 55 #[.agg #[.int .i64 code, .int .i64 addr, .int .i64 count, .slice A1 n1 c1, .slice A2 n2 c2, .slice A3 n3 c3]] W (RetI W 0))) (H1 : Hid (∀ W, Calls Try.prog 56 #[.agg #[.int .i64 code, .int .i64 addr, .int .i64 count, .slice A1 n1 c1, .slice A2 n2 c2, .slice A3 n3 c3]] W (RetQ W false))) (H2 : Hid (∀ W, Calls Try.prog 57 #[.agg #[.int .i64 code, .int .i64 addr, .int .i64 count, .slice A1 n1 c1, .slice A2 n2 c2, .slice A3 n3 c3]] W (RetQ W false))) (H3 : Hid (∀ W, Calls Try.prog 58 #[.agg #[.int .i64 code, .int .i64 addr, .int .i64 count, .slice A1 n1 c1, .slice A2 n2 c2, .slice A3 n3 c3]] W (RetQ W true))) (p1 : 0 < m1)  :
    Calls Try.prog 16 #[.agg #[.int .i64 code, .int .i64 addr, .int .i64 count, .slice A1 n1 c1, .slice A2 n2 c2, .slice A3 n3 c3], .agg #[.int .i64 0, .slice B1 m1 k1, .slice B2 0 k2, .slice B3 0 k3]] w (RetI w 23) := by
  have HB := Lib.hid (two_boxes w #[.int .i64 code, .int .i64 addr, .int .i64 count, .slice A1 n1 c1, .slice A2 n2 c2, .slice A3 n3 c3] #[.int .i64 0, .slice B1 m1 k1, .slice B2 0 k2, .slice B3 0 k3] 26 29)
  go_enter Try.func16, Try.ntmps16
  go_wp2_with fail
  refine (HC.out _ (ext_pair _ _ _)).mono ?_
  rintro e w1 ⟨rfl, hx⟩
  have HX := Lib.hid hx
  clear hx
  obtain ⟨hb1, hb2⟩ := HB.out _ HX.out
  obtain ⟨d0, d1, d2, d3, d4, d5⟩ := cells6 hb1
  obtain ⟨g0, g1, g2, g3⟩ := cells4 hb2
  clear hb1 hb2
  go_wp2_with fail
  refine (H1.out _).mono ?_
  rintro e wn ⟨rfl, hx⟩
  replace HX := Lib.hid (HX.out.trans hx)
  clear hx d0 d1 d2 d3 d4 d5 g0 g1 g2 g3
  obtain ⟨hb1, hb2⟩ := HB.out _ HX.out
  obtain ⟨d0, d1, d2, d3, d4, d5⟩ := cells6 hb1
  obtain ⟨g0, g1, g2, g3⟩ := cells4 hb2
  clear hb1 hb2
  go_wp2_with fail
  go_ret
  exact ⟨rfl, (ext_pair _ _ _).trans HX.out⟩
theorem ref04_p16 (code addr count exc : Int) (on : List Bool) (set : List UInt16) (parts : List PartD) (A1 A2 A3 B1 B2 B3 : Option Addr) (n1 c1 n2 c2 n3 c3 m1 k1 m2 k2 m3 k3 : Nat) (w : World) (HC : Hid (∀ W, Ext w W → Calls Try.prog 55 #[.agg #[.int .i64 code, .int .i64 addr, .int .i64 count, .slice A1 n1 c1, .slice A2 n2 c2, .slice A3 n3 c3]] W (RetI W 0))) (H1 : Hid (∀ W, Calls Try.prog 56 #[.agg #[.int .i64 code, .int .i64 addr, .int .i64 count, .slice A1 n1 c1, .slice A2 n2 c2, .slice A3 n3 c3]] W (RetQ W false))) (H2 : Hid (∀ W, Calls Try.prog 57 #[.agg #[.int .i64 code, .int .i64 addr, .int .i64 count, .slice A1 n1 c1, .slice A2 n2 c2, .slice A3 n3 c3]] W (RetQ W false))) (H3 : Hid (∀ W, Calls Try.prog 58 #[.agg #[.int .i64 code, .int .i64 addr, .int .i64 count, .slice A1 n1 c1, .slice A2 n2 c2, .slice A3 n3 c3]] W (RetQ W true))) (p1 : 0 < m1) (p3 : 0 < m3)  :
    Calls Try.prog 16 #[.agg #[.int .i64 code, .int .i64 addr, .int .i64 count, .slice A1 n1 c1, .slice A2 n2 c2, .slice A3 n3 c3], .agg #[.int .i64 0, .slice B1 m1 k1, .slice B2 0 k2, .slice B3 m3 k3]] w (RetI w 23) := by
  have HB := Lib.hid (two_boxes w #[.int .i64 code, .int .i64 addr, .int .i64 count, .slice A1 n1 c1, .slice A2 n2 c2, .slice A3 n3 c3] #[.int .i64 0, .slice B1 m1 k1, .slice B2 0 k2, .slice B3 m3 k3] 26 29)
  go_enter Try.func16, Try.ntmps16
  go_wp2_with fail
  refine (HC.out _ (ext_pair _ _ _)).mono ?_
  rintro e w1 ⟨rfl, hx⟩
  have HX := Lib.hid hx
  clear hx
  obtain ⟨hb1, hb2⟩ := HB.out _ HX.out
  obtain ⟨d0, d1, d2, d3, d4, d5⟩ := cells6 hb1
  obtain ⟨g0, g1, g2, g3⟩ := cells4 hb2
  clear hb1 hb2
  go_wp2_with fail
  refine (H1.out _).mono ?_
  rintro e wn ⟨rfl, hx⟩
  replace HX := Lib.hid (HX.out.trans hx)
  clear hx d0 d1 d2 d3 d4 d5 g0 g1 g2 g3
  obtain ⟨hb1, hb2⟩ := HB.out _ HX.out
  obtain ⟨d0, d1, d2, d3, d4, d5⟩ := cells6 hb1
  obtain ⟨g0, g1, g2, g3⟩ := cells4 hb2
  clear hb1 hb2
  go_wp2_with fail
  go_ret
  exact ⟨rfl, (ext_pair _ _ _).trans HX.out⟩
theorem ref04_p17 (code addr count exc : Int) (on : List Bool) (set : List UInt16) (parts : List PartD) (A1 A2 A3 B1 B2 B3 : Option Addr) (n1 c1 n2 c2 n3 c3 m1 k1 m2 k2 m3 k3 : Nat) (w : World) (HC : Hid (∀ W, Ext w W → Calls Try.prog 55 #[.agg #[.int .i64 code, .int .i64 addr, .int .i64 count, .slice A1 n1 c1, .slice A2 n2 c2, .slice A3 n3 c3]] W (RetI W 0))) (H1 : Hid (∀ W, Calls Try.prog 56 #[.agg #[.int .i64 code, .int .i64 addr, .int .i64 count, .slice A1 n1 c1, .slice A2 n2 c2, .slice A3 n3 c3]] W (RetQ W false))) (H2 : Hid (∀ W, Calls Try.prog 57 #[.agg #[.int .i64 code, .int .i64 addr, .int .i64 count, .slice A1 n1 c1, .slice A2 n2 c2, .slice A3 n3 c3]] W (RetQ W false))) (H3 : Hid (∀ W, Calls Try.prog 58 #[.agg #[.int .i64 code, .int .i64 addr, .int .i64 count, .slice A1 n1 c1, .slice A2 n2 c2, .slice A3 n3 c3]] W (RetQ W true))) (p1 : 0 < m1) (p2 : 0 < m2)  :
    Calls Try.prog 16 #[.agg #[.int .i64 code, .int .i64 addr, .int .i64 count, .slice A1 n1 c1, .slice A2 n2 c2, .slice A3 n3 c3], .agg #[.int .i64 0, .slice B1 m1 k1, .slice B2 m2 k2, .slice B3 0 k3]] w (RetI w 23) := by
  have HB := Lib.hid (two_boxes w #[.int .i64 code, .int .i64 addr, .int .i64 count, .slice A1 n1 c1, .slice A2 n2 c2, .slice A3 n3 c3] #[.int .i64 0, .slice B1 m1 k1, .slice B2 m2 k2, .slice B3 0 k3] 26 29)
  go_enter Try.func16, Try.ntmps16
  go_wp2_with fail
  refine (HC.out _ (ext_pair _ _ _)).mono ?_
  rintro e w1 ⟨rfl, hx⟩
  have HX := Lib.hid hx
  clear hx
  obtain ⟨hb1, hb2⟩ := HB.out _ HX.out
  obtain ⟨d0, d1, d2, d3, d4, d5⟩ := cells6 hb1
  obtain ⟨g0, g1, g2, g3⟩ := cells4 hb2
  clear hb1 hb2
  go_wp2_with fail
  refine (H1.out _).mono ?_
  rintro e wn ⟨rfl, hx⟩
  replace HX := Lib.hid (HX.out.trans hx)
  clear hx d0 d1 d2 d3 d4 d5 g0 g1 g2 g3
  obtain ⟨hb1, hb2⟩ := HB.out _ HX.out
  obtain ⟨d0, d1, d2, d3, d4, d5⟩ := cells6 hb1
  obtain ⟨g0, g1, g2, g3⟩ := cells4 hb2
  clear hb1 hb2
  go_wp2_with fail
  go_ret
  exact ⟨rfl, (ext_pair _ _ _).trans HX.out⟩
theorem ref04_p18 (code addr count exc : Int) (on : List Bool) (set : List UInt16) (parts : List PartD) (A1 A2 A3 B1 B2 B3 : Option Addr) (n1 c1 n2 c2 n3 c3 m1 k1 m2 k2 m3 k3 : Nat) (w : World) (HC : Hid (∀ W, Ext w W → Calls Try.prog 55 #[.agg #[.int .i64 code, .int .i64 addr, .int .i64 count, .slice A1 n1 c1, .slice A2 n2 c2, .slice A3 n3 c3]] W (RetI W 0))) (H1 : Hid (∀ W, Calls Try.prog 56 #[.agg #[.int .i64 code, .int .i64 addr, .int .i64 count, .slice A1 n1 c1, .slice A2 n2 c2, .slice A3 n3 c3]] W (RetQ W false))) (H2 : Hid (∀ W, Calls Try.prog 57 #[.agg #[.int .i64 code, .int .i64 addr, .int .i64 count, .slice A1 n1 c1, .slice A2 n2 c2, .slice A3 n3 c3]] W (RetQ W false))) (H3 : Hid (∀ W, Calls Try.prog 58 #[.agg #[.int .i64 code, .int .i64 addr, .int .i64 count, .slice A1 n1 c1, .slice A2 n2 c2, .slice A3 n3 c3]] W (RetQ W true))) (p1 : 0 < m1) (p2 : 0 < m2) (p3 : 0 < m3)  :
    Calls Try.prog 16 #[.agg #[.int .i64 code, .int .i64 addr, .int .i64 count, .slice A1 n1 c1, .slice A2 n2 c2, .slice A3 n3 c3], .agg #[.int .i64 0, .slice B1 m1 k1, .slice B2 m2 k2, .slice B3 m3 k3]] w (RetI w 23) := by
  have HB := Lib.hid (two_boxes w #[.int .i64 code, .int .i64 addr, .int .i64 count, .slice A1 n1 c1, .slice A2 n2 c2, .slice A3 n3 c3] #[.int .i64 0, .slice B1 m1 k1, .slice B2 m2 k2, .slice B3 m3 k3] 26 29)
  go_enter Try.func16, Try.ntmps16
  go_wp2_with fail
  refine (HC.out _ (ext_pair _ _ _)).mono ?_
  rintro e w1 ⟨rfl, hx⟩
  have HX := Lib.hid hx
  clear hx
  obtain ⟨hb1, hb2⟩ := HB.out _ HX.out
  obtain ⟨d0, d1, d2, d3, d4, d5⟩ := cells6 hb1
  obtain ⟨g0, g1, g2, g3⟩ := cells4 hb2
  clear hb1 hb2
  go_wp2_with fail
  refine (H1.out _).mono ?_
  rintro e wn ⟨rfl, hx⟩
  replace HX := Lib.hid (HX.out.trans hx)
  clear hx d0 d1 d2 d3 d4 d5 g0 g1 g2 g3
  obtain ⟨hb1, hb2⟩ := HB.out _ HX.out
  obtain ⟨d0, d1, d2, d3, d4, d5⟩ := cells6 hb1
  obtain ⟨g0, g1, g2, g3⟩ := cells4 hb2
  clear hb1 hb2
  go_wp2_with fail
  go_ret
  exact ⟨rfl, (ext_pair _ _ _).trans HX.out⟩
theorem ref04_p19 (code addr count exc : Int) (on : List Bool) (set : List UInt16) (parts : List PartD) (A1 A2 A3 B1 B2 B3 : Option Addr) (n1 c1 n2 c2 n3 c3 m1 k1 m2 k2 m3 k3 : Nat) (w : World) (HC : Hid (∀ W, Ext w W → Calls Try.prog 55 #[.agg #[.int .i64 code, .int .i64 addr, .int .i64 count, .slice A1 n1 c1, .slice A2 n2 c2, .slice A3 n3 c3]] W (RetI W 0))) (H1 : Hid (∀ W, Calls Try.prog 56 #[.agg #[.int .i64 code, .int .i64 addr, .int .i64 count, .slice A1 n1 c1, .slice A2 n2 c2, .slice A3 n3 c3]] W (RetQ W false))) (H2 : Hid (∀ W, Calls Try.prog 57 #[.agg #[.int .i64 code, .int .i64 addr, .int .i64 count, .slice A1 n1 c1, .slice A2 n2 c2, .slice A3 n3 c3]] W (RetQ W false))) (H3 : Hid (∀ W, Calls Try.prog 58 #[.agg #[.int .i64 code, .int .i64 addr, .int .i64 count, .slice A1 n1 c1, .slice A2 n2 c2, .slice A3 n3 c3]] W (RetQ W false))) (p3 : 0 < m3)  :
    Calls Try.prog 16 #[.agg #[.int .i64 code, .int .i64 addr, .int .i64 count, .slice A1 n1 c1, .slice A2 n2 c2, .slice A3 n3 c3], .agg #[.int .i64 0, .slice B1 0 k1, .slice B2 0 k2, .slice B3 m3 k3]] w (RetI w 23) := by
  have HB := Lib.hid (two_boxes w #[.int .i64 code, .int .i64 addr, .int .i64 count, .slice A1 n1 c1, .slice A2 n2 c2, .slice A3 n3 c3] #[.int .i64 0, .slice B1 0 k1, .slice B2 0 k2, .slice B3 m3 k3] 26 29)
  go_enter Try.func16, Try.ntmps16
  go_wp2_with fail
  refine (HC.out _ (ext_pair _ _ _)).mono ?_
  rintro e w1 ⟨rfl, hx⟩
  have HX := Lib.hid hx
  clear hx
  obtain ⟨hb1, hb2⟩ := HB.out _ HX.out
  obtain ⟨d0, d1, d2, d3, d4, d5⟩ := cells6 hb1
  obtain ⟨g0, g1, g2, g3⟩ := cells4 hb2
  clear hb1 hb2
  go_wp2_with fail
  refine (H3.out _).mono ?_
  rintro e wn ⟨rfl, hx⟩
  replace HX := Lib.hid (HX.out.trans hx)
  clear hx d0 d1 d2 d3 d4 d5 g0 g1 g2 g3
  obtain ⟨hb1, hb2⟩ := HB.out _ HX.out
  obtain ⟨d0, d1, d2, d3, d4, d5⟩ := cells6 hb1
  obtain ⟨g0, g1, g2, g3⟩ := cells4 hb2
  clear hb1 hb2
  go_wp2_with fail
  go_ret
  exact ⟨rfl, (ext_pair _ _ _).trans HX.out⟩
theorem ref04_p20 (code addr count exc : Int) (on : List Bool) (set : List UInt16) (parts : List PartD) (A1 A2 A3 B1 B2 B3 : Option Addr) (n1 c1 n2 c2 n3 c3 m1 k1 m2 k2 m3 k3 : Nat) (w : World) (HC : Hid (∀ W, Ext w W → Calls Try.prog 55 #[.agg #[.int .i64 code, .int .i64 addr, .int .i64 count, .slice A1 n1 c1, .slice A2 n2 c2, .slice A3 n3 c3]] W (RetI W 0))) (H1 : Hid (∀ W, Calls Try.prog 56 #[.agg #[.int .i64 code, .int .i64 addr, .int .i64 count, .slice A1 n1 c1, .slice A2 n2 c2, .slice A3 n3 c3]] W (RetQ W false))) (H2 : Hid (∀ W, Calls Try.prog 57 #[.agg #[.int .i64 code, .int .i64 addr, .int .i64 count, .slice A1 n1 c1, .slice A2 n2 c2, .slice A3 n3 c3]] W (RetQ W false))) (H3 : Hid (∀ W, Calls Try.prog 58 #[.agg #[.int .i64 code, .int .i64 addr, .int .i64 count, .slice A1 n1 c1, .slice A2 n2 c2, .slice A3 n3 c3]] W (RetQ W false))) (p2 : 0 < m2)  :
    Calls Try.prog 16 #[.agg #[.int .i64 code, .int .i64 addr, .int .i64 count, .slice A1 n1 c1, .slice A2 n2 c2, .slice A3 n3 c3], .agg #[.int .i64 0, .slice B1 0 k1, .slice B2 m2 k2, .slice B3 0 k3]] w (RetI w 23) := by
  have HB := Lib.hid (two_boxes w #[.int .i64 code, .int .i64 addr, .int .i64 count, .slice A1 n1 c1, .slice A2 n2 c2, .slice A3 n3 c3] #[.int .i64 0, .slice B1 0 k1, .slice B2 m2 k2, .slice B3 0 k3] 26 29)
  go_enter Try.func16, Try.ntmps16
  go_wp2_with fail
  refine (HC.out _ (ext_pair _ _ _)).mono ?_
  rintro e w1 ⟨rfl, hx⟩
  have HX := Lib.hid hx
  clear hx
  obtain ⟨hb1, hb2⟩ := HB.out _ HX.out
  obtain ⟨d0, d1, d2, d3, d4, d5⟩ := cells6 hb1
  obtain ⟨g0, g1, g2, g3⟩ := cells4 hb2
  clear hb1 hb2
  go_wp2_with fail
  refine (H2.out _).mono ?_
  rintro e wn ⟨rfl, hx⟩
  replace HX := Lib.hid (HX.out.trans hx)
  clear hx d0 d1 d2 d3 d4 d5 g0 g1 g2 g3
  obtain ⟨hb1, hb2⟩ := HB.out _ HX.out
  obtain ⟨d0, d1, d2, d3, d4, d5⟩ := cells6 hb1
  obtain ⟨g0, g1, g2, g3⟩ := cells4 hb2
  clear hb1 hb2
  go_wp2_with fail
  go_ret
  exact ⟨rfl, (ext_pair _ _ _).trans HX.out⟩
theorem ref04_p21 (code addr count exc : Int) (on : List Bool) (set : List UInt16) (parts : List PartD) (A1 A2 A3 B1 B2 B3 : Option Addr) (n1 c1 n2 c2 n3 c3 m1 k1 m2 k2 m3 k3 : Nat) (w : World) (HC : Hid (∀ W, Ext w W → Calls Try.prog 55 #[.agg #[.int .i64 code, .int .i64 addr, .int .i64 count, .slice A1 n1 c1, .slice A2 n2 c2, .slice A3 n3 c3]] W (RetI W 0))) (H1 : Hid (∀ W, Calls Try.prog 56 #[.agg #[.int .i64 code, .int .i64 addr, .int .i64 count, .slice A1 n1 c1, .slice A2 n2 c2, .slice A3 n3 c3]] W (RetQ W false))) (H2 : Hid (∀ W, Calls Try.prog 57 #[.agg #[.int .i64 code, .int .i64 addr, .int .i64 count, .slice A1 n1 c1, .slice A2 n2 c2, .slice A3 n3 c3]] W (RetQ W false))) (H3 : Hid (∀ W, Calls Try.prog 58 #[.agg #[.int .i64 code, .int .i64 addr, .int .i64 count, .slice A1 n1 c1, .slice A2 n2 c2, .slice A3 n3 c3]] W (RetQ W false))) (p2 : 0 < m2) (p3 : 0 < m3)  :
    Calls Try.prog 16 #[.agg #[.int .i64 code, .int .i64 addr, .int .i64 count, .slice A1 n1 c1, .slice A2 n2 c2, .slice A3 n3 c3], .agg #[.int .i64 0, .slice B1 0 k1, .slice B2 m2 k2, .slice B3 m3 k3]] w (RetI w 23) := by
  have HB := Lib.hid (two_boxes w #[.int .i64 code, .int .i64 addr, .int .i64 count, .slice A1 n1 c1, .slice A2 n2 c2, .slice A3 n3 c3] #[.int .i64 0, .slice B1 0 k1, .slice B2 m2 k2, .slice B3 m3 k3] 26 29)
  go_enter Try.func16, Try.ntmps16
  go_wp2_with fail
  refine (HC.out _ (ext_pair _ _ _)).mono ?_
  rintro e w1 ⟨rfl, hx⟩
  have HX := Lib.hid hx
  clear hx
  obtain ⟨hb1, hb2⟩ := HB.out _ HX.out
  obtain ⟨d0, d1, d2, d3, d4, d5⟩ := cells6 hb1
  obtain ⟨g0, g1, g2, g3⟩ := cells4 hb2
  clear hb1 hb2
  go_wp2_with fail
  refine (H2.out _).mono ?_
  rintro e wn ⟨rfl, hx⟩
  replace HX := Lib.hid (HX.out.trans hx)
  clear hx d0 d1 d2 d3 d4 d5 g0 g1 g2 g3
  obtain ⟨hb1, hb2⟩ := HB.out _ HX.out
  obtain ⟨d0, d1, d2, d3, d4, d5⟩ := cells6 hb1
  obtain ⟨g0, g1, g2, g3⟩ := cells4 hb2
  clear hb1 hb2
  go_wp2_with fail
  go_ret
  exact ⟨rfl, (ext_pair _ _ _).trans HX.out⟩
theorem ref04_p22 (code addr count exc : Int) (on : List Bool) (set : List UInt16) (parts : List PartD) (A1 A2 A3 B1 B2 B3 : Option Addr) (n1 c1 n2 c2 n3 c3 m1 k1 m2 k2 m3 k3 : Nat) (w : World) (HC : Hid (∀ W, Ext w W → Calls Try.prog 55 #[.agg #[.int .i64 code, .int .i64 addr, .int .i64 count, .slice A1 n1 c1, .slice A2 n2 c2, .slice A3 n3 c3]] W (RetI W 0))) (H1 : Hid (∀ W, Calls Try.prog 56 #[.agg #[.int .i64 code, .int .i64 addr, .int .i64 count, .slice A1 n1 c1, .slice A2 n2 c2, .slice A3 n3 c3]] W (RetQ W false))) (H2 : Hid (∀ W, Calls Try.prog 57 #[.agg #[.int .i64 code, .int .i64 addr, .int .i64 count, .slice A1 n1 c1, .slice A2 n2 c2, .slice A3 n3 c3]] W (RetQ W false))) (H3 : Hid (∀ W, Calls Try.prog 58 #[.agg #[.int .i64 code, .int .i64 addr, .int .i64 count, .slice A1 n1 c1, .slice A2 n2 c2, .slice A3 n3 c3]] W (RetQ W false))) (p1 : 0 < m1)  :
    Calls Try.prog 16 #[.agg #[.int .i64 code, .int .i64 addr, .int .i64 count, .slice A1 n1 c1, .slice A2 n2 c2, .slice A3 n3 c3], .agg #[.int .i64 0, .slice B1 m1 k1, .slice B2 0 k2, .slice B3 0 k3]] w (RetI w 23) := by
  have HB := Lib.hid (two_boxes w #[.int .i64 code, .int .i64 addr, .int .i64 count, .slice A1 n1 c1, .slice A2 n2 c2, .slice A3 n3 c3] #[.int .i64 0, .slice B1 m1 k1, .slice B2 0 k2, .slice B3 0 k3] 26 29)
  go_enter Try.func16, Try.ntmps16
  go_wp2_with fail
  refine (HC.out _ (ext_pair _ _ _)).mono ?_
  rintro e w1 ⟨rfl, hx⟩
  have HX := Lib.hid hx
  clear hx
  obtain ⟨hb1, hb2⟩ := HB.out _ HX.out
  obtain ⟨d0, d1, d2, d3, d4, d5⟩ := cells6 hb1
  obtain ⟨g0, g1, g2, g3⟩ := cells4 hb2
  clear hb1 hb2
  go_wp2_with fail
  refine (H1.out _).mono ?_
  rintro e wn ⟨rfl, hx⟩
  replace HX := Lib.hid (HX.out.trans hx)
  clear hx d0 d1 d2 d3 d4 d5 g0 g1 g2 g3
  obtain ⟨hb1, hb2⟩ := HB.out _ HX.out
  obtain ⟨d0, d1, d2, d3, d4, d5⟩ := cells6 hb1
  obtain ⟨g0, g1, g2, g3⟩ := cells4 hb2
  clear hb1 hb2
  go_wp2_with fail
  go_ret
  exact ⟨rfl, (ext_pair _ _ _).trans HX.out⟩
theorem ref04_p23 (code addr count exc : Int) (on : List Bool) (set : List UInt16) (parts : List PartD) (A1 A2 A3 B1 B2 B3 : Option Addr) (n1 c1 n2 c2 n3 c3 m1 k1 m2 k2 m3 k3 : Nat) (w : World) (HC : Hid (∀ W, Ext w W → Calls Try.prog 55 #[.agg #[.int .i64 code, .int .i64 addr, .int .i64 count, .slice A1 n1 c1, .slice A2 n2 c2, .slice A3 n3 c3]] W (RetI W 0))) (H1 : Hid (∀ W, Calls Try.prog 56 #[.agg #[.int .i64 code, .int .i64 addr, .int .i64 count, .slice A1 n1 c1, .slice A2 n2 c2, .slice A3 n3 c3]] W (RetQ W false))) (H2 : Hid (∀ W, Calls Try.prog 57 #[.agg #[.int .i64 code, .int .i64 addr, .int .i64 count, .slice A1 n1 c1, .slice A2 n2 c2, .slice A3 n3 c3]] W (RetQ W false))) (H3 : Hid (∀ W, Calls Try.prog 58 #[.agg #[.int .i64 code, .int .i64 addr, .int .i64 count, .slice A1 n1 c1, .slice A2 n2 c2, .slice A3 n3 c3]] W (RetQ W false))) (p1 : 0 < m1) (p3 : 0 < m3)  :
    Calls Try.prog 16 #[.agg #[.int .i64 code, .int .i64 addr, .int .i64 count, .slice A1 n1 c1, .slice A2 n2 c2, .slice A3 n3 c3], .agg #[.int .i64 0, .slice B1 m1 k1, .slice B2 0 k2, .slice B3 m3 k3]] w (RetI w 23) := by
  have HB := Lib.hid (two_boxes w #[.int .i64 code, .int .i64 addr, .int .i64 count, .slice A1 n1 c1, .slice A2 n2 c2, .slice A3 n3 c3] #[.int .i64 0, .slice B1 m1 k1, .slice B2 0 k2, .slice B3 m3 k3] 26 29)
  go_enter Try.func16, Try.ntmps16
  go_wp2_with fail
  refine (HC.out _ (ext_pair _ _ _)).mono ?_
  rintro e w1 ⟨rfl, hx⟩
  have HX := Lib.hid hx
  clear hx
  obtain ⟨hb1, hb2⟩ := HB.out _ HX.out
  obtain ⟨d0, d1, d2, d3, d4, d5⟩ := cells6 hb1
  obtain ⟨g0, g1, g2, g3⟩ := cells4 hb2
  clear hb1 hb2
  go_wp2_with fail
  refine (H1.out _).mono ?_
  rintro e wn ⟨rfl, hx⟩
  replace HX := Lib.hid (HX.out.trans hx)
  clear hx d0 d1 d2 d3 d4 d5 g0 g1 g2 g3
  obtain ⟨hb1, hb2⟩ := HB.out _ HX.out
  obtain ⟨d0, d1, d2, d3, d4, d5⟩ := cells6 hb1
  obtain ⟨g0, g1, g2, g3⟩ := cells4 hb2
  clear hb1 hb2
  go_wp2_with fail
  go_ret
  exact ⟨rfl, (ext_pair _ _ _).trans HX.out⟩
theorem ref04_p24 (code addr count exc : Int) (on : List Bool) (set : List UInt16) (parts : List PartD) (A1 A2 A3 B1 B2 B3 : Option Addr) (n1 c1 n2 c2 n3 c3 m1 k1 m2 k2 m3 k3 : Nat) (w : World) (HC : Hid (∀ W, Ext w W → Calls Try.prog 55 #[.agg #[.int .i64 code, .int .i64 addr, .int .i64 count, .slice A1 n1 c1, .slice A2 n2 c2, .slice A3 n3 c3]] W (RetI W 0))) (H1 : Hid (∀ W, Calls Try.prog 56 #[.agg #[.int .i64 code, .int .i64 addr, .int .i64 count, .slice A1 n1 c1, .slice A2 n2 c2, .slice A3 n3 c3]] W (RetQ W false))) (H2 : Hid (∀ W, Calls Try.prog 57 #[.agg #[.int .i64 code, .int .i64 addr, .int .i64 count, .slice A1 n1 c1, .slice A2 n2 c2, .slice A3 n3 c3]] W (RetQ W false))) (H3 : Hid (∀ W, Calls Try.prog 58 #[.agg #[.int .i64 code, .int .i64 addr, .int .i64 count, .slice A1 n1 c1, .slice A2 n2 c2, .slice A3 n3 c3]] W (RetQ W false))) (p1 : 0 < m1) (p2 : 0 < m2)  :
    Calls Try.prog 16 #[.agg #[.int .i64 code, .int .i64 addr, .int .i64 count, .slice A1 n1 c1, .slice A2 n2 c2, .slice A3 n3 c3], .agg #[.int .i64 0, .slice B1 m1 k1, .slice B2 m2 k2, .slice B3 0 k3]] w (RetI w 23) := by
  have HB := Lib.hid (two_boxes w #[.int .i64 code, .int .i64 addr, .int .i64 count, .slice A1 n1 c1, .slice A2 n2 c2, .slice A3 n3 c3] #[.int .i64 0, .slice B1 m1 k1, .slice B2 m2 k2, .slice B3 0 k3] 26 29)
  go_enter Try.func16, Try.ntmps16
  go_wp2_with fail
  refine (HC.out _ (ext_pair _ _ _)).mono ?_
  rintro e w1 ⟨rfl, hx⟩
  have HX := Lib.hid hx
  clear hx
  obtain ⟨hb1, hb2⟩ := HB.out _ HX.out
  obtain ⟨d0, d1, d2, d3, d4, d5⟩ := cells6 hb1
  obtain ⟨g0, g1, g2, g3⟩ := cells4 hb2
  clear hb1 hb2
  go_wp2_with fail
  refine (H1.out _).mono ?_
  rintro e wn ⟨rfl, hx⟩
  replace HX := Lib.hid (HX.out.trans hx)
  clear hx d0 d1 d2 d3 d4 d5 g0 g1 g2 g3
  obtain ⟨hb1, hb2⟩ := HB.out _ HX.out
  obtain ⟨d0, d1, d2, d3, d4, d5⟩ := cells6 hb1
  obtain ⟨g0, g1, g2, g3⟩ := cells4 hb2
  clear hb1 hb2
  go_wp2_with fail
  go_ret
  exact ⟨rfl, (ext_pair _ _ _).trans HX.out⟩
theorem ref04_p25 (code addr count exc : Int) (on : List Bool) (set : List UInt16) (parts : List PartD) (A1 A2 A3 B1 B2 B3 : Option Addr) (n1 c1 n2 c2 n3 c3 m1 k1 m2 k2 m3 k3 : Nat) (w : World) (HC : Hid (∀ W, Ext w W → Calls Try.prog 55 #[.agg #[.int .i64 code, .int .i64 addr, .int .i64 count, .slice A1 n1 c1, .slice A2 n2 c2, .slice A3 n3 c3]] W (RetI W 0))) (H1 : Hid (∀ W, Calls Try.prog 56 #[.agg #[.int .i64 code, .int .i64 addr, .int .i64 count, .slice A1 n1 c1, .slice A2 n2 c2, .slice A3 n3 c3]] W (RetQ W false))) (H2 : Hid (∀ W, Calls Try.prog 57 #[.agg #[.int .i64 code, .int .i64 addr, .int .i64 count, .slice A1 n1 c1, .slice A2 n2 c2, .slice A3 n3 c3]] W (RetQ W false))) (H3 : Hid (∀ W, Calls Try.prog 58 #[.agg #[.int .i64 code, .int .i64 addr, .int .i64 count, .slice A1 n1 c1, .slice A2 n2 c2, .slice A3 n3 c3]] W (RetQ W false))) (p1 : 0 < m1) (p2 : 0 < m2) (p3 : 0 < m3)  :
    Calls Try.prog 16 #[.agg #[.int .i64 code, .int .i64 addr, .int .i64 count, .slice A1 n1 c1, .slice A2 n2 c2, .slice A3 n3 c3], .agg #[.int .i64 0, .slice B1 m1 k1, .slice B2 m2 k2, .slice B3 m3 k3]] w (RetI w 23) := by
  have HB := Lib.hid (two_boxes w #[.int .i64 code, .int .i64 addr, .int .i64 count, .slice A1 n1 c1, .slice A2 n2 c2, .slice A3 n3 c3] #[.int .i64 0, .slice B1 m1 k1, .slice B2 m2 k2, .slice B3 m3 k3] 26 29)
  go_enter Try.func16, Try.ntmps16
  go_wp2_with fail
  refine (HC.out _ (ext_pair _ _ _)).mono ?_
  rintro e w1 ⟨rfl, hx⟩
  have HX := Lib.hid hx
  clear hx
  obtain ⟨hb1, hb2⟩ := HB.out _ HX.out
  obtain ⟨d0, d1, d2, d3, d4, d5⟩ := cells6 hb1
  obtain ⟨g0, g1, g2, g3⟩ := cells4 hb2
  clear hb1 hb2
  go_wp2_with fail
  refine (H1.out _).mono ?_
  rintro e wn ⟨rfl, hx⟩
  replace HX := Lib.hid (HX.out.trans hx)
  clear hx d0 d1 d2 d3 d4 d5 g0 g1 g2 g3
  obtain ⟨hb1, hb2⟩ := HB.out _ HX.out
  obtain ⟨d0, d1, d2, d3, d4, d5⟩ := cells6 hb1
  obtain ⟨g0, g1, g2, g3⟩ := cells4 hb2
  clear hb1 hb2
  go_wp2_with fail
  go_ret
  exact ⟨rfl, (ext_pair _ _ _).trans HX.out⟩
theorem ref04_p26 (code addr count exc : Int) (on : List Bool) (set : List UInt16) (parts : List PartD) (A1 A2 A3 B1 B2 B3 : Option Addr) (n1 c1 n2 c2 n3 c3 m1 k1 m2 k2 m3 k3 : Nat) (w : World) (HC : Hid (∀ W, Ext w W → Calls Try.prog 55 #[.agg #[.int .i64 code, .int .i64 addr, .int .i64 count, .slice A1 n1 c1, .slice A2 n2 c2, .slice A3 n3 c3]] W (RetI W 0))) (H1 : Hid (∀ W, Calls Try.prog 56 #[.agg #[.int .i64 code, .int .i64 addr, .int .i64 count, .slice A1 n1 c1, .slice A2 n2 c2, .slice A3 n3 c3]] W (RetQ W true))) (H2 : Hid (∀ W, Calls Try.prog 57 #[.agg #[.int .i64 code, .int .i64 addr, .int .i64 count, .slice A1 n1 c1, .slice A2 n2 c2, .slice A3 n3 c3]] W (RetQ W false))) (H3 : Hid (∀ W, Calls Try.prog 58 #[.agg #[.int .i64 code, .int .i64 addr, .int .i64 count, .slice A1 n1 c1, .slice A2 n2 c2, .slice A3 n3 c3]] W (RetQ W false)))  (hne : ((0 : Int) != count) = true) :
    Calls Try.prog 16 #[.agg #[.int .i64 code, .int .i64 addr, .int .i64 count, .slice A1 n1 c1, .slice A2 n2 c2, .slice A3 n3 c3], .agg #[.int .i64 0, .slice B1 0 k1, .slice B2 0 k2, .slice B3 0 k3]] w (RetI w 22) := by
  have HB := Lib.hid (two_boxes w #[.int .i64 code, .int .i64 addr, .int .i64 count, .slice A1 n1 c1, .slice A2 n2 c2, .slice A3 n3 c3] #[.int .i64 0, .slice B1 0 k1, .slice B2 0 k2, .slice B3 0 k3] 26 29)
  go_enter Try.func16, Try.ntmps16
  go_wp2_with fail
  refine (HC.out _ (ext_pair _ _ _)).mono ?_
  rintro e w1 ⟨rfl, hx⟩
  have HX := Lib.hid hx
  clear hx
  obtain ⟨hb1, hb2⟩ := HB.out _ HX.out
  obtain ⟨d0, d1, d2, d3, d4, d5⟩ := cells6 hb1
  obtain ⟨g0, g1, g2, g3⟩ := cells4 hb2
  clear hb1 hb2
  go_wp2_with fail
  refine (H1.out _).mono ?_
  rintro e wn ⟨rfl, hx⟩
  replace HX := Lib.hid (HX.out.trans hx)
  clear hx d0 d1 d2 d3 d4 d5 g0 g1 g2 g3
  obtain ⟨hb1, hb2⟩ := HB.out _ HX.out
  obtain ⟨d0, d1, d2, d3, d4, d5⟩ := cells6 hb1
  obtain ⟨g0, g1, g2, g3⟩ := cells4 hb2
  clear hb1 hb2
  go_wp2_with fail
  go_ret
  exact ⟨rfl, (ext_pair _ _ _).trans HX.out⟩
theorem ref04_p27 (code addr count exc : Int) (on : List Bool) (set : List UInt16) (parts : List PartD) (A1 A2 A3 B1 B2 B3 : Option Addr) (n1 c1 n2 c2 n3 c3 m1 k1 m2 k2 m3 k3 : Nat) (w : World) (HC : Hid (∀ W, Ext w W → Calls Try.prog 55 #[.agg #[.int .i64 code, .int .i64 addr, .int .i64 count, .slice A1 n1 c1, .slice A2 n2 c2, .slice A3 n3 c3]] W (RetI W 0))) (H1 : Hid (∀ W, Calls Try.prog 56 #[.agg #[.int .i64 code, .int .i64 addr, .int .i64 count, .slice A1 n1 c1, .slice A2 n2 c2, .slice A3 n3 c3]] W (RetQ W true))) (H2 : Hid (∀ W, Calls Try.prog 57 #[.agg #[.int .i64 code, .int .i64 addr, .int .i64 count, .slice A1 n1 c1, .slice A2 n2 c2, .slice A3 n3 c3]] W (RetQ W false))) (H3 : Hid (∀ W, Calls Try.prog 58 #[.agg #[.int .i64 code, .int .i64 addr, .int .i64 count, .slice A1 n1 c1, .slice A2 n2 c2, .slice A3 n3 c3]] W (RetQ W false)))  (heq : ((0 : Int) != count) = false) :
    Calls Try.prog 16 #[.agg #[.int .i64 code, .int .i64 addr, .int .i64 count, .slice A1 n1 c1, .slice A2 n2 c2, .slice A3 n3 c3], .agg #[.int .i64 0, .slice B1 0 k1, .slice B2 0 k2, .slice B3 0 k3]] w (RetI w 0) := by
  have HB := Lib.hid (two_boxes w #[.int .i64 code, .int .i64 addr, .int .i64 count, .slice A1 n1 c1, .slice A2 n2 c2, .slice A3 n3 c3] #[.int .i64 0, .slice B1 0 k1, .slice B2 0 k2, .slice B3 0 k3] 26 29)
  go_enter Try.func16, Try.ntmps16
  go_wp2_with fail
  refine (HC.out _ (ext_pair _ _ _)).mono ?_
  rintro e w1 ⟨rfl, hx⟩
  have HX := Lib.hid hx
  clear hx
  obtain ⟨hb1, hb2⟩ := HB.out _ HX.out
  obtain ⟨d0, d1, d2, d3, d4, d5⟩ := cells6 hb1
  obtain ⟨g0, g1, g2, g3⟩ := cells4 hb2
  clear hb1 hb2
  go_wp2_with fail
  refine (H1.out _).mono ?_
  rintro e wn ⟨rfl, hx⟩
  replace HX := Lib.hid (HX.out.trans hx)
  clear hx d0 d1 d2 d3 d4 d5 g0 g1 g2 g3
  obtain ⟨hb1, hb2⟩ := HB.out _ HX.out
  obtain ⟨d0, d1, d2, d3, d4, d5⟩ := cells6 hb1
  obtain ⟨g0, g1, g2, g3⟩ := cells4 hb2
  clear hb1 hb2
  go_wp2_with fail
  refine (H2.out _).mono ?_
  rintro e wn ⟨rfl, hx⟩
  replace HX := Lib.hid (HX.out.trans hx)
  clear hx d0 d1 d2 d3 d4 d5 g0 g1 g2 g3
  obtain ⟨hb1, hb2⟩ := HB.out _ HX.out
  obtain ⟨d0, d1, d2, d3, d4, d5⟩ := cells6 hb1
  obtain ⟨g0, g1, g2, g3⟩ := cells4 hb2
  clear hb1 hb2
  go_wp2_with fail
  refine (H3.out _).mono ?_
  rintro e wn ⟨rfl, hx⟩
  replace HX := Lib.hid (HX.out.trans hx)
  clear hx d0 d1 d2 d3 d4 d5 g0 g1 g2 g3
  obtain ⟨hb1, hb2⟩ := HB.out _ HX.out
  obtain ⟨d0, d1, d2, d3, d4, d5⟩ := cells6 hb1
  obtain ⟨g0, g1, g2, g3⟩ := cells4 hb2
  clear hb1 hb2
  go_wp2_with fail
  go_loopw [6] (fun i wr => i = .int .i64 0 ∧ wr = wn) (fun _ _ => 0)
  case atStart => exact ⟨rfl, rfl⟩
  case round =>
    obtain ⟨rfl, rfl⟩ := hrel
    go_wp2_with fail
    go_ret
    exact ⟨rfl, (ext_pair _ _ _).trans HX.out⟩
theorem ref04_p28 (code addr count exc : Int) (on : List Bool) (set : List UInt16) (parts : List PartD) (A1 A2 A3 B1 B2 B3 : Option Addr) (n1 c1 n2 c2 n3 c3 m1 k1 m2 k2 m3 k3 : Nat) (w : World) (HC : Hid (∀ W, Ext w W → Calls Try.prog 55 #[.agg #[.int .i64 code, .int .i64 addr, .int .i64 count, .slice A1 n1 c1, .slice A2 n2 c2, .slice A3 n3 c3]] W (RetI W 0))) (H1 : Hid (∀ W, Calls Try.prog 56 #[.agg #[.int .i64 code, .int .i64 addr, .int .i64 count, .slice A1 n1 c1, .slice A2 n2 c2, .slice A3 n3 c3]] W (RetQ W true))) (H2 : Hid (∀ W, Calls Try.prog 57 #[.agg #[.int .i64 code, .int .i64 addr, .int .i64 count, .slice A1 n1 c1, .slice A2 n2 c2, .slice A3 n3 c3]] W (RetQ W false))) (H3 : Hid (∀ W, Calls Try.prog 58 #[.agg #[.int .i64 code, .int .i64 addr, .int .i64 count, .slice A1 n1 c1, .slice A2 n2 c2, .slice A3 n3 c3]] W (RetQ W false))) (p1 : 0 < m1) (hne : (((m1 : Int) : Int) != count) = true) :
    Calls Try.prog 16 #[.agg #[.int .i64 code, .int .i64 addr, .int .i64 count, .slice A1 n1 c1, .slice A2 n2 c2, .slice A3 n3 c3], .agg #[.int .i64 0, .slice B1 m1 k1, .slice B2 0 k2, .slice B3 0 k3]] w (RetI w 22) := by
  have HB := Lib.hid (two_boxes w #[.int .i64 code, .int .i64 addr, .int .i64 count, .slice A1 n1 c1, .slice A2 n2 c2, .slice A3 n3 c3] #[.int .i64 0, .slice B1 m1 k1, .slice B2 0 k2, .slice B3 0 k3] 26 29)
  go_enter Try.func16, Try.ntmps16
  go_wp2_with fail
  refine (HC.out _ (ext_pair _ _ _)).mono ?_
  rintro e w1 ⟨rfl, hx⟩
  have HX := Lib.hid hx
  clear hx
  obtain ⟨hb1, hb2⟩ := HB.out _ HX.out
  obtain ⟨d0, d1, d2, d3, d4, d5⟩ := cells6 hb1
  obtain ⟨g0, g1, g2, g3⟩ := cells4 hb2
  clear hb1 hb2
  go_wp2_with fail
  refine (H1.out _).mono ?_
  rintro e wn ⟨rfl, hx⟩
  replace HX := Lib.hid (HX.out.trans hx)
  clear hx d0 d1 d2 d3 d4 d5 g0 g1 g2 g3
  obtain ⟨hb1, hb2⟩ := HB.out _ HX.out
  obtain ⟨d0, d1, d2, d3, d4, d5⟩ := cells6 hb1
  obtain ⟨g0, g1, g2, g3⟩ := cells4 hb2
  clear hb1 hb2
  go_wp2_with fail
  refine (H1.out _).mono ?_
  rintro e wn ⟨rfl, hx⟩
  replace HX := Lib.hid (HX.out.trans hx)
  clear hx d0 d1 d2 d3 d4 d5 g0 g1 g2 g3
  obtain ⟨hb1, hb2⟩ := HB.out _ HX.out
  obtain ⟨d0, d1, d2, d3, d4, d5⟩ := cells6 hb1
  obtain ⟨g0, g1, g2, g3⟩ := cells4 hb2
  clear hb1 hb2
  go_wp2_with fail
  go_ret
  exact ⟨rfl, (ext_pair _ _ _).trans HX.out⟩
theorem ref04_p29 (code addr count exc : Int) (on : List Bool) (set : List UInt16) (parts : List PartD) (A1 A2 A3 B1 B2 B3 : Option Addr) (n1 c1 n2 c2 n3 c3 m1 k1 m2 k2 m3 k3 : Nat) (w : World) (HC : Hid (∀ W, Ext w W → Calls Try.prog 55 #[.agg #[.int .i64 code, .int .i64 addr, .int .i64 count, .slice A1 n1 c1, .slice A2 n2 c2, .slice A3 n3 c3]] W (RetI W 0))) (H1 : Hid (∀ W, Calls Try.prog 56 #[.agg #[.int .i64 code, .int .i64 addr, .int .i64 count, .slice A1 n1 c1, .slice A2 n2 c2, .slice A3 n3 c3]] W (RetQ W true))) (H2 : Hid (∀ W, Calls Try.prog 57 #[.agg #[.int .i64 code, .int .i64 addr, .int .i64 count, .slice A1 n1 c1, .slice A2 n2 c2, .slice A3 n3 c3]] W (RetQ W false))) (H3 : Hid (∀ W, Calls Try.prog 58 #[.agg #[.int .i64 code, .int .i64 addr, .int .i64 count, .slice A1 n1 c1, .slice A2 n2 c2, .slice A3 n3 c3]] W (RetQ W false))) (p1 : 0 < m1) (heq : (((m1 : Int) : Int) != count) = false) :
    Calls Try.prog 16 #[.agg #[.int .i64 code, .int .i64 addr, .int .i64 count, .slice A1 n1 c1, .slice A2 n2 c2, .slice A3 n3 c3], .agg #[.int .i64 0, .slice B1 m1 k1, .slice B2 0 k2, .slice B3 0 k3]] w (RetI w 0) := by
  have HB := Lib.hid (two_boxes w #[.int .i64 code, .int .i64 addr, .int .i64 count, .slice A1 n1 c1, .slice A2 n2 c2, .slice A3 n3 c3] #[.int .i64 0, .slice B1 m1 k1, .slice B2 0 k2, .slice B3 0 k3] 26 29)
  go_enter Try.func16, Try.ntmps16
  go_wp2_with fail
  refine (HC.out _ (ext_pair _ _ _)).mono ?_
  rintro e w1 ⟨rfl, hx⟩
  have HX := Lib.hid hx
  clear hx
  obtain ⟨hb1, hb2⟩ := HB.out _ HX.out
  obtain ⟨d0, d1, d2, d3, d4, d5⟩ := cells6 hb1
  obtain ⟨g0, g1, g2, g3⟩ := cells4 hb2
  clear hb1 hb2
  go_wp2_with fail
  refine (H1.out _).mono ?_
  rintro e wn ⟨rfl, hx⟩
  replace HX := Lib.hid (HX.out.trans hx)
  clear hx d0 d1 d2 d3 d4 d5 g0 g1 g2 g3
  obtain ⟨hb1, hb2⟩ := HB.out _ HX.out
  obtain ⟨d0, d1, d2, d3, d4, d5⟩ := cells6 hb1
  obtain ⟨g0, g1, g2, g3⟩ := cells4 hb2
  clear hb1 hb2
  go_wp2_with fail
  refine (H1.out _).mono ?_
  rintro e wn ⟨rfl, hx⟩
  replace HX := Lib.hid (HX.out.trans hx)
  clear hx d0 d1 d2 d3 d4 d5 g0 g1 g2 g3
  obtain ⟨hb1, hb2⟩ := HB.out _ HX.out
  obtain ⟨d0, d1, d2, d3, d4, d5⟩ := cells6 hb1
  obtain ⟨g0, g1, g2, g3⟩ := cells4 hb2
  clear hb1 hb2
  go_wp2_with fail
  refine (H2.out _).mono ?_
  rintro e wn ⟨rfl, hx⟩
  replace HX := Lib.hid (HX.out.trans hx)
  clear hx d0 d1 d2 d3 d4 d5 g0 g1 g2 g3
  obtain ⟨hb1, hb2⟩ := HB.out _ HX.out
  obtain ⟨d0, d1, d2, d3, d4, d5⟩ := cells6 hb1
  obtain ⟨g0, g1, g2, g3⟩ := cells4 hb2
  clear hb1 hb2
  go_wp2_with fail
  refine (H3.out _).mono ?_
  rintro e wn ⟨rfl, hx⟩
  replace HX := Lib.hid (HX.out.trans hx)
  clear hx d0 d1 d2 d3 d4 d5 g0 g1 g2 g3
  obtain ⟨hb1, hb2⟩ := HB.out _ HX.out
  obtain ⟨d0, d1, d2, d3, d4, d5⟩ := cells6 hb1
  obtain ⟨g0, g1, g2, g3⟩ := cells4 hb2
  clear hb1 hb2
  go_wp2_with fail
  go_loopw [6] (fun i wr => i = .int .i64 0 ∧ wr = wn) (fun _ _ => 0)
  case atStart => exact ⟨rfl, rfl⟩
  case round =>
    obtain ⟨rfl, rfl⟩ := hrel
    go_wp2_with fail
    go_ret
    exact ⟨rfl, (ext_pair _ _ _).trans HX.out⟩
theorem ref04_p30 (code addr count exc : Int) (on : List Bool) (set : List UInt16) (parts : List PartD) (A1 A2 A3 B1 B2 B3 : Option Addr) (n1 c1 n2 c2 n3 c3 m1 k1 m2 k2 m3 k3 : Nat) (w : World) (HC : Hid (∀ W, Ext w W → Calls Try.prog 55 #[.agg #[.int .i64 code, .int .i64 addr, .int .i64 count, .slice A1 n1 c1, .slice A2 n2 c2, .slice A3 n3 c3]] W (RetI W 0))) (H1 : Hid (∀ W, Calls Try.prog 56 #[.agg #[.int .i64 code, .int .i64 addr, .int .i64 count, .slice A1 n1 c1, .slice A2 n2 c2, .slice A3 n3 c3]] W (RetQ W false))) (H2 : Hid (∀ W, Calls Try.prog 57 #[.agg #[.int .i64 code, .int .i64 addr, .int .i64 count, .slice A1 n1 c1, .slice A2 n2 c2, .slice A3 n3 c3]] W (RetQ W true))) (H3 : Hid (∀ W, Calls Try.prog 58 #[.agg #[.int .i64 code, .int .i64 addr, .int .i64 count, .slice A1 n1 c1, .slice A2 n2 c2, .slice A3 n3 c3]] W (RetQ W false)))  (hne : ((0 : Int) != count) = true) :
    Calls Try.prog 16 #[.agg #[.int .i64 code, .int .i64 addr, .int .i64 count, .slice A1 n1 c1, .slice A2 n2 c2, .slice A3 n3 c3], .agg #[.int .i64 0, .slice B1 0 k1, .slice B2 0 k2, .slice B3 0 k3]] w (RetI w 22) := by
  have HB := Lib.hid (two_boxes w #[.int .i64 code, .int .i64 addr, .int .i64 count, .slice A1 n1 c1, .slice A2 n2 c2, .slice A3 n3 c3] #[.int .i64 0, .slice B1 0 k1, .slice B2 0 k2, .slice B3 0 k3] 26 29)
  go_enter Try.func16, Try.ntmps16
  go_wp2_with fail
  refine (HC.out _ (ext_pair _ _ _)).mono ?_
  rintro e w1 ⟨rfl, hx⟩
  have HX := Lib.hid hx
  clear hx
  obtain ⟨hb1, hb2⟩ := HB.out _ HX.out
  obtain ⟨d0, d1, d2, d3, d4, d5⟩ := cells6 hb1
  obtain ⟨g0, g1, g2, g3⟩ := cells4 hb2
  clear hb1 hb2
  go_wp2_with fail
  refine (H1.out _).mono ?_
  rintro e wn ⟨rfl, hx⟩
  replace HX := Lib.hid (HX.out.trans hx)
  clear hx d0 d1 d2 d3 d4 d5 g0 g1 g2 g3
  obtain ⟨hb1, hb2⟩ := HB.out _ HX.out
  obtain ⟨d0, d1, d2, d3, d4, d5⟩ := cells6 hb1
  obtain ⟨g0, g1, g2, g3⟩ := cells4 hb2
  clear hb1 hb2
  go_wp2_with fail
  refine (H2.out _).mono ?_
  rintro e wn ⟨rfl, hx⟩
  replace HX := Lib.hid (HX.out.trans hx)
  clear hx d0 d1 d2 d3 d4 d5 g0 g1 g2 g3
  obtain ⟨hb1, hb2⟩ := HB.out _ HX.out
  obtain ⟨d0, d1, d2, d3, d4, d5⟩ := cells6 hb1
  obtain ⟨g0, g1, g2, g3⟩ := cells4 hb2
  clear hb1 hb2
  go_wp2_with fail
  go_ret
  exact ⟨rfl, (ext_pair _ _ _).trans HX.out⟩
theorem ref04_p31 (code addr count exc : Int) (on : List Bool) (set : List UInt16) (parts : List PartD) (A1 A2 A3 B1 B2 B3 : Option Addr) (n1 c1 n2 c2 n3 c3 m1 k1 m2 k2 m3 k3 : Nat) (w : World) (HC : Hid (∀ W, Ext w W → Calls Try.prog 55 #[.agg #[.int .i64 code, .int .i64 addr, .int .i64 count, .slice A1 n1 c1, .slice A2 n2 c2, .slice A3 n3 c3]] W (RetI W 0))) (H1 : Hid (∀ W, Calls Try.prog 56 #[.agg #[.int .i64 code, .int .i64 addr, .int .i64 count, .slice A1 n1 c1, .slice A2 n2 c2, .slice A3 n3 c3]] W (RetQ W false))) (H2 : Hid (∀ W, Calls Try.prog 57 #[.agg #[.int .i64 code, .int .i64 addr, .int .i64 count, .slice A1 n1 c1, .slice A2 n2 c2, .slice A3 n3 c3]] W (RetQ W true))) (H3 : Hid (∀ W, Calls Try.prog 58 #[.agg #[.int .i64 code, .int .i64 addr, .int .i64 count, .slice A1 n1 c1, .slice A2 n2 c2, .slice A3 n3 c3]] W (RetQ W false)))  (heq : ((0 : Int) != count) = false) :
    Calls Try.prog 16 #[.agg #[.int .i64 code, .int .i64 addr, .int .i64 count, .slice A1 n1 c1, .slice A2 n2 c2, .slice A3 n3 c3], .agg #[.int .i64 0, .slice B1 0 k1, .slice B2 0 k2, .slice B3 0 k3]] w (RetI w 0) := by
  have HB := Lib.hid (two_boxes w #[.int .i64 code, .int .i64 addr, .int .i64 count, .slice A1 n1 c1, .slice A2 n2 c2, .slice A3 n3 c3] #[.int .i64 0, .slice B1 0 k1, .slice B2 0 k2, .slice B3 0 k3] 26 29)
  go_enter Try.func16, Try.ntmps16
  go_wp2_with fail
  refine (HC.out _ (ext_pair _ _ _)).mono ?_
  rintro e w1 ⟨rfl, hx⟩
  have HX := Lib.hid hx
  clear hx
  obtain ⟨hb1, hb2⟩ := HB.out _ HX.out
  obtain ⟨d0, d1, d2, d3, d4, d5⟩ := cells6 hb1
  obtain ⟨g0, g1, g2, g3⟩ := cells4 hb2
  clear hb1 hb2
  go_wp2_with fail
  refine (H1.out _).mono ?_
  rintro e wn ⟨rfl, hx⟩
  replace HX := Lib.hid (HX.out.trans hx)
  clear hx d0 d1 d2 d3 d4 d5 g0 g1 g2 g3
  obtain ⟨hb1, hb2⟩ := HB.out _ HX.out
  obtain ⟨d0, d1, d2, d3, d4, d5⟩ := cells6 hb1
  obtain ⟨g0, g1, g2, g3⟩ := cells4 hb2
  clear hb1 hb2
  go_wp2_with fail
  refine (H2.out _).mono ?_
  rintro e wn ⟨rfl, hx⟩
  replace HX := Lib.hid (HX.out.trans hx)
  clear hx d0 d1 d2 d3 d4 d5 g0 g1 g2 g3
  obtain ⟨hb1, hb2⟩ := HB.out _ HX.out
  obtain ⟨d0, d1, d2, d3, d4, d5⟩ := cells6 hb1
  obtain ⟨g0, g1, g2, g3⟩ := cells4 hb2
  clear hb1 hb2
  go_wp2_with fail
  refine (H3.out _).mono ?_
  rintro e wn ⟨rfl, hx⟩
  replace HX := Lib.hid (HX.out.trans hx)
  clear hx d0 d1 d2 d3 d4 d5 g0 g1 g2 g3
  obtain ⟨hb1, hb2⟩ := HB.out _ HX.out
  obtain ⟨d0, d1, d2, d3, d4, d5⟩ := cells6 hb1
  obtain ⟨g0, g1, g2, g3⟩ := cells4 hb2
  clear hb1 hb2
  go_wp2_with fail
  go_loopw [6] (fun i wr => i = .int .i64 0 ∧ wr = wn) (fun _ _ => 0)
  case atStart => exact ⟨rfl, rfl⟩
  case round =>
    obtain ⟨rfl, rfl⟩ := hrel
    go_wp2_with fail
    go_ret
    exact ⟨rfl, (ext_pair _ _ _).trans HX.out⟩
theorem ref04_p32 (code addr count exc : Int) (on : List Bool) (set : List UInt16) (parts : List PartD) (A1 A2 A3 B1 B2 B3 : Option Addr) (n1 c1 n2 c2 n3 c3 m1 k1 m2 k2 m3 k3 : Nat) (w : World) (HC : Hid (∀ W, Ext w W → Calls Try.prog 55 #[.agg #[.int .i64 code, .int .i64 addr, .int .i64 count, .slice A1 n1 c1, .slice A2 n2 c2, .slice A3 n3 c3]] W (RetI W 0))) (H1 : Hid (∀ W, Calls Try.prog 56 #[.agg #[.int .i64 code, .int .i64 addr, .int .i64 count, .slice A1 n1 c1, .slice A2 n2 c2, .slice A3 n3 c3]] W (RetQ W false))) (H2 : Hid (∀ W, Calls Try.prog 57 #[.agg #[.int .i64 code, .int .i64 addr, .int .i64 count, .slice A1 n1 c1, .slice A2 n2 c2, .slice A3 n3 c3]] W (RetQ W true))) (H3 : Hid (∀ W, Calls Try.prog 58 #[.agg #[.int .i64 code, .int .i64 addr, .int .i64 count, .slice A1 n1 c1, .slice A2 n2 c2, .slice A3 n3 c3]] W (RetQ W false))) (p2 : 0 < m2) (hne : (((m2 : Int) : Int) != count) = true) :
    Calls Try.prog 16 #[.agg #[.int .i64 code, .int .i64 addr, .int .i64 count, .slice A1 n1 c1, .slice A2 n2 c2, .slice A3 n3 c3], .agg #[.int .i64 0, .slice B1 0 k1, .slice B2 m2 k2, .slice B3 0 k3]] w (RetI w 22) := by
  have HB := Lib.hid (two_boxes w #[.int .i64 code, .int .i64 addr, .int .i64 count, .slice A1 n1 c1, .slice A2 n2 c2, .slice A3 n3 c3] #[.int .i64 0, .slice B1 0 k1, .slice B2 m2 k2, .slice B3 0 k3] 26 29)
  go_enter Try.func16, Try.ntmps16
  go_wp2_with fail
  refine (HC.out _ (ext_pair _ _ _)).mono ?_
  rintro e w1 ⟨rfl, hx⟩
  have HX := Lib.hid hx
  clear hx
  obtain ⟨hb1, hb2⟩ := HB.out _ HX.out
  obtain ⟨d0, d1, d2, d3, d4, d5⟩ := cells6 hb1
  obtain ⟨g0, g1, g2, g3⟩ := cells4 hb2
  clear hb1 hb2
  go_wp2_with fail
  refine (H2.out _).mono ?_
  rintro e wn ⟨rfl, hx⟩
  replace HX := Lib.hid (HX.out.trans hx)
  clear hx d0 d1 d2 d3 d4 d5 g0 g1 g2 g3
  obtain ⟨hb1, hb2⟩ := HB.out _ HX.out
  obtain ⟨d0, d1, d2, d3, d4, d5⟩ := cells6 hb1
  obtain ⟨g0, g1, g2, g3⟩ := cells4 hb2
  clear hb1 hb2
  go_wp2_with fail
  refine (H1.out _).mono ?_
  rintro e wn ⟨rfl, hx⟩
  replace HX := Lib.hid (HX.out.trans hx)
  clear hx d0 d1 d2 d3 d4 d5 g0 g1 g2 g3
  obtain ⟨hb1, hb2⟩ := HB.out _ HX.out
  obtain ⟨d0, d1, d2, d3, d4, d5⟩ := cells6 hb1
  obtain ⟨g0, g1, g2, g3⟩ := cells4 hb2
  clear hb1 hb2
  go_wp2_with fail
  refine (H2.out _).mono ?_
  rintro e wn ⟨rfl, hx⟩
  replace HX := Lib.hid (HX.out.trans hx)
  clear hx d0 d1 d2 d3 d4 d5 g0 g1 g2 g3
  obtain ⟨hb1, hb2⟩ := HB.out _ HX.out
  obtain ⟨d0, d1, d2, d3, d4, d5⟩ := cells6 hb1
  obtain ⟨g0, g1, g2, g3⟩ := cells4 hb2
  clear hb1 hb2
  go_wp2_with fail
  go_ret
  exact ⟨rfl, (ext_pair _ _ _).trans HX.out⟩
theorem ref04_p33 (code addr count exc : Int) (on : List Bool) (set : List UInt16) (parts : List PartD) (A1 A2 A3 B1 B2 B3 : Option Addr) (n1 c1 n2 c2 n3 c3 m1 k1 m2 k2 m3 k3 : Nat) (w : World) (HC : Hid (∀ W, Ext w W → Calls Try.prog 55 #[.agg #[.int .i64 code, .int .i64 addr, .int .i64 count, .slice A1 n1 c1, .slice A2 n2 c2, .slice A3 n3 c3]] W (RetI W 0))) (H1 : Hid (∀ W, Calls Try.prog 56 #[.agg #[.int .i64 code, .int .i64 addr, .int .i64 count, .slice A1 n1 c1, .slice A2 n2 c2, .slice A3 n3 c3]] W (RetQ W false))) (H2 : Hid (∀ W, Calls Try.prog 57 #[.agg #[.int .i64 code, .int .i64 addr, .int .i64 count, .slice A1 n1 c1, .slice A2 n2 c2, .slice A3 n3 c3]] W (RetQ W true))) (H3 : Hid (∀ W, Calls Try.prog 58 #[.agg #[.int .i64 code, .int .i64 addr, .int .i64 count, .slice A1 n1 c1, .slice A2 n2 c2, .slice A3 n3 c3]] W (RetQ W false))) (p2 : 0 < m2) (heq : (((m2 : Int) : Int) != count) = false) :
    Calls Try.prog 16 #[.agg #[.int .i64 code, .int .i64 addr, .int .i64 count, .slice A1 n1 c1, .slice A2 n2 c2, .slice A3 n3 c3], .agg #[.int .i64 0, .slice B1 0 k1, .slice B2 m2 k2, .slice B3 0 k3]] w (RetI w 0) := by
  have HB := Lib.hid (two_boxes w #[.int .i64 code, .int .i64 addr, .int .i64 count, .slice A1 n1 c1, .slice A2 n2 c2, .slice A3 n3 c3] #[.int .i64 0, .slice B1 0 k1, .slice B2 m2 k2, .slice B3 0 k3] 26 29)
  go_enter Try.func16, Try.ntmps16
  go_wp2_with fail
  refine (HC.out _ (ext_pair _ _ _)).mono ?_
  rintro e w1 ⟨rfl, hx⟩
  have HX := Lib.hid hx
  clear hx
  obtain ⟨hb1, hb2⟩ := HB.out _ HX.out
  obtain ⟨d0, d1, d2, d3, d4, d5⟩ := cells6 hb1
  obtain ⟨g0, g1, g2, g3⟩ := cells4 hb2
  clear hb1 hb2
  go_wp2_with fail
  refine (H2.out _).mono ?_
  rintro e wn ⟨rfl, hx⟩
  replace HX := Lib.hid (HX.out.trans hx)
  clear hx d0 d1 d2 d3 d4 d5 g0 g1 g2 g3
  obtain ⟨hb1, hb2⟩ := HB.out _ HX.out
  obtain ⟨d0, d1, d2, d3, d4, d5⟩ := cells6 hb1
  obtain ⟨g0, g1, g2, g3⟩ := cells4 hb2
  clear hb1 hb2
  go_wp2_with fail
  refine (H1.out _).mono ?_
  rintro e wn ⟨rfl, hx⟩
  replace HX := Lib.hid (HX.out.trans hx)
  clear hx d0 d1 d2 d3 d4 d5 g0 g1 g2 g3
  obtain ⟨hb1, hb2⟩ := HB.out _ HX.out
  obtain ⟨d0, d1, d2, d3, d4, d5⟩ := cells6 hb1
  obtain ⟨g0, g1, g2, g3⟩ := cells4 hb2
  clear hb1 hb2
  go_wp2_with fail
  refine (H2.out _).mono ?_
  rintro e wn ⟨rfl, hx⟩
  replace HX := Lib.hid (HX.out.trans hx)
  clear hx d0 d1 d2 d3 d4 d5 g0 g1 g2 g3
  obtain ⟨hb1, hb2⟩ := HB.out _ HX.out
  obtain ⟨d0, d1, d2, d3, d4, d5⟩ := cells6 hb1
  obtain ⟨g0, g1, g2, g3⟩ := cells4 hb2
  clear hb1 hb2
  go_wp2_with fail
  refine (H3.out _).mono ?_
  rintro e wn ⟨rfl, hx⟩
  replace HX := Lib.hid (HX.out.trans hx)
  clear hx d0 d1 d2 d3 d4 d5 g0 g1 g2 g3
  obtain ⟨hb1, hb2⟩ := HB.out _ HX.out
  obtain ⟨d0, d1, d2, d3, d4, d5⟩ := cells6 hb1
  obtain ⟨g0, g1, g2, g3⟩ := cells4 hb2
  clear hb1 hb2
  go_wp2_with fail
  go_loopw [6] (fun i wr => i = .int .i64 0 ∧ wr = wn) (fun _ _ => 0)
  case atStart => exact ⟨rfl, rfl⟩
  case round =>
    obtain ⟨rfl, rfl⟩ := hrel
    go_wp2_with fail
    go_ret
    exact ⟨rfl, (ext_pair _ _ _).trans HX.out⟩
theorem ref04_p34 (code addr count exc : Int) (on : List Bool) (set : List UInt16) (parts : List PartD) (A1 A2 A3 B1 B2 B3 : Option Addr) (n1 c1 n2 c2 n3 c3 m1 k1 m2 k2 m3 k3 : Nat) (w : World) (HC : Hid (∀ W, Ext w W → Calls Try.prog 55 #[.agg #[.int .i64 code, .int .i64 addr, .int .i64 count, .slice A1 n1 c1, .slice A2 n2 c2, .slice A3 n3 c3]] W (RetI W 0))) (H1 : Hid (∀ W, Calls Try.prog 56 #[.agg #[.int .i64 code, .int .i64 addr, .int .i64 count, .slice A1 n1 c1, .slice A2 n2 c2, .slice A3 n3 c3]] W (RetQ W false))) (H2 : Hid (∀ W, Calls Try.prog 57 #[.agg #[.int .i64 code, .int .i64 addr, .int .i64 count, .slice A1 n1 c1, .slice A2 n2 c2, .slice A3 n3 c3]] W (RetQ W false))) (H3 : Hid (∀ W, Calls Try.prog 58 #[.agg #[.int .i64 code, .int .i64 addr, .int .i64 count, .slice A1 n1 c1, .slice A2 n2 c2, .slice A3 n3 c3]] W (RetQ W true)))  (hne : ((0 : Int) != (n3 : Int)) = true) :
    Calls Try.prog 16 #[.agg #[.int .i64 code, .int .i64 addr, .int .i64 count, .slice A1 n1 c1, .slice A2 n2 c2, .slice A3 n3 c3], .agg #[.int .i64 0, .slice B1 0 k1, .slice B2 0 k2, .slice B3 0 k3]] w (RetI w 22) := by
  have HB := Lib.hid (two_boxes w #[.int .i64 code, .int .i64 addr, .int .i64 count, .slice A1 n1 c1, .slice A2 n2 c2, .slice A3 n3 c3] #[.int .i64 0, .slice B1 0 k1, .slice B2 0 k2, .slice B3 0 k3] 26 29)
  go_enter Try.func16, Try.ntmps16
  go_wp2_with fail
  refine (HC.out _ (ext_pair _ _ _)).mono ?_
  rintro e w1 ⟨rfl, hx⟩
  have HX := Lib.hid hx
  clear hx
  obtain ⟨hb1, hb2⟩ := HB.out _ HX.out
  obtain ⟨d0, d1, d2, d3, d4, d5⟩ := cells6 hb1
  obtain ⟨g0, g1, g2, g3⟩ := cells4 hb2
  clear hb1 hb2
  go_wp2_with fail
  refine (H1.out _).mono ?_
  rintro e wn ⟨rfl, hx⟩
  replace HX := Lib.hid (HX.out.trans hx)
  clear hx d0 d1 d2 d3 d4 d5 g0 g1 g2 g3
  obtain ⟨hb1, hb2⟩ := HB.out _ HX.out
  obtain ⟨d0, d1, d2, d3, d4, d5⟩ := cells6 hb1
  obtain ⟨g0, g1, g2, g3⟩ := cells4 hb2
  clear hb1 hb2
  go_wp2_with fail
  refine (H2.out _).mono ?_
  rintro e wn ⟨rfl, hx⟩
  replace HX := Lib.hid (HX.out.trans hx)
  clear hx d0 d1 d2 d3 d4 d5 g0 g1 g2 g3
  obtain ⟨hb1, hb2⟩ := HB.out _ HX.out
  obtain ⟨d0, d1, d2, d3, d4, d5⟩ := cells6 hb1
  obtain ⟨g0, g1, g2, g3⟩ := cells4 hb2
  clear hb1 hb2
  go_wp2_with fail
  refine (H3.out _).mono ?_
  rintro e wn ⟨rfl, hx⟩
  replace HX := Lib.hid (HX.out.trans hx)
  clear hx d0 d1 d2 d3 d4 d5 g0 g1 g2 g3
  obtain ⟨hb1, hb2⟩ := HB.out _ HX.out
  obtain ⟨d0, d1, d2, d3, d4, d5⟩ := cells6 hb1
  obtain ⟨g0, g1, g2, g3⟩ := cells4 hb2
  clear hb1 hb2
  go_wp2_with fail
  go_ret
  exact ⟨rfl, (ext_pair _ _ _).trans HX.out⟩
theorem ref04_p35 (code addr count exc : Int) (on : List Bool) (set : List UInt16) (parts : List PartD) (A1 A2 A3 B1 B2 B3 : Option Addr) (n1 c1 n2 c2 n3 c3 m1 k1 m2 k2 m3 k3 : Nat) (w : World) (HC : Hid (∀ W, Ext w W → Calls Try.prog 55 #[.agg #[.int .i64 code, .int .i64 addr, .int .i64 count, .slice A1 n1 c1, .slice A2 n2 c2, .slice A3 n3 c3]] W (RetI W 0))) (H1 : Hid (∀ W, Calls Try.prog 56 #[.agg #[.int .i64 code, .int .i64 addr, .int .i64 count, .slice A1 n1 c1, .slice A2 n2 c2, .slice A3 n3 c3]] W (RetQ W false))) (H2 : Hid (∀ W, Calls Try.prog 57 #[.agg #[.int .i64 code, .int .i64 addr, .int .i64 count, .slice A1 n1 c1, .slice A2 n2 c2, .slice A3 n3 c3]] W (RetQ W false))) (H3 : Hid (∀ W, Calls Try.prog 58 #[.agg #[.int .i64 code, .int .i64 addr, .int .i64 count, .slice A1 n1 c1, .slice A2 n2 c2, .slice A3 n3 c3]] W (RetQ W true)))  (heq : ((0 : Int) != (n3 : Int)) = false) :
    Calls Try.prog 16 #[.agg #[.int .i64 code, .int .i64 addr, .int .i64 count, .slice A1 n1 c1, .slice A2 n2 c2, .slice A3 n3 c3], .agg #[.int .i64 0, .slice B1 0 k1, .slice B2 0 k2, .slice B3 0 k3]] w (RetI w 0) := by
  have HB := Lib.hid (two_boxes w #[.int .i64 code, .int .i64 addr, .int .i64 count, .slice A1 n1 c1, .slice A2 n2 c2, .slice A3 n3 c3] #[.int .i64 0, .slice B1 0 k1, .slice B2 0 k2, .slice B3 0 k3] 26 29)
  go_enter Try.func16, Try.ntmps16
  go_wp2_with fail
  refine (HC.out _ (ext_pair _ _ _)).mono ?_
  rintro e w1 ⟨rfl, hx⟩
  have HX := Lib.hid hx
  clear hx
  obtain ⟨hb1, hb2⟩ := HB.out _ HX.out
  obtain ⟨d0, d1, d2, d3, d4, d5⟩ := cells6 hb1
  obtain ⟨g0, g1, g2, g3⟩ := cells4 hb2
  clear hb1 hb2
  go_wp2_with fail
  refine (H1.out _).mono ?_
  rintro e wn ⟨rfl, hx⟩
  replace HX := Lib.hid (HX.out.trans hx)
  clear hx d0 d1 d2 d3 d4 d5 g0 g1 g2 g3
  obtain ⟨hb1, hb2⟩ := HB.out _ HX.out
  obtain ⟨d0, d1, d2, d3, d4, d5⟩ := cells6 hb1
  obtain ⟨g0, g1, g2, g3⟩ := cells4 hb2
  clear hb1 hb2
  go_wp2_with fail
  refine (H2.out _).mono ?_
  rintro e wn ⟨rfl, hx⟩
  replace HX := Lib.hid (HX.out.trans hx)
  clear hx d0 d1 d2 d3 d4 d5 g0 g1 g2 g3
  obtain ⟨hb1, hb2⟩ := HB.out _ HX.out
  obtain ⟨d0, d1, d2, d3, d4, d5⟩ := cells6 hb1
  obtain ⟨g0, g1, g2, g3⟩ := cells4 hb2
  clear hb1 hb2
  go_wp2_with fail
  refine (H3.out _).mono ?_
  rintro e wn ⟨rfl, hx⟩
  replace HX := Lib.hid (HX.out.trans hx)
  clear hx d0 d1 d2 d3 d4 d5 g0 g1 g2 g3
  obtain ⟨hb1, hb2⟩ := HB.out _ HX.out
  obtain ⟨d0, d1, d2, d3, d4, d5⟩ := cells6 hb1
  obtain ⟨g0, g1, g2, g3⟩ := cells4 hb2
  clear hb1 hb2
  go_wp2_with fail
  go_loopw [6] (fun i wr => i = .int .i64 0 ∧ wr = wn) (fun _ _ => 0)
  case atStart => exact ⟨rfl, rfl⟩
  case round =>
    obtain ⟨rfl, rfl⟩ := hrel
    go_wp2_with fail
    go_ret
    exact ⟨rfl, (ext_pair _ _ _).trans HX.out⟩
theorem ref04_p36 (code addr count exc : Int) (on : List Bool) (set : List UInt16) (parts : List PartD) (A1 A2 A3 B1 B2 B3 : Option Addr) (n1 c1 n2 c2 n3 c3 m1 k1 m2 k2 m3 k3 : Nat) (w : World) (HC : Hid (∀ W, Ext w W → Calls Try.prog 55 #[.agg #[.int .i64 code, .int .i64 addr, .int .i64 count, .slice A1 n1 c1, .slice A2 n2 c2, .slice A3 n3 c3]] W (RetI W 0))) (H1 : Hid (∀ W, Calls Try.prog 56 #[.agg #[.int .i64 code, .int .i64 addr, .int .i64 count, .slice A1 n1 c1, .slice A2 n2 c2, .slice A3 n3 c3]] W (RetQ W false))) (H2 : Hid (∀ W, Calls Try.prog 57 #[.agg #[.int .i64 code, .int .i64 addr, .int .i64 count, .slice A1 n1 c1, .slice A2 n2 c2, .slice A3 n3 c3]] W (RetQ W false))) (H3 : Hid (∀ W, Calls Try.prog 58 #[.agg #[.int .i64 code, .int .i64 addr, .int .i64 count, .slice A1 n1 c1, .slice A2 n2 c2, .slice A3 n3 c3]] W (RetQ W true))) (p3 : 0 < m3) (hne : (((m3 : Int) : Int) != (n3 : Int)) = true) :
    Calls Try.prog 16 #[.agg #[.int .i64 code, .int .i64 addr, .int .i64 count, .slice A1 n1 c1, .slice A2 n2 c2, .slice A3 n3 c3], .agg #[.int .i64 0, .slice B1 0 k1, .slice B2 0 k2, .slice B3 m3 k3]] w (RetI w 22) := by
  have HB := Lib.hid (two_boxes w #[.int .i64 code, .int .i64 addr, .int .i64 count, .slice A1 n1 c1, .slice A2 n2 c2, .slice A3 n3 c3] #[.int .i64 0, .slice B1 0 k1, .slice B2 0 k2, .slice B3 m3 k3] 26 29)
  go_enter Try.func16, Try.ntmps16
  go_wp2_with fail
  refine (HC.out _ (ext_pair _ _ _)).mono ?_
  rintro e w1 ⟨rfl, hx⟩
  have HX := Lib.hid hx
  clear hx
  obtain ⟨hb1, hb2⟩ := HB.out _ HX.out
  obtain ⟨d0, d1, d2, d3, d4, d5⟩ := cells6 hb1
  obtain ⟨g0, g1, g2, g3⟩ := cells4 hb2
  clear hb1 hb2
  go_wp2_with fail
  refine (H3.out _).mono ?_
  rintro e wn ⟨rfl, hx⟩
  replace HX := Lib.hid (HX.out.trans hx)
  clear hx d0 d1 d2 d3 d4 d5 g0 g1 g2 g3
  obtain ⟨hb1, hb2⟩ := HB.out _ HX.out
  obtain ⟨d0, d1, d2, d3, d4, d5⟩ := cells6 hb1
  obtain ⟨g0, g1, g2, g3⟩ := cells4 hb2
  clear hb1 hb2
  go_wp2_with fail
  refine (H1.out _).mono ?_
  rintro e wn ⟨rfl, hx⟩
  replace HX := Lib.hid (HX.out.trans hx)
  clear hx d0 d1 d2 d3 d4 d5 g0 g1 g2 g3
  obtain ⟨hb1, hb2⟩ := HB.out _ HX.out
  obtain ⟨d0, d1, d2, d3, d4, d5⟩ := cells6 hb1
  obtain ⟨g0, g1, g2, g3⟩ := cells4 hb2
  clear hb1 hb2
  go_wp2_with fail
  refine (H2.out _).mono ?_
  rintro e wn ⟨rfl, hx⟩
  replace HX := Lib.hid (HX.out.trans hx)
  clear hx d0 d1 d2 d3 d4 d5 g0 g1 g2 g3
  obtain ⟨hb1, hb2⟩ := HB.out _ HX.out
  obtain ⟨d0, d1, d2, d3, d4, d5⟩ := cells6 hb1
  obtain ⟨g0, g1, g2, g3⟩ := cells4 hb2
  clear hb1 hb2
  go_wp2_with fail
  refine (H3.out _).mono ?_
  rintro e wn ⟨rfl, hx⟩
  replace HX := Lib.hid (HX.out.trans hx)
  clear hx d0 d1 d2 d3 d4 d5 g0 g1 g2 g3
  obtain ⟨hb1, hb2⟩ := HB.out _ HX.out
  obtain ⟨d0, d1, d2, d3, d4, d5⟩ := cells6 hb1
  obtain ⟨g0, g1, g2, g3⟩ := cells4 hb2
  clear hb1 hb2
  go_wp2_with fail
  go_ret
  exact ⟨rfl, (ext_pair _ _ _).trans HX.out⟩
theorem ref04_p37 (code addr count exc : Int) (on : List Bool) (set : List UInt16) (parts : List PartD) (A1 A2 A3 B1 B2 B3 : Option Addr) (n1 c1 n2 c2 n3 c3 m1 k1 m2 k2 m3 k3 : Nat) (w : World) (HC : Hid (∀ W, Ext w W → Calls Try.prog 55 #[.agg #[.int .i64 code, .int .i64 addr, .int .i64 count, .slice A1 n1 c1, .slice A2 n2 c2, .slice A3 n3 c3]] W (RetI W 0))) (H1 : Hid (∀ W, Calls Try.prog 56 #[.agg #[.int .i64 code, .int .i64 addr, .int .i64 count, .slice A1 n1 c1, .slice A2 n2 c2, .slice A3 n3 c3]] W (RetQ W false))) (H2 : Hid (∀ W, Calls Try.prog 57 #[.agg #[.int .i64 code, .int .i64 addr, .int .i64 count, .slice A1 n1 c1, .slice A2 n2 c2, .slice A3 n3 c3]] W (RetQ W false))) (H3 : Hid (∀ W, Calls Try.prog 58 #[.agg #[.int .i64 code, .int .i64 addr, .int .i64 count, .slice A1 n1 c1, .slice A2 n2 c2, .slice A3 n3 c3]] W (RetQ W false)))   :
    Calls Try.prog 16 #[.agg #[.int .i64 code, .int .i64 addr, .int .i64 count, .slice A1 n1 c1, .slice A2 n2 c2, .slice A3 n3 c3], .agg #[.int .i64 0, .slice B1 0 k1, .slice B2 0 k2, .slice B3 0 k3]] w (RetI w 0) := by
  have HB := Lib.hid (two_boxes w #[.int .i64 code, .int .i64 addr, .int .i64 count, .slice A1 n1 c1, .slice A2 n2 c2, .slice A3 n3 c3] #[.int .i64 0, .slice B1 0 k1, .slice B2 0 k2, .slice B3 0 k3] 26 29)
  go_enter Try.func16, Try.ntmps16
  go_wp2_with fail
  refine (HC.out _ (ext_pair _ _ _)).mono ?_
  rintro e w1 ⟨rfl, hx⟩
  have HX := Lib.hid hx
  clear hx
  obtain ⟨hb1, hb2⟩ := HB.out _ HX.out
  obtain ⟨d0, d1, d2, d3, d4, d5⟩ := cells6 hb1
  obtain ⟨g0, g1, g2, g3⟩ := cells4 hb2
  clear hb1 hb2
  go_wp2_with fail
  refine (H1.out _).mono ?_
  rintro e wn ⟨rfl, hx⟩
  replace HX := Lib.hid (HX.out.trans hx)
  clear hx d0 d1 d2 d3 d4 d5 g0 g1 g2 g3
  obtain ⟨hb1, hb2⟩ := HB.out _ HX.out
  obtain ⟨d0, d1, d2, d3, d4, d5⟩ := cells6 hb1
  obtain ⟨g0, g1, g2, g3⟩ := cells4 hb2
  clear hb1 hb2
  go_wp2_with fail
  refine (H2.out _).mono ?_
  rintro e wn ⟨rfl, hx⟩
  replace HX := Lib.hid (HX.out.trans hx)
  clear hx d0 d1 d2 d3 d4 d5 g0 g1 g2 g3
  obtain ⟨hb1, hb2⟩ := HB.out _ HX.out
  obtain ⟨d0, d1, d2, d3, d4, d5⟩ := cells6 hb1
  obtain ⟨g0, g1, g2, g3⟩ := cells4 hb2
  clear hb1 hb2
  go_wp2_with fail
  refine (H3.out _).mono ?_
  rintro e wn ⟨rfl, hx⟩
  replace HX := Lib.hid (HX.out.trans hx)
  clear hx d0 d1 d2 d3 d4 d5 g0 g1 g2 g3
  obtain ⟨hb1, hb2⟩ := HB.out _ HX.out
  obtain ⟨d0, d1, d2, d3, d4, d5⟩ := cells6 hb1
  obtain ⟨g0, g1, g2, g3⟩ := cells4 hb2
  clear hb1 hb2
  go_wp2_with fail
  go_loopw [6] (fun i wr => i = .int .i64 0 ∧ wr = wn) (fun _ _ => 0)
  case atStart => exact ⟨rfl, rfl⟩
  case round =>
    obtain ⟨rfl, rfl⟩ := hrel
    go_wp2_with fail
    go_ret
    exact ⟨rfl, (ext_pair _ _ _).trans HX.out⟩
end Go.Proofs.Ytpjmhckdeeonbaa
