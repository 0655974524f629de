/- Contracts of the reference's bits, words, files and Check (chapter 04). (genrep3.py prints this.) -/
import Derived.Test.YtomcipkmohhpjaaGreatG07
import Derived.Test.YtomcipkmohhpjaaGreatG02
namespace Go.Proofs.YtomcipkmohhpjaaGreat
set_option linter.unusedVariables false
set_option linter.unusedSimpArgs false
set_option maxRecDepth 100000
set_option maxHeartbeats 2000000
open Go Go.RowKit Go.Out

theorem bits04_any (a : AskD) (s : AskS) (w : World) : Calls Tryz.prog 59 #[askV a s] w (RetQ w (decide (a.code = 1 ∨ a.code = 2))) := by
  obtain ⟨code, addr, count, on, set, parts⟩ := a
  obtain ⟨A1, n1, c1, A2, n2, c2, A3, n3, c3⟩ := s
  simp only [askV]
  go_enter Tryz.func59, Tryz.ntmps59
  go_wp2_with fail
  all_goals
    go_ret
    refine RetQ.of ?_ (Ext.alloc _ _)
    first
      | rfl
      | (simp; done)
      | (simp_all; done)
      | (rename_i h0; by_cases h2 : code = 2 <;> simp [h0, h2])
theorem words04_any (a : AskD) (s : AskS) (w : World) : Calls Tryz.prog 61 #[askV a s] w (RetQ w (decide (a.code = 3 ∨ a.code = 4))) := by
  obtain ⟨code, addr, count, on, set, parts⟩ := a
  obtain ⟨A1, n1, c1, A2, n2, c2, A3, n3, c3⟩ := s
  simp only [askV]
  go_enter Tryz.func61, Tryz.ntmps61
  go_wp2_with fail
  all_goals
    go_ret
    refine RetQ.of ?_ (Ext.alloc _ _)
    first
      | rfl
      | (simp; done)
      | (simp_all; done)
      | (rename_i h0; by_cases h2 : code = 4 <;> simp [h0, h2])
theorem files04_any (a : AskD) (s : AskS) (w : World) : Calls Tryz.prog 63 #[askV a s] w (RetQ w (decide (a.code = 20))) := by
  obtain ⟨code, addr, count, on, set, parts⟩ := a
  obtain ⟨A1, n1, c1, A2, n2, c2, A3, n3, c3⟩ := s
  simp only [askV]
  go_enter Tryz.func63, Tryz.ntmps63
  go_wp2_with fail
  all_goals
    go_ret
    refine RetQ.of ?_ (Ext.alloc _ _)
    first
      | rfl
      | (simp; done)
      | (simp_all; done)
      | (rename_i h0; by_cases h2 : code = 20 <;> simp [h0, h2])
theorem ref04_p1 (code addr count exc : Int) (on : List Bool) (set : List UInt16) (parts : List PartD) (A1 A2 A3 B1 B2 B3 : Option Addr) (n1 c1 n2 c2 n3 c3 m1 k1 m2 k2 m3 k3 : Nat) (w : World) (HC : Hid (∀ W, Ext w W → Calls Tryz.prog 45 #[.agg #[.int .i64 code, .int .i64 addr, .int .i64 count, .slice A1 n1 c1, .slice A2 n2 c2, .slice A3 n3 c3]] W (RetI W 0))) (H1 : Hid (∀ W, Calls Tryz.prog 59 #[.agg #[.int .i64 code, .int .i64 addr, .int .i64 count, .slice A1 n1 c1, .slice A2 n2 c2, .slice A3 n3 c3]] W (RetQ W true))) (H2 : Hid (∀ W, Calls Tryz.prog 61 #[.agg #[.int .i64 code, .int .i64 addr, .int .i64 count, .slice A1 n1 c1, .slice A2 n2 c2, .slice A3 n3 c3]] W (RetQ W false))) (H3 : Hid (∀ W, Calls Tryz.prog 63 #[.agg #[.int .i64 code, .int .i64 addr, .int .i64 count, .slice A1 n1 c1, .slice A2 n2 c2, .slice A3 n3 c3]] W (RetQ W false))) (p3 : 0 < m3)  :
    Calls Tryz.prog 58 #[.agg #[.int .i64 code, .int .i64 addr, .int .i64 count, .slice A1 n1 c1, .slice A2 n2 c2, .slice A3 n3 c3], .agg #[.int .i64 0, .slice B1 0 k1, .slice B2 0 k2, .slice B3 m3 k3]] w (RetI w 23) := by
  have HB := Lib.hid (two_boxes w #[.int .i64 code, .int .i64 addr, .int .i64 count, .slice A1 n1 c1, .slice A2 n2 c2, .slice A3 n3 c3] #[.int .i64 0, .slice B1 0 k1, .slice B2 0 k2, .slice B3 m3 k3] 37 40)
  go_enter Tryz.func58, Tryz.ntmps58
  go_wp2_with fail
  refine (HC.out _ (ext_pair _ _ _)).mono ?_
  rintro e w1 ⟨rfl, hx⟩
  have HX := Lib.hid hx
  clear hx
  obtain ⟨hb1, hb2⟩ := HB.out _ HX.out
  obtain ⟨d0, d1, d2, d3, d4, d5⟩ := cells6 hb1
  obtain ⟨g0, g1, g2, g3⟩ := cells4 hb2
  clear hb1 hb2
  go_wp2_with fail
  refine (H3.out _).mono ?_
  rintro e wn ⟨rfl, hx⟩
  replace HX := Lib.hid (HX.out.trans hx)
  clear hx d0 d1 d2 d3 d4 d5 g0 g1 g2 g3
  obtain ⟨hb1, hb2⟩ := HB.out _ HX.out
  obtain ⟨d0, d1, d2, d3, d4, d5⟩ := cells6 hb1
  obtain ⟨g0, g1, g2, g3⟩ := cells4 hb2
  clear hb1 hb2
  go_wp2_with fail
  go_ret
  exact ⟨rfl, (ext_pair _ _ _).trans HX.out⟩
theorem ref04_p2 (code addr count exc : Int) (on : List Bool) (set : List UInt16) (parts : List PartD) (A1 A2 A3 B1 B2 B3 : Option Addr) (n1 c1 n2 c2 n3 c3 m1 k1 m2 k2 m3 k3 : Nat) (w : World) (HC : Hid (∀ W, Ext w W → Calls Tryz.prog 45 #[.agg #[.int .i64 code, .int .i64 addr, .int .i64 count, .slice A1 n1 c1, .slice A2 n2 c2, .slice A3 n3 c3]] W (RetI W 0))) (H1 : Hid (∀ W, Calls Tryz.prog 59 #[.agg #[.int .i64 code, .int .i64 addr, .int .i64 count, .slice A1 n1 c1, .slice A2 n2 c2, .slice A3 n3 c3]] W (RetQ W true))) (H2 : Hid (∀ W, Calls Tryz.prog 61 #[.agg #[.int .i64 code, .int .i64 addr, .int .i64 count, .slice A1 n1 c1, .slice A2 n2 c2, .slice A3 n3 c3]] W (RetQ W false))) (H3 : Hid (∀ W, Calls Tryz.prog 63 #[.agg #[.int .i64 code, .int .i64 addr, .int .i64 count, .slice A1 n1 c1, .slice A2 n2 c2, .slice A3 n3 c3]] W (RetQ W false))) (p2 : 0 < m2)  :
    Calls Tryz.prog 58 #[.agg #[.int .i64 code, .int .i64 addr, .int .i64 count, .slice A1 n1 c1, .slice A2 n2 c2, .slice A3 n3 c3], .agg #[.int .i64 0, .slice B1 0 k1, .slice B2 m2 k2, .slice B3 0 k3]] w (RetI w 23) := by
  have HB := Lib.hid (two_boxes w #[.int .i64 code, .int .i64 addr, .int .i64 count, .slice A1 n1 c1, .slice A2 n2 c2, .slice A3 n3 c3] #[.int .i64 0, .slice B1 0 k1, .slice B2 m2 k2, .slice B3 0 k3] 37 40)
  go_enter Tryz.func58, Tryz.ntmps58
  go_wp2_with fail
  refine (HC.out _ (ext_pair _ _ _)).mono ?_
  rintro e w1 ⟨rfl, hx⟩
  have HX := Lib.hid hx
  clear hx
  obtain ⟨hb1, hb2⟩ := HB.out _ HX.out
  obtain ⟨d0, d1, d2, d3, d4, d5⟩ := cells6 hb1
  obtain ⟨g0, g1, g2, g3⟩ := cells4 hb2
  clear hb1 hb2
  go_wp2_with fail
  refine (H2.out _).mono ?_
  rintro e wn ⟨rfl, hx⟩
  replace HX := Lib.hid (HX.out.trans hx)
  clear hx d0 d1 d2 d3 d4 d5 g0 g1 g2 g3
  obtain ⟨hb1, hb2⟩ := HB.out _ HX.out
  obtain ⟨d0, d1, d2, d3, d4, d5⟩ := cells6 hb1
  obtain ⟨g0, g1, g2, g3⟩ := cells4 hb2
  clear hb1 hb2
  go_wp2_with fail
  go_ret
  exact ⟨rfl, (ext_pair _ _ _).trans HX.out⟩
theorem ref04_p3 (code addr count exc : Int) (on : List Bool) (set : List UInt16) (parts : List PartD) (A1 A2 A3 B1 B2 B3 : Option Addr) (n1 c1 n2 c2 n3 c3 m1 k1 m2 k2 m3 k3 : Nat) (w : World) (HC : Hid (∀ W, Ext w W → Calls Tryz.prog 45 #[.agg #[.int .i64 code, .int .i64 addr, .int .i64 count, .slice A1 n1 c1, .slice A2 n2 c2, .slice A3 n3 c3]] W (RetI W 0))) (H1 : Hid (∀ W, Calls Tryz.prog 59 #[.agg #[.int .i64 code, .int .i64 addr, .int .i64 count, .slice A1 n1 c1, .slice A2 n2 c2, .slice A3 n3 c3]] W (RetQ W true))) (H2 : Hid (∀ W, Calls Tryz.prog 61 #[.agg #[.int .i64 code, .int .i64 addr, .int .i64 count, .slice A1 n1 c1, .slice A2 n2 c2, .slice A3 n3 c3]] W (RetQ W false))) (H3 : Hid (∀ W, Calls Tryz.prog 63 #[.agg #[.int .i64 code, .int .i64 addr, .int .i64 count, .slice A1 n1 c1, .slice A2 n2 c2, .slice A3 n3 c3]] W (RetQ W false))) (p2 : 0 < m2) (p3 : 0 < m3)  :
    Calls Tryz.prog 58 #[.agg #[.int .i64 code, .int .i64 addr, .int .i64 count, .slice A1 n1 c1, .slice A2 n2 c2, .slice A3 n3 c3], .agg #[.int .i64 0, .slice B1 0 k1, .slice B2 m2 k2, .slice B3 m3 k3]] w (RetI w 23) := by
  have HB := Lib.hid (two_boxes w #[.int .i64 code, .int .i64 addr, .int .i64 count, .slice A1 n1 c1, .slice A2 n2 c2, .slice A3 n3 c3] #[.int .i64 0, .slice B1 0 k1, .slice B2 m2 k2, .slice B3 m3 k3] 37 40)
  go_enter Tryz.func58, Tryz.ntmps58
  go_wp2_with fail
  refine (HC.out _ (ext_pair _ _ _)).mono ?_
  rintro e w1 ⟨rfl, hx⟩
  have HX := Lib.hid hx
  clear hx
  obtain ⟨hb1, hb2⟩ := HB.out _ HX.out
  obtain ⟨d0, d1, d2, d3, d4, d5⟩ := cells6 hb1
  obtain ⟨g0, g1, g2, g3⟩ := cells4 hb2
  clear hb1 hb2
  go_wp2_with fail
  refine (H2.out _).mono ?_
  rintro e wn ⟨rfl, hx⟩
  replace HX := Lib.hid (HX.out.trans hx)
  clear hx d0 d1 d2 d3 d4 d5 g0 g1 g2 g3
  obtain ⟨hb1, hb2⟩ := HB.out _ HX.out
  obtain ⟨d0, d1, d2, d3, d4, d5⟩ := cells6 hb1
  obtain ⟨g0, g1, g2, g3⟩ := cells4 hb2
  clear hb1 hb2
  go_wp2_with fail
  go_ret
  exact ⟨rfl, (ext_pair _ _ _).trans HX.out⟩
theorem ref04_p4 (code addr count exc : Int) (on : List Bool) (set : List UInt16) (parts : List PartD) (A1 A2 A3 B1 B2 B3 : Option Addr) (n1 c1 n2 c2 n3 c3 m1 k1 m2 k2 m3 k3 : Nat) (w : World) (HC : Hid (∀ W, Ext w W → Calls Tryz.prog 45 #[.agg #[.int .i64 code, .int .i64 addr, .int .i64 count, .slice A1 n1 c1, .slice A2 n2 c2, .slice A3 n3 c3]] W (RetI W 0))) (H1 : Hid (∀ W, Calls Tryz.prog 59 #[.agg #[.int .i64 code, .int .i64 addr, .int .i64 count, .slice A1 n1 c1, .slice A2 n2 c2, .slice A3 n3 c3]] W (RetQ W true))) (H2 : Hid (∀ W, Calls Tryz.prog 61 #[.agg #[.int .i64 code, .int .i64 addr, .int .i64 count, .slice A1 n1 c1, .slice A2 n2 c2, .slice A3 n3 c3]] W (RetQ W false))) (H3 : Hid (∀ W, Calls Tryz.prog 63 #[.agg #[.int .i64 code, .int .i64 addr, .int .i64 count, .slice A1 n1 c1, .slice A2 n2 c2, .slice A3 n3 c3]] W (RetQ W false))) (p1 : 0 < m1) (p3 : 0 < m3)  :
    Calls Tryz.prog 58 #[.agg #[.int .i64 code, .int .i64 addr, .int .i64 count, .slice A1 n1 c1, .slice A2 n2 c2, .slice A3 n3 c3], .agg #[.int .i64 0, .slice B1 m1 k1, .slice B2 0 k2, .slice B3 m3 k3]] w (RetI w 23) := by
  have HB := Lib.hid (two_boxes w #[.int .i64 code, .int .i64 addr, .int .i64 count, .slice A1 n1 c1, .slice A2 n2 c2, .slice A3 n3 c3] #[.int .i64 0, .slice B1 m1 k1, .slice B2 0 k2, .slice B3 m3 k3] 37 40)
  go_enter Tryz.func58, Tryz.ntmps58
  go_wp2_with fail
  refine (HC.out _ (ext_pair _ _ _)).mono ?_
  rintro e w1 ⟨rfl, hx⟩
  have HX := Lib.hid hx
  clear hx
  obtain ⟨hb1, hb2⟩ := HB.out _ HX.out
  obtain ⟨d0, d1, d2, d3, d4, d5⟩ := cells6 hb1
  obtain ⟨g0, g1, g2, g3⟩ := cells4 hb2
  clear hb1 hb2
  go_wp2_with fail
  refine (H1.out _).mono ?_
  rintro e wn ⟨rfl, hx⟩
  replace HX := Lib.hid (HX.out.trans hx)
  clear hx d0 d1 d2 d3 d4 d5 g0 g1 g2 g3
  obtain ⟨hb1, hb2⟩ := HB.out _ HX.out
  obtain ⟨d0, d1, d2, d3, d4, d5⟩ := cells6 hb1
  obtain ⟨g0, g1, g2, g3⟩ := cells4 hb2
  clear hb1 hb2
  go_wp2_with fail
  refine (H3.out _).mono ?_
  rintro e wn ⟨rfl, hx⟩
  replace HX := Lib.hid (HX.out.trans hx)
  clear hx d0 d1 d2 d3 d4 d5 g0 g1 g2 g3
  obtain ⟨hb1, hb2⟩ := HB.out _ HX.out
  obtain ⟨d0, d1, d2, d3, d4, d5⟩ := cells6 hb1
  obtain ⟨g0, g1, g2, g3⟩ := cells4 hb2
  clear hb1 hb2
  go_wp2_with fail
  go_ret
  exact ⟨rfl, (ext_pair _ _ _).trans HX.out⟩
theorem ref04_p5 (code addr count exc : Int) (on : List Bool) (set : List UInt16) (parts : List PartD) (A1 A2 A3 B1 B2 B3 : Option Addr) (n1 c1 n2 c2 n3 c3 m1 k1 m2 k2 m3 k3 : Nat) (w : World) (HC : Hid (∀ W, Ext w W → Calls Tryz.prog 45 #[.agg #[.int .i64 code, .int .i64 addr, .int .i64 count, .slice A1 n1 c1, .slice A2 n2 c2, .slice A3 n3 c3]] W (RetI W 0))) (H1 : Hid (∀ W, Calls Tryz.prog 59 #[.agg #[.int .i64 code, .int .i64 addr, .int .i64 count, .slice A1 n1 c1, .slice A2 n2 c2, .slice A3 n3 c3]] W (RetQ W true))) (H2 : Hid (∀ W, Calls Tryz.prog 61 #[.agg #[.int .i64 code, .int .i64 addr, .int .i64 count, .slice A1 n1 c1, .slice A2 n2 c2, .slice A3 n3 c3]] W (RetQ W false))) (H3 : Hid (∀ W, Calls Tryz.prog 63 #[.agg #[.int .i64 code, .int .i64 addr, .int .i64 count, .slice A1 n1 c1, .slice A2 n2 c2, .slice A3 n3 c3]] W (RetQ W false))) (p1 : 0 < m1) (p2 : 0 < m2)  :
    Calls Tryz.prog 58 #[.agg #[.int .i64 code, .int .i64 addr, .int .i64 count, .slice A1 n1 c1, .slice A2 n2 c2, .slice A3 n3 c3], .agg #[.int .i64 0, .slice B1 m1 k1, .slice B2 m2 k2, .slice B3 0 k3]] w (RetI w 23) := by
  have HB := Lib.hid (two_boxes w #[.int .i64 code, .int .i64 addr, .int .i64 count, .slice A1 n1 c1, .slice A2 n2 c2, .slice A3 n3 c3] #[.int .i64 0, .slice B1 m1 k1, .slice B2 m2 k2, .slice B3 0 k3] 37 40)
  go_enter Tryz.func58, Tryz.ntmps58
  go_wp2_with fail
  refine (HC.out _ (ext_pair _ _ _)).mono ?_
  rintro e w1 ⟨rfl, hx⟩
  have HX := Lib.hid hx
  clear hx
  obtain ⟨hb1, hb2⟩ := HB.out _ HX.out
  obtain ⟨d0, d1, d2, d3, d4, d5⟩ := cells6 hb1
  obtain ⟨g0, g1, g2, g3⟩ := cells4 hb2
  clear hb1 hb2
  go_wp2_with fail
  refine (H1.out _).mono ?_
  rintro e wn ⟨rfl, hx⟩
  replace HX := Lib.hid (HX.out.trans hx)
  clear hx d0 d1 d2 d3 d4 d5 g0 g1 g2 g3
  obtain ⟨hb1, hb2⟩ := HB.out _ HX.out
  obtain ⟨d0, d1, d2, d3, d4, d5⟩ := cells6 hb1
  obtain ⟨g0, g1, g2, g3⟩ := cells4 hb2
  clear hb1 hb2
  go_wp2_with fail
  refine (H2.out _).mono ?_
  rintro e wn ⟨rfl, hx⟩
  replace HX := Lib.hid (HX.out.trans hx)
  clear hx d0 d1 d2 d3 d4 d5 g0 g1 g2 g3
  obtain ⟨hb1, hb2⟩ := HB.out _ HX.out
  obtain ⟨d0, d1, d2, d3, d4, d5⟩ := cells6 hb1
  obtain ⟨g0, g1, g2, g3⟩ := cells4 hb2
  clear hb1 hb2
  go_wp2_with fail
  go_ret
  exact ⟨rfl, (ext_pair _ _ _).trans HX.out⟩
theorem ref04_p6 (code addr count exc : Int) (on : List Bool) (set : List UInt16) (parts : List PartD) (A1 A2 A3 B1 B2 B3 : Option Addr) (n1 c1 n2 c2 n3 c3 m1 k1 m2 k2 m3 k3 : Nat) (w : World) (HC : Hid (∀ W, Ext w W → Calls Tryz.prog 45 #[.agg #[.int .i64 code, .int .i64 addr, .int .i64 count, .slice A1 n1 c1, .slice A2 n2 c2, .slice A3 n3 c3]] W (RetI W 0))) (H1 : Hid (∀ W, Calls Tryz.prog 59 #[.agg #[.int .i64 code, .int .i64 addr, .int .i64 count, .slice A1 n1 c1, .slice A2 n2 c2, .slice A3 n3 c3]] W (RetQ W true))) (H2 : Hid (∀ W, Calls Tryz.prog 61 #[.agg #[.int .i64 code, .int .i64 addr, .int .i64 count, .slice A1 n1 c1, .slice A2 n2 c2, .slice A3 n3 c3]] W (RetQ W false))) (H3 : Hid (∀ W, Calls Tryz.prog 63 #[.agg #[.int .i64 code, .int .i64 addr, .int .i64 count, .slice A1 n1 c1, .slice A2 n2 c2, .slice A3 n3 c3]] W (RetQ W false))) (p1 : 0 < m1) (p2 : 0 < m2) (p3 : 0 < m3)  :
    Calls Tryz.prog 58 #[.agg #[.int .i64 code, .int .i64 addr, .int .i64 count, .slice A1 n1 c1, .slice A2 n2 c2, .slice A3 n3 c3], .agg #[.int .i64 0, .slice B1 m1 k1, .slice B2 m2 k2, .slice B3 m3 k3]] w (RetI w 23) := by
  have HB := Lib.hid (two_boxes w #[.int .i64 code, .int .i64 addr, .int .i64 count, .slice A1 n1 c1, .slice A2 n2 c2, .slice A3 n3 c3] #[.int .i64 0, .slice B1 m1 k1, .slice B2 m2 k2, .slice B3 m3 k3] 37 40)
  go_enter Tryz.func58, Tryz.ntmps58
  go_wp2_with fail
  refine (HC.out _ (ext_pair _ _ _)).mono ?_
  rintro e w1 ⟨rfl, hx⟩
  have HX := Lib.hid hx
  clear hx
  obtain ⟨hb1, hb2⟩ := HB.out _ HX.out
  obtain ⟨d0, d1, d2, d3, d4, d5⟩ := cells6 hb1
  obtain ⟨g0, g1, g2, g3⟩ := cells4 hb2
  clear hb1 hb2
  go_wp2_with fail
  refine (H1.out _).mono ?_
  rintro e wn ⟨rfl, hx⟩
  replace HX := Lib.hid (HX.out.trans hx)
  clear hx d0 d1 d2 d3 d4 d5 g0 g1 g2 g3
  obtain ⟨hb1, hb2⟩ := HB.out _ HX.out
  obtain ⟨d0, d1, d2, d3, d4, d5⟩ := cells6 hb1
  obtain ⟨g0, g1, g2, g3⟩ := cells4 hb2
  clear hb1 hb2
  go_wp2_with fail
  refine (H2.out _).mono ?_
  rintro e wn ⟨rfl, hx⟩
  replace HX := Lib.hid (HX.out.trans hx)
  clear hx d0 d1 d2 d3 d4 d5 g0 g1 g2 g3
  obtain ⟨hb1, hb2⟩ := HB.out _ HX.out
  obtain ⟨d0, d1, d2, d3, d4, d5⟩ := cells6 hb1
  obtain ⟨g0, g1, g2, g3⟩ := cells4 hb2
  clear hb1 hb2
  go_wp2_with fail
  go_ret
  exact ⟨rfl, (ext_pair _ _ _).trans HX.out⟩
theorem ref04_p7 (code addr count exc : Int) (on : List Bool) (set : List UInt16) (parts : List PartD) (A1 A2 A3 B1 B2 B3 : Option Addr) (n1 c1 n2 c2 n3 c3 m1 k1 m2 k2 m3 k3 : Nat) (w : World) (HC : Hid (∀ W, Ext w W → Calls Tryz.prog 45 #[.agg #[.int .i64 code, .int .i64 addr, .int .i64 count, .slice A1 n1 c1, .slice A2 n2 c2, .slice A3 n3 c3]] W (RetI W 0))) (H1 : Hid (∀ W, Calls Tryz.prog 59 #[.agg #[.int .i64 code, .int .i64 addr, .int .i64 count, .slice A1 n1 c1, .slice A2 n2 c2, .slice A3 n3 c3]] W (RetQ W false))) (H2 : Hid (∀ W, Calls Tryz.prog 61 #[.agg #[.int .i64 code, .int .i64 addr, .int .i64 count, .slice A1 n1 c1, .slice A2 n2 c2, .slice A3 n3 c3]] W (RetQ W true))) (H3 : Hid (∀ W, Calls Tryz.prog 63 #[.agg #[.int .i64 code, .int .i64 addr, .int .i64 count, .slice A1 n1 c1, .slice A2 n2 c2, .slice A3 n3 c3]] W (RetQ W false))) (p3 : 0 < m3)  :
    Calls Tryz.prog 58 #[.agg #[.int .i64 code, .int .i64 addr, .int .i64 count, .slice A1 n1 c1, .slice A2 n2 c2, .slice A3 n3 c3], .agg #[.int .i64 0, .slice B1 0 k1, .slice B2 0 k2, .slice B3 m3 k3]] w (RetI w 23) := by
  have HB := Lib.hid (two_boxes w #[.int .i64 code, .int .i64 addr, .int .i64 count, .slice A1 n1 c1, .slice A2 n2 c2, .slice A3 n3 c3] #[.int .i64 0, .slice B1 0 k1, .slice B2 0 k2, .slice B3 m3 k3] 37 40)
  go_enter Tryz.func58, Tryz.ntmps58
  go_wp2_with fail
  refine (HC.out _ (ext_pair _ _ _)).mono ?_
  rintro e w1 ⟨rfl, hx⟩
  have HX := Lib.hid hx
  clear hx
  obtain ⟨hb1, hb2⟩ := HB.out _ HX.out
  obtain ⟨d0, d1, d2, d3, d4, d5⟩ := cells6 hb1
  obtain ⟨g0, g1, g2, g3⟩ := cells4 hb2
  clear hb1 hb2
  go_wp2_with fail
  refine (H3.out _).mono ?_
  rintro e wn ⟨rfl, hx⟩
  replace HX := Lib.hid (HX.out.trans hx)
  clear hx d0 d1 d2 d3 d4 d5 g0 g1 g2 g3
  obtain ⟨hb1, hb2⟩ := HB.out _ HX.out
  obtain ⟨d0, d1, d2, d3, d4, d5⟩ := cells6 hb1
  obtain ⟨g0, g1, g2, g3⟩ := cells4 hb2
  clear hb1 hb2
  go_wp2_with fail
  go_ret
  exact ⟨rfl, (ext_pair _ _ _).trans HX.out⟩
theorem ref04_p8 (code addr count exc : Int) (on : List Bool) (set : List UInt16) (parts : List PartD) (A1 A2 A3 B1 B2 B3 : Option Addr) (n1 c1 n2 c2 n3 c3 m1 k1 m2 k2 m3 k3 : Nat) (w : World) (HC : Hid (∀ W, Ext w W → Calls Tryz.prog 45 #[.agg #[.int .i64 code, .int .i64 addr, .int .i64 count, .slice A1 n1 c1, .slice A2 n2 c2, .slice A3 n3 c3]] W (RetI W 0))) (H1 : Hid (∀ W, Calls Tryz.prog 59 #[.agg #[.int .i64 code, .int .i64 addr, .int .i64 count, .slice A1 n1 c1, .slice A2 n2 c2, .slice A3 n3 c3]] W (RetQ W false))) (H2 : Hid (∀ W, Calls Tryz.prog 61 #[.agg #[.int .i64 code, .int .i64 addr, .int .i64 count, .slice A1 n1 c1, .slice A2 n2 c2, .slice A3 n3 c3]] W (RetQ W true))) (H3 : Hid (∀ W, Calls Tryz.prog 63 #[.agg #[.int .i64 code, .int .i64 addr, .int .i64 count, .slice A1 n1 c1, .slice A2 n2 c2, .slice A3 n3 c3]] W (RetQ W false))) (p2 : 0 < m2) (p3 : 0 < m3)  :
    Calls Tryz.prog 58 #[.agg #[.int .i64 code, .int .i64 addr, .int .i64 count, .slice A1 n1 c1, .slice A2 n2 c2, .slice A3 n3 c3], .agg #[.int .i64 0, .slice B1 0 k1, .slice B2 m2 k2, .slice B3 m3 k3]] w (RetI w 23) := by
  have HB := Lib.hid (two_boxes w #[.int .i64 code, .int .i64 addr, .int .i64 count, .slice A1 n1 c1, .slice A2 n2 c2, .slice A3 n3 c3] #[.int .i64 0, .slice B1 0 k1, .slice B2 m2 k2, .slice B3 m3 k3] 37 40)
  go_enter Tryz.func58, Tryz.ntmps58
  go_wp2_with fail
  refine (HC.out _ (ext_pair _ _ _)).mono ?_
  rintro e w1 ⟨rfl, hx⟩
  have HX := Lib.hid hx
  clear hx
  obtain ⟨hb1, hb2⟩ := HB.out _ HX.out
  obtain ⟨d0, d1, d2, d3, d4, d5⟩ := cells6 hb1
  obtain ⟨g0, g1, g2, g3⟩ := cells4 hb2
  clear hb1 hb2
  go_wp2_with fail
  refine (H2.out _).mono ?_
  rintro e wn ⟨rfl, hx⟩
  replace HX := Lib.hid (HX.out.trans hx)
  clear hx d0 d1 d2 d3 d4 d5 g0 g1 g2 g3
  obtain ⟨hb1, hb2⟩ := HB.out _ HX.out
  obtain ⟨d0, d1, d2, d3, d4, d5⟩ := cells6 hb1
  obtain ⟨g0, g1, g2, g3⟩ := cells4 hb2
  clear hb1 hb2
  go_wp2_with fail
  refine (H3.out _).mono ?_
  rintro e wn ⟨rfl, hx⟩
  replace HX := Lib.hid (HX.out.trans hx)
  clear hx d0 d1 d2 d3 d4 d5 g0 g1 g2 g3
  obtain ⟨hb1, hb2⟩ := HB.out _ HX.out
  obtain ⟨d0, d1, d2, d3, d4, d5⟩ := cells6 hb1
  obtain ⟨g0, g1, g2, g3⟩ := cells4 hb2
  clear hb1 hb2
  go_wp2_with fail
  go_ret
  exact ⟨rfl, (ext_pair _ _ _).trans HX.out⟩
theorem ref04_p9 (code addr count exc : Int) (on : List Bool) (set : List UInt16) (parts : List PartD) (A1 A2 A3 B1 B2 B3 : Option Addr) (n1 c1 n2 c2 n3 c3 m1 k1 m2 k2 m3 k3 : Nat) (w : World) (HC : Hid (∀ W, Ext w W → Calls Tryz.prog 45 #[.agg #[.int .i64 code, .int .i64 addr, .int .i64 count, .slice A1 n1 c1, .slice A2 n2 c2, .slice A3 n3 c3]] W (RetI W 0))) (H1 : Hid (∀ W, Calls Tryz.prog 59 #[.agg #[.int .i64 code, .int .i64 addr, .int .i64 count, .slice A1 n1 c1, .slice A2 n2 c2, .slice A3 n3 c3]] W (RetQ W false))) (H2 : Hid (∀ W, Calls Tryz.prog 61 #[.agg #[.int .i64 code, .int .i64 addr, .int .i64 count, .slice A1 n1 c1, .slice A2 n2 c2, .slice A3 n3 c3]] W (RetQ W true))) (H3 : Hid (∀ W, Calls Tryz.prog 63 #[.agg #[.int .i64 code, .int .i64 addr, .int .i64 count, .slice A1 n1 c1, .slice A2 n2 c2, .slice A3 n3 c3]] W (RetQ W false))) (p1 : 0 < m1)  :
    Calls Tryz.prog 58 #[.agg #[.int .i64 code, .int .i64 addr, .int .i64 count, .slice A1 n1 c1, .slice A2 n2 c2, .slice A3 n3 c3], .agg #[.int .i64 0, .slice B1 m1 k1, .slice B2 0 k2, .slice B3 0 k3]] w (RetI w 23) := by
  have HB := Lib.hid (two_boxes w #[.int .i64 code, .int .i64 addr, .int .i64 count, .slice A1 n1 c1, .slice A2 n2 c2, .slice A3 n3 c3] #[.int .i64 0, .slice B1 m1 k1, .slice B2 0 k2, .slice B3 0 k3] 37 40)
  go_enter Tryz.func58, Tryz.ntmps58
  go_wp2_with fail
  refine (HC.out _ (ext_pair _ _ _)).mono ?_
  rintro e w1 ⟨rfl, hx⟩
  have HX := Lib.hid hx
  clear hx
  obtain ⟨hb1, hb2⟩ := HB.out _ HX.out
  obtain ⟨d0, d1, d2, d3, d4, d5⟩ := cells6 hb1
  obtain ⟨g0, g1, g2, g3⟩ := cells4 hb2
  clear hb1 hb2
  go_wp2_with fail
  refine (H1.out _).mono ?_
  rintro e wn ⟨rfl, hx⟩
  replace HX := Lib.hid (HX.out.trans hx)
  clear hx d0 d1 d2 d3 d4 d5 g0 g1 g2 g3
  obtain ⟨hb1, hb2⟩ := HB.out _ HX.out
  obtain ⟨d0, d1, d2, d3, d4, d5⟩ := cells6 hb1
  obtain ⟨g0, g1, g2, g3⟩ := cells4 hb2
  clear hb1 hb2
  go_wp2_with fail
  go_ret
  exact ⟨rfl, (ext_pair _ _ _).trans HX.out⟩
theorem ref04_p10 (code addr count exc : Int) (on : List Bool) (set : List UInt16) (parts : List PartD) (A1 A2 A3 B1 B2 B3 : Option Addr) (n1 c1 n2 c2 n3 c3 m1 k1 m2 k2 m3 k3 : Nat) (w : World) (HC : Hid (∀ W, Ext w W → Calls Tryz.prog 45 #[.agg #[.int .i64 code, .int .i64 addr, .int .i64 count, .slice A1 n1 c1, .slice A2 n2 c2, .slice A3 n3 c3]] W (RetI W 0))) (H1 : Hid (∀ W, Calls Tryz.prog 59 #[.agg #[.int .i64 code, .int .i64 addr, .int .i64 count, .slice A1 n1 c1, .slice A2 n2 c2, .slice A3 n3 c3]] W (RetQ W false))) (H2 : Hid (∀ W, Calls Tryz.prog 61 #[.agg #[.int .i64 code, .int .i64 addr, .int .i64 count, .slice A1 n1 c1, .slice A2 n2 c2, .slice A3 n3 c3]] W (RetQ W true))) (H3 : Hid (∀ W, Calls Tryz.prog 63 #[.agg #[.int .i64 code, .int .i64 addr, .int .i64 count, .slice A1 n1 c1, .slice A2 n2 c2, .slice A3 n3 c3]] W (RetQ W false))) (p1 : 0 < m1) (p3 : 0 < m3)  :
    Calls Tryz.prog 58 #[.agg #[.int .i64 code, .int .i64 addr, .int .i64 count, .slice A1 n1 c1, .slice A2 n2 c2, .slice A3 n3 c3], .agg #[.int .i64 0, .slice B1 m1 k1, .slice B2 0 k2, .slice B3 m3 k3]] w (RetI w 23) := by
  have HB := Lib.hid (two_boxes w #[.int .i64 code, .int .i64 addr, .int .i64 count, .slice A1 n1 c1, .slice A2 n2 c2, .slice A3 n3 c3] #[.int .i64 0, .slice B1 m1 k1, .slice B2 0 k2, .slice B3 m3 k3] 37 40)
  go_enter Tryz.func58, Tryz.ntmps58
  go_wp2_with fail
  refine (HC.out _ (ext_pair _ _ _)).mono ?_
  rintro e w1 ⟨rfl, hx⟩
  have HX := Lib.hid hx
  clear hx
  obtain ⟨hb1, hb2⟩ := HB.out _ HX.out
  obtain ⟨d0, d1, d2, d3, d4, d5⟩ := cells6 hb1
  obtain ⟨g0, g1, g2, g3⟩ := cells4 hb2
  clear hb1 hb2
  go_wp2_with fail
  refine (H1.out _).mono ?_
  rintro e wn ⟨rfl, hx⟩
  replace HX := Lib.hid (HX.out.trans hx)
  clear hx d0 d1 d2 d3 d4 d5 g0 g1 g2 g3
  obtain ⟨hb1, hb2⟩ := HB.out _ HX.out
  obtain ⟨d0, d1, d2, d3, d4, d5⟩ := cells6 hb1
  obtain ⟨g0, g1, g2, g3⟩ := cells4 hb2
  clear hb1 hb2
  go_wp2_with fail
  go_ret
  exact ⟨rfl, (ext_pair _ _ _).trans HX.out⟩
theorem ref04_p11 (code addr count exc : Int) (on : List Bool) (set : List UInt16) (parts : List PartD) (A1 A2 A3 B1 B2 B3 : Option Addr) (n1 c1 n2 c2 n3 c3 m1 k1 m2 k2 m3 k3 : Nat) (w : World) (HC : Hid (∀ W, Ext w W → Calls Tryz.prog 45 #[.agg #[.int .i64 code, .int .i64 addr, .int .i64 count, .slice A1 n1 c1, .slice A2 n2 c2, .slice A3 n3 c3]] W (RetI W 0))) (H1 : Hid (∀ W, Calls Tryz.prog 59 #[.agg #[.int .i64 code, .int .i64 addr, .int .i64 count, .slice A1 n1 c1, .slice A2 n2 c2, .slice A3 n3 c3]] W (RetQ W false))) (H2 : Hid (∀ W, Calls Tryz.prog 61 #[.agg #[.int .i64 code, .int .i64 addr, .int .i64 count, .slice A1 n1 c1, .slice A2 n2 c2, .slice A3 n3 c3]] W (RetQ W true))) (H3 : Hid (∀ W, Calls Tryz.prog 63 #[.agg #[.int .i64 code, .int .i64 addr, .int .i64 count, .slice A1 n1 c1, .slice A2 n2 c2, .slice A3 n3 c3]] W (RetQ W false))) (p1 : 0 < m1) (p2 : 0 < m2)  :
    Calls Tryz.prog 58 #[.agg #[.int .i64 code, .int .i64 addr, .int .i64 count, .slice A1 n1 c1, .slice A2 n2 c2, .slice A3 n3 c3], .agg #[.int .i64 0, .slice B1 m1 k1, .slice B2 m2 k2, .slice B3 0 k3]] w (RetI w 23) := by
  have HB := Lib.hid (two_boxes w #[.int .i64 code, .int .i64 addr, .int .i64 count, .slice A1 n1 c1, .slice A2 n2 c2, .slice A3 n3 c3] #[.int .i64 0, .slice B1 m1 k1, .slice B2 m2 k2, .slice B3 0 k3] 37 40)
  go_enter Tryz.func58, Tryz.ntmps58
  go_wp2_with fail
  refine (HC.out _ (ext_pair _ _ _)).mono ?_
  rintro e w1 ⟨rfl, hx⟩
  have HX := Lib.hid hx
  clear hx
  obtain ⟨hb1, hb2⟩ := HB.out _ HX.out
  obtain ⟨d0, d1, d2, d3, d4, d5⟩ := cells6 hb1
  obtain ⟨g0, g1, g2, g3⟩ := cells4 hb2
  clear hb1 hb2
  go_wp2_with fail
  refine (H1.out _).mono ?_
  rintro e wn ⟨rfl, hx⟩
  replace HX := Lib.hid (HX.out.trans hx)
  clear hx d0 d1 d2 d3 d4 d5 g0 g1 g2 g3
  obtain ⟨hb1, hb2⟩ := HB.out _ HX.out
  obtain ⟨d0, d1, d2, d3, d4, d5⟩ := cells6 hb1
  obtain ⟨g0, g1, g2, g3⟩ := cells4 hb2
  clear hb1 hb2
  go_wp2_with fail
  go_ret
  exact ⟨rfl, (ext_pair _ _ _).trans HX.out⟩
theorem ref04_p12 (code addr count exc : Int) (on : List Bool) (set : List UInt16) (parts : List PartD) (A1 A2 A3 B1 B2 B3 : Option Addr) (n1 c1 n2 c2 n3 c3 m1 k1 m2 k2 m3 k3 : Nat) (w : World) (HC : Hid (∀ W, Ext w W → Calls Tryz.prog 45 #[.agg #[.int .i64 code, .int .i64 addr, .int .i64 count, .slice A1 n1 c1, .slice A2 n2 c2, .slice A3 n3 c3]] W (RetI W 0))) (H1 : Hid (∀ W, Calls Tryz.prog 59 #[.agg #[.int .i64 code, .int .i64 addr, .int .i64 count, .slice A1 n1 c1, .slice A2 n2 c2, .slice A3 n3 c3]] W (RetQ W false))) (H2 : Hid (∀ W, Calls Tryz.prog 61 #[.agg #[.int .i64 code, .int .i64 addr, .int .i64 count, .slice A1 n1 c1, .slice A2 n2 c2, .slice A3 n3 c3]] W (RetQ W true))) (H3 : Hid (∀ W, Calls Tryz.prog 63 #[.agg #[.int .i64 code, .int .i64 addr, .int .i64 count, .slice A1 n1 c1, .slice A2 n2 c2, .slice A3 n3 c3]] W (RetQ W false))) (p1 : 0 < m1) (p2 : 0 < m2) (p3 : 0 < m3)  :
    Calls Tryz.prog 58 #[.agg #[.int .i64 code, .int .i64 addr, .int .i64 count, .slice A1 n1 c1, .slice A2 n2 c2, .slice A3 n3 c3], .agg #[.int .i64 0, .slice B1 m1 k1, .slice B2 m2 k2, .slice B3 m3 k3]] w (RetI w 23) := by
  have HB := Lib.hid (two_boxes w #[.int .i64 code, .int .i64 addr, .int .i64 count, .slice A1 n1 c1, .slice A2 n2 c2, .slice A3 n3 c3] #[.int .i64 0, .slice B1 m1 k1, .slice B2 m2 k2, .slice B3 m3 k3] 37 40)
  go_enter Tryz.func58, Tryz.ntmps58
  go_wp2_with fail
  refine (HC.out _ (ext_pair _ _ _)).mono ?_
  rintro e w1 ⟨rfl, hx⟩
  have HX := Lib.hid hx
  clear hx
  obtain ⟨hb1, hb2⟩ := HB.out _ HX.out
  obtain ⟨d0, d1, d2, d3, d4, d5⟩ := cells6 hb1
  obtain ⟨g0, g1, g2, g3⟩ := cells4 hb2
  clear hb1 hb2
  go_wp2_with fail
  refine (H1.out _).mono ?_
  rintro e wn ⟨rfl, hx⟩
  replace HX := Lib.hid (HX.out.trans hx)
  clear hx d0 d1 d2 d3 d4 d5 g0 g1 g2 g3
  obtain ⟨hb1, hb2⟩ := HB.out _ HX.out
  obtain ⟨d0, d1, d2, d3, d4, d5⟩ := cells6 hb1
  obtain ⟨g0, g1, g2, g3⟩ := cells4 hb2
  clear hb1 hb2
  go_wp2_with fail
  go_ret
  exact ⟨rfl, (ext_pair _ _ _).trans HX.out⟩
theorem ref04_p13 (code addr count exc : Int) (on : List Bool) (set : List UInt16) (parts : List PartD) (A1 A2 A3 B1 B2 B3 : Option Addr) (n1 c1 n2 c2 n3 c3 m1 k1 m2 k2 m3 k3 : Nat) (w : World) (HC : Hid (∀ W, Ext w W → Calls Tryz.prog 45 #[.agg #[.int .i64 code, .int .i64 addr, .int .i64 count, .slice A1 n1 c1, .slice A2 n2 c2, .slice A3 n3 c3]] W (RetI W 0))) (H1 : Hid (∀ W, Calls Tryz.prog 59 #[.agg #[.int .i64 code, .int .i64 addr, .int .i64 count, .slice A1 n1 c1, .slice A2 n2 c2, .slice A3 n3 c3]] W (RetQ W false))) (H2 : Hid (∀ W, Calls Tryz.prog 61 #[.agg #[.int .i64 code, .int .i64 addr, .int .i64 count, .slice A1 n1 c1, .slice A2 n2 c2, .slice A3 n3 c3]] W (RetQ W false))) (H3 : Hid (∀ W, Calls Tryz.prog 63 #[.agg #[.int .i64 code, .int .i64 addr, .int .i64 count, .slice A1 n1 c1, .slice A2 n2 c2, .slice A3 n3 c3]] W (RetQ W true))) (p2 : 0 < m2)  :
    Calls Tryz.prog 58 #[.agg #[.int .i64 code, .int .i64 addr, .int .i64 count, .slice A1 n1 c1, .slice A2 n2 c2, .slice A3 n3 c3], .agg #[.int .i64 0, .slice B1 0 k1, .slice B2 m2 k2, .slice B3 0 k3]] w (RetI w 23) := by
  have HB := Lib.hid (two_boxes w #[.int .i64 code, .int .i64 addr, .int .i64 count, .slice A1 n1 c1, .slice A2 n2 c2, .slice A3 n3 c3] #[.int .i64 0, .slice B1 0 k1, .slice B2 m2 k2, .slice B3 0 k3] 37 40)
  go_enter Tryz.func58, Tryz.ntmps58
  go_wp2_with fail
  refine (HC.out _ (ext_pair _ _ _)).mono ?_
  rintro e w1 ⟨rfl, hx⟩
  have HX := Lib.hid hx
  clear hx
  obtain ⟨hb1, hb2⟩ := HB.out _ HX.out
  obtain ⟨d0, d1, d2, d3, d4, d5⟩ := cells6 hb1
  obtain ⟨g0, g1, g2, g3⟩ := cells4 hb2
  clear hb1 hb2
  go_wp2_with fail
  refine (H2.out _).mono ?_
  rintro e wn ⟨rfl, hx⟩
  replace HX := Lib.hid (HX.out.trans hx)
  clear hx d0 d1 d2 d3 d4 d5 g0 g1 g2 g3
  obtain ⟨hb1, hb2⟩ := HB.out _ HX.out
  obtain ⟨d0, d1, d2, d3, d4, d5⟩ := cells6 hb1
  obtain ⟨g0, g1, g2, g3⟩ := cells4 hb2
  clear hb1 hb2
  go_wp2_with fail
  go_ret
  exact ⟨rfl, (ext_pair _ _ _).trans HX.out⟩
theorem ref04_p14 (code addr count exc : Int) (on : List Bool) (set : List UInt16) (parts : List PartD) (A1 A2 A3 B1 B2 B3 : Option Addr) (n1 c1 n2 c2 n3 c3 m1 k1 m2 k2 m3 k3 : Nat) (w : World) (HC : Hid (∀ W, Ext w W → Calls Tryz.prog 45 #[.agg #[.int .i64 code, .int .i64 addr, .int .i64 count, .slice A1 n1 c1, .slice A2 n2 c2, .slice A3 n3 c3]] W (RetI W 0))) (H1 : Hid (∀ W, Calls Tryz.prog 59 #[.agg #[.int .i64 code, .int .i64 addr, .int .i64 count, .slice A1 n1 c1, .slice A2 n2 c2, .slice A3 n3 c3]] W (RetQ W false))) (H2 : Hid (∀ W, Calls Tryz.prog 61 #[.agg #[.int .i64 code, .int .i64 addr, .int .i64 count, .slice A1 n1 c1, .slice A2 n2 c2, .slice A3 n3 c3]] W (RetQ W false))) (H3 : Hid (∀ W, Calls Tryz.prog 63 #[.agg #[.int .i64 code, .int .i64 addr, .int .i64 count, .slice A1 n1 c1, .slice A2 n2 c2, .slice A3 n3 c3]] W (RetQ W true))) (p2 : 0 < m2) (p3 : 0 < m3)  :
    Calls Tryz.prog 58 #[.agg #[.int .i64 code, .int .i64 addr, .int .i64 count, .slice A1 n1 c1, .slice A2 n2 c2, .slice A3 n3 c3], .agg #[.int .i64 0, .slice B1 0 k1, .slice B2 m2 k2, .slice B3 m3 k3]] w (RetI w 23) := by
  have HB := Lib.hid (two_boxes w #[.int .i64 code, .int .i64 addr, .int .i64 count, .slice A1 n1 c1, .slice A2 n2 c2, .slice A3 n3 c3] #[.int .i64 0, .slice B1 0 k1, .slice B2 m2 k2, .slice B3 m3 k3] 37 40)
  go_enter Tryz.func58, Tryz.ntmps58
  go_wp2_with fail
  refine (HC.out _ (ext_pair _ _ _)).mono ?_
  rintro e w1 ⟨rfl, hx⟩
  have HX := Lib.hid hx
  clear hx
  obtain ⟨hb1, hb2⟩ := HB.out _ HX.out
  obtain ⟨d0, d1, d2, d3, d4, d5⟩ := cells6 hb1
  obtain ⟨g0, g1, g2, g3⟩ := cells4 hb2
  clear hb1 hb2
  go_wp2_with fail
  refine (H2.out _).mono ?_
  rintro e wn ⟨rfl, hx⟩
  replace HX := Lib.hid (HX.out.trans hx)
  clear hx d0 d1 d2 d3 d4 d5 g0 g1 g2 g3
  obtain ⟨hb1, hb2⟩ := HB.out _ HX.out
  obtain ⟨d0, d1, d2, d3, d4, d5⟩ := cells6 hb1
  obtain ⟨g0, g1, g2, g3⟩ := cells4 hb2
  clear hb1 hb2
  go_wp2_with fail
  go_ret
  exact ⟨rfl, (ext_pair _ _ _).trans HX.out⟩
theorem ref04_p15 (code addr count exc : Int) (on : List Bool) (set : List UInt16) (parts : List PartD) (A1 A2 A3 B1 B2 B3 : Option Addr) (n1 c1 n2 c2 n3 c3 m1 k1 m2 k2 m3 k3 : Nat) (w : World) (HC : Hid (∀ W, Ext w W → Calls Tryz.prog 45 #[.agg #[.int .i64 code, .int .i64 addr, .int .i64 count, .slice A1 n1 c1, .slice A2 n2 c2, .slice A3 n3 c3]] W (RetI W 0))) (H1 : Hid (∀ W, Calls Tryz.prog 59 #[.agg #[.int .i64 code, .int .i64 addr, .int .i64 count, .slice A1 n1 c1, .slice A2 n2 c2, .slice A3 n3 c3]] W (RetQ W false))) (H2 : Hid (∀ W, Calls Tryz.prog 61 #[.agg #[.int .i64 code, .int .i64 addr, .int .i64 count, .slice A1 n1 c1, .slice A2 n2 c2, .slice A3 n3 c3]] W (RetQ W false))) (H3 : Hid (∀ W, Calls Tryz.prog 63 #[.agg #[.int .i64 code, .int .i64 addr, .int .i64 count, .slice A1 n1 c1, .slice A2 n2 c2, .slice A3 n3 c3]] W (RetQ W true))) (p1 : 0 < m1)  :
    Calls Tryz.prog 58 #[.agg #[.int .i64 code, .int .i64 addr, .int .i64 count, .slice A1 n1 c1, .slice A2 n2 c2, .slice A3 n3 c3], .agg #[.int .i64 0, .slice B1 m1 k1, .slice B2 0 k2, .slice B3 0 k3]] w (RetI w 23) := by
  have HB := Lib.hid (two_boxes w #[.int .i64 code, .int .i64 addr, .int .i64 count, .slice A1 n1 c1, .slice A2 n2 c2, .slice A3 n3 c3] #[.int .i64 0, .slice B1 m1 k1, .slice B2 0 k2, .slice B3 0 k3] 37 40)
  go_enter Tryz.func58, Tryz.ntmps58
  go_wp2_with fail
  refine (HC.out _ (ext_pair _ _ _)).mono ?_
  rintro e w1 ⟨rfl, hx⟩
  have HX := Lib.hid hx
  clear hx
  obtain ⟨hb1, hb2⟩ := HB.out _ HX.out
  obtain ⟨d0, d1, d2, d3, d4, d5⟩ := cells6 hb1
  obtain ⟨g0, g1, g2, g3⟩ := cells4 hb2
  clear hb1 hb2
  go_wp2_with fail
  refine (H1.out _).mono ?_
  rintro e wn ⟨rfl, hx⟩
  replace HX := Lib.hid (HX.out.trans hx)
  clear hx d0 d1 d2 d3 d4 d5 g0 g1 g2 g3
  obtain ⟨hb1, hb2⟩ := HB.out _ HX.out
  obtain ⟨d0, d1, d2, d3, d4, d5⟩ := cells6 hb1
  obtain ⟨g0, g1, g2, g3⟩ := cells4 hb2
  clear hb1 hb2
  go_wp2_with fail
  go_ret
  exact ⟨rfl, (ext_pair _ _ _).trans HX.out⟩
theorem ref04_p16 (code addr count exc : Int) (on : List Bool) (set : List UInt16) (parts : List PartD) (A1 A2 A3 B1 B2 B3 : Option Addr) (n1 c1 n2 c2 n3 c3 m1 k1 m2 k2 m3 k3 : Nat) (w : World) (HC : Hid (∀ W, Ext w W → Calls Tryz.prog 45 #[.agg #[.int .i64 code, .int .i64 addr, .int .i64 count, .slice A1 n1 c1, .slice A2 n2 c2, .slice A3 n3 c3]] W (RetI W 0))) (H1 : Hid (∀ W, Calls Tryz.prog 59 #[.agg #[.int .i64 code, .int .i64 addr, .int .i64 count, .slice A1 n1 c1, .slice A2 n2 c2, .slice A3 n3 c3]] W (RetQ W false))) (H2 : Hid (∀ W, Calls Tryz.prog 61 #[.agg #[.int .i64 code, .int .i64 addr, .int .i64 count, .slice A1 n1 c1, .slice A2 n2 c2, .slice A3 n3 c3]] W (RetQ W false))) (H3 : Hid (∀ W, Calls Tryz.prog 63 #[.agg #[.int .i64 code, .int .i64 addr, .int .i64 count, .slice A1 n1 c1, .slice A2 n2 c2, .slice A3 n3 c3]] W (RetQ W true))) (p1 : 0 < m1) (p3 : 0 < m3)  :
    Calls Tryz.prog 58 #[.agg #[.int .i64 code, .int .i64 addr, .int .i64 count, .slice A1 n1 c1, .slice A2 n2 c2, .slice A3 n3 c3], .agg #[.int .i64 0, .slice B1 m1 k1, .slice B2 0 k2, .slice B3 m3 k3]] w (RetI w 23) := by
  have HB := Lib.hid (two_boxes w #[.int .i64 code, .int .i64 addr, .int .i64 count, .slice A1 n1 c1, .slice A2 n2 c2, .slice A3 n3 c3] #[.int .i64 0, .slice B1 m1 k1, .slice B2 0 k2, .slice B3 m3 k3] 37 40)
  go_enter Tryz.func58, Tryz.ntmps58
  go_wp2_with fail
  refine (HC.out _ (ext_pair _ _ _)).mono ?_
  rintro e w1 ⟨rfl, hx⟩
  have HX := Lib.hid hx
  clear hx
  obtain ⟨hb1, hb2⟩ := HB.out _ HX.out
  obtain ⟨d0, d1, d2, d3, d4, d5⟩ := cells6 hb1
  obtain ⟨g0, g1, g2, g3⟩ := cells4 hb2
  clear hb1 hb2
  go_wp2_with fail
  refine (H1.out _).mono ?_
  rintro e wn ⟨rfl, hx⟩
  replace HX := Lib.hid (HX.out.trans hx)
  clear hx d0 d1 d2 d3 d4 d5 g0 g1 g2 g3
  obtain ⟨hb1, hb2⟩ := HB.out _ HX.out
  obtain ⟨d0, d1, d2, d3, d4, d5⟩ := cells6 hb1
  obtain ⟨g0, g1, g2, g3⟩ := cells4 hb2
  clear hb1 hb2
  go_wp2_with fail
  go_ret
  exact ⟨rfl, (ext_pair _ _ _).trans HX.out⟩
theorem ref04_p17 (code addr count exc : Int) (on : List Bool) (set : List UInt16) (parts : List PartD) (A1 A2 A3 B1 B2 B3 : Option Addr) (n1 c1 n2 c2 n3 c3 m1 k1 m2 k2 m3 k3 : Nat) (w : World) (HC : Hid (∀ W, Ext w W → Calls Tryz.prog 45 #[.agg #[.int .i64 code, .int .i64 addr, .int .i64 count, .slice A1 n1 c1, .slice A2 n2 c2, .slice A3 n3 c3]] W (RetI W 0))) (H1 : Hid (∀ W, Calls Tryz.prog 59 #[.agg #[.int .i64 code, .int .i64 addr, .int .i64 count, .slice A1 n1 c1, .slice A2 n2 c2, .slice A3 n3 c3]] W (RetQ W false))) (H2 : Hid (∀ W, Calls Tryz.prog 61 #[.agg #[.int .i64 code, .int .i64 addr, .int .i64 count, .slice A1 n1 c1, .slice A2 n2 c2, .slice A3 n3 c3]] W (RetQ W false))) (H3 : Hid (∀ W, Calls Tryz.prog 63 #[.agg #[.int .i64 code, .int .i64 addr, .int .i64 count, .slice A1 n1 c1, .slice A2 n2 c2, .slice A3 n3 c3]] W (RetQ W true))) (p1 : 0 < m1) (p2 : 0 < m2)  :
    Calls Tryz.prog 58 #[.agg #[.int .i64 code, .int .i64 addr, .int .i64 count, .slice A1 n1 c1, .slice A2 n2 c2, .slice A3 n3 c3], .agg #[.int .i64 0, .slice B1 m1 k1, .slice B2 m2 k2, .slice B3 0 k3]] w (RetI w 23) := by
  have HB := Lib.hid (two_boxes w #[.int .i64 code, .int .i64 addr, .int .i64 count, .slice A1 n1 c1, .slice A2 n2 c2, .slice A3 n3 c3] #[.int .i64 0, .slice B1 m1 k1, .slice B2 m2 k2, .slice B3 0 k3] 37 40)
  go_enter Tryz.func58, Tryz.ntmps58
  go_wp2_with fail
  refine (HC.out _ (ext_pair _ _ _)).mono ?_
  rintro e w1 ⟨rfl, hx⟩
  have HX := Lib.hid hx
  clear hx
  obtain ⟨hb1, hb2⟩ := HB.out _ HX.out
  obtain ⟨d0, d1, d2, d3, d4, d5⟩ := cells6 hb1
  obtain ⟨g0, g1, g2, g3⟩ := cells4 hb2
  clear hb1 hb2
  go_wp2_with fail
  refine (H1.out _).mono ?_
  rintro e wn ⟨rfl, hx⟩
  replace HX := Lib.hid (HX.out.trans hx)
  clear hx d0 d1 d2 d3 d4 d5 g0 g1 g2 g3
  obtain ⟨hb1, hb2⟩ := HB.out _ HX.out
  obtain ⟨d0, d1, d2, d3, d4, d5⟩ := cells6 hb1
  obtain ⟨g0, g1, g2, g3⟩ := cells4 hb2
  clear hb1 hb2
  go_wp2_with fail
  go_ret
  exact ⟨rfl, (ext_pair _ _ _).trans HX.out⟩
theorem ref04_p18 (code addr count exc : Int) (on : List Bool) (set : List UInt16) (parts : List PartD) (A1 A2 A3 B1 B2 B3 : Option Addr) (n1 c1 n2 c2 n3 c3 m1 k1 m2 k2 m3 k3 : Nat) (w : World) (HC : Hid (∀ W, Ext w W → Calls Tryz.prog 45 #[.agg #[.int .i64 code, .int .i64 addr, .int .i64 count, .slice A1 n1 c1, .slice A2 n2 c2, .slice A3 n3 c3]] W (RetI W 0))) (H1 : Hid (∀ W, Calls Tryz.prog 59 #[.agg #[.int .i64 code, .int .i64 addr, .int .i64 count, .slice A1 n1 c1, .slice A2 n2 c2, .slice A3 n3 c3]] W (RetQ W false))) (H2 : Hid (∀ W, Calls Tryz.prog 61 #[.agg #[.int .i64 code, .int .i64 addr, .int .i64 count, .slice A1 n1 c1, .slice A2 n2 c2, .slice A3 n3 c3]] W (RetQ W false))) (H3 : Hid (∀ W, Calls Tryz.prog 63 #[.agg #[.int .i64 code, .int .i64 addr, .int .i64 count, .slice A1 n1 c1, .slice A2 n2 c2, .slice A3 n3 c3]] W (RetQ W true))) (p1 : 0 < m1) (p2 : 0 < m2) (p3 : 0 < m3)  :
    Calls Tryz.prog 58 #[.agg #[.int .i64 code, .int .i64 addr, .int .i64 count, .slice A1 n1 c1, .slice A2 n2 c2, .slice A3 n3 c3], .agg #[.int .i64 0, .slice B1 m1 k1, .slice B2 m2 k2, .slice B3 m3 k3]] w (RetI w 23) := by
  have HB := Lib.hid (two_boxes w #[.int .i64 code, .int .i64 addr, .int .i64 count, .slice A1 n1 c1, .slice A2 n2 c2, .slice A3 n3 c3] #[.int .i64 0, .slice B1 m1 k1, .slice B2 m2 k2, .slice B3 m3 k3] 37 40)
  go_enter Tryz.func58, Tryz.ntmps58
  go_wp2_with fail
  refine (HC.out _ (ext_pair _ _ _)).mono ?_
  rintro e w1 ⟨rfl, hx⟩
  have HX := Lib.hid hx
  clear hx
  obtain ⟨hb1, hb2⟩ := HB.out _ HX.out
  obtain ⟨d0, d1, d2, d3, d4, d5⟩ := cells6 hb1
  obtain ⟨g0, g1, g2, g3⟩ := cells4 hb2
  clear hb1 hb2
  go_wp2_with fail
  refine (H1.out _).mono ?_
  rintro e wn ⟨rfl, hx⟩
  replace HX := Lib.hid (HX.out.trans hx)
  clear hx d0 d1 d2 d3 d4 d5 g0 g1 g2 g3
  obtain ⟨hb1, hb2⟩ := HB.out _ HX.out
  obtain ⟨d0, d1, d2, d3, d4, d5⟩ := cells6 hb1
  obtain ⟨g0, g1, g2, g3⟩ := cells4 hb2
  clear hb1 hb2
  go_wp2_with fail
  go_ret
  exact ⟨rfl, (ext_pair _ _ _).trans HX.out⟩
theorem ref04_p19 (code addr count exc : Int) (on : List Bool) (set : List UInt16) (parts : List PartD) (A1 A2 A3 B1 B2 B3 : Option Addr) (n1 c1 n2 c2 n3 c3 m1 k1 m2 k2 m3 k3 : Nat) (w : World) (HC : Hid (∀ W, Ext w W → Calls Tryz.prog 45 #[.agg #[.int .i64 code, .int .i64 addr, .int .i64 count, .slice A1 n1 c1, .slice A2 n2 c2, .slice A3 n3 c3]] W (RetI W 0))) (H1 : Hid (∀ W, Calls Tryz.prog 59 #[.agg #[.int .i64 code, .int .i64 addr, .int .i64 count, .slice A1 n1 c1, .slice A2 n2 c2, .slice A3 n3 c3]] W (RetQ W false))) (H2 : Hid (∀ W, Calls Tryz.prog 61 #[.agg #[.int .i64 code, .int .i64 addr, .int .i64 count, .slice A1 n1 c1, .slice A2 n2 c2, .slice A3 n3 c3]] W (RetQ W false))) (H3 : Hid (∀ W, Calls Tryz.prog 63 #[.agg #[.int .i64 code, .int .i64 addr, .int .i64 count, .slice A1 n1 c1, .slice A2 n2 c2, .slice A3 n3 c3]] W (RetQ W false))) (p3 : 0 < m3)  :
    Calls Tryz.prog 58 #[.agg #[.int .i64 code, .int .i64 addr, .int .i64 count, .slice A1 n1 c1, .slice A2 n2 c2, .slice A3 n3 c3], .agg #[.int .i64 0, .slice B1 0 k1, .slice B2 0 k2, .slice B3 m3 k3]] w (RetI w 23) := by
  have HB := Lib.hid (two_boxes w #[.int .i64 code, .int .i64 addr, .int .i64 count, .slice A1 n1 c1, .slice A2 n2 c2, .slice A3 n3 c3] #[.int .i64 0, .slice B1 0 k1, .slice B2 0 k2, .slice B3 m3 k3] 37 40)
  go_enter Tryz.func58, Tryz.ntmps58
  go_wp2_with fail
  refine (HC.out _ (ext_pair _ _ _)).mono ?_
  rintro e w1 ⟨rfl, hx⟩
  have HX := Lib.hid hx
  clear hx
  obtain ⟨hb1, hb2⟩ := HB.out _ HX.out
  obtain ⟨d0, d1, d2, d3, d4, d5⟩ := cells6 hb1
  obtain ⟨g0, g1, g2, g3⟩ := cells4 hb2
  clear hb1 hb2
  go_wp2_with fail
  refine (H3.out _).mono ?_
  rintro e wn ⟨rfl, hx⟩
  replace HX := Lib.hid (HX.out.trans hx)
  clear hx d0 d1 d2 d3 d4 d5 g0 g1 g2 g3
  obtain ⟨hb1, hb2⟩ := HB.out _ HX.out
  obtain ⟨d0, d1, d2, d3, d4, d5⟩ := cells6 hb1
  obtain ⟨g0, g1, g2, g3⟩ := cells4 hb2
  clear hb1 hb2
  go_wp2_with fail
  go_ret
  exact ⟨rfl, (ext_pair _ _ _).trans HX.out⟩
theorem ref04_p20 (code addr count exc : Int) (on : List Bool) (set : List UInt16) (parts : List PartD) (A1 A2 A3 B1 B2 B3 : Option Addr) (n1 c1 n2 c2 n3 c3 m1 k1 m2 k2 m3 k3 : Nat) (w : World) (HC : Hid (∀ W, Ext w W → Calls Tryz.prog 45 #[.agg #[.int .i64 code, .int .i64 addr, .int .i64 count, .slice A1 n1 c1, .slice A2 n2 c2, .slice A3 n3 c3]] W (RetI W 0))) (H1 : Hid (∀ W, Calls Tryz.prog 59 #[.agg #[.int .i64 code, .int .i64 addr, .int .i64 count, .slice A1 n1 c1, .slice A2 n2 c2, .slice A3 n3 c3]] W (RetQ W false))) (H2 : Hid (∀ W, Calls Tryz.prog 61 #[.agg #[.int .i64 code, .int .i64 addr, .int .i64 count, .slice A1 n1 c1, .slice A2 n2 c2, .slice A3 n3 c3]] W (RetQ W false))) (H3 : Hid (∀ W, Calls Tryz.prog 63 #[.agg #[.int .i64 code, .int .i64 addr, .int .i64 count, .slice A1 n1 c1, .slice A2 n2 c2, .slice A3 n3 c3]] W (RetQ W false))) (p2 : 0 < m2)  :
    Calls Tryz.prog 58 #[.agg #[.int .i64 code, .int .i64 addr, .int .i64 count, .slice A1 n1 c1, .slice A2 n2 c2, .slice A3 n3 c3], .agg #[.int .i64 0, .slice B1 0 k1, .slice B2 m2 k2, .slice B3 0 k3]] w (RetI w 23) := by
  have HB := Lib.hid (two_boxes w #[.int .i64 code, .int .i64 addr, .int .i64 count, .slice A1 n1 c1, .slice A2 n2 c2, .slice A3 n3 c3] #[.int .i64 0, .slice B1 0 k1, .slice B2 m2 k2, .slice B3 0 k3] 37 40)
  go_enter Tryz.func58, Tryz.ntmps58
  go_wp2_with fail
  refine (HC.out _ (ext_pair _ _ _)).mono ?_
  rintro e w1 ⟨rfl, hx⟩
  have HX := Lib.hid hx
  clear hx
  obtain ⟨hb1, hb2⟩ := HB.out _ HX.out
  obtain ⟨d0, d1, d2, d3, d4, d5⟩ := cells6 hb1
  obtain ⟨g0, g1, g2, g3⟩ := cells4 hb2
  clear hb1 hb2
  go_wp2_with fail
  refine (H2.out _).mono ?_
  rintro e wn ⟨rfl, hx⟩
  replace HX := Lib.hid (HX.out.trans hx)
  clear hx d0 d1 d2 d3 d4 d5 g0 g1 g2 g3
  obtain ⟨hb1, hb2⟩ := HB.out _ HX.out
  obtain ⟨d0, d1, d2, d3, d4, d5⟩ := cells6 hb1
  obtain ⟨g0, g1, g2, g3⟩ := cells4 hb2
  clear hb1 hb2
  go_wp2_with fail
  go_ret
  exact ⟨rfl, (ext_pair _ _ _).trans HX.out⟩
theorem ref04_p21 (code addr count exc : Int) (on : List Bool) (set : List UInt16) (parts : List PartD) (A1 A2 A3 B1 B2 B3 : Option Addr) (n1 c1 n2 c2 n3 c3 m1 k1 m2 k2 m3 k3 : Nat) (w : World) (HC : Hid (∀ W, Ext w W → Calls Tryz.prog 45 #[.agg #[.int .i64 code, .int .i64 addr, .int .i64 count, .slice A1 n1 c1, .slice A2 n2 c2, .slice A3 n3 c3]] W (RetI W 0))) (H1 : Hid (∀ W, Calls Tryz.prog 59 #[.agg #[.int .i64 code, .int .i64 addr, .int .i64 count, .slice A1 n1 c1, .slice A2 n2 c2, .slice A3 n3 c3]] W (RetQ W false))) (H2 : Hid (∀ W, Calls Tryz.prog 61 #[.agg #[.int .i64 code, .int .i64 addr, .int .i64 count, .slice A1 n1 c1, .slice A2 n2 c2, .slice A3 n3 c3]] W (RetQ W false))) (H3 : Hid (∀ W, Calls Tryz.prog 63 #[.agg #[.int .i64 code, .int .i64 addr, .int .i64 count, .slice A1 n1 c1, .slice A2 n2 c2, .slice A3 n3 c3]] W (RetQ W false))) (p2 : 0 < m2) (p3 : 0 < m3)  :
    Calls Tryz.prog 58 #[.agg #[.int .i64 code, .int .i64 addr, .int .i64 count, .slice A1 n1 c1, .slice A2 n2 c2, .slice A3 n3 c3], .agg #[.int .i64 0, .slice B1 0 k1, .slice B2 m2 k2, .slice B3 m3 k3]] w (RetI w 23) := by
  have HB := Lib.hid (two_boxes w #[.int .i64 code, .int .i64 addr, .int .i64 count, .slice A1 n1 c1, .slice A2 n2 c2, .slice A3 n3 c3] #[.int .i64 0, .slice B1 0 k1, .slice B2 m2 k2, .slice B3 m3 k3] 37 40)
  go_enter Tryz.func58, Tryz.ntmps58
  go_wp2_with fail
  refine (HC.out _ (ext_pair _ _ _)).mono ?_
  rintro e w1 ⟨rfl, hx⟩
  have HX := Lib.hid hx
  clear hx
  obtain ⟨hb1, hb2⟩ := HB.out _ HX.out
  obtain ⟨d0, d1, d2, d3, d4, d5⟩ := cells6 hb1
  obtain ⟨g0, g1, g2, g3⟩ := cells4 hb2
  clear hb1 hb2
  go_wp2_with fail
  refine (H2.out _).mono ?_
  rintro e wn ⟨rfl, hx⟩
  replace HX := Lib.hid (HX.out.trans hx)
  clear hx d0 d1 d2 d3 d4 d5 g0 g1 g2 g3
  obtain ⟨hb1, hb2⟩ := HB.out _ HX.out
  obtain ⟨d0, d1, d2, d3, d4, d5⟩ := cells6 hb1
  obtain ⟨g0, g1, g2, g3⟩ := cells4 hb2
  clear hb1 hb2
  go_wp2_with fail
  go_ret
  exact ⟨rfl, (ext_pair _ _ _).trans HX.out⟩
theorem ref04_p22 (code addr count exc : Int) (on : List Bool) (set : List UInt16) (parts : List PartD) (A1 A2 A3 B1 B2 B3 : Option Addr) (n1 c1 n2 c2 n3 c3 m1 k1 m2 k2 m3 k3 : Nat) (w : World) (HC : Hid (∀ W, Ext w W → Calls Tryz.prog 45 #[.agg #[.int .i64 code, .int .i64 addr, .int .i64 count, .slice A1 n1 c1, .slice A2 n2 c2, .slice A3 n3 c3]] W (RetI W 0))) (H1 : Hid (∀ W, Calls Tryz.prog 59 #[.agg #[.int .i64 code, .int .i64 addr, .int .i64 count, .slice A1 n1 c1, .slice A2 n2 c2, .slice A3 n3 c3]] W (RetQ W false))) (H2 : Hid (∀ W, Calls Tryz.prog 61 #[.agg #[.int .i64 code, .int .i64 addr, .int .i64 count, .slice A1 n1 c1, .slice A2 n2 c2, .slice A3 n3 c3]] W (RetQ W false))) (H3 : Hid (∀ W, Calls Tryz.prog 63 #[.agg #[.int .i64 code, .int .i64 addr, .int .i64 count, .slice A1 n1 c1, .slice A2 n2 c2, .slice A3 n3 c3]] W (RetQ W false))) (p1 : 0 < m1)  :
    Calls Tryz.prog 58 #[.agg #[.int .i64 code, .int .i64 addr, .int .i64 count, .slice A1 n1 c1, .slice A2 n2 c2, .slice A3 n3 c3], .agg #[.int .i64 0, .slice B1 m1 k1, .slice B2 0 k2, .slice B3 0 k3]] w (RetI w 23) := by
  have HB := Lib.hid (two_boxes w #[.int .i64 code, .int .i64 addr, .int .i64 count, .slice A1 n1 c1, .slice A2 n2 c2, .slice A3 n3 c3] #[.int .i64 0, .slice B1 m1 k1, .slice B2 0 k2, .slice B3 0 k3] 37 40)
  go_enter Tryz.func58, Tryz.ntmps58
  go_wp2_with fail
  refine (HC.out _ (ext_pair _ _ _)).mono ?_
  rintro e w1 ⟨rfl, hx⟩
  have HX := Lib.hid hx
  clear hx
  obtain ⟨hb1, hb2⟩ := HB.out _ HX.out
  obtain ⟨d0, d1, d2, d3, d4, d5⟩ := cells6 hb1
  obtain ⟨g0, g1, g2, g3⟩ := cells4 hb2
  clear hb1 hb2
  go_wp2_with fail
  refine (H1.out _).mono ?_
  rintro e wn ⟨rfl, hx⟩
  replace HX := Lib.hid (HX.out.trans hx)
  clear hx d0 d1 d2 d3 d4 d5 g0 g1 g2 g3
  obtain ⟨hb1, hb2⟩ := HB.out _ HX.out
  obtain ⟨d0, d1, d2, d3, d4, d5⟩ := cells6 hb1
  obtain ⟨g0, g1, g2, g3⟩ := cells4 hb2
  clear hb1 hb2
  go_wp2_with fail
  go_ret
  exact ⟨rfl, (ext_pair _ _ _).trans HX.out⟩
theorem ref04_p23 (code addr count exc : Int) (on : List Bool) (set : List UInt16) (parts : List PartD) (A1 A2 A3 B1 B2 B3 : Option Addr) (n1 c1 n2 c2 n3 c3 m1 k1 m2 k2 m3 k3 : Nat) (w : World) (HC : Hid (∀ W, Ext w W → Calls Tryz.prog 45 #[.agg #[.int .i64 code, .int .i64 addr, .int .i64 count, .slice A1 n1 c1, .slice A2 n2 c2, .slice A3 n3 c3]] W (RetI W 0))) (H1 : Hid (∀ W, Calls Tryz.prog 59 #[.agg #[.int .i64 code, .int .i64 addr, .int .i64 count, .slice A1 n1 c1, .slice A2 n2 c2, .slice A3 n3 c3]] W (RetQ W false))) (H2 : Hid (∀ W, Calls Tryz.prog 61 #[.agg #[.int .i64 code, .int .i64 addr, .int .i64 count, .slice A1 n1 c1, .slice A2 n2 c2, .slice A3 n3 c3]] W (RetQ W false))) (H3 : Hid (∀ W, Calls Tryz.prog 63 #[.agg #[.int .i64 code, .int .i64 addr, .int .i64 count, .slice A1 n1 c1, .slice A2 n2 c2, .slice A3 n3 c3]] W (RetQ W false))) (p1 : 0 < m1) (p3 : 0 < m3)  :
    Calls Tryz.prog 58 #[.agg #[.int .i64 code, .int .i64 addr, .int .i64 count, .slice A1 n1 c1, .slice A2 n2 c2, .slice A3 n3 c3], .agg #[.int .i64 0, .slice B1 m1 k1, .slice B2 0 k2, .slice B3 m3 k3]] w (RetI w 23) := by
  have HB := Lib.hid (two_boxes w #[.int .i64 code, .int .i64 addr, .int .i64 count, .slice A1 n1 c1, .slice A2 n2 c2, .slice A3 n3 c3] #[.int .i64 0, .slice B1 m1 k1, .slice B2 0 k2, .slice B3 m3 k3] 37 40)
  go_enter Tryz.func58, Tryz.ntmps58
  go_wp2_with fail
  refine (HC.out _ (ext_pair _ _ _)).mono ?_
  rintro e w1 ⟨rfl, hx⟩
  have HX := Lib.hid hx
  clear hx
  obtain ⟨hb1, hb2⟩ := HB.out _ HX.out
  obtain ⟨d0, d1, d2, d3, d4, d5⟩ := cells6 hb1
  obtain ⟨g0, g1, g2, g3⟩ := cells4 hb2
  clear hb1 hb2
  go_wp2_with fail
  refine (H1.out _).mono ?_
  rintro e wn ⟨rfl, hx⟩
  replace HX := Lib.hid (HX.out.trans hx)
  clear hx d0 d1 d2 d3 d4 d5 g0 g1 g2 g3
  obtain ⟨hb1, hb2⟩ := HB.out _ HX.out
  obtain ⟨d0, d1, d2, d3, d4, d5⟩ := cells6 hb1
  obtain ⟨g0, g1, g2, g3⟩ := cells4 hb2
  clear hb1 hb2
  go_wp2_with fail
  go_ret
  exact ⟨rfl, (ext_pair _ _ _).trans HX.out⟩
theorem ref04_p24 (code addr count exc : Int) (on : List Bool) (set : List UInt16) (parts : List PartD) (A1 A2 A3 B1 B2 B3 : Option Addr) (n1 c1 n2 c2 n3 c3 m1 k1 m2 k2 m3 k3 : Nat) (w : World) (HC : Hid (∀ W, Ext w W → Calls Tryz.prog 45 #[.agg #[.int .i64 code, .int .i64 addr, .int .i64 count, .slice A1 n1 c1, .slice A2 n2 c2, .slice A3 n3 c3]] W (RetI W 0))) (H1 : Hid (∀ W, Calls Tryz.prog 59 #[.agg #[.int .i64 code, .int .i64 addr, .int .i64 count, .slice A1 n1 c1, .slice A2 n2 c2, .slice A3 n3 c3]] W (RetQ W false))) (H2 : Hid (∀ W, Calls Tryz.prog 61 #[.agg #[.int .i64 code, .int .i64 addr, .int .i64 count, .slice A1 n1 c1, .slice A2 n2 c2, .slice A3 n3 c3]] W (RetQ W false))) (H3 : Hid (∀ W, Calls Tryz.prog 63 #[.agg #[.int .i64 code, .int .i64 addr, .int .i64 count, .slice A1 n1 c1, .slice A2 n2 c2, .slice A3 n3 c3]] W (RetQ W false))) (p1 : 0 < m1) (p2 : 0 < m2)  :
    Calls Tryz.prog 58 #[.agg #[.int .i64 code, .int .i64 addr, .int .i64 count, .slice A1 n1 c1, .slice A2 n2 c2, .slice A3 n3 c3], .agg #[.int .i64 0, .slice B1 m1 k1, .slice B2 m2 k2, .slice B3 0 k3]] w (RetI w 23) := by
  have HB := Lib.hid (two_boxes w #[.int .i64 code, .int .i64 addr, .int .i64 count, .slice A1 n1 c1, .slice A2 n2 c2, .slice A3 n3 c3] #[.int .i64 0, .slice B1 m1 k1, .slice B2 m2 k2, .slice B3 0 k3] 37 40)
  go_enter Tryz.func58, Tryz.ntmps58
  go_wp2_with fail
  refine (HC.out _ (ext_pair _ _ _)).mono ?_
  rintro e w1 ⟨rfl, hx⟩
  have HX := Lib.hid hx
  clear hx
  obtain ⟨hb1, hb2⟩ := HB.out _ HX.out
  obtain ⟨d0, d1, d2, d3, d4, d5⟩ := cells6 hb1
  obtain ⟨g0, g1, g2, g3⟩ := cells4 hb2
  clear hb1 hb2
  go_wp2_with fail
  refine (H1.out _).mono ?_
  rintro e wn ⟨rfl, hx⟩
  replace HX := Lib.hid (HX.out.trans hx)
  clear hx d0 d1 d2 d3 d4 d5 g0 g1 g2 g3
  obtain ⟨hb1, hb2⟩ := HB.out _ HX.out
  obtain ⟨d0, d1, d2, d3, d4, d5⟩ := cells6 hb1
  obtain ⟨g0, g1, g2, g3⟩ := cells4 hb2
  clear hb1 hb2
  go_wp2_with fail
  go_ret
  exact ⟨rfl, (ext_pair _ _ _).trans HX.out⟩
theorem ref04_p25 (code addr count exc : Int) (on : List Bool) (set : List UInt16) (parts : List PartD) (A1 A2 A3 B1 B2 B3 : Option Addr) (n1 c1 n2 c2 n3 c3 m1 k1 m2 k2 m3 k3 : Nat) (w : World) (HC : Hid (∀ W, Ext w W → Calls Tryz.prog 45 #[.agg #[.int .i64 code, .int .i64 addr, .int .i64 count, .slice A1 n1 c1, .slice A2 n2 c2, .slice A3 n3 c3]] W (RetI W 0))) (H1 : Hid (∀ W, Calls Tryz.prog 59 #[.agg #[.int .i64 code, .int .i64 addr, .int .i64 count, .slice A1 n1 c1, .slice A2 n2 c2, .slice A3 n3 c3]] W (RetQ W false))) (H2 : Hid (∀ W, Calls Tryz.prog 61 #[.agg #[.int .i64 code, .int .i64 addr, .int .i64 count, .slice A1 n1 c1, .slice A2 n2 c2, .slice A3 n3 c3]] W (RetQ W false))) (H3 : Hid (∀ W, Calls Tryz.prog 63 #[.agg #[.int .i64 code, .int .i64 addr, .int .i64 count, .slice A1 n1 c1, .slice A2 n2 c2, .slice A3 n3 c3]] W (RetQ W false))) (p1 : 0 < m1) (p2 : 0 < m2) (p3 : 0 < m3)  :
    Calls Tryz.prog 58 #[.agg #[.int .i64 code, .int .i64 addr, .int .i64 count, .slice A1 n1 c1, .slice A2 n2 c2, .slice A3 n3 c3], .agg #[.int .i64 0, .slice B1 m1 k1, .slice B2 m2 k2, .slice B3 m3 k3]] w (RetI w 23) := by
  have HB := Lib.hid (two_boxes w #[.int .i64 code, .int .i64 addr, .int .i64 count, .slice A1 n1 c1, .slice A2 n2 c2, .slice A3 n3 c3] #[.int .i64 0, .slice B1 m1 k1, .slice B2 m2 k2, .slice B3 m3 k3] 37 40)
  go_enter Tryz.func58, Tryz.ntmps58
  go_wp2_with fail
  refine (HC.out _ (ext_pair _ _ _)).mono ?_
  rintro e w1 ⟨rfl, hx⟩
  have HX := Lib.hid hx
  clear hx
  obtain ⟨hb1, hb2⟩ := HB.out _ HX.out
  obtain ⟨d0, d1, d2, d3, d4, d5⟩ := cells6 hb1
  obtain ⟨g0, g1, g2, g3⟩ := cells4 hb2
  clear hb1 hb2
  go_wp2_with fail
  refine (H1.out _).mono ?_
  rintro e wn ⟨rfl, hx⟩
  replace HX := Lib.hid (HX.out.trans hx)
  clear hx d0 d1 d2 d3 d4 d5 g0 g1 g2 g3
  obtain ⟨hb1, hb2⟩ := HB.out _ HX.out
  obtain ⟨d0, d1, d2, d3, d4, d5⟩ := cells6 hb1
  obtain ⟨g0, g1, g2, g3⟩ := cells4 hb2
  clear hb1 hb2
  go_wp2_with fail
  go_ret
  exact ⟨rfl, (ext_pair _ _ _).trans HX.out⟩
theorem ref04_p26 (code addr count exc : Int) (on : List Bool) (set : List UInt16) (parts : List PartD) (A1 A2 A3 B1 B2 B3 : Option Addr) (n1 c1 n2 c2 n3 c3 m1 k1 m2 k2 m3 k3 : Nat) (w : World) (HC : Hid (∀ W, Ext w W → Calls Tryz.prog 45 #[.agg #[.int .i64 code, .int .i64 addr, .int .i64 count, .slice A1 n1 c1, .slice A2 n2 c2, .slice A3 n3 c3]] W (RetI W 0))) (H1 : Hid (∀ W, Calls Tryz.prog 59 #[.agg #[.int .i64 code, .int .i64 addr, .int .i64 count, .slice A1 n1 c1, .slice A2 n2 c2, .slice A3 n3 c3]] W (RetQ W true))) (H2 : Hid (∀ W, Calls Tryz.prog 61 #[.agg #[.int .i64 code, .int .i64 addr, .int .i64 count, .slice A1 n1 c1, .slice A2 n2 c2, .slice A3 n3 c3]] W (RetQ W false))) (H3 : Hid (∀ W, Calls Tryz.prog 63 #[.agg #[.int .i64 code, .int .i64 addr, .int .i64 count, .slice A1 n1 c1, .slice A2 n2 c2, .slice A3 n3 c3]] W (RetQ W false)))  (hne : ((0 : Int) != count) = true) :
    Calls Tryz.prog 58 #[.agg #[.int .i64 code, .int .i64 addr, .int .i64 count, .slice A1 n1 c1, .slice A2 n2 c2, .slice A3 n3 c3], .agg #[.int .i64 0, .slice B1 0 k1, .slice B2 0 k2, .slice B3 0 k3]] w (RetI w 22) := by
  have HB := Lib.hid (two_boxes w #[.int .i64 code, .int .i64 addr, .int .i64 count, .slice A1 n1 c1, .slice A2 n2 c2, .slice A3 n3 c3] #[.int .i64 0, .slice B1 0 k1, .slice B2 0 k2, .slice B3 0 k3] 37 40)
  go_enter Tryz.func58, Tryz.ntmps58
  go_wp2_with fail
  refine (HC.out _ (ext_pair _ _ _)).mono ?_
  rintro e w1 ⟨rfl, hx⟩
  have HX := Lib.hid hx
  clear hx
  obtain ⟨hb1, hb2⟩ := HB.out _ HX.out
  obtain ⟨d0, d1, d2, d3, d4, d5⟩ := cells6 hb1
  obtain ⟨g0, g1, g2, g3⟩ := cells4 hb2
  clear hb1 hb2
  go_wp2_with fail
  refine (H1.out _).mono ?_
  rintro e wn ⟨rfl, hx⟩
  replace HX := Lib.hid (HX.out.trans hx)
  clear hx d0 d1 d2 d3 d4 d5 g0 g1 g2 g3
  obtain ⟨hb1, hb2⟩ := HB.out _ HX.out
  obtain ⟨d0, d1, d2, d3, d4, d5⟩ := cells6 hb1
  obtain ⟨g0, g1, g2, g3⟩ := cells4 hb2
  clear hb1 hb2
  go_wp2_with fail
  go_ret
  exact ⟨rfl, (ext_pair _ _ _).trans HX.out⟩
theorem ref04_p27 (code addr count exc : Int) (on : List Bool) (set : List UInt16) (parts : List PartD) (A1 A2 A3 B1 B2 B3 : Option Addr) (n1 c1 n2 c2 n3 c3 m1 k1 m2 k2 m3 k3 : Nat) (w : World) (HC : Hid (∀ W, Ext w W → Calls Tryz.prog 45 #[.agg #[.int .i64 code, .int .i64 addr, .int .i64 count, .slice A1 n1 c1, .slice A2 n2 c2, .slice A3 n3 c3]] W (RetI W 0))) (H1 : Hid (∀ W, Calls Tryz.prog 59 #[.agg #[.int .i64 code, .int .i64 addr, .int .i64 count, .slice A1 n1 c1, .slice A2 n2 c2, .slice A3 n3 c3]] W (RetQ W true))) (H2 : Hid (∀ W, Calls Tryz.prog 61 #[.agg #[.int .i64 code, .int .i64 addr, .int .i64 count, .slice A1 n1 c1, .slice A2 n2 c2, .slice A3 n3 c3]] W (RetQ W false))) (H3 : Hid (∀ W, Calls Tryz.prog 63 #[.agg #[.int .i64 code, .int .i64 addr, .int .i64 count, .slice A1 n1 c1, .slice A2 n2 c2, .slice A3 n3 c3]] W (RetQ W false)))  (heq : ((0 : Int) != count) = false) :
    Calls Tryz.prog 58 #[.agg #[.int .i64 code, .int .i64 addr, .int .i64 count, .slice A1 n1 c1, .slice A2 n2 c2, .slice A3 n3 c3], .agg #[.int .i64 0, .slice B1 0 k1, .slice B2 0 k2, .slice B3 0 k3]] w (RetI w 0) := by
  have HB := Lib.hid (two_boxes w #[.int .i64 code, .int .i64 addr, .int .i64 count, .slice A1 n1 c1, .slice A2 n2 c2, .slice A3 n3 c3] #[.int .i64 0, .slice B1 0 k1, .slice B2 0 k2, .slice B3 0 k3] 37 40)
  go_enter Tryz.func58, Tryz.ntmps58
  go_wp2_with fail
  refine (HC.out _ (ext_pair _ _ _)).mono ?_
  rintro e w1 ⟨rfl, hx⟩
  have HX := Lib.hid hx
  clear hx
  obtain ⟨hb1, hb2⟩ := HB.out _ HX.out
  obtain ⟨d0, d1, d2, d3, d4, d5⟩ := cells6 hb1
  obtain ⟨g0, g1, g2, g3⟩ := cells4 hb2
  clear hb1 hb2
  go_wp2_with fail
  refine (H1.out _).mono ?_
  rintro e wn ⟨rfl, hx⟩
  replace HX := Lib.hid (HX.out.trans hx)
  clear hx d0 d1 d2 d3 d4 d5 g0 g1 g2 g3
  obtain ⟨hb1, hb2⟩ := HB.out _ HX.out
  obtain ⟨d0, d1, d2, d3, d4, d5⟩ := cells6 hb1
  obtain ⟨g0, g1, g2, g3⟩ := cells4 hb2
  clear hb1 hb2
  go_wp2_with fail
  refine (H2.out _).mono ?_
  rintro e wn ⟨rfl, hx⟩
  replace HX := Lib.hid (HX.out.trans hx)
  clear hx d0 d1 d2 d3 d4 d5 g0 g1 g2 g3
  obtain ⟨hb1, hb2⟩ := HB.out _ HX.out
  obtain ⟨d0, d1, d2, d3, d4, d5⟩ := cells6 hb1
  obtain ⟨g0, g1, g2, g3⟩ := cells4 hb2
  clear hb1 hb2
  go_wp2_with fail
  refine (H3.out _).mono ?_
  rintro e wn ⟨rfl, hx⟩
  replace HX := Lib.hid (HX.out.trans hx)
  clear hx d0 d1 d2 d3 d4 d5 g0 g1 g2 g3
  obtain ⟨hb1, hb2⟩ := HB.out _ HX.out
  obtain ⟨d0, d1, d2, d3, d4, d5⟩ := cells6 hb1
  obtain ⟨g0, g1, g2, g3⟩ := cells4 hb2
  clear hb1 hb2
  go_wp2_with fail
  go_loopw [6] (fun i wr => i = .int .i64 0 ∧ wr = wn) (fun _ _ => 0)
  case atStart => exact ⟨rfl, rfl⟩
  case round =>
    obtain ⟨rfl, rfl⟩ := hrel
    go_wp2_with fail
    go_ret
    exact ⟨rfl, (ext_pair _ _ _).trans HX.out⟩
theorem ref04_p28 (code addr count exc : Int) (on : List Bool) (set : List UInt16) (parts : List PartD) (A1 A2 A3 B1 B2 B3 : Option Addr) (n1 c1 n2 c2 n3 c3 m1 k1 m2 k2 m3 k3 : Nat) (w : World) (HC : Hid (∀ W, Ext w W → Calls Tryz.prog 45 #[.agg #[.int .i64 code, .int .i64 addr, .int .i64 count, .slice A1 n1 c1, .slice A2 n2 c2, .slice A3 n3 c3]] W (RetI W 0))) (H1 : Hid (∀ W, Calls Tryz.prog 59 #[.agg #[.int .i64 code, .int .i64 addr, .int .i64 count, .slice A1 n1 c1, .slice A2 n2 c2, .slice A3 n3 c3]] W (RetQ W true))) (H2 : Hid (∀ W, Calls Tryz.prog 61 #[.agg #[.int .i64 code, .int .i64 addr, .int .i64 count, .slice A1 n1 c1, .slice A2 n2 c2, .slice A3 n3 c3]] W (RetQ W false))) (H3 : Hid (∀ W, Calls Tryz.prog 63 #[.agg #[.int .i64 code, .int .i64 addr, .int .i64 count, .slice A1 n1 c1, .slice A2 n2 c2, .slice A3 n3 c3]] W (RetQ W false))) (p1 : 0 < m1) (hne : (((m1 : Int) : Int) != count) = true) :
    Calls Tryz.prog 58 #[.agg #[.int .i64 code, .int .i64 addr, .int .i64 count, .slice A1 n1 c1, .slice A2 n2 c2, .slice A3 n3 c3], .agg #[.int .i64 0, .slice B1 m1 k1, .slice B2 0 k2, .slice B3 0 k3]] w (RetI w 22) := by
  have HB := Lib.hid (two_boxes w #[.int .i64 code, .int .i64 addr, .int .i64 count, .slice A1 n1 c1, .slice A2 n2 c2, .slice A3 n3 c3] #[.int .i64 0, .slice B1 m1 k1, .slice B2 0 k2, .slice B3 0 k3] 37 40)
  go_enter Tryz.func58, Tryz.ntmps58
  go_wp2_with fail
  refine (HC.out _ (ext_pair _ _ _)).mono ?_
  rintro e w1 ⟨rfl, hx⟩
  have HX := Lib.hid hx
  clear hx
  obtain ⟨hb1, hb2⟩ := HB.out _ HX.out
  obtain ⟨d0, d1, d2, d3, d4, d5⟩ := cells6 hb1
  obtain ⟨g0, g1, g2, g3⟩ := cells4 hb2
  clear hb1 hb2
  go_wp2_with fail
  refine (H1.out _).mono ?_
  rintro e wn ⟨rfl, hx⟩
  replace HX := Lib.hid (HX.out.trans hx)
  clear hx d0 d1 d2 d3 d4 d5 g0 g1 g2 g3
  obtain ⟨hb1, hb2⟩ := HB.out _ HX.out
  obtain ⟨d0, d1, d2, d3, d4, d5⟩ := cells6 hb1
  obtain ⟨g0, g1, g2, g3⟩ := cells4 hb2
  clear hb1 hb2
  go_wp2_with fail
  refine (H1.out _).mono ?_
  rintro e wn ⟨rfl, hx⟩
  replace HX := Lib.hid (HX.out.trans hx)
  clear hx d0 d1 d2 d3 d4 d5 g0 g1 g2 g3
  obtain ⟨hb1, hb2⟩ := HB.out _ HX.out
  obtain ⟨d0, d1, d2, d3, d4, d5⟩ := cells6 hb1
  obtain ⟨g0, g1, g2, g3⟩ := cells4 hb2
  clear hb1 hb2
  go_wp2_with fail
  go_ret
  exact ⟨rfl, (ext_pair _ _ _).trans HX.out⟩
theorem ref04_p29 (code addr count exc : Int) (on : List Bool) (set : List UInt16) (parts : List PartD) (A1 A2 A3 B1 B2 B3 : Option Addr) (n1 c1 n2 c2 n3 c3 m1 k1 m2 k2 m3 k3 : Nat) (w : World) (HC : Hid (∀ W, Ext w W → Calls Tryz.prog 45 #[.agg #[.int .i64 code, .int .i64 addr, .int .i64 count, .slice A1 n1 c1, .slice A2 n2 c2, .slice A3 n3 c3]] W (RetI W 0))) (H1 : Hid (∀ W, Calls Tryz.prog 59 #[.agg #[.int .i64 code, .int .i64 addr, .int .i64 count, .slice A1 n1 c1, .slice A2 n2 c2, .slice A3 n3 c3]] W (RetQ W true))) (H2 : Hid (∀ W, Calls Tryz.prog 61 #[.agg #[.int .i64 code, .int .i64 addr, .int .i64 count, .slice A1 n1 c1, .slice A2 n2 c2, .slice A3 n3 c3]] W (RetQ W false))) (H3 : Hid (∀ W, Calls Tryz.prog 63 #[.agg #[.int .i64 code, .int .i64 addr, .int .i64 count, .slice A1 n1 c1, .slice A2 n2 c2, .slice A3 n3 c3]] W (RetQ W false))) (p1 : 0 < m1) (heq : (((m1 : Int) : Int) != count) = false) :
    Calls Tryz.prog 58 #[.agg #[.int .i64 code, .int .i64 addr, .int .i64 count, .slice A1 n1 c1, .slice A2 n2 c2, .slice A3 n3 c3], .agg #[.int .i64 0, .slice B1 m1 k1, .slice B2 0 k2, .slice B3 0 k3]] w (RetI w 0) := by
  have HB := Lib.hid (two_boxes w #[.int .i64 code, .int .i64 addr, .int .i64 count, .slice A1 n1 c1, .slice A2 n2 c2, .slice A3 n3 c3] #[.int .i64 0, .slice B1 m1 k1, .slice B2 0 k2, .slice B3 0 k3] 37 40)
  go_enter Tryz.func58, Tryz.ntmps58
  go_wp2_with fail
  refine (HC.out _ (ext_pair _ _ _)).mono ?_
  rintro e w1 ⟨rfl, hx⟩
  have HX := Lib.hid hx
  clear hx
  obtain ⟨hb1, hb2⟩ := HB.out _ HX.out
  obtain ⟨d0, d1, d2, d3, d4, d5⟩ := cells6 hb1
  obtain ⟨g0, g1, g2, g3⟩ := cells4 hb2
  clear hb1 hb2
  go_wp2_with fail
  refine (H1.out _).mono ?_
  rintro e wn ⟨rfl, hx⟩
  replace HX := Lib.hid (HX.out.trans hx)
  clear hx d0 d1 d2 d3 d4 d5 g0 g1 g2 g3
  obtain ⟨hb1, hb2⟩ := HB.out _ HX.out
  obtain ⟨d0, d1, d2, d3, d4, d5⟩ := cells6 hb1
  obtain ⟨g0, g1, g2, g3⟩ := cells4 hb2
  clear hb1 hb2
  go_wp2_with fail
  refine (H1.out _).mono ?_
  rintro e wn ⟨rfl, hx⟩
  replace HX := Lib.hid (HX.out.trans hx)
  clear hx d0 d1 d2 d3 d4 d5 g0 g1 g2 g3
  obtain ⟨hb1, hb2⟩ := HB.out _ HX.out
  obtain ⟨d0, d1, d2, d3, d4, d5⟩ := cells6 hb1
  obtain ⟨g0, g1, g2, g3⟩ := cells4 hb2
  clear hb1 hb2
  go_wp2_with fail
  refine (H2.out _).mono ?_
  rintro e wn ⟨rfl, hx⟩
  replace HX := Lib.hid (HX.out.trans hx)
  clear hx d0 d1 d2 d3 d4 d5 g0 g1 g2 g3
  obtain ⟨hb1, hb2⟩ := HB.out _ HX.out
  obtain ⟨d0, d1, d2, d3, d4, d5⟩ := cells6 hb1
  obtain ⟨g0, g1, g2, g3⟩ := cells4 hb2
  clear hb1 hb2
  go_wp2_with fail
  refine (H3.out _).mono ?_
  rintro e wn ⟨rfl, hx⟩
  replace HX := Lib.hid (HX.out.trans hx)
  clear hx d0 d1 d2 d3 d4 d5 g0 g1 g2 g3
  obtain ⟨hb1, hb2⟩ := HB.out _ HX.out
  obtain ⟨d0, d1, d2, d3, d4, d5⟩ := cells6 hb1
  obtain ⟨g0, g1, g2, g3⟩ := cells4 hb2
  clear hb1 hb2
  go_wp2_with fail
  go_loopw [6] (fun i wr => i = .int .i64 0 ∧ wr = wn) (fun _ _ => 0)
  case atStart => exact ⟨rfl, rfl⟩
  case round =>
    obtain ⟨rfl, rfl⟩ := hrel
    go_wp2_with fail
    go_ret
    exact ⟨rfl, (ext_pair _ _ _).trans HX.out⟩
theorem ref04_p30 (code addr count exc : Int) (on : List Bool) (set : List UInt16) (parts : List PartD) (A1 A2 A3 B1 B2 B3 : Option Addr) (n1 c1 n2 c2 n3 c3 m1 k1 m2 k2 m3 k3 : Nat) (w : World) (HC : Hid (∀ W, Ext w W → Calls Tryz.prog 45 #[.agg #[.int .i64 code, .int .i64 addr, .int .i64 count, .slice A1 n1 c1, .slice A2 n2 c2, .slice A3 n3 c3]] W (RetI W 0))) (H1 : Hid (∀ W, Calls Tryz.prog 59 #[.agg #[.int .i64 code, .int .i64 addr, .int .i64 count, .slice A1 n1 c1, .slice A2 n2 c2, .slice A3 n3 c3]] W (RetQ W false))) (H2 : Hid (∀ W, Calls Tryz.prog 61 #[.agg #[.int .i64 code, .int .i64 addr, .int .i64 count, .slice A1 n1 c1, .slice A2 n2 c2, .slice A3 n3 c3]] W (RetQ W true))) (H3 : Hid (∀ W, Calls Tryz.prog 63 #[.agg #[.int .i64 code, .int .i64 addr, .int .i64 count, .slice A1 n1 c1, .slice A2 n2 c2, .slice A3 n3 c3]] W (RetQ W false)))  (hne : ((0 : Int) != count) = true) :
    Calls Tryz.prog 58 #[.agg #[.int .i64 code, .int .i64 addr, .int .i64 count, .slice A1 n1 c1, .slice A2 n2 c2, .slice A3 n3 c3], .agg #[.int .i64 0, .slice B1 0 k1, .slice B2 0 k2, .slice B3 0 k3]] w (RetI w 22) := by
  have HB := Lib.hid (two_boxes w #[.int .i64 code, .int .i64 addr, .int .i64 count, .slice A1 n1 c1, .slice A2 n2 c2, .slice A3 n3 c3] #[.int .i64 0, .slice B1 0 k1, .slice B2 0 k2, .slice B3 0 k3] 37 40)
  go_enter Tryz.func58, Tryz.ntmps58
  go_wp2_with fail
  refine (HC.out _ (ext_pair _ _ _)).mono ?_
  rintro e w1 ⟨rfl, hx⟩
  have HX := Lib.hid hx
  clear hx
  obtain ⟨hb1, hb2⟩ := HB.out _ HX.out
  obtain ⟨d0, d1, d2, d3, d4, d5⟩ := cells6 hb1
  obtain ⟨g0, g1, g2, g3⟩ := cells4 hb2
  clear hb1 hb2
  go_wp2_with fail
  refine (H1.out _).mono ?_
  rintro e wn ⟨rfl, hx⟩
  replace HX := Lib.hid (HX.out.trans hx)
  clear hx d0 d1 d2 d3 d4 d5 g0 g1 g2 g3
  obtain ⟨hb1, hb2⟩ := HB.out _ HX.out
  obtain ⟨d0, d1, d2, d3, d4, d5⟩ := cells6 hb1
  obtain ⟨g0, g1, g2, g3⟩ := cells4 hb2
  clear hb1 hb2
  go_wp2_with fail
  refine (H2.out _).mono ?_
  rintro e wn ⟨rfl, hx⟩
  replace HX := Lib.hid (HX.out.trans hx)
  clear hx d0 d1 d2 d3 d4 d5 g0 g1 g2 g3
  obtain ⟨hb1, hb2⟩ := HB.out _ HX.out
  obtain ⟨d0, d1, d2, d3, d4, d5⟩ := cells6 hb1
  obtain ⟨g0, g1, g2, g3⟩ := cells4 hb2
  clear hb1 hb2
  go_wp2_with fail
  go_ret
  exact ⟨rfl, (ext_pair _ _ _).trans HX.out⟩
theorem ref04_p31 (code addr count exc : Int) (on : List Bool) (set : List UInt16) (parts : List PartD) (A1 A2 A3 B1 B2 B3 : Option Addr) (n1 c1 n2 c2 n3 c3 m1 k1 m2 k2 m3 k3 : Nat) (w : World) (HC : Hid (∀ W, Ext w W → Calls Tryz.prog 45 #[.agg #[.int .i64 code, .int .i64 addr, .int .i64 count, .slice A1 n1 c1, .slice A2 n2 c2, .slice A3 n3 c3]] W (RetI W 0))) (H1 : Hid (∀ W, Calls Tryz.prog 59 #[.agg #[.int .i64 code, .int .i64 addr, .int .i64 count, .slice A1 n1 c1, .slice A2 n2 c2, .slice A3 n3 c3]] W (RetQ W false))) (H2 : Hid (∀ W, Calls Tryz.prog 61 #[.agg #[.int .i64 code, .int .i64 addr, .int .i64 count, .slice A1 n1 c1, .slice A2 n2 c2, .slice A3 n3 c3]] W (RetQ W true))) (H3 : Hid (∀ W, Calls Tryz.prog 63 #[.agg #[.int .i64 code, .int .i64 addr, .int .i64 count, .slice A1 n1 c1, .slice A2 n2 c2, .slice A3 n3 c3]] W (RetQ W false)))  (heq : ((0 : Int) != count) = false) :
    Calls Tryz.prog 58 #[.agg #[.int .i64 code, .int .i64 addr, .int .i64 count, .slice A1 n1 c1, .slice A2 n2 c2, .slice A3 n3 c3], .agg #[.int .i64 0, .slice B1 0 k1, .slice B2 0 k2, .slice B3 0 k3]] w (RetI w 0) := by
  have HB := Lib.hid (two_boxes w #[.int .i64 code, .int .i64 addr, .int .i64 count, .slice A1 n1 c1, .slice A2 n2 c2, .slice A3 n3 c3] #[.int .i64 0, .slice B1 0 k1, .slice B2 0 k2, .slice B3 0 k3] 37 40)
  go_enter Tryz.func58, Tryz.ntmps58
  go_wp2_with fail
  refine (HC.out _ (ext_pair _ _ _)).mono ?_
  rintro e w1 ⟨rfl, hx⟩
  have HX := Lib.hid hx
  clear hx
  obtain ⟨hb1, hb2⟩ := HB.out _ HX.out
  obtain ⟨d0, d1, d2, d3, d4, d5⟩ := cells6 hb1
  obtain ⟨g0, g1, g2, g3⟩ := cells4 hb2
  clear hb1 hb2
  go_wp2_with fail
  refine (H1.out _).mono ?_
  rintro e wn ⟨rfl, hx⟩
  replace HX := Lib.hid (HX.out.trans hx)
  clear hx d0 d1 d2 d3 d4 d5 g0 g1 g2 g3
  obtain ⟨hb1, hb2⟩ := HB.out _ HX.out
  obtain ⟨d0, d1, d2, d3, d4, d5⟩ := cells6 hb1
  obtain ⟨g0, g1, g2, g3⟩ := cells4 hb2
  clear hb1 hb2
  go_wp2_with fail
  refine (H2.out _).mono ?_
  rintro e wn ⟨rfl, hx⟩
  replace HX := Lib.hid (HX.out.trans hx)
  clear hx d0 d1 d2 d3 d4 d5 g0 g1 g2 g3
  obtain ⟨hb1, hb2⟩ := HB.out _ HX.out
  obtain ⟨d0, d1, d2, d3, d4, d5⟩ := cells6 hb1
  obtain ⟨g0, g1, g2, g3⟩ := cells4 hb2
  clear hb1 hb2
  go_wp2_with fail
  refine (H3.out _).mono ?_
  rintro e wn ⟨rfl, hx⟩
  replace HX := Lib.hid (HX.out.trans hx)
  clear hx d0 d1 d2 d3 d4 d5 g0 g1 g2 g3
  obtain ⟨hb1, hb2⟩ := HB.out _ HX.out
  obtain ⟨d0, d1, d2, d3, d4, d5⟩ := cells6 hb1
  obtain ⟨g0, g1, g2, g3⟩ := cells4 hb2
  clear hb1 hb2
  go_wp2_with fail
  go_loopw [6] (fun i wr => i = .int .i64 0 ∧ wr = wn) (fun _ _ => 0)
  case atStart => exact ⟨rfl, rfl⟩
  case round =>
    obtain ⟨rfl, rfl⟩ := hrel
    go_wp2_with fail
    go_ret
    exact ⟨rfl, (ext_pair _ _ _).trans HX.out⟩
theorem ref04_p32 (code addr count exc : Int) (on : List Bool) (set : List UInt16) (parts : List PartD) (A1 A2 A3 B1 B2 B3 : Option Addr) (n1 c1 n2 c2 n3 c3 m1 k1 m2 k2 m3 k3 : Nat) (w : World) (HC : Hid (∀ W, Ext w W → Calls Tryz.prog 45 #[.agg #[.int .i64 code, .int .i64 addr, .int .i64 count, .slice A1 n1 c1, .slice A2 n2 c2, .slice A3 n3 c3]] W (RetI W 0))) (H1 : Hid (∀ W, Calls Tryz.prog 59 #[.agg #[.int .i64 code, .int .i64 addr, .int .i64 count, .slice A1 n1 c1, .slice A2 n2 c2, .slice A3 n3 c3]] W (RetQ W false))) (H2 : Hid (∀ W, Calls Tryz.prog 61 #[.agg #[.int .i64 code, .int .i64 addr, .int .i64 count, .slice A1 n1 c1, .slice A2 n2 c2, .slice A3 n3 c3]] W (RetQ W true))) (H3 : Hid (∀ W, Calls Tryz.prog 63 #[.agg #[.int .i64 code, .int .i64 addr, .int .i64 count, .slice A1 n1 c1, .slice A2 n2 c2, .slice A3 n3 c3]] W (RetQ W false))) (p2 : 0 < m2) (hne : (((m2 : Int) : Int) != count) = true) :
    Calls Tryz.prog 58 #[.agg #[.int .i64 code, .int .i64 addr, .int .i64 count, .slice A1 n1 c1, .slice A2 n2 c2, .slice A3 n3 c3], .agg #[.int .i64 0, .slice B1 0 k1, .slice B2 m2 k2, .slice B3 0 k3]] w (RetI w 22) := by
  have HB := Lib.hid (two_boxes w #[.int .i64 code, .int .i64 addr, .int .i64 count, .slice A1 n1 c1, .slice A2 n2 c2, .slice A3 n3 c3] #[.int .i64 0, .slice B1 0 k1, .slice B2 m2 k2, .slice B3 0 k3] 37 40)
  go_enter Tryz.func58, Tryz.ntmps58
  go_wp2_with fail
  refine (HC.out _ (ext_pair _ _ _)).mono ?_
  rintro e w1 ⟨rfl, hx⟩
  have HX := Lib.hid hx
  clear hx
  obtain ⟨hb1, hb2⟩ := HB.out _ HX.out
  obtain ⟨d0, d1, d2, d3, d4, d5⟩ := cells6 hb1
  obtain ⟨g0, g1, g2, g3⟩ := cells4 hb2
  clear hb1 hb2
  go_wp2_with fail
  refine (H2.out _).mono ?_
  rintro e wn ⟨rfl, hx⟩
  replace HX := Lib.hid (HX.out.trans hx)
  clear hx d0 d1 d2 d3 d4 d5 g0 g1 g2 g3
  obtain ⟨hb1, hb2⟩ := HB.out _ HX.out
  obtain ⟨d0, d1, d2, d3, d4, d5⟩ := cells6 hb1
  obtain ⟨g0, g1, g2, g3⟩ := cells4 hb2
  clear hb1 hb2
  go_wp2_with fail
  refine (H1.out _).mono ?_
  rintro e wn ⟨rfl, hx⟩
  replace HX := Lib.hid (HX.out.trans hx)
  clear hx d0 d1 d2 d3 d4 d5 g0 g1 g2 g3
  obtain ⟨hb1, hb2⟩ := HB.out _ HX.out
  obtain ⟨d0, d1, d2, d3, d4, d5⟩ := cells6 hb1
  obtain ⟨g0, g1, g2, g3⟩ := cells4 hb2
  clear hb1 hb2
  go_wp2_with fail
  refine (H2.out _).mono ?_
  rintro e wn ⟨rfl, hx⟩
  replace HX := Lib.hid (HX.out.trans hx)
  clear hx d0 d1 d2 d3 d4 d5 g0 g1 g2 g3
  obtain ⟨hb1, hb2⟩ := HB.out _ HX.out
  obtain ⟨d0, d1, d2, d3, d4, d5⟩ := cells6 hb1
  obtain ⟨g0, g1, g2, g3⟩ := cells4 hb2
  clear hb1 hb2
  go_wp2_with fail
  go_ret
  exact ⟨rfl, (ext_pair _ _ _).trans HX.out⟩
theorem ref04_p33 (code addr count exc : Int) (on : List Bool) (set : List UInt16) (parts : List PartD) (A1 A2 A3 B1 B2 B3 : Option Addr) (n1 c1 n2 c2 n3 c3 m1 k1 m2 k2 m3 k3 : Nat) (w : World) (HC : Hid (∀ W, Ext w W → Calls Tryz.prog 45 #[.agg #[.int .i64 code, .int .i64 addr, .int .i64 count, .slice A1 n1 c1, .slice A2 n2 c2, .slice A3 n3 c3]] W (RetI W 0))) (H1 : Hid (∀ W, Calls Tryz.prog 59 #[.agg #[.int .i64 code, .int .i64 addr, .int .i64 count, .slice A1 n1 c1, .slice A2 n2 c2, .slice A3 n3 c3]] W (RetQ W false))) (H2 : Hid (∀ W, Calls Tryz.prog 61 #[.agg #[.int .i64 code, .int .i64 addr, .int .i64 count, .slice A1 n1 c1, .slice A2 n2 c2, .slice A3 n3 c3]] W (RetQ W true))) (H3 : Hid (∀ W, Calls Tryz.prog 63 #[.agg #[.int .i64 code, .int .i64 addr, .int .i64 count, .slice A1 n1 c1, .slice A2 n2 c2, .slice A3 n3 c3]] W (RetQ W false))) (p2 : 0 < m2) (heq : (((m2 : Int) : Int) != count) = false) :
    Calls Tryz.prog 58 #[.agg #[.int .i64 code, .int .i64 addr, .int .i64 count, .slice A1 n1 c1, .slice A2 n2 c2, .slice A3 n3 c3], .agg #[.int .i64 0, .slice B1 0 k1, .slice B2 m2 k2, .slice B3 0 k3]] w (RetI w 0) := by
  have HB := Lib.hid (two_boxes w #[.int .i64 code, .int .i64 addr, .int .i64 count, .slice A1 n1 c1, .slice A2 n2 c2, .slice A3 n3 c3] #[.int .i64 0, .slice B1 0 k1, .slice B2 m2 k2, .slice B3 0 k3] 37 40)
  go_enter Tryz.func58, Tryz.ntmps58
  go_wp2_with fail
  refine (HC.out _ (ext_pair _ _ _)).mono ?_
  rintro e w1 ⟨rfl, hx⟩
  have HX := Lib.hid hx
  clear hx
  obtain ⟨hb1, hb2⟩ := HB.out _ HX.out
  obtain ⟨d0, d1, d2, d3, d4, d5⟩ := cells6 hb1
  obtain ⟨g0, g1, g2, g3⟩ := cells4 hb2
  clear hb1 hb2
  go_wp2_with fail
  refine (H2.out _).mono ?_
  rintro e wn ⟨rfl, hx⟩
  replace HX := Lib.hid (HX.out.trans hx)
  clear hx d0 d1 d2 d3 d4 d5 g0 g1 g2 g3
  obtain ⟨hb1, hb2⟩ := HB.out _ HX.out
  obtain ⟨d0, d1, d2, d3, d4, d5⟩ := cells6 hb1
  obtain ⟨g0, g1, g2, g3⟩ := cells4 hb2
  clear hb1 hb2
  go_wp2_with fail
  refine (H1.out _).mono ?_
  rintro e wn ⟨rfl, hx⟩
  replace HX := Lib.hid (HX.out.trans hx)
  clear hx d0 d1 d2 d3 d4 d5 g0 g1 g2 g3
  obtain ⟨hb1, hb2⟩ := HB.out _ HX.out
  obtain ⟨d0, d1, d2, d3, d4, d5⟩ := cells6 hb1
  obtain ⟨g0, g1, g2, g3⟩ := cells4 hb2
  clear hb1 hb2
  go_wp2_with fail
  refine (H2.out _).mono ?_
  rintro e wn ⟨rfl, hx⟩
  replace HX := Lib.hid (HX.out.trans hx)
  clear hx d0 d1 d2 d3 d4 d5 g0 g1 g2 g3
  obtain ⟨hb1, hb2⟩ := HB.out _ HX.out
  obtain ⟨d0, d1, d2, d3, d4, d5⟩ := cells6 hb1
  obtain ⟨g0, g1, g2, g3⟩ := cells4 hb2
  clear hb1 hb2
  go_wp2_with fail
  refine (H3.out _).mono ?_
  rintro e wn ⟨rfl, hx⟩
  replace HX := Lib.hid (HX.out.trans hx)
  clear hx d0 d1 d2 d3 d4 d5 g0 g1 g2 g3
  obtain ⟨hb1, hb2⟩ := HB.out _ HX.out
  obtain ⟨d0, d1, d2, d3, d4, d5⟩ := cells6 hb1
  obtain ⟨g0, g1, g2, g3⟩ := cells4 hb2
  clear hb1 hb2
  go_wp2_with fail
  go_loopw [6] (fun i wr => i = .int .i64 0 ∧ wr = wn) (fun _ _ => 0)
  case atStart => exact ⟨rfl, rfl⟩
  case round =>
    obtain ⟨rfl, rfl⟩ := hrel
    go_wp2_with fail
    go_ret
    exact ⟨rfl, (ext_pair _ _ _).trans HX.out⟩
theorem ref04_p34 (code addr count exc : Int) (on : List Bool) (set : List UInt16) (parts : List PartD) (A1 A2 A3 B1 B2 B3 : Option Addr) (n1 c1 n2 c2 n3 c3 m1 k1 m2 k2 m3 k3 : Nat) (w : World) (HC : Hid (∀ W, Ext w W → Calls Tryz.prog 45 #[.agg #[.int .i64 code, .int .i64 addr, .int .i64 count, .slice A1 n1 c1, .slice A2 n2 c2, .slice A3 n3 c3]] W (RetI W 0))) (H1 : Hid (∀ W, Calls Tryz.prog 59 #[.agg #[.int .i64 code, .int .i64 addr, .int .i64 count, .slice A1 n1 c1, .slice A2 n2 c2, .slice A3 n3 c3]] W (RetQ W false))) (H2 : Hid (∀ W, Calls Tryz.prog 61 #[.agg #[.int .i64 code, .int .i64 addr, .int .i64 count, .slice A1 n1 c1, .slice A2 n2 c2, .slice A3 n3 c3]] W (RetQ W false))) (H3 : Hid (∀ W, Calls Tryz.prog 63 #[.agg #[.int .i64 code, .int .i64 addr, .int .i64 count, .slice A1 n1 c1, .slice A2 n2 c2, .slice A3 n3 c3]] W (RetQ W true)))  (hne : ((0 : Int) != (n3 : Int)) = true) :
    Calls Tryz.prog 58 #[.agg #[.int .i64 code, .int .i64 addr, .int .i64 count, .slice A1 n1 c1, .slice A2 n2 c2, .slice A3 n3 c3], .agg #[.int .i64 0, .slice B1 0 k1, .slice B2 0 k2, .slice B3 0 k3]] w (RetI w 22) := by
  have HB := Lib.hid (two_boxes w #[.int .i64 code, .int .i64 addr, .int .i64 count, .slice A1 n1 c1, .slice A2 n2 c2, .slice A3 n3 c3] #[.int .i64 0, .slice B1 0 k1, .slice B2 0 k2, .slice B3 0 k3] 37 40)
  go_enter Tryz.func58, Tryz.ntmps58
  go_wp2_with fail
  refine (HC.out _ (ext_pair _ _ _)).mono ?_
  rintro e w1 ⟨rfl, hx⟩
  have HX := Lib.hid hx
  clear hx
  obtain ⟨hb1, hb2⟩ := HB.out _ HX.out
  obtain ⟨d0, d1, d2, d3, d4, d5⟩ := cells6 hb1
  obtain ⟨g0, g1, g2, g3⟩ := cells4 hb2
  clear hb1 hb2
  go_wp2_with fail
  refine (H1.out _).mono ?_
  rintro e wn ⟨rfl, hx⟩
  replace HX := Lib.hid (HX.out.trans hx)
  clear hx d0 d1 d2 d3 d4 d5 g0 g1 g2 g3
  obtain ⟨hb1, hb2⟩ := HB.out _ HX.out
  obtain ⟨d0, d1, d2, d3, d4, d5⟩ := cells6 hb1
  obtain ⟨g0, g1, g2, g3⟩ := cells4 hb2
  clear hb1 hb2
  go_wp2_with fail
  refine (H2.out _).mono ?_
  rintro e wn ⟨rfl, hx⟩
  replace HX := Lib.hid (HX.out.trans hx)
  clear hx d0 d1 d2 d3 d4 d5 g0 g1 g2 g3
  obtain ⟨hb1, hb2⟩ := HB.out _ HX.out
  obtain ⟨d0, d1, d2, d3, d4, d5⟩ := cells6 hb1
  obtain ⟨g0, g1, g2, g3⟩ := cells4 hb2
  clear hb1 hb2
  go_wp2_with fail
  refine (H3.out _).mono ?_
  rintro e wn ⟨rfl, hx⟩
  replace HX := Lib.hid (HX.out.trans hx)
  clear hx d0 d1 d2 d3 d4 d5 g0 g1 g2 g3
  obtain ⟨hb1, hb2⟩ := HB.out _ HX.out
  obtain ⟨d0, d1, d2, d3, d4, d5⟩ := cells6 hb1
  obtain ⟨g0, g1, g2, g3⟩ := cells4 hb2
  clear hb1 hb2
  go_wp2_with fail
  go_ret
  exact ⟨rfl, (ext_pair _ _ _).trans HX.out⟩
theorem ref04_p35 (code addr count exc : Int) (on : List Bool) (set : List UInt16) (parts : List PartD) (A1 A2 A3 B1 B2 B3 : Option Addr) (n1 c1 n2 c2 n3 c3 m1 k1 m2 k2 m3 k3 : Nat) (w : World) (HC : Hid (∀ W, Ext w W → Calls Tryz.prog 45 #[.agg #[.int .i64 code, .int .i64 addr, .int .i64 count, .slice A1 n1 c1, .slice A2 n2 c2, .slice A3 n3 c3]] W (RetI W 0))) (H1 : Hid (∀ W, Calls Tryz.prog 59 #[.agg #[.int .i64 code, .int .i64 addr, .int .i64 count, .slice A1 n1 c1, .slice A2 n2 c2, .slice A3 n3 c3]] W (RetQ W false))) (H2 : Hid (∀ W, Calls Tryz.prog 61 #[.agg #[.int .i64 code, .int .i64 addr, .int .i64 count, .slice A1 n1 c1, .slice A2 n2 c2, .slice A3 n3 c3]] W (RetQ W false))) (H3 : Hid (∀ W, Calls Tryz.prog 63 #[.agg #[.int .i64 code, .int .i64 addr, .int .i64 count, .slice A1 n1 c1, .slice A2 n2 c2, .slice A3 n3 c3]] W (RetQ W true)))  (heq : ((0 : Int) != (n3 : Int)) = false) :
    Calls Tryz.prog 58 #[.agg #[.int .i64 code, .int .i64 addr, .int .i64 count, .slice A1 n1 c1, .slice A2 n2 c2, .slice A3 n3 c3], .agg #[.int .i64 0, .slice B1 0 k1, .slice B2 0 k2, .slice B3 0 k3]] w (RetI w 0) := by
  have HB := Lib.hid (two_boxes w #[.int .i64 code, .int .i64 addr, .int .i64 count, .slice A1 n1 c1, .slice A2 n2 c2, .slice A3 n3 c3] #[.int .i64 0, .slice B1 0 k1, .slice B2 0 k2, .slice B3 0 k3] 37 40)
  go_enter Tryz.func58, Tryz.ntmps58
  go_wp2_with fail
  refine (HC.out _ (ext_pair _ _ _)).mono ?_
  rintro e w1 ⟨rfl, hx⟩
  have HX := Lib.hid hx
  clear hx
  obtain ⟨hb1, hb2⟩ := HB.out _ HX.out
  obtain ⟨d0, d1, d2, d3, d4, d5⟩ := cells6 hb1
  obtain ⟨g0, g1, g2, g3⟩ := cells4 hb2
  clear hb1 hb2
  go_wp2_with fail
  refine (H1.out _).mono ?_
  rintro e wn ⟨rfl, hx⟩
  replace HX := Lib.hid (HX.out.trans hx)
  clear hx d0 d1 d2 d3 d4 d5 g0 g1 g2 g3
  obtain ⟨hb1, hb2⟩ := HB.out _ HX.out
  obtain ⟨d0, d1, d2, d3, d4, d5⟩ := cells6 hb1
  obtain ⟨g0, g1, g2, g3⟩ := cells4 hb2
  clear hb1 hb2
  go_wp2_with fail
  refine (H2.out _).mono ?_
  rintro e wn ⟨rfl, hx⟩
  replace HX := Lib.hid (HX.out.trans hx)
  clear hx d0 d1 d2 d3 d4 d5 g0 g1 g2 g3
  obtain ⟨hb1, hb2⟩ := HB.out _ HX.out
  obtain ⟨d0, d1, d2, d3, d4, d5⟩ := cells6 hb1
  obtain ⟨g0, g1, g2, g3⟩ := cells4 hb2
  clear hb1 hb2
  go_wp2_with fail
  refine (H3.out _).mono ?_
  rintro e wn ⟨rfl, hx⟩
  replace HX := Lib.hid (HX.out.trans hx)
  clear hx d0 d1 d2 d3 d4 d5 g0 g1 g2 g3
  obtain ⟨hb1, hb2⟩ := HB.out _ HX.out
  obtain ⟨d0, d1, d2, d3, d4, d5⟩ := cells6 hb1
  obtain ⟨g0, g1, g2, g3⟩ := cells4 hb2
  clear hb1 hb2
  go_wp2_with fail
  go_loopw [6] (fun i wr => i = .int .i64 0 ∧ wr = wn) (fun _ _ => 0)
  case atStart => exact ⟨rfl, rfl⟩
  case round =>
    obtain ⟨rfl, rfl⟩ := hrel
    go_wp2_with fail
    go_ret
    exact ⟨rfl, (ext_pair _ _ _).trans HX.out⟩
theorem ref04_p36 (code addr count exc : Int) (on : List Bool) (set : List UInt16) (parts : List PartD) (A1 A2 A3 B1 B2 B3 : Option Addr) (n1 c1 n2 c2 n3 c3 m1 k1 m2 k2 m3 k3 : Nat) (w : World) (HC : Hid (∀ W, Ext w W → Calls Tryz.prog 45 #[.agg #[.int .i64 code, .int .i64 addr, .int .i64 count, .slice A1 n1 c1, .slice A2 n2 c2, .slice A3 n3 c3]] W (RetI W 0))) (H1 : Hid (∀ W, Calls Tryz.prog 59 #[.agg #[.int .i64 code, .int .i64 addr, .int .i64 count, .slice A1 n1 c1, .slice A2 n2 c2, .slice A3 n3 c3]] W (RetQ W false))) (H2 : Hid (∀ W, Calls Tryz.prog 61 #[.agg #[.int .i64 code, .int .i64 addr, .int .i64 count, .slice A1 n1 c1, .slice A2 n2 c2, .slice A3 n3 c3]] W (RetQ W false))) (H3 : Hid (∀ W, Calls Tryz.prog 63 #[.agg #[.int .i64 code, .int .i64 addr, .int .i64 count, .slice A1 n1 c1, .slice A2 n2 c2, .slice A3 n3 c3]] W (RetQ W true))) (p3 : 0 < m3) (hne : (((m3 : Int) : Int) != (n3 : Int)) = true) :
    Calls Tryz.prog 58 #[.agg #[.int .i64 code, .int .i64 addr, .int .i64 count, .slice A1 n1 c1, .slice A2 n2 c2, .slice A3 n3 c3], .agg #[.int .i64 0, .slice B1 0 k1, .slice B2 0 k2, .slice B3 m3 k3]] w (RetI w 22) := by
  have HB := Lib.hid (two_boxes w #[.int .i64 code, .int .i64 addr, .int .i64 count, .slice A1 n1 c1, .slice A2 n2 c2, .slice A3 n3 c3] #[.int .i64 0, .slice B1 0 k1, .slice B2 0 k2, .slice B3 m3 k3] 37 40)
  go_enter Tryz.func58, Tryz.ntmps58
  go_wp2_with fail
  refine (HC.out _ (ext_pair _ _ _)).mono ?_
  rintro e w1 ⟨rfl, hx⟩
  have HX := Lib.hid hx
  clear hx
  obtain ⟨hb1, hb2⟩ := HB.out _ HX.out
  obtain ⟨d0, d1, d2, d3, d4, d5⟩ := cells6 hb1
  obtain ⟨g0, g1, g2, g3⟩ := cells4 hb2
  clear hb1 hb2
  go_wp2_with fail
  refine (H3.out _).mono ?_
  rintro e wn ⟨rfl, hx⟩
  replace HX := Lib.hid (HX.out.trans hx)
  clear hx d0 d1 d2 d3 d4 d5 g0 g1 g2 g3
  obtain ⟨hb1, hb2⟩ := HB.out _ HX.out
  obtain ⟨d0, d1, d2, d3, d4, d5⟩ := cells6 hb1
  obtain ⟨g0, g1, g2, g3⟩ := cells4 hb2
  clear hb1 hb2
  go_wp2_with fail
  refine (H1.out _).mono ?_
  rintro e wn ⟨rfl, hx⟩
  replace HX := Lib.hid (HX.out.trans hx)
  clear hx d0 d1 d2 d3 d4 d5 g0 g1 g2 g3
  obtain ⟨hb1, hb2⟩ := HB.out _ HX.out
  obtain ⟨d0, d1, d2, d3, d4, d5⟩ := cells6 hb1
  obtain ⟨g0, g1, g2, g3⟩ := cells4 hb2
  clear hb1 hb2
  go_wp2_with fail
  refine (H2.out _).mono ?_
  rintro e wn ⟨rfl, hx⟩
  replace HX := Lib.hid (HX.out.trans hx)
  clear hx d0 d1 d2 d3 d4 d5 g0 g1 g2 g3
  obtain ⟨hb1, hb2⟩ := HB.out _ HX.out
  obtain ⟨d0, d1, d2, d3, d4, d5⟩ := cells6 hb1
  obtain ⟨g0, g1, g2, g3⟩ := cells4 hb2
  clear hb1 hb2
  go_wp2_with fail
  refine (H3.out _).mono ?_
  rintro e wn ⟨rfl, hx⟩
  replace HX := Lib.hid (HX.out.trans hx)
  clear hx d0 d1 d2 d3 d4 d5 g0 g1 g2 g3
  obtain ⟨hb1, hb2⟩ := HB.out _ HX.out
  obtain ⟨d0, d1, d2, d3, d4, d5⟩ := cells6 hb1
  obtain ⟨g0, g1, g2, g3⟩ := cells4 hb2
  clear hb1 hb2
  go_wp2_with fail
  go_ret
  exact ⟨rfl, (ext_pair _ _ _).trans HX.out⟩
theorem ref04_p37 (code addr count exc : Int) (on : List Bool) (set : List UInt16) (parts : List PartD) (A1 A2 A3 B1 B2 B3 : Option Addr) (n1 c1 n2 c2 n3 c3 m1 k1 m2 k2 m3 k3 : Nat) (w : World) (HC : Hid (∀ W, Ext w W → Calls Tryz.prog 45 #[.agg #[.int .i64 code, .int .i64 addr, .int .i64 count, .slice A1 n1 c1, .slice A2 n2 c2, .slice A3 n3 c3]] W (RetI W 0))) (H1 : Hid (∀ W, Calls Tryz.prog 59 #[.agg #[.int .i64 code, .int .i64 addr, .int .i64 count, .slice A1 n1 c1, .slice A2 n2 c2, .slice A3 n3 c3]] W (RetQ W false))) (H2 : Hid (∀ W, Calls Tryz.prog 61 #[.agg #[.int .i64 code, .int .i64 addr, .int .i64 count, .slice A1 n1 c1, .slice A2 n2 c2, .slice A3 n3 c3]] W (RetQ W false))) (H3 : Hid (∀ W, Calls Tryz.prog 63 #[.agg #[.int .i64 code, .int .i64 addr, .int .i64 count, .slice A1 n1 c1, .slice A2 n2 c2, .slice A3 n3 c3]] W (RetQ W false)))   :
    Calls Tryz.prog 58 #[.agg #[.int .i64 code, .int .i64 addr, .int .i64 count, .slice A1 n1 c1, .slice A2 n2 c2, .slice A3 n3 c3], .agg #[.int .i64 0, .slice B1 0 k1, .slice B2 0 k2, .slice B3 0 k3]] w (RetI w 0) := by
  have HB := Lib.hid (two_boxes w #[.int .i64 code, .int .i64 addr, .int .i64 count, .slice A1 n1 c1, .slice A2 n2 c2, .slice A3 n3 c3] #[.int .i64 0, .slice B1 0 k1, .slice B2 0 k2, .slice B3 0 k3] 37 40)
  go_enter Tryz.func58, Tryz.ntmps58
  go_wp2_with fail
  refine (HC.out _ (ext_pair _ _ _)).mono ?_
  rintro e w1 ⟨rfl, hx⟩
  have HX := Lib.hid hx
  clear hx
  obtain ⟨hb1, hb2⟩ := HB.out _ HX.out
  obtain ⟨d0, d1, d2, d3, d4, d5⟩ := cells6 hb1
  obtain ⟨g0, g1, g2, g3⟩ := cells4 hb2
  clear hb1 hb2
  go_wp2_with fail
  refine (H1.out _).mono ?_
  rintro e wn ⟨rfl, hx⟩
  replace HX := Lib.hid (HX.out.trans hx)
  clear hx d0 d1 d2 d3 d4 d5 g0 g1 g2 g3
  obtain ⟨hb1, hb2⟩ := HB.out _ HX.out
  obtain ⟨d0, d1, d2, d3, d4, d5⟩ := cells6 hb1
  obtain ⟨g0, g1, g2, g3⟩ := cells4 hb2
  clear hb1 hb2
  go_wp2_with fail
  refine (H2.out _).mono ?_
  rintro e wn ⟨rfl, hx⟩
  replace HX := Lib.hid (HX.out.trans hx)
  clear hx d0 d1 d2 d3 d4 d5 g0 g1 g2 g3
  obtain ⟨hb1, hb2⟩ := HB.out _ HX.out
  obtain ⟨d0, d1, d2, d3, d4, d5⟩ := cells6 hb1
  obtain ⟨g0, g1, g2, g3⟩ := cells4 hb2
  clear hb1 hb2
  go_wp2_with fail
  refine (H3.out _).mono ?_
  rintro e wn ⟨rfl, hx⟩
  replace HX := Lib.hid (HX.out.trans hx)
  clear hx d0 d1 d2 d3 d4 d5 g0 g1 g2 g3
  obtain ⟨hb1, hb2⟩ := HB.out _ HX.out
  obtain ⟨d0, d1, d2, d3, d4, d5⟩ := cells6 hb1
  obtain ⟨g0, g1, g2, g3⟩ := cells4 hb2
  clear hb1 hb2
  go_wp2_with fail
  go_loopw [6] (fun i wr => i = .int .i64 0 ∧ wr = wn) (fun _ _ => 0)
  case atStart => exact ⟨rfl, rfl⟩
  case round =>
    obtain ⟨rfl, rfl⟩ := hrel
    go_wp2_with fail
    go_ret
    exact ⟨rfl, (ext_pair _ _ _).trans HX.out⟩
end Go.Proofs.YtomcipkmohhpjaaGreat

namespace Go.Proofs.YtomcipkmohhpjaaGreat
set_option linter.unusedVariables false
set_option linter.unusedSimpArgs false
set_option maxRecDepth 100000
set_option maxHeartbeats 2000000
open Go Go.RowKit Go.Out

theorem ref04_files (code addr count exc : Int) (on : List Bool) (set : List UInt16) (parts : List PartD) (A1 A2 A3 B1 B2 B3 : Option Addr) (n1 c1 n2 c2 n3 c3 m1 k1 m2 k2 m3 k3 : Nat) (w : World) (files : List (List UInt16)) (HC : Hid (∀ W, Ext w W → Calls Tryz.prog 45 #[.agg #[.int .i64 code, .int .i64 addr, .int .i64 count, .slice A1 n1 c1, .slice A2 n2 c2, .slice A3 n3 c3]] W (RetI W 0))) (H1 : Hid (∀ W, Calls Tryz.prog 59 #[.agg #[.int .i64 code, .int .i64 addr, .int .i64 count, .slice A1 n1 c1, .slice A2 n2 c2, .slice A3 n3 c3]] W (RetQ W false))) (H2 : Hid (∀ W, Calls Tryz.prog 61 #[.agg #[.int .i64 code, .int .i64 addr, .int .i64 count, .slice A1 n1 c1, .slice A2 n2 c2, .slice A3 n3 c3]] W (RetQ W false))) (H3 : Hid (∀ W, Calls Tryz.prog 63 #[.agg #[.int .i64 code, .int .i64 addr, .int .i64 count, .slice A1 n1 c1, .slice A2 n2 c2, .slice A3 n3 c3]] W (RetQ W true))) (p3 : 0 < m3) (hl : m3 = n3) (ha : RdL partK w A3 n3 parts) (hr : RdL fileK w B3 m3 files) (q1 : m3 ≤ k3 ∧ k3 ≤ 9223372036854775807) (q2 : n3 ≤ c3 ∧ c3 ≤ 9223372036854775807) :
    Calls Tryz.prog 58 #[.agg #[.int .i64 code, .int .i64 addr, .int .i64 count, .slice A1 n1 c1, .slice A2 n2 c2, .slice A3 n3 c3], .agg #[.int .i64 0, .slice B1 0 k1, .slice B2 0 k2, .slice B3 m3 k3]] w (RetI w (if sizedB files parts = true then 0 else 22)) := by
  subst hl
  have G3 := Lib.hid hr.length
  have E3 := Lib.hid ha.length
  have HI := Lib.hid (sizedB_iff (fs := files) (ps := parts) (by rw [G3.out, E3.out]))
  have HA := Lib.hid ha; have HR := Lib.hid hr
  clear ha hr
  generalize hSB : sizedB files parts = SB at *
  have HSB := Lib.hid hSB
  clear hSB
  obtain ⟨RX, hRX⟩ : ∃ RX : Int, (if SB = true then 0 else 22) = RX := ⟨_, rfl⟩
  rw [hRX]
  have HRX := Lib.hid hRX
  clear hRX
  have heq : ((m3 : Int) != (m3 : Int)) = false := by simp
  have HB := Lib.hid (two_boxes w #[.int .i64 code, .int .i64 addr, .int .i64 count, .slice A1 n1 c1, .slice A2 n2 c2, .slice A3 m3 c3] #[.int .i64 0, .slice B1 0 k1, .slice B2 0 k2, .slice B3 m3 k3] 37 40)
  go_enter Tryz.func58, Tryz.ntmps58
  go_wp2_with fail
  refine (HC.out _ (ext_pair _ _ _)).mono ?_
  rintro e w1 ⟨rfl, hx⟩
  have HX := Lib.hid hx
  clear hx
  obtain ⟨hb1, hb2⟩ := HB.out _ HX.out
  obtain ⟨d0, d1, d2, d3, d4, d5⟩ := cells6 hb1
  obtain ⟨g0, g1, g2, g3⟩ := cells4 hb2
  clear hb1 hb2
  go_wp2_with fail
  refine (H3.out _).mono ?_
  rintro e wn ⟨rfl, hx⟩
  replace HX := Lib.hid (HX.out.trans hx)
  clear hx d0 d1 d2 d3 d4 d5 g0 g1 g2 g3
  obtain ⟨hb1, hb2⟩ := HB.out _ HX.out
  obtain ⟨d0, d1, d2, d3, d4, d5⟩ := cells6 hb1
  obtain ⟨g0, g1, g2, g3⟩ := cells4 hb2
  clear hb1 hb2
  go_wp2_with fail
  refine (H1.out _).mono ?_
  rintro e wn ⟨rfl, hx⟩
  replace HX := Lib.hid (HX.out.trans hx)
  clear hx d0 d1 d2 d3 d4 d5 g0 g1 g2 g3
  obtain ⟨hb1, hb2⟩ := HB.out _ HX.out
  obtain ⟨d0, d1, d2, d3, d4, d5⟩ := cells6 hb1
  obtain ⟨g0, g1, g2, g3⟩ := cells4 hb2
  clear hb1 hb2
  go_wp2_with fail
  refine (H2.out _).mono ?_
  rintro e wn ⟨rfl, hx⟩
  replace HX := Lib.hid (HX.out.trans hx)
  clear hx d0 d1 d2 d3 d4 d5 g0 g1 g2 g3
  obtain ⟨hb1, hb2⟩ := HB.out _ HX.out
  obtain ⟨d0, d1, d2, d3, d4, d5⟩ := cells6 hb1
  obtain ⟨g0, g1, g2, g3⟩ := cells4 hb2
  clear hb1 hb2
  go_wp2_with fail
  refine (H3.out _).mono ?_
  rintro e wn ⟨rfl, hx⟩
  replace HX := Lib.hid (HX.out.trans hx)
  clear hx d0 d1 d2 d3 d4 d5 g0 g1 g2 g3
  obtain ⟨hb1, hb2⟩ := HB.out _ HX.out
  obtain ⟨d0, d1, d2, d3, d4, d5⟩ := cells6 hb1
  obtain ⟨g0, g1, g2, g3⟩ := cells4 hb2
  clear hb1 hb2
  go_wp2_with fail
  have hz : w.heap.size + 1 < wn.heap.size := by have := HX.out.size; simp at this; omega
  have HV := Lib.hid (Ext.refl wn)
  obtain ⟨V, hV⟩ : ∃ V, wn = V := ⟨_, rfl⟩
  subst hV
  have HE3 : Hid (∀ W, Ext wn W → W.cell? ⟨w.heap.size + 1, 3, none⟩ = some (.slice B3 m3 k3) ∧ W.cell? ⟨w.heap.size, 5, none⟩ = some (.slice A3 m3 c3)) := fun W hX => ⟨hX.cell hz g3, hX.cell (by omega) d5⟩
  have HXX := Lib.hid ((ext_pair _ _ _).trans HX.out)
  clear d0 d1 d2 d3 d4 d5 g0 g1 g2 g3 HV
  go_loopw [6] (fun j wr => ∃ k : Nat, k ≤ m3 ∧ j = .int .i64 (k : Int) ∧ Ext wn wr ∧ Hid (∀ (q : Nat) (h1 : q < files.length) (h2 : q < parts.length), q < k → (files[q].length : Int) = parts[q].len)) (fun j _ => m3 - (intOf j).toNat)
  case atStart => exact ⟨0, by omega, rfl, Ext.refl _, Lib.hid fun q _ _ h => absurd h (by omega)⟩
  case round =>
    obtain ⟨k, hk, rfl, hx, HG⟩ := hrel
    obtain ⟨e3, e5⟩ := HE3.out _ hx
    rcases Nat.lt_or_ge k m3 with hlt | hge
    · have hf : k < files.length := by rw [G3.out]; exact hlt
      have hp : k < parts.length := by rw [E3.out]; exact hlt
      obtain ⟨b, off, hbA, hbk, hl', cs, -, hc, hR⟩ := (HA.out.ext (HXX.out.trans hx)).at_ hlt
      obtain ⟨rfl, -⟩ := id hR
      have d2 : wr.cell? ⟨b, off + k * 3 + 2, none⟩ = some (.int .i64 parts[k].len) := hc 2 _ rfl
      obtain ⟨g, of2, hbB, hgk, hl2, cs2, -, hc2, A5, n5, c5, rfl, hr5, -⟩ := (HR.out.ext (HXX.out.trans hx)).at_ hlt
      have f0 : wr.cell? ⟨g, of2 + k, none⟩ = some (.slice A5 n5 c5) := by have := hc2 0 _ rfl; simpa [fileK] using this
      have hn5 : files[k].length = n5 := by have := hr5.length; simpa using this
      subst hbA; subst hbB
      have HN := Lib.hid hn5
      have X0 := Lib.hid hx
      have HGS : Hid ((n5 : Int) = parts[k].len → ∀ (q : Nat) (h1 : q < files.length) (h2 : q < parts.length), q < k + 1 → (files[q].length : Int) = parts[q].len) := fun he q q1 q2 hq => by
        by_cases hqk : q = k
        · subst hqk; rw [HN.out]; exact he
        · exact HG.out q q1 q2 (by omega)
      have HGN : Hid ((n5 : Int) ≠ parts[k].len → SB = false) := fun he => by
        cases hs : SB with
        | false => rfl
        | true => exact absurd (by rw [← HN.out]; exact HI.out.1 (by first | exact hs | exact HSB.out.trans hs) k hf hp) he
      generalize parts[k].len = P2 at *
      clear hc hR hc2 hr5 hn5 hx HI HG
      by_cases he : (n5 : Int) = P2
      · have ht : ((n5 : Int) != P2) = false := by simpa using he
        go_wp2_with fail
        go_quiet (fail)
        go_wp2_with fail
        go_roundw
        case rel => exact ⟨k + 1, by omega, by go_num, by repeat' (first | with_reducible exact X0.out | with_reducible refine Ext.drewN' ?_ _ | with_reducible refine Ext.drew' ?_ | with_reducible refine Ext.alloc' ?_ _), Lib.hid (HGS.out he)⟩
        case measure => simp [intOf]; omega
      · have ht : ((n5 : Int) != P2) = true := by simpa using he
        go_wp2_with fail
        go_quiet (fail)
        go_wp2_with fail
        go_ret
        refine RetI.of (by rw [← HRX.out, HGN.out he]; rfl) (HXX.out.trans ?_)
        repeat' (first | with_reducible exact X0.out | with_reducible refine Ext.drewN' ?_ _ | with_reducible refine Ext.drew' ?_ | with_reducible refine Ext.alloc' ?_ _)
    · obtain rfl : k = m3 := by omega
      have hS : SB = true := by
        have h1 := HI.out.2 fun q h1 h2 => HG.out q h1 h2 (by rw [← G3.out]; exact h1)
        first | exact h1 | exact HSB.out.symm.trans h1
      go_wp2_with fail
      go_ret
      exact RetI.of (by rw [← HRX.out, hS]; rfl) (HXX.out.trans hx)
end Go.Proofs.YtomcipkmohhpjaaGreat

namespace Go.Proofs.YtomcipkmohhpjaaGreat
set_option linter.unusedVariables false
set_option linter.unusedSimpArgs false
set_option maxRecDepth 100000
set_option maxHeartbeats 2000000
open Go Go.RowKit Go.Out

theorem ref04_bits (code addr count exc : Int) (on : List Bool) (set : List UInt16) (parts : List PartD) (A1 A2 A3 B1 B2 B3 : Option Addr) (n1 c1 n2 c2 n3 c3 m1 k1 m2 k2 m3 k3 : Nat) (w : World) (HC : Hid (∀ W, Ext w W → Calls Tryz.prog 45 #[.agg #[.int .i64 code, .int .i64 addr, .int .i64 count, .slice A1 n1 c1, .slice A2 n2 c2, .slice A3 n3 c3]] W (RetI W 0))) (H1 : Hid (∀ W, Calls Tryz.prog 59 #[.agg #[.int .i64 code, .int .i64 addr, .int .i64 count, .slice A1 n1 c1, .slice A2 n2 c2, .slice A3 n3 c3]] W (RetQ W true))) (H2 : Hid (∀ W, Calls Tryz.prog 61 #[.agg #[.int .i64 code, .int .i64 addr, .int .i64 count, .slice A1 n1 c1, .slice A2 n2 c2, .slice A3 n3 c3]] W (RetQ W false))) (H3 : Hid (∀ W, Calls Tryz.prog 63 #[.agg #[.int .i64 code, .int .i64 addr, .int .i64 count, .slice A1 n1 c1, .slice A2 n2 c2, .slice A3 n3 c3]] W (RetQ W false))) :
    Calls Tryz.prog 58 #[.agg #[.int .i64 code, .int .i64 addr, .int .i64 count, .slice A1 n1 c1, .slice A2 n2 c2, .slice A3 n3 c3], .agg #[.int .i64 0, .slice B1 m1 k1, .slice B2 m2 k2, .slice B3 m3 k3]] w (RetI w (if 0 < m2 ∨ 0 < m3 then 23 else if (m1 : Int) = count then 0 else 22)) := by
  rcases Nat.eq_zero_or_pos m1 with rfl | p1 <;> rcases Nat.eq_zero_or_pos m2 with rfl | p2 <;> rcases Nat.eq_zero_or_pos m3 with rfl | p3
  · rw [if_neg (by omega)]
    by_cases he : ((0 : Nat) : Int) = count
    · rw [if_pos he]; exact ref04_p27 code addr count exc on set parts A1 A2 A3 B1 B2 B3 n1 c1 n2 c2 n3 c3 0 k1 0 k2 0 k3 w HC H1 H2 H3 (by simpa using he)
    · rw [if_neg he]; exact ref04_p26 code addr count exc on set parts A1 A2 A3 B1 B2 B3 n1 c1 n2 c2 n3 c3 0 k1 0 k2 0 k3 w HC H1 H2 H3 (by simpa using he)
  · rw [if_pos (by omega)]; exact ref04_p1 code addr count exc on set parts A1 A2 A3 B1 B2 B3 n1 c1 n2 c2 n3 c3 0 k1 0 k2 m3 k3 w HC H1 H2 H3 p3
  · rw [if_pos (by omega)]; exact ref04_p2 code addr count exc on set parts A1 A2 A3 B1 B2 B3 n1 c1 n2 c2 n3 c3 0 k1 m2 k2 0 k3 w HC H1 H2 H3 p2
  · rw [if_pos (by omega)]; exact ref04_p3 code addr count exc on set parts A1 A2 A3 B1 B2 B3 n1 c1 n2 c2 n3 c3 0 k1 m2 k2 m3 k3 w HC H1 H2 H3 p2 p3
  · rw [if_neg (by omega)]
    by_cases he : (m1 : Int) = count
    · rw [if_pos he]; exact ref04_p29 code addr count exc on set parts A1 A2 A3 B1 B2 B3 n1 c1 n2 c2 n3 c3 m1 k1 0 k2 0 k3 w HC H1 H2 H3 p1 (by simpa using he)
    · rw [if_neg he]; exact ref04_p28 code addr count exc on set parts A1 A2 A3 B1 B2 B3 n1 c1 n2 c2 n3 c3 m1 k1 0 k2 0 k3 w HC H1 H2 H3 p1 (by simpa using he)
  · rw [if_pos (by omega)]; exact ref04_p4 code addr count exc on set parts A1 A2 A3 B1 B2 B3 n1 c1 n2 c2 n3 c3 m1 k1 0 k2 m3 k3 w HC H1 H2 H3 p1 p3
  · rw [if_pos (by omega)]; exact ref04_p5 code addr count exc on set parts A1 A2 A3 B1 B2 B3 n1 c1 n2 c2 n3 c3 m1 k1 m2 k2 0 k3 w HC H1 H2 H3 p1 p2
  · rw [if_pos (by omega)]; exact ref04_p6 code addr count exc on set parts A1 A2 A3 B1 B2 B3 n1 c1 n2 c2 n3 c3 m1 k1 m2 k2 m3 k3 w HC H1 H2 H3 p1 p2 p3
theorem ref04_words (code addr count exc : Int) (on : List Bool) (set : List UInt16) (parts : List PartD) (A1 A2 A3 B1 B2 B3 : Option Addr) (n1 c1 n2 c2 n3 c3 m1 k1 m2 k2 m3 k3 : Nat) (w : World) (HC : Hid (∀ W, Ext w W → Calls Tryz.prog 45 #[.agg #[.int .i64 code, .int .i64 addr, .int .i64 count, .slice A1 n1 c1, .slice A2 n2 c2, .slice A3 n3 c3]] W (RetI W 0))) (H1 : Hid (∀ W, Calls Tryz.prog 59 #[.agg #[.int .i64 code, .int .i64 addr, .int .i64 count, .slice A1 n1 c1, .slice A2 n2 c2, .slice A3 n3 c3]] W (RetQ W false))) (H2 : Hid (∀ W, Calls Tryz.prog 61 #[.agg #[.int .i64 code, .int .i64 addr, .int .i64 count, .slice A1 n1 c1, .slice A2 n2 c2, .slice A3 n3 c3]] W (RetQ W true))) (H3 : Hid (∀ W, Calls Tryz.prog 63 #[.agg #[.int .i64 code, .int .i64 addr, .int .i64 count, .slice A1 n1 c1, .slice A2 n2 c2, .slice A3 n3 c3]] W (RetQ W false))) :
    Calls Tryz.prog 58 #[.agg #[.int .i64 code, .int .i64 addr, .int .i64 count, .slice A1 n1 c1, .slice A2 n2 c2, .slice A3 n3 c3], .agg #[.int .i64 0, .slice B1 m1 k1, .slice B2 m2 k2, .slice B3 m3 k3]] w (RetI w (if 0 < m1 ∨ 0 < m3 then 23 else if (m2 : Int) = count then 0 else 22)) := by
  rcases Nat.eq_zero_or_pos m1 with rfl | p1 <;> rcases Nat.eq_zero_or_pos m2 with rfl | p2 <;> rcases Nat.eq_zero_or_pos m3 with rfl | p3
  · rw [if_neg (by omega)]
    by_cases he : ((0 : Nat) : Int) = count
    · rw [if_pos he]; exact ref04_p31 code addr count exc on set parts A1 A2 A3 B1 B2 B3 n1 c1 n2 c2 n3 c3 0 k1 0 k2 0 k3 w HC H1 H2 H3 (by simpa using he)
    · rw [if_neg he]; exact ref04_p30 code addr count exc on set parts A1 A2 A3 B1 B2 B3 n1 c1 n2 c2 n3 c3 0 k1 0 k2 0 k3 w HC H1 H2 H3 (by simpa using he)
  · rw [if_pos (by omega)]; exact ref04_p7 code addr count exc on set parts A1 A2 A3 B1 B2 B3 n1 c1 n2 c2 n3 c3 0 k1 0 k2 m3 k3 w HC H1 H2 H3 p3
  · rw [if_neg (by omega)]
    by_cases he : (m2 : Int) = count
    · rw [if_pos he]; exact ref04_p33 code addr count exc on set parts A1 A2 A3 B1 B2 B3 n1 c1 n2 c2 n3 c3 0 k1 m2 k2 0 k3 w HC H1 H2 H3 p2 (by simpa using he)
    · rw [if_neg he]; exact ref04_p32 code addr count exc on set parts A1 A2 A3 B1 B2 B3 n1 c1 n2 c2 n3 c3 0 k1 m2 k2 0 k3 w HC H1 H2 H3 p2 (by simpa using he)
  · rw [if_pos (by omega)]; exact ref04_p8 code addr count exc on set parts A1 A2 A3 B1 B2 B3 n1 c1 n2 c2 n3 c3 0 k1 m2 k2 m3 k3 w HC H1 H2 H3 p2 p3
  · rw [if_pos (by omega)]; exact ref04_p9 code addr count exc on set parts A1 A2 A3 B1 B2 B3 n1 c1 n2 c2 n3 c3 m1 k1 0 k2 0 k3 w HC H1 H2 H3 p1
  · rw [if_pos (by omega)]; exact ref04_p10 code addr count exc on set parts A1 A2 A3 B1 B2 B3 n1 c1 n2 c2 n3 c3 m1 k1 0 k2 m3 k3 w HC H1 H2 H3 p1 p3
  · rw [if_pos (by omega)]; exact ref04_p11 code addr count exc on set parts A1 A2 A3 B1 B2 B3 n1 c1 n2 c2 n3 c3 m1 k1 m2 k2 0 k3 w HC H1 H2 H3 p1 p2
  · rw [if_pos (by omega)]; exact ref04_p12 code addr count exc on set parts A1 A2 A3 B1 B2 B3 n1 c1 n2 c2 n3 c3 m1 k1 m2 k2 m3 k3 w HC H1 H2 H3 p1 p2 p3
theorem ref04_none (code addr count exc : Int) (on : List Bool) (set : List UInt16) (parts : List PartD) (A1 A2 A3 B1 B2 B3 : Option Addr) (n1 c1 n2 c2 n3 c3 m1 k1 m2 k2 m3 k3 : Nat) (w : World) (HC : Hid (∀ W, Ext w W → Calls Tryz.prog 45 #[.agg #[.int .i64 code, .int .i64 addr, .int .i64 count, .slice A1 n1 c1, .slice A2 n2 c2, .slice A3 n3 c3]] W (RetI W 0))) (H1 : Hid (∀ W, Calls Tryz.prog 59 #[.agg #[.int .i64 code, .int .i64 addr, .int .i64 count, .slice A1 n1 c1, .slice A2 n2 c2, .slice A3 n3 c3]] W (RetQ W false))) (H2 : Hid (∀ W, Calls Tryz.prog 61 #[.agg #[.int .i64 code, .int .i64 addr, .int .i64 count, .slice A1 n1 c1, .slice A2 n2 c2, .slice A3 n3 c3]] W (RetQ W false))) (H3 : Hid (∀ W, Calls Tryz.prog 63 #[.agg #[.int .i64 code, .int .i64 addr, .int .i64 count, .slice A1 n1 c1, .slice A2 n2 c2, .slice A3 n3 c3]] W (RetQ W false))) :
    Calls Tryz.prog 58 #[.agg #[.int .i64 code, .int .i64 addr, .int .i64 count, .slice A1 n1 c1, .slice A2 n2 c2, .slice A3 n3 c3], .agg #[.int .i64 0, .slice B1 m1 k1, .slice B2 m2 k2, .slice B3 m3 k3]] w (RetI w (if 0 < m1 ∨ 0 < m2 ∨ 0 < m3 then 23 else 0)) := by
  rcases Nat.eq_zero_or_pos m1 with rfl | p1 <;> rcases Nat.eq_zero_or_pos m2 with rfl | p2 <;> rcases Nat.eq_zero_or_pos m3 with rfl | p3
  · rw [if_neg (by omega)]; exact ref04_p37 code addr count exc on set parts A1 A2 A3 B1 B2 B3 n1 c1 n2 c2 n3 c3 0 k1 0 k2 0 k3 w HC H1 H2 H3
  · rw [if_pos (by omega)]; exact ref04_p19 code addr count exc on set parts A1 A2 A3 B1 B2 B3 n1 c1 n2 c2 n3 c3 0 k1 0 k2 m3 k3 w HC H1 H2 H3 p3
  · rw [if_pos (by omega)]; exact ref04_p20 code addr count exc on set parts A1 A2 A3 B1 B2 B3 n1 c1 n2 c2 n3 c3 0 k1 m2 k2 0 k3 w HC H1 H2 H3 p2
  · rw [if_pos (by omega)]; exact ref04_p21 code addr count exc on set parts A1 A2 A3 B1 B2 B3 n1 c1 n2 c2 n3 c3 0 k1 m2 k2 m3 k3 w HC H1 H2 H3 p2 p3
  · rw [if_pos (by omega)]; exact ref04_p22 code addr count exc on set parts A1 A2 A3 B1 B2 B3 n1 c1 n2 c2 n3 c3 m1 k1 0 k2 0 k3 w HC H1 H2 H3 p1
  · rw [if_pos (by omega)]; exact ref04_p23 code addr count exc on set parts A1 A2 A3 B1 B2 B3 n1 c1 n2 c2 n3 c3 m1 k1 0 k2 m3 k3 w HC H1 H2 H3 p1 p3
  · rw [if_pos (by omega)]; exact ref04_p24 code addr count exc on set parts A1 A2 A3 B1 B2 B3 n1 c1 n2 c2 n3 c3 m1 k1 m2 k2 0 k3 w HC H1 H2 H3 p1 p2
  · rw [if_pos (by omega)]; exact ref04_p25 code addr count exc on set parts A1 A2 A3 B1 B2 B3 n1 c1 n2 c2 n3 c3 m1 k1 m2 k2 m3 k3 w HC H1 H2 H3 p1 p2 p3
theorem sizedB_nil : ∀ {fs : List (List UInt16)} {ps : List PartD}, fs.length = 0 → ps.length = 0 → sizedB fs ps = true
  | [], [], _, _ => rfl
  | _ :: _, _, h, _ => by simp at h
  | [], _ :: _, _, h => by simp at h
theorem ref04_fil (code addr count exc : Int) (on : List Bool) (set : List UInt16) (parts : List PartD) (A1 A2 A3 B1 B2 B3 : Option Addr) (n1 c1 n2 c2 n3 c3 m1 k1 m2 k2 m3 k3 : Nat) (w : World) (HC : Hid (∀ W, Ext w W → Calls Tryz.prog 45 #[.agg #[.int .i64 code, .int .i64 addr, .int .i64 count, .slice A1 n1 c1, .slice A2 n2 c2, .slice A3 n3 c3]] W (RetI W 0))) (H1 : Hid (∀ W, Calls Tryz.prog 59 #[.agg #[.int .i64 code, .int .i64 addr, .int .i64 count, .slice A1 n1 c1, .slice A2 n2 c2, .slice A3 n3 c3]] W (RetQ W false))) (H2 : Hid (∀ W, Calls Tryz.prog 61 #[.agg #[.int .i64 code, .int .i64 addr, .int .i64 count, .slice A1 n1 c1, .slice A2 n2 c2, .slice A3 n3 c3]] W (RetQ W false))) (H3 : Hid (∀ W, Calls Tryz.prog 63 #[.agg #[.int .i64 code, .int .i64 addr, .int .i64 count, .slice A1 n1 c1, .slice A2 n2 c2, .slice A3 n3 c3]] W (RetQ W true))) (files : List (List UInt16)) (ha : RdL partK w A3 n3 parts) (hr : RdL fileK w B3 m3 files) (q1 : m3 ≤ k3 ∧ k3 ≤ 9223372036854775807) (q2 : n3 ≤ c3 ∧ c3 ≤ 9223372036854775807) :
    Calls Tryz.prog 58 #[.agg #[.int .i64 code, .int .i64 addr, .int .i64 count, .slice A1 n1 c1, .slice A2 n2 c2, .slice A3 n3 c3], .agg #[.int .i64 0, .slice B1 m1 k1, .slice B2 m2 k2, .slice B3 m3 k3]] w (RetI w (if 0 < m1 ∨ 0 < m2 then 23 else if sizedB files parts = true then 0 else 22)) := by
  rcases Nat.eq_zero_or_pos m1 with rfl | p1 <;> rcases Nat.eq_zero_or_pos m2 with rfl | p2 <;> rcases Nat.eq_zero_or_pos m3 with rfl | p3
  · rw [if_neg (by omega)]
    by_cases he : n3 = 0
    · subst he
      rw [sizedB_nil hr.length ha.length, if_pos rfl]; exact ref04_p35 code addr count exc on set parts A1 A2 A3 B1 B2 B3 n1 c1 n2 c2 0 c3 0 k1 0 k2 0 k3 w HC H1 H2 H3 rfl
    · rw [sizedB_len (by rw [hr.length, ha.length]; omega), if_neg (by simp)]; exact ref04_p34 code addr count exc on set parts A1 A2 A3 B1 B2 B3 n1 c1 n2 c2 n3 c3 0 k1 0 k2 0 k3 w HC H1 H2 H3 (by simp; omega)
  · rw [if_neg (by omega)]
    by_cases he : m3 = n3
    · exact ref04_files code addr count exc on set parts A1 A2 A3 B1 B2 B3 n1 c1 n2 c2 n3 c3 0 k1 0 k2 m3 k3 w files HC H1 H2 H3 p3 he ha hr q1 q2
    · rw [sizedB_len (by rw [hr.length, ha.length]; omega), if_neg (by simp)]; exact ref04_p36 code addr count exc on set parts A1 A2 A3 B1 B2 B3 n1 c1 n2 c2 n3 c3 0 k1 0 k2 m3 k3 w HC H1 H2 H3 p3 (by simp; omega)
  · rw [if_pos (by omega)]; exact ref04_p13 code addr count exc on set parts A1 A2 A3 B1 B2 B3 n1 c1 n2 c2 n3 c3 0 k1 m2 k2 0 k3 w HC H1 H2 H3 p2
  · rw [if_pos (by omega)]; exact ref04_p14 code addr count exc on set parts A1 A2 A3 B1 B2 B3 n1 c1 n2 c2 n3 c3 0 k1 m2 k2 m3 k3 w HC H1 H2 H3 p2 p3
  · rw [if_pos (by omega)]; exact ref04_p15 code addr count exc on set parts A1 A2 A3 B1 B2 B3 n1 c1 n2 c2 n3 c3 m1 k1 0 k2 0 k3 w HC H1 H2 H3 p1
  · rw [if_pos (by omega)]; exact ref04_p16 code addr count exc on set parts A1 A2 A3 B1 B2 B3 n1 c1 n2 c2 n3 c3 m1 k1 0 k2 m3 k3 w HC H1 H2 H3 p1 p3
  · rw [if_pos (by omega)]; exact ref04_p17 code addr count exc on set parts A1 A2 A3 B1 B2 B3 n1 c1 n2 c2 n3 c3 m1 k1 m2 k2 0 k3 w HC H1 H2 H3 p1 p2
  · rw [if_pos (by omega)]; exact ref04_p18 code addr count exc on set parts A1 A2 A3 B1 B2 B3 n1 c1 n2 c2 n3 c3 m1 k1 m2 k2 m3 k3 w HC H1 H2 H3 p1 p2 p3

theorem cls_eq (m2 m3 : Nat) (P : Prop) [Decidable P] : (if 0 < m2 ∨ 0 < m3 then (23 : Int) else if P then 0 else 22) = if (decide (0 < m2) || decide (0 < m3)) = true then 23 else if decide P = false then 22 else 0 := by
  by_cases h2 : 0 < m2 ∨ 0 < m3
  · rw [if_pos h2, if_pos (by simpa using h2)]
  · rw [if_neg h2]
    have h4 : (decide (0 < m2) || decide (0 < m3)) = false := by simp; omega
    rw [h4]
    by_cases h3 : P <;> simp [h3]
theorem cls_eqb (m2 m3 : Nat) (b : Bool) : (if 0 < m2 ∨ 0 < m3 then (23 : Int) else if b = true then 0 else 22) = if (decide (0 < m2) || decide (0 < m3)) = true then 23 else if b = false then 22 else 0 := by
  rw [cls_eq m2 m3 (b = true)]
  cases b <;> rfl
theorem cls_eq3 (m1 m2 m3 : Nat) (b : Bool) (hb : m3 = 0 → b = true) : (if 0 < m1 ∨ 0 < m2 ∨ 0 < m3 then (23 : Int) else 0) = if (decide (0 < m1) || decide (0 < m2) || decide (0 < m3)) = true then 23 else if b = false then 22 else 0 := by
  by_cases h2 : 0 < m1 ∨ 0 < m2 ∨ 0 < m3
  · rw [if_pos h2, if_pos (by simp; omega)]
  · rw [if_neg h2]
    have h4 : (decide (0 < m1) || decide (0 < m2) || decide (0 < m3)) = false := by simp; omega
    rw [h4, hb (by omega)]
    rfl
theorem parts_none {a : AskD} (h : checkF a = 0) (h1 : a.code ≠ 20) : a.parts.length = 0 := by
  have h2 := (checkF_parts a h).2.1
  unfold fieldP at h2
  omega
theorem ref04Check_any (a : AskD) (r : RepD) (s : AskS) (t : RepS) (w : World) (ha : AskRd w a s) (hr : RepRd w r t) :
    Calls Tryz.prog 58 #[askV a s, repV r t] w (RetI w (checkR a r)) := by
  have HC := Lib.hid (fun W (hX : Ext w W) => refCheck_any a s W (ha.ext hX))
  have H1 := Lib.hid (fun W => bits04_any a s W)
  have H2 := Lib.hid (fun W => words04_any a s W)
  have H3 := Lib.hid (fun W => files04_any a s W)
  have e1 := hr.n1; have e2 := hr.n2; have e3 := hr.n3
  have hpa := ha.parts; have hfi := hr.files; have q1 := hr.cap3; have q2 := ha.cap3
  have hp := fun h => @codeP_of a h
  by_cases hK : checkF a = 0
  · have hcp := hp hK
    rw [hK] at HC
    by_cases hE : r.exc = 0
    · have hR : checkR a r = if foreignB a.code t.n1 t.n2 t.n3 = true then 23 else if countedB a r = false then 22 else 0 := by
        unfold checkR; rw [if_neg (by simpa using hK), if_neg (by simpa using hE), e1, e2, e3]
      rw [hR]
      have hcb : countedB a r = if a.code = 1 ∨ a.code = 2 then decide ((t.n1 : Int) = a.count) else if a.code = 3 ∨ a.code = 4 then decide ((t.n2 : Int) = a.count) else sizedB r.files a.parts := by
        unfold countedB; rw [e1, e2]
      rw [hcb]
      have hszd : t.n3 = 0 → (a.code ≠ 20) → checkF a = 0 → sizedB r.files a.parts = true := fun h0 h1 h2 => sizedB_nil (by rw [e3]; exact h0) (parts_none h2 h1)
      clear ha hr hR hcb hp
      obtain ⟨code, addr, count, on, set, parts⟩ := a
      obtain ⟨exc, ron, rset, files⟩ := r
      obtain ⟨A1, n1, c1, A2, n2, c2, A3, n3, c3⟩ := s
      obtain ⟨B1, m1, k1, B2, m2, k2, B3, m3, k3⟩ := t
      simp only [askV, repV] at HC H1 H2 H3 hE hcp hszd hpa hfi q1 q2 ⊢
      subst hE
      by_cases c1' : code = 1 ∨ code = 2
      · rw [decide_eq_true c1'] at H1
        rw [decide_eq_false (by omega)] at H2
        rw [decide_eq_false (by omega)] at H3
        have h := ref04_bits code addr count 0 on set parts A1 A2 A3 B1 B2 B3 n1 c1 n2 c2 n3 c3 m1 k1 m2 k2 m3 k3 w HC H1 H2 H3
        refine cast (congrArg (fun x => Calls _ _ _ w (RetI w x)) ?_) h
        rw [show foreignB code m1 m2 m3 = (decide (0 < m2) || decide (0 < m3)) by unfold foreignB; rw [if_pos c1']]
        rw [show (if code = 1 ∨ code = 2 then decide ((m1 : Int) = count) else if code = 3 ∨ code = 4 then decide ((m2 : Int) = count) else sizedB files parts) = decide ((m1 : Int) = count) by rw [if_pos c1']]
        exact cls_eq _ _ _
      by_cases c2' : code = 3 ∨ code = 4
      · rw [decide_eq_false (by omega)] at H1
        rw [decide_eq_true c2'] at H2
        rw [decide_eq_false (by omega)] at H3
        have h := ref04_words code addr count 0 on set parts A1 A2 A3 B1 B2 B3 n1 c1 n2 c2 n3 c3 m1 k1 m2 k2 m3 k3 w HC H1 H2 H3
        refine cast (congrArg (fun x => Calls _ _ _ w (RetI w x)) ?_) h
        rw [show foreignB code m1 m2 m3 = (decide (0 < m1) || decide (0 < m3)) by unfold foreignB; rw [if_neg c1', if_pos c2']]
        rw [show (if code = 1 ∨ code = 2 then decide ((m1 : Int) = count) else if code = 3 ∨ code = 4 then decide ((m2 : Int) = count) else sizedB files parts) = decide ((m2 : Int) = count) by rw [if_neg c1', if_pos c2']]
        exact cls_eq _ _ _
      by_cases c3' : code = 20
      · rw [decide_eq_false (by omega)] at H1
        rw [decide_eq_false (by omega)] at H2
        rw [decide_eq_true c3'] at H3
        have h := ref04_fil code addr count 0 on set parts A1 A2 A3 B1 B2 B3 n1 c1 n2 c2 n3 c3 m1 k1 m2 k2 m3 k3 w HC H1 H2 H3 files hpa hfi q1 q2
        refine cast (congrArg (fun x => Calls _ _ _ w (RetI w x)) ?_) h
        rw [show foreignB code m1 m2 m3 = (decide (0 < m1) || decide (0 < m2)) by unfold foreignB; rw [if_neg c1', if_neg c2', if_pos c3']]
        rw [show (if code = 1 ∨ code = 2 then decide ((m1 : Int) = count) else if code = 3 ∨ code = 4 then decide ((m2 : Int) = count) else sizedB files parts) = sizedB files parts by rw [if_neg c1', if_neg c2']]
        exact cls_eqb _ _ _
      · rw [decide_eq_false (by omega)] at H1
        rw [decide_eq_false (by omega)] at H2
        rw [decide_eq_false (by omega)] at H3
        have h := ref04_none code addr count 0 on set parts A1 A2 A3 B1 B2 B3 n1 c1 n2 c2 n3 c3 m1 k1 m2 k2 m3 k3 w HC H1 H2 H3
        refine cast (congrArg (fun x => Calls _ _ _ w (RetI w x)) ?_) h
        rw [show foreignB code m1 m2 m3 = (decide (0 < m1) || decide (0 < m2) || decide (0 < m3)) by unfold foreignB; rw [if_neg c1', if_neg c2', if_neg c3']]
        rw [show (if code = 1 ∨ code = 2 then decide ((m1 : Int) = count) else if code = 3 ∨ code = 4 then decide ((m2 : Int) = count) else sizedB files parts) = sizedB files parts by rw [if_neg c1', if_neg c2']]
        exact cls_eq3 _ _ _ _ fun h0 => hszd h0 c3' hK
    · have f1 : (r.exc < 1 ∨ 127 < r.exc) → checkR a r = 3 := fun h2 => by unfold checkR; rw [if_neg (by simpa using hK), if_pos hE, if_pos h2]
      have f2 : ¬ (r.exc < 1 ∨ 127 < r.exc) → (0 < t.n1 ∨ 0 < t.n2 ∨ 0 < t.n3) → checkR a r = 23 := fun h2 h3 => by unfold checkR; rw [if_neg (by simpa using hK), if_pos hE, if_neg h2, if_pos (by omega)]
      have f3 : ¬ (r.exc < 1 ∨ 127 < r.exc) → ¬ (0 < t.n1 ∨ 0 < t.n2 ∨ 0 < t.n3) → checkR a r = 0 := fun h2 h3 => by unfold checkR; rw [if_neg (by simpa using hK), if_pos hE, if_neg h2, if_neg (by omega)]
      generalize checkR a r = X at *
      have F1 := Lib.hid f1; have F2 := Lib.hid f2; have F3 := Lib.hid f3
      clear f1 f2 f3 hp ha hr e1 e2 e3 hK hpa hfi hcp
      obtain ⟨code, addr, count, on, set, parts⟩ := a
      obtain ⟨exc, ron, rset, files⟩ := r
      obtain ⟨A1, n1, c1, A2, n2, c2, A3, n3, c3⟩ := s
      obtain ⟨B1, m1, k1, B2, m2, k2, B3, m3, k3⟩ := t
      simp only [askV, repV] at HC F1 F2 F3 hE q1 q2 ⊢
      have HB := Lib.hid (two_boxes w #[.int .i64 code, .int .i64 addr, .int .i64 count, .slice A1 n1 c1, .slice A2 n2 c2, .slice A3 n3 c3] #[.int .i64 exc, .slice B1 m1 k1, .slice B2 m2 k2, .slice B3 m3 k3] 37 40)
      have hne : (exc != 0) = true := by simpa using hE
      go_enter Tryz.func58, Tryz.ntmps58
      go_wp2_with fail
      refine (HC.out _ (ext_pair _ _ _)).mono ?_
      rintro e w1 ⟨rfl, hx1⟩
      obtain ⟨hb1, hb2⟩ := HB.out _ hx1
      obtain ⟨d0, d1, d2, d3, d4, d5⟩ := cells6 hb1
      obtain ⟨g0, g1, g2, g3⟩ := cells4 hb2
      have X1 := Lib.hid ((ext_pair _ _ _).trans hx1)
      clear hx1 hb1 hb2
      go_wp2_with fail
      all_goals
        go_ret
        first
          | exact RetI.of (F1.out (by omega)) X1.out
          | exact RetI.of (F2.out (by omega) (by omega)) X1.out
          | exact RetI.of (F3.out (by omega) (by omega)) X1.out
  · have f0 : checkR a r = checkF a := by unfold checkR; rw [if_pos hK]
    rw [f0]
    have hne : (checkF a != 0) = true := by simpa using hK
    generalize checkF a = K at *
    clear ha hr e1 e2 e3 hpa hfi hp f0
    obtain ⟨code, addr, count, on, set, parts⟩ := a
    obtain ⟨exc, ron, rset, files⟩ := r
    obtain ⟨A1, n1, c1, A2, n2, c2, A3, n3, c3⟩ := s
    obtain ⟨B1, m1, k1, B2, m2, k2, B3, m3, k3⟩ := t
    simp only [askV, repV] at HC ⊢
    go_enter Tryz.func58, Tryz.ntmps58
    go_wp2_with fail
    refine (HC.out _ (ext_pair _ _ _)).mono ?_
    rintro e w1 ⟨rfl, hx1⟩
    go_wp2_with fail
    go_ret
    exact ⟨rfl, (ext_pair _ _ _).trans hx1⟩
end Go.Proofs.YtomcipkmohhpjaaGreat
