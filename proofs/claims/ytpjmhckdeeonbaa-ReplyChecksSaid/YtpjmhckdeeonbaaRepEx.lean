/- The walk of ReplyExceptions: for every input true. (genrepl.py prints this.) -/
import Derived.Test.YtpjmhckdeeonbaaRepFo
import Derived.Test.YtpjmhckdeeonbaaAskSees
namespace Go.Proofs.Ytpjmhckdeeonbaa
set_option linter.unusedVariables false
set_option linter.unusedSimpArgs false
set_option maxRecDepth 100000
set_option maxHeartbeats 2000000
open Go Go.RowKit Go.Out

theorem exc_long (code addr count : Int) (A1 A2 A3 : Option Addr) (n1 c1 n2 c2 n3 c3 : Nat) (exc : Int) (w : World) (HL : Hid (∀ W, Calls Try.prog 26 #[.agg #[.int .i64 code, .int .i64 addr, .int .i64 count, .slice A1 n1 c1, .slice A2 n2 c2, .slice A3 n3 c3]] W (RetQ W true))) :
    Calls Try.prog 8 #[.agg #[.int .i64 code, .int .i64 addr, .int .i64 count, .slice A1 n1 c1, .slice A2 n2 c2, .slice A3 n3 c3], .int .i64 exc] w (RetQ w true) := by
  go_enter Try.func8, Try.ntmps8
  go_wp2_with fail
  refine (HL.out _).mono ?_
  rintro e w1 ⟨rfl, hx⟩
  have Z := Lib.hid (show Ext w w1 from (Ext.alloc _ _).trans hx)
  have BA := Lib.hid (show w1.heap[w.heap.size]? = some (.cells #[.int .i64 code, .int .i64 addr, .int .i64 count, .slice A1 n1 c1, .slice A2 n2 c2, .slice A3 n3 c3] 26 (0, 0)) from hx.block (heap_at _ _ _ (by simp)))
  have X := Lib.hid Z.out
  clear hx Z
  obtain ⟨d0, d1, d2, d3, d4, d5⟩ := cells6 BA.out
  go_wp2_with fail
  refine (works04_any _).mono ?_
  rintro e w2 ⟨rfl, hx⟩
  have Z := Lib.hid (show Ext w1 w2 from hx)
  replace BA := Lib.hid (Z.out.block BA.out)
  replace X := Lib.hid (X.out.trans Z.out)
  clear d0 d1 d2 d3 d4 d5
  clear hx Z
  obtain ⟨d0, d1, d2, d3, d4, d5⟩ := cells6 BA.out
  go_wp2_with fail
  go_ret
  exact ⟨rfl, X.out⟩
theorem exc_bad (code addr count : Int) (A1 A2 A3 : Option Addr) (n1 c1 n2 c2 n3 c3 : Nat) (exc : Int) (w : World) (K : Int) (hK : (K != 1) = true) (hee : (K == K) = true) (HL : Hid (∀ W, Calls Try.prog 26 #[.agg #[.int .i64 code, .int .i64 addr, .int .i64 count, .slice A1 n1 c1, .slice A2 n2 c2, .slice A3 n3 c3]] W (RetQ W false)))(HG0 : Hid (∀ W, Ext w W → Calls Try.prog 28 #[.agg #[.int .i64 code, .int .i64 addr, .int .i64 count, .slice A1 n1 c1, .slice A2 n2 c2, .slice A3 n3 c3], .slice none 0 0] W (RetGR W (rep0, K))))(HCK : Hid (∀ W, Ext w W → Calls Try.prog 15 #[.agg #[.int .i64 code, .int .i64 addr, .int .i64 count, .slice A1 n1 c1, .slice A2 n2 c2, .slice A3 n3 c3], .agg #[.int .i64 exc, .slice none 0 0, .slice none 0 0, .slice none 0 0]] W (RetI W K))) :
    Calls Try.prog 8 #[.agg #[.int .i64 code, .int .i64 addr, .int .i64 count, .slice A1 n1 c1, .slice A2 n2 c2, .slice A3 n3 c3], .int .i64 exc] w (RetQ w true) := by
  go_enter Try.func8, Try.ntmps8
  go_wp2_with fail
  refine (HL.out _).mono ?_
  rintro e w1 ⟨rfl, hx⟩
  have Z := Lib.hid (show Ext w w1 from (Ext.alloc _ _).trans hx)
  have BA := Lib.hid (show w1.heap[w.heap.size]? = some (.cells #[.int .i64 code, .int .i64 addr, .int .i64 count, .slice A1 n1 c1, .slice A2 n2 c2, .slice A3 n3 c3] 26 (0, 0)) from hx.block (heap_at _ _ _ (by simp)))
  have X := Lib.hid Z.out
  clear hx Z
  obtain ⟨d0, d1, d2, d3, d4, d5⟩ := cells6 BA.out
  go_wp2_with fail
  refine (HG0.out _ X.out).mono ?_
  rintro e w2 ⟨t, rfl, how, hx⟩
  have Z := Lib.hid (show Ext w1 w2 from hx)
  replace BA := Lib.hid (Z.out.block BA.out)
  replace X := Lib.hid (X.out.trans Z.out)
  clear how
  obtain ⟨B1, m1, k1, B2, m2, k2, B3, m3, k3⟩ := t
  simp only [repV, rep0]
  clear d0 d1 d2 d3 d4 d5
  clear hx Z
  obtain ⟨d0, d1, d2, d3, d4, d5⟩ := cells6 BA.out
  have da0 := fun o : Obj => (cells6 ((Ext.alloc _ o).block BA.out)).1
  have da1 := fun o : Obj => (cells6 ((Ext.alloc _ o).block BA.out)).2.1
  have da2 := fun o : Obj => (cells6 ((Ext.alloc _ o).block BA.out)).2.2.1
  have da3 := fun o : Obj => (cells6 ((Ext.alloc _ o).block BA.out)).2.2.2.1
  have da4 := fun o : Obj => (cells6 ((Ext.alloc _ o).block BA.out)).2.2.2.2.1
  have da5 := fun o : Obj => (cells6 ((Ext.alloc _ o).block BA.out)).2.2.2.2.2
  go_wp2_with fail
  refine (HCK.out _ (X.out.trans (Ext.alloc _ _))).mono ?_
  rintro e w3 ⟨rfl, hx⟩
  have Z := Lib.hid (show Ext w2 w3 from (Ext.alloc _ _).trans hx)
  replace BA := Lib.hid (Z.out.block BA.out)
  have BR := Lib.hid (show w3.heap[w2.heap.size]? = some (.cells #[.int .i64 0, .slice B1 m1 k1, .slice B2 m2 k2, .slice B3 m3 k3] 29 (0, 0)) from hx.block (heap_at _ _ _ (by simp)))
  replace X := Lib.hid (X.out.trans Z.out)
  clear d0 d1 d2 d3 d4 d5 da0 da1 da2 da3 da4 da5
  clear hx Z
  obtain ⟨d0, d1, d2, d3, d4, d5⟩ := cells6 BA.out
  obtain ⟨g0, g1, g2, g3⟩ := cells4 BR.out
  go_wp2_with fail
  refine (works04_any _).mono ?_
  rintro e w4 ⟨rfl, hx⟩
  have Z := Lib.hid (show Ext w3 w4 from hx)
  replace BA := Lib.hid (Z.out.block BA.out)
  replace BR := Lib.hid (Z.out.block BR.out)
  replace X := Lib.hid (X.out.trans Z.out)
  clear d0 d1 d2 d3 d4 d5 g0 g1 g2 g3
  clear hx Z
  obtain ⟨d0, d1, d2, d3, d4, d5⟩ := cells6 BA.out
  obtain ⟨g0, g1, g2, g3⟩ := cells4 BR.out
  go_wp2_with fail
  go_ret
  exact ⟨rfl, X.out⟩
theorem exc_zero (code addr count : Int) (A1 A2 A3 : Option Addr) (n1 c1 n2 c2 n3 c3 : Nat) (exc : Int) (w : World) (e : Int) (h0 : exc = 0) (HL : Hid (∀ W, Calls Try.prog 26 #[.agg #[.int .i64 code, .int .i64 addr, .int .i64 count, .slice A1 n1 c1, .slice A2 n2 c2, .slice A3 n3 c3]] W (RetQ W false)))(HG0 : Hid (∀ W, Ext w W → Calls Try.prog 28 #[.agg #[.int .i64 code, .int .i64 addr, .int .i64 count, .slice A1 n1 c1, .slice A2 n2 c2, .slice A3 n3 c3], .slice none 0 0] W (RetGR W (rep0, 1))))(HCK : Hid (∀ W, Ext w W → Calls Try.prog 15 #[.agg #[.int .i64 code, .int .i64 addr, .int .i64 count, .slice A1 n1 c1, .slice A2 n2 c2, .slice A3 n3 c3], .agg #[.int .i64 exc, .slice none 0 0, .slice none 0 0, .slice none 0 0]] W (RetI W e))) :
    Calls Try.prog 8 #[.agg #[.int .i64 code, .int .i64 addr, .int .i64 count, .slice A1 n1 c1, .slice A2 n2 c2, .slice A3 n3 c3], .int .i64 exc] w (RetQ w true) := by
  subst h0
  go_enter Try.func8, Try.ntmps8
  go_wp2_with fail
  refine (HL.out _).mono ?_
  rintro e w1 ⟨rfl, hx⟩
  have Z := Lib.hid (show Ext w w1 from (Ext.alloc _ _).trans hx)
  have BA := Lib.hid (show w1.heap[w.heap.size]? = some (.cells #[.int .i64 code, .int .i64 addr, .int .i64 count, .slice A1 n1 c1, .slice A2 n2 c2, .slice A3 n3 c3] 26 (0, 0)) from hx.block (heap_at _ _ _ (by simp)))
  have X := Lib.hid Z.out
  clear hx Z
  obtain ⟨d0, d1, d2, d3, d4, d5⟩ := cells6 BA.out
  go_wp2_with fail
  refine (HG0.out _ X.out).mono ?_
  rintro e w2 ⟨t, rfl, how, hx⟩
  have Z := Lib.hid (show Ext w1 w2 from hx)
  replace BA := Lib.hid (Z.out.block BA.out)
  replace X := Lib.hid (X.out.trans Z.out)
  clear how
  obtain ⟨B1, m1, k1, B2, m2, k2, B3, m3, k3⟩ := t
  simp only [repV, rep0]
  clear d0 d1 d2 d3 d4 d5
  clear hx Z
  obtain ⟨d0, d1, d2, d3, d4, d5⟩ := cells6 BA.out
  have da0 := fun o : Obj => (cells6 ((Ext.alloc _ o).block BA.out)).1
  have da1 := fun o : Obj => (cells6 ((Ext.alloc _ o).block BA.out)).2.1
  have da2 := fun o : Obj => (cells6 ((Ext.alloc _ o).block BA.out)).2.2.1
  have da3 := fun o : Obj => (cells6 ((Ext.alloc _ o).block BA.out)).2.2.2.1
  have da4 := fun o : Obj => (cells6 ((Ext.alloc _ o).block BA.out)).2.2.2.2.1
  have da5 := fun o : Obj => (cells6 ((Ext.alloc _ o).block BA.out)).2.2.2.2.2
  go_wp2_with fail
  refine (HCK.out _ (X.out.trans (Ext.alloc _ _))).mono ?_
  rintro e w3 ⟨rfl, hx⟩
  have Z := Lib.hid (show Ext w2 w3 from (Ext.alloc _ _).trans hx)
  replace BA := Lib.hid (Z.out.block BA.out)
  have BR := Lib.hid (show w3.heap[w2.heap.size]? = some (.cells #[.int .i64 0, .slice B1 m1 k1, .slice B2 m2 k2, .slice B3 m3 k3] 29 (0, 0)) from hx.block (heap_at _ _ _ (by simp)))
  replace X := Lib.hid (X.out.trans Z.out)
  clear d0 d1 d2 d3 d4 d5 da0 da1 da2 da3 da4 da5
  clear hx Z
  obtain ⟨d0, d1, d2, d3, d4, d5⟩ := cells6 BA.out
  obtain ⟨g0, g1, g2, g3⟩ := cells4 BR.out
  go_wp2_with fail
  refine (works04_any _).mono ?_
  rintro e w4 ⟨rfl, hx⟩
  have Z := Lib.hid (show Ext w3 w4 from hx)
  replace BA := Lib.hid (Z.out.block BA.out)
  replace BR := Lib.hid (Z.out.block BR.out)
  replace X := Lib.hid (X.out.trans Z.out)
  clear d0 d1 d2 d3 d4 d5 g0 g1 g2 g3
  clear hx Z
  obtain ⟨d0, d1, d2, d3, d4, d5⟩ := cells6 BA.out
  obtain ⟨g0, g1, g2, g3⟩ := cells4 BR.out
  go_wp2_with fail
  go_ret
  exact ⟨rfl, X.out⟩
theorem exc_out (code addr count : Int) (A1 A2 A3 : Option Addr) (n1 c1 n2 c2 n3 c3 : Nat) (exc : Int) (w : World) (h0 : (exc == 0) = false) (h1 : exc < 1 ∨ 127 < exc) (HL : Hid (∀ W, Calls Try.prog 26 #[.agg #[.int .i64 code, .int .i64 addr, .int .i64 count, .slice A1 n1 c1, .slice A2 n2 c2, .slice A3 n3 c3]] W (RetQ W false)))(HG0 : Hid (∀ W, Ext w W → Calls Try.prog 28 #[.agg #[.int .i64 code, .int .i64 addr, .int .i64 count, .slice A1 n1 c1, .slice A2 n2 c2, .slice A3 n3 c3], .slice none 0 0] W (RetGR W (rep0, 1))))(HCK : Hid (∀ W, Ext w W → Calls Try.prog 15 #[.agg #[.int .i64 code, .int .i64 addr, .int .i64 count, .slice A1 n1 c1, .slice A2 n2 c2, .slice A3 n3 c3], .agg #[.int .i64 exc, .slice none 0 0, .slice none 0 0, .slice none 0 0]] W (RetI W 3))) :
    Calls Try.prog 8 #[.agg #[.int .i64 code, .int .i64 addr, .int .i64 count, .slice A1 n1 c1, .slice A2 n2 c2, .slice A3 n3 c3], .int .i64 exc] w (RetQ w true) := by
  rcases h1 with h1 | h1
  · skip
    go_enter Try.func8, Try.ntmps8
    go_wp2_with fail
    refine (HL.out _).mono ?_
    rintro e w1 ⟨rfl, hx⟩
    have Z := Lib.hid (show Ext w w1 from (Ext.alloc _ _).trans hx)
    have BA := Lib.hid (show w1.heap[w.heap.size]? = some (.cells #[.int .i64 code, .int .i64 addr, .int .i64 count, .slice A1 n1 c1, .slice A2 n2 c2, .slice A3 n3 c3] 26 (0, 0)) from hx.block (heap_at _ _ _ (by simp)))
    have X := Lib.hid Z.out
    clear hx Z
    obtain ⟨d0, d1, d2, d3, d4, d5⟩ := cells6 BA.out
    go_wp2_with fail
    refine (HG0.out _ X.out).mono ?_
    rintro e w2 ⟨t, rfl, how, hx⟩
    have Z := Lib.hid (show Ext w1 w2 from hx)
    replace BA := Lib.hid (Z.out.block BA.out)
    replace X := Lib.hid (X.out.trans Z.out)
    clear how
    obtain ⟨B1, m1, k1, B2, m2, k2, B3, m3, k3⟩ := t
    simp only [repV, rep0]
    clear d0 d1 d2 d3 d4 d5
    clear hx Z
    obtain ⟨d0, d1, d2, d3, d4, d5⟩ := cells6 BA.out
    have da0 := fun o : Obj => (cells6 ((Ext.alloc _ o).block BA.out)).1
    have da1 := fun o : Obj => (cells6 ((Ext.alloc _ o).block BA.out)).2.1
    have da2 := fun o : Obj => (cells6 ((Ext.alloc _ o).block BA.out)).2.2.1
    have da3 := fun o : Obj => (cells6 ((Ext.alloc _ o).block BA.out)).2.2.2.1
    have da4 := fun o : Obj => (cells6 ((Ext.alloc _ o).block BA.out)).2.2.2.2.1
    have da5 := fun o : Obj => (cells6 ((Ext.alloc _ o).block BA.out)).2.2.2.2.2
    go_wp2_with fail
    refine (HCK.out _ (X.out.trans (Ext.alloc _ _))).mono ?_
    rintro e w3 ⟨rfl, hx⟩
    have Z := Lib.hid (show Ext w2 w3 from (Ext.alloc _ _).trans hx)
    replace BA := Lib.hid (Z.out.block BA.out)
    have BR := Lib.hid (show w3.heap[w2.heap.size]? = some (.cells #[.int .i64 0, .slice B1 m1 k1, .slice B2 m2 k2, .slice B3 m3 k3] 29 (0, 0)) from hx.block (heap_at _ _ _ (by simp)))
    replace X := Lib.hid (X.out.trans Z.out)
    clear d0 d1 d2 d3 d4 d5 da0 da1 da2 da3 da4 da5
    clear hx Z
    obtain ⟨d0, d1, d2, d3, d4, d5⟩ := cells6 BA.out
    obtain ⟨g0, g1, g2, g3⟩ := cells4 BR.out
    go_wp2_with fail
    refine (works04_any _).mono ?_
    rintro e w4 ⟨rfl, hx⟩
    have Z := Lib.hid (show Ext w3 w4 from hx)
    replace BA := Lib.hid (Z.out.block BA.out)
    replace BR := Lib.hid (Z.out.block BR.out)
    replace X := Lib.hid (X.out.trans Z.out)
    clear d0 d1 d2 d3 d4 d5 g0 g1 g2 g3
    clear hx Z
    obtain ⟨d0, d1, d2, d3, d4, d5⟩ := cells6 BA.out
    obtain ⟨g0, g1, g2, g3⟩ := cells4 BR.out
    go_wp2_with fail
    go_ret
    exact ⟨rfl, X.out⟩
  · skip
    go_enter Try.func8, Try.ntmps8
    go_wp2_with fail
    refine (HL.out _).mono ?_
    rintro e w1 ⟨rfl, hx⟩
    have Z := Lib.hid (show Ext w w1 from (Ext.alloc _ _).trans hx)
    have BA := Lib.hid (show w1.heap[w.heap.size]? = some (.cells #[.int .i64 code, .int .i64 addr, .int .i64 count, .slice A1 n1 c1, .slice A2 n2 c2, .slice A3 n3 c3] 26 (0, 0)) from hx.block (heap_at _ _ _ (by simp)))
    have X := Lib.hid Z.out
    clear hx Z
    obtain ⟨d0, d1, d2, d3, d4, d5⟩ := cells6 BA.out
    go_wp2_with fail
    refine (HG0.out _ X.out).mono ?_
    rintro e w2 ⟨t, rfl, how, hx⟩
    have Z := Lib.hid (show Ext w1 w2 from hx)
    replace BA := Lib.hid (Z.out.block BA.out)
    replace X := Lib.hid (X.out.trans Z.out)
    clear how
    obtain ⟨B1, m1, k1, B2, m2, k2, B3, m3, k3⟩ := t
    simp only [repV, rep0]
    clear d0 d1 d2 d3 d4 d5
    clear hx Z
    obtain ⟨d0, d1, d2, d3, d4, d5⟩ := cells6 BA.out
    have da0 := fun o : Obj => (cells6 ((Ext.alloc _ o).block BA.out)).1
    have da1 := fun o : Obj => (cells6 ((Ext.alloc _ o).block BA.out)).2.1
    have da2 := fun o : Obj => (cells6 ((Ext.alloc _ o).block BA.out)).2.2.1
    have da3 := fun o : Obj => (cells6 ((Ext.alloc _ o).block BA.out)).2.2.2.1
    have da4 := fun o : Obj => (cells6 ((Ext.alloc _ o).block BA.out)).2.2.2.2.1
    have da5 := fun o : Obj => (cells6 ((Ext.alloc _ o).block BA.out)).2.2.2.2.2
    go_wp2_with fail
    refine (HCK.out _ (X.out.trans (Ext.alloc _ _))).mono ?_
    rintro e w3 ⟨rfl, hx⟩
    have Z := Lib.hid (show Ext w2 w3 from (Ext.alloc _ _).trans hx)
    replace BA := Lib.hid (Z.out.block BA.out)
    have BR := Lib.hid (show w3.heap[w2.heap.size]? = some (.cells #[.int .i64 0, .slice B1 m1 k1, .slice B2 m2 k2, .slice B3 m3 k3] 29 (0, 0)) from hx.block (heap_at _ _ _ (by simp)))
    replace X := Lib.hid (X.out.trans Z.out)
    clear d0 d1 d2 d3 d4 d5 da0 da1 da2 da3 da4 da5
    clear hx Z
    obtain ⟨d0, d1, d2, d3, d4, d5⟩ := cells6 BA.out
    obtain ⟨g0, g1, g2, g3⟩ := cells4 BR.out
    go_wp2_with fail
    refine (works04_any _).mono ?_
    rintro e w4 ⟨rfl, hx⟩
    have Z := Lib.hid (show Ext w3 w4 from hx)
    replace BA := Lib.hid (Z.out.block BA.out)
    replace BR := Lib.hid (Z.out.block BR.out)
    replace X := Lib.hid (X.out.trans Z.out)
    clear d0 d1 d2 d3 d4 d5 g0 g1 g2 g3
    clear hx Z
    obtain ⟨d0, d1, d2, d3, d4, d5⟩ := cells6 BA.out
    obtain ⟨g0, g1, g2, g3⟩ := cells4 BR.out
    go_wp2_with fail
    go_ret
    exact ⟨rfl, X.out⟩
theorem exc_in (code addr count : Int) (A1 A2 A3 : Option Addr) (n1 c1 n2 c2 n3 c3 : Nat) (w : World) (n : Nat) (hn1 : 1 ≤ n) (hn2 : n ≤ 127) (X0 X1 : UInt8) (hX1 : X1.toNat = n) (HL : Hid (∀ W, Calls Try.prog 26 #[.agg #[.int .i64 code, .int .i64 addr, .int .i64 count, .slice A1 n1 c1, .slice A2 n2 c2, .slice A3 n3 c3]] W (RetQ W false)))(HG0 : Hid (∀ W, Ext w W → Calls Try.prog 28 #[.agg #[.int .i64 code, .int .i64 addr, .int .i64 count, .slice A1 n1 c1, .slice A2 n2 c2, .slice A3 n3 c3], .slice none 0 0] W (RetGR W (rep0, 1))))(HCK : Hid (∀ W, Ext w W → Calls Try.prog 15 #[.agg #[.int .i64 code, .int .i64 addr, .int .i64 count, .slice A1 n1 c1, .slice A2 n2 c2, .slice A3 n3 c3], .agg #[.int .i64 (n : Int), .slice none 0 0, .slice none 0 0, .slice none 0 0]] W (RetI W 0)))(HPT : Hid (∀ W, Ext w W → Calls Try.prog 20 #[.agg #[.int .i64 code, .int .i64 addr, .int .i64 count, .slice A1 n1 c1, .slice A2 n2 c2, .slice A3 n3 c3], .agg #[.int .i64 (n : Int), .slice none 0 0, .slice none 0 0, .slice none 0 0]] W (RetU W [X0, X1] 0)))(HG : Hid (∀ W A c, Ext w W → 2 ≤ c → c ≤ 9223372036854775807 → Rd W A 2 (([X0, X1] : List UInt8).map cB) → Calls Try.prog 28 #[.agg #[.int .i64 code, .int .i64 addr, .int .i64 count, .slice A1 n1 c1, .slice A2 n2 c2, .slice A3 n3 c3], .slice A 2 c] W (RetGR W (⟨(n : Int), [], [], []⟩, 0)))) :
    Calls Try.prog 8 #[.agg #[.int .i64 code, .int .i64 addr, .int .i64 count, .slice A1 n1 c1, .slice A2 n2 c2, .slice A3 n3 c3], .int .i64 (n : Int)] w (RetQ w true) := by
  have HS := Lib.hid (fun (s : RepS) (W : World) (h1 : RepRd W ⟨(n : Int), [], [], []⟩ s) => same_reply ⟨(n : Int), [], [], []⟩ s repS0 W h1 ⟨Rd.nil_ _, Rd.nil_ _, RdL.nil_ _ _ _, by unfold i64P; simp only; omega, by simp [repS0], by simp [repS0], by simp [repS0]⟩)
  simp only [repV, repS0] at HS
  go_enter Try.func8, Try.ntmps8
  go_wp2_with fail
  refine (HL.out _).mono ?_
  rintro e w1 ⟨rfl, hx⟩
  have Z := Lib.hid (show Ext w w1 from (Ext.alloc _ _).trans hx)
  have BA := Lib.hid (show w1.heap[w.heap.size]? = some (.cells #[.int .i64 code, .int .i64 addr, .int .i64 count, .slice A1 n1 c1, .slice A2 n2 c2, .slice A3 n3 c3] 26 (0, 0)) from hx.block (heap_at _ _ _ (by simp)))
  have X := Lib.hid Z.out
  clear hx Z
  obtain ⟨d0, d1, d2, d3, d4, d5⟩ := cells6 BA.out
  go_wp2_with fail
  refine (HG0.out _ X.out).mono ?_
  rintro e w2 ⟨t, rfl, how, hx⟩
  have Z := Lib.hid (show Ext w1 w2 from hx)
  replace BA := Lib.hid (Z.out.block BA.out)
  replace X := Lib.hid (X.out.trans Z.out)
  clear how
  obtain ⟨B1, m1, k1, B2, m2, k2, B3, m3, k3⟩ := t
  simp only [repV, rep0]
  clear d0 d1 d2 d3 d4 d5
  clear hx Z
  obtain ⟨d0, d1, d2, d3, d4, d5⟩ := cells6 BA.out
  have da0 := fun o : Obj => (cells6 ((Ext.alloc _ o).block BA.out)).1
  have da1 := fun o : Obj => (cells6 ((Ext.alloc _ o).block BA.out)).2.1
  have da2 := fun o : Obj => (cells6 ((Ext.alloc _ o).block BA.out)).2.2.1
  have da3 := fun o : Obj => (cells6 ((Ext.alloc _ o).block BA.out)).2.2.2.1
  have da4 := fun o : Obj => (cells6 ((Ext.alloc _ o).block BA.out)).2.2.2.2.1
  have da5 := fun o : Obj => (cells6 ((Ext.alloc _ o).block BA.out)).2.2.2.2.2
  go_wp2_with fail
  refine (HCK.out _ (X.out.trans (Ext.alloc _ _))).mono ?_
  rintro e w3 ⟨rfl, hx⟩
  have Z := Lib.hid (show Ext w2 w3 from (Ext.alloc _ _).trans hx)
  replace BA := Lib.hid (Z.out.block BA.out)
  have BR := Lib.hid (show w3.heap[w2.heap.size]? = some (.cells #[.int .i64 0, .slice B1 m1 k1, .slice B2 m2 k2, .slice B3 m3 k3] 29 (0, 0)) from hx.block (heap_at _ _ _ (by simp)))
  replace X := Lib.hid (X.out.trans Z.out)
  clear d0 d1 d2 d3 d4 d5 da0 da1 da2 da3 da4 da5
  clear hx Z
  obtain ⟨d0, d1, d2, d3, d4, d5⟩ := cells6 BA.out
  obtain ⟨g0, g1, g2, g3⟩ := cells4 BR.out
  go_wp2_with fail
  refine (HPT.out _ X.out).mono ?_
  rintro e w4 ⟨A5, n5, c5, rfl, ho5, hx⟩
  have Z := Lib.hid (show Ext w3 w4 from hx)
  replace BA := Lib.hid (Z.out.block BA.out)
  replace BR := Lib.hid (Z.out.block BR.out)
  replace X := Lib.hid (X.out.trans Z.out)
  obtain rfl : n5 = 2 := by have h1 := ho5.len; simp at h1; omega
  have hc5 := ho5.cap
  have hk5 := ho5.capLe
  have HO := Lib.hid ho5.rd
  clear ho5
  clear d0 d1 d2 d3 d4 d5 g0 g1 g2 g3
  clear hx Z
  obtain ⟨d0, d1, d2, d3, d4, d5⟩ := cells6 BA.out
  obtain ⟨g0, g1, g2, g3⟩ := cells4 BR.out
  go_wp2_with fail
  refine (HG.out _ A5 c5 X.out hc5 hk5 HO.out).mono ?_
  rintro e w5 ⟨t, rfl, how, hx⟩
  have Z := Lib.hid (show Ext w4 w5 from hx)
  replace BA := Lib.hid (Z.out.block BA.out)
  replace BR := Lib.hid (Z.out.block BR.out)
  replace X := Lib.hid (X.out.trans Z.out)
  replace HO := Lib.hid (HO.out.ext Z.out)
  have HW := Lib.hid how.rd
  clear how
  obtain ⟨E1, p1, q1, E2, p2, q2, E3, p3, q3⟩ := t
  simp only [repV]
  obtain ⟨bk, off, rfl, hbk, hcl⟩ := HO.out.2 (by omega)
  have e1 := hcl 1 _ rfl
  clear hcl
  simp only [cB, hX1] at e1
  have e1a := fun o : Obj => (Ext.alloc _ o).cell hbk e1
  clear d0 d1 d2 d3 d4 d5 g0 g1 g2 g3
  clear hx Z
  obtain ⟨d0, d1, d2, d3, d4, d5⟩ := cells6 BA.out
  obtain ⟨g0, g1, g2, g3⟩ := cells4 BR.out
  go_wp2_with fail
  refine (HS.out ⟨E1, p1, q1, E2, p2, q2, E3, p3, q3⟩ _ (HW.out.ext (Ext.alloc _ _))).mono ?_
  rintro e w6 ⟨rfl, hx⟩
  have Z := Lib.hid (show Ext w5 w6 from (Ext.alloc _ _).trans hx)
  replace BA := Lib.hid (Z.out.block BA.out)
  replace BR := Lib.hid (Z.out.block BR.out)
  have BX := Lib.hid (show w6.heap[w5.heap.size]? = some (.cells #[.int .i64 (n : Int), .slice E1 p1 q1, .slice E2 p2 q2, .slice E3 p3 q3] 29 (0, 0)) from hx.block (heap_at _ _ _ (by simp)))
  replace X := Lib.hid (X.out.trans Z.out)
  replace HW := Lib.hid (HW.out.ext Z.out)
  clear d0 d1 d2 d3 d4 d5 g0 g1 g2 g3
  clear hx Z
  obtain ⟨d0, d1, d2, d3, d4, d5⟩ := cells6 BA.out
  obtain ⟨g0, g1, g2, g3⟩ := cells4 BR.out
  obtain ⟨f0, f1, f2, f3⟩ := cells4 BX.out
  go_wp2_with fail
  refine (works04_any _).mono ?_
  rintro e w7 ⟨rfl, hx⟩
  have Z := Lib.hid (show Ext w6 w7 from hx)
  replace BA := Lib.hid (Z.out.block BA.out)
  replace BR := Lib.hid (Z.out.block BR.out)
  replace BX := Lib.hid (Z.out.block BX.out)
  replace X := Lib.hid (X.out.trans Z.out)
  replace HW := Lib.hid (HW.out.ext Z.out)
  clear d0 d1 d2 d3 d4 d5 g0 g1 g2 g3 f0 f1 f2 f3
  clear hx Z
  obtain ⟨d0, d1, d2, d3, d4, d5⟩ := cells6 BA.out
  obtain ⟨g0, g1, g2, g3⟩ := cells4 BR.out
  obtain ⟨f0, f1, f2, f3⟩ := cells4 BX.out
  go_wp2_with fail
  go_ret
  exact ⟨rfl, X.out⟩
theorem checkF_ne1 (a : AskD) : checkF a ≠ 1 := by
  unfold checkF partsF
  repeat' split
  all_goals omega
theorem lawReplyExceptions (a : AskD) (s : AskS) (exc : Int) (w : World) (ha : AskRd w a s) (wfe : (Lit.int .i64 exc).wf = true) :
    Calls Try.prog 8 #[askV a s, .int .i64 exc] w (RetQ w true) := by
  have hE : i64P exc := i64P_of wfe
  have HL := Lib.hid (fun W => longAsk_any a s W)
  have hrd : ∀ W, RepRd W ⟨exc, [], [], []⟩ repS0 := fun W => ⟨Rd.nil_ _, Rd.nil_ _, RdL.nil_ _ _ _, hE, by simp [repS0], by simp [repS0], by simp [repS0]⟩
  have HG0 := Lib.hid (fun W (hX : Ext w W) => replyGet_any a [] s none 0 0 W (ha.ext hX) (Rd.nil_ _) (by omega) (by omega))
  have HCK := Lib.hid (fun W (hX : Ext w W) => replyCheck_any a ⟨exc, [], [], []⟩ s repS0 W (ha.ext hX) (hrd W))
  have HPT := Lib.hid (fun W (hX : Ext w W) => replyPut_any a ⟨exc, [], [], []⟩ s repS0 W (ha.ext hX) (hrd W))
  rw [getR_nil] at HG0
  have hne := checkF_ne1 a
  have hlaw := @ex_law a exc
  have hnoK : checkF a ≠ 0 → checkR a ⟨exc, [], [], []⟩ = checkF a := fun h => by unfold checkR; rw [if_pos h]
  by_cases hbig : 70000 < s.n1 ∨ 70000 < s.n2 ∨ 70000 < s.n3
  · rw [decide_eq_true hbig] at HL
    exact exc_long _ _ _ _ _ _ _ _ _ _ _ _ exc w HL
  rw [decide_eq_false hbig] at HL
  by_cases hK : checkF a = 0
  · rw [if_neg (by simp [hK])] at HG0
    obtain ⟨l1, l2⟩ := hlaw hK
    by_cases hr : exc < 1 ∨ 127 < exc
    · by_cases h0 : exc = 0
      · exact exc_zero _ _ _ _ _ _ _ _ _ _ _ _ exc w _ h0 HL HG0 HCK
      · rw [l1 hr h0] at HCK
        exact exc_out _ _ _ _ _ _ _ _ _ _ _ _ exc w (by simpa using h0) hr HL HG0 HCK
    · obtain ⟨l3, l4, l5, l6⟩ := l2 (by omega)
      have HG := Lib.hid (fun W A c (hX : Ext w W) (h1 : 2 ≤ c) (h2 : c ≤ 9223372036854775807) (h : Rd W A 2 (([UInt8.ofNat (a.code + 128).toNat, UInt8.ofNat exc.toNat] : List UInt8).map cB)) => replyGet_any a _ s A 2 c W (ha.ext hX) h ⟨h1, h2⟩ (by omega))
      rw [l6] at HG
      rw [l3] at HCK
      rw [l4, l5] at HPT
      obtain ⟨n, rfl⟩ := Int.eq_ofNat_of_zero_le (show 0 ≤ exc by omega)
      exact exc_in _ _ _ _ _ _ _ _ _ _ _ _ w n (by omega) (by omega) _ _ (toNat_ofNat8 (by omega)) HL HG0 HCK HPT HG
  · rw [if_pos hK] at HG0
    rw [hnoK hK] at HCK
    exact exc_bad _ _ _ _ _ _ _ _ _ _ _ _ exc w _ (by simpa using hne) (by simp) HL HG0 HCK
end Go.Proofs.Ytpjmhckdeeonbaa
