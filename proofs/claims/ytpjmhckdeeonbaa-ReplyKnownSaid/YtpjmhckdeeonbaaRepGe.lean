/- The walk of ReplyExceptions: for every input true. (genrepl.py prints this.) -/
import Derived.Test.YtpjmhckdeeonbaaRepFo
import Derived.Test.YtpjmhckdeeonbaaAskSees
import Derived.Test.YtpjmhckdeeonbaaPick
import Derived.Deep.RegionHeld3
import Derived.Test.YtpjmhckdeeonbaaRep5
import Derived.Deep.RegionLaw
import Derived.Test.YtpjmhckdeeonbaaRepF
import Derived.Test.YtpjmhckdeeonbaaRepQ2
import Derived.Test.YtpjmhckdeeonbaaAskL
import Derived.Test.YtpjmhckdeeonbaaRepT
namespace Go.Proofs.Ytpjmhckdeeonbaa
set_option linter.unusedVariables false
set_option linter.unusedSimpArgs false
set_option maxRecDepth 100000
set_option maxHeartbeats 2000000
open Go Go.RowKit Go.Out

theorem exc_long (code addr count : Int) (A1 A2 A3 : Option Addr) (n1 c1 n2 c2 n3 c3 : Nat) (exc : Int) (w : World) (HL : Hid (∀ W, Calls Try.prog 26 #[.agg #[.int .i64 code, .int .i64 addr, .int .i64 count, .slice A1 n1 c1, .slice A2 n2 c2, .slice A3 n3 c3]] W (RetQ W true))) :
    Calls Try.prog 8 #[.agg #[.int .i64 code, .int .i64 addr, .int .i64 count, .slice A1 n1 c1, .slice A2 n2 c2, .slice A3 n3 c3], .int .i64 exc] w (RetQ w true) := by
  go_enter Try.func8, Try.ntmps8
  go_wp2_with fail
  refine (HL.out _).mono ?_
  rintro e w1 ⟨rfl, hx⟩
  have Z := Lib.hid (show Ext w w1 from (Ext.alloc _ _).trans hx)
  have BA := Lib.hid (show w1.heap[w.heap.size]? = some (.cells #[.int .i64 code, .int .i64 addr, .int .i64 count, .slice A1 n1 c1, .slice A2 n2 c2, .slice A3 n3 c3] 26 (0, 0)) from hx.block (heap_at _ _ _ (by simp)))
  have X := Lib.hid Z.out
  clear hx Z
  obtain ⟨d0, d1, d2, d3, d4, d5⟩ := cells6 BA.out
  go_wp2_with fail
  refine (works04_any _).mono ?_
  rintro e w2 ⟨rfl, hx⟩
  have Z := Lib.hid (show Ext w1 w2 from hx)
  replace BA := Lib.hid (Z.out.block BA.out)
  replace X := Lib.hid (X.out.trans Z.out)
  clear d0 d1 d2 d3 d4 d5
  clear hx Z
  obtain ⟨d0, d1, d2, d3, d4, d5⟩ := cells6 BA.out
  go_wp2_with fail
  go_ret
  exact ⟨rfl, X.out⟩
theorem exc_bad (code addr count : Int) (A1 A2 A3 : Option Addr) (n1 c1 n2 c2 n3 c3 : Nat) (exc : Int) (w : World) (K : Int) (hK : (K != 1) = true) (hee : (K == K) = true) (HL : Hid (∀ W, Calls Try.prog 26 #[.agg #[.int .i64 code, .int .i64 addr, .int .i64 count, .slice A1 n1 c1, .slice A2 n2 c2, .slice A3 n3 c3]] W (RetQ W false)))(HG0 : Hid (∀ W, Ext w W → Calls Try.prog 28 #[.agg #[.int .i64 code, .int .i64 addr, .int .i64 count, .slice A1 n1 c1, .slice A2 n2 c2, .slice A3 n3 c3], .slice none 0 0] W (RetGR W (rep0, K))))(HCK : Hid (∀ W, Ext w W → Calls Try.prog 15 #[.agg #[.int .i64 code, .int .i64 addr, .int .i64 count, .slice A1 n1 c1, .slice A2 n2 c2, .slice A3 n3 c3], .agg #[.int .i64 exc, .slice none 0 0, .slice none 0 0, .slice none 0 0]] W (RetI W K))) :
    Calls Try.prog 8 #[.agg #[.int .i64 code, .int .i64 addr, .int .i64 count, .slice A1 n1 c1, .slice A2 n2 c2, .slice A3 n3 c3], .int .i64 exc] w (RetQ w true) := by
  go_enter Try.func8, Try.ntmps8
  go_wp2_with fail
  refine (HL.out _).mono ?_
  rintro e w1 ⟨rfl, hx⟩
  have Z := Lib.hid (show Ext w w1 from (Ext.alloc _ _).trans hx)
  have BA := Lib.hid (show w1.heap[w.heap.size]? = some (.cells #[.int .i64 code, .int .i64 addr, .int .i64 count, .slice A1 n1 c1, .slice A2 n2 c2, .slice A3 n3 c3] 26 (0, 0)) from hx.block (heap_at _ _ _ (by simp)))
  have X := Lib.hid Z.out
  clear hx Z
  obtain ⟨d0, d1, d2, d3, d4, d5⟩ := cells6 BA.out
  go_wp2_with fail
  refine (HG0.out _ X.out).mono ?_
  rintro e w2 ⟨t, rfl, how, hx⟩
  have Z := Lib.hid (show Ext w1 w2 from hx)
  replace BA := Lib.hid (Z.out.block BA.out)
  replace X := Lib.hid (X.out.trans Z.out)
  clear how
  obtain ⟨B1, m1, k1, B2, m2, k2, B3, m3, k3⟩ := t
  simp only [repV, rep0]
  clear d0 d1 d2 d3 d4 d5
  clear hx Z
  obtain ⟨d0, d1, d2, d3, d4, d5⟩ := cells6 BA.out
  have da0 := fun o : Obj => (cells6 ((Ext.alloc _ o).block BA.out)).1
  have da1 := fun o : Obj => (cells6 ((Ext.alloc _ o).block BA.out)).2.1
  have da2 := fun o : Obj => (cells6 ((Ext.alloc _ o).block BA.out)).2.2.1
  have da3 := fun o : Obj => (cells6 ((Ext.alloc _ o).block BA.out)).2.2.2.1
  have da4 := fun o : Obj => (cells6 ((Ext.alloc _ o).block BA.out)).2.2.2.2.1
  have da5 := fun o : Obj => (cells6 ((Ext.alloc _ o).block BA.out)).2.2.2.2.2
  go_wp2_with fail
  refine (HCK.out _ (X.out.trans (Ext.alloc _ _))).mono ?_
  rintro e w3 ⟨rfl, hx⟩
  have Z := Lib.hid (show Ext w2 w3 from (Ext.alloc _ _).trans hx)
  replace BA := Lib.hid (Z.out.block BA.out)
  have BR := Lib.hid (show w3.heap[w2.heap.size]? = some (.cells #[.int .i64 0, .slice B1 m1 k1, .slice B2 m2 k2, .slice B3 m3 k3] 29 (0, 0)) from hx.block (heap_at _ _ _ (by simp)))
  replace X := Lib.hid (X.out.trans Z.out)
  clear d0 d1 d2 d3 d4 d5 da0 da1 da2 da3 da4 da5
  clear hx Z
  obtain ⟨d0, d1, d2, d3, d4, d5⟩ := cells6 BA.out
  obtain ⟨g0, g1, g2, g3⟩ := cells4 BR.out
  go_wp2_with fail
  refine (works04_any _).mono ?_
  rintro e w4 ⟨rfl, hx⟩
  have Z := Lib.hid (show Ext w3 w4 from hx)
  replace BA := Lib.hid (Z.out.block BA.out)
  replace BR := Lib.hid (Z.out.block BR.out)
  replace X := Lib.hid (X.out.trans Z.out)
  clear d0 d1 d2 d3 d4 d5 g0 g1 g2 g3
  clear hx Z
  obtain ⟨d0, d1, d2, d3, d4, d5⟩ := cells6 BA.out
  obtain ⟨g0, g1, g2, g3⟩ := cells4 BR.out
  go_wp2_with fail
  go_ret
  exact ⟨rfl, X.out⟩
theorem exc_zero (code addr count : Int) (A1 A2 A3 : Option Addr) (n1 c1 n2 c2 n3 c3 : Nat) (exc : Int) (w : World) (e : Int) (h0 : exc = 0) (HL : Hid (∀ W, Calls Try.prog 26 #[.agg #[.int .i64 code, .int .i64 addr, .int .i64 count, .slice A1 n1 c1, .slice A2 n2 c2, .slice A3 n3 c3]] W (RetQ W false)))(HG0 : Hid (∀ W, Ext w W → Calls Try.prog 28 #[.agg #[.int .i64 code, .int .i64 addr, .int .i64 count, .slice A1 n1 c1, .slice A2 n2 c2, .slice A3 n3 c3], .slice none 0 0] W (RetGR W (rep0, 1))))(HCK : Hid (∀ W, Ext w W → Calls Try.prog 15 #[.agg #[.int .i64 code, .int .i64 addr, .int .i64 count, .slice A1 n1 c1, .slice A2 n2 c2, .slice A3 n3 c3], .agg #[.int .i64 exc, .slice none 0 0, .slice none 0 0, .slice none 0 0]] W (RetI W e))) :
    Calls Try.prog 8 #[.agg #[.int .i64 code, .int .i64 addr, .int .i64 count, .slice A1 n1 c1, .slice A2 n2 c2, .slice A3 n3 c3], .int .i64 exc] w (RetQ w true) := by
  subst h0
  go_enter Try.func8, Try.ntmps8
  go_wp2_with fail
  refine (HL.out _).mono ?_
  rintro e w1 ⟨rfl, hx⟩
  have Z := Lib.hid (show Ext w w1 from (Ext.alloc _ _).trans hx)
  have BA := Lib.hid (show w1.heap[w.heap.size]? = some (.cells #[.int .i64 code, .int .i64 addr, .int .i64 count, .slice A1 n1 c1, .slice A2 n2 c2, .slice A3 n3 c3] 26 (0, 0)) from hx.block (heap_at _ _ _ (by simp)))
  have X := Lib.hid Z.out
  clear hx Z
  obtain ⟨d0, d1, d2, d3, d4, d5⟩ := cells6 BA.out
  go_wp2_with fail
  refine (HG0.out _ X.out).mono ?_
  rintro e w2 ⟨t, rfl, how, hx⟩
  have Z := Lib.hid (show Ext w1 w2 from hx)
  replace BA := Lib.hid (Z.out.block BA.out)
  replace X := Lib.hid (X.out.trans Z.out)
  clear how
  obtain ⟨B1, m1, k1, B2, m2, k2, B3, m3, k3⟩ := t
  simp only [repV, rep0]
  clear d0 d1 d2 d3 d4 d5
  clear hx Z
  obtain ⟨d0, d1, d2, d3, d4, d5⟩ := cells6 BA.out
  have da0 := fun o : Obj => (cells6 ((Ext.alloc _ o).block BA.out)).1
  have da1 := fun o : Obj => (cells6 ((Ext.alloc _ o).block BA.out)).2.1
  have da2 := fun o : Obj => (cells6 ((Ext.alloc _ o).block BA.out)).2.2.1
  have da3 := fun o : Obj => (cells6 ((Ext.alloc _ o).block BA.out)).2.2.2.1
  have da4 := fun o : Obj => (cells6 ((Ext.alloc _ o).block BA.out)).2.2.2.2.1
  have da5 := fun o : Obj => (cells6 ((Ext.alloc _ o).block BA.out)).2.2.2.2.2
  go_wp2_with fail
  refine (HCK.out _ (X.out.trans (Ext.alloc _ _))).mono ?_
  rintro e w3 ⟨rfl, hx⟩
  have Z := Lib.hid (show Ext w2 w3 from (Ext.alloc _ _).trans hx)
  replace BA := Lib.hid (Z.out.block BA.out)
  have BR := Lib.hid (show w3.heap[w2.heap.size]? = some (.cells #[.int .i64 0, .slice B1 m1 k1, .slice B2 m2 k2, .slice B3 m3 k3] 29 (0, 0)) from hx.block (heap_at _ _ _ (by simp)))
  replace X := Lib.hid (X.out.trans Z.out)
  clear d0 d1 d2 d3 d4 d5 da0 da1 da2 da3 da4 da5
  clear hx Z
  obtain ⟨d0, d1, d2, d3, d4, d5⟩ := cells6 BA.out
  obtain ⟨g0, g1, g2, g3⟩ := cells4 BR.out
  go_wp2_with fail
  refine (works04_any _).mono ?_
  rintro e w4 ⟨rfl, hx⟩
  have Z := Lib.hid (show Ext w3 w4 from hx)
  replace BA := Lib.hid (Z.out.block BA.out)
  replace BR := Lib.hid (Z.out.block BR.out)
  replace X := Lib.hid (X.out.trans Z.out)
  clear d0 d1 d2 d3 d4 d5 g0 g1 g2 g3
  clear hx Z
  obtain ⟨d0, d1, d2, d3, d4, d5⟩ := cells6 BA.out
  obtain ⟨g0, g1, g2, g3⟩ := cells4 BR.out
  go_wp2_with fail
  go_ret
  exact ⟨rfl, X.out⟩
theorem exc_out (code addr count : Int) (A1 A2 A3 : Option Addr) (n1 c1 n2 c2 n3 c3 : Nat) (exc : Int) (w : World) (h0 : (exc == 0) = false) (h1 : exc < 1 ∨ 127 < exc) (HL : Hid (∀ W, Calls Try.prog 26 #[.agg #[.int .i64 code, .int .i64 addr, .int .i64 count, .slice A1 n1 c1, .slice A2 n2 c2, .slice A3 n3 c3]] W (RetQ W false)))(HG0 : Hid (∀ W, Ext w W → Calls Try.prog 28 #[.agg #[.int .i64 code, .int .i64 addr, .int .i64 count, .slice A1 n1 c1, .slice A2 n2 c2, .slice A3 n3 c3], .slice none 0 0] W (RetGR W (rep0, 1))))(HCK : Hid (∀ W, Ext w W → Calls Try.prog 15 #[.agg #[.int .i64 code, .int .i64 addr, .int .i64 count, .slice A1 n1 c1, .slice A2 n2 c2, .slice A3 n3 c3], .agg #[.int .i64 exc, .slice none 0 0, .slice none 0 0, .slice none 0 0]] W (RetI W 3))) :
    Calls Try.prog 8 #[.agg #[.int .i64 code, .int .i64 addr, .int .i64 count, .slice A1 n1 c1, .slice A2 n2 c2, .slice A3 n3 c3], .int .i64 exc] w (RetQ w true) := by
  rcases h1 with h1 | h1
  · skip
    go_enter Try.func8, Try.ntmps8
    go_wp2_with fail
    refine (HL.out _).mono ?_
    rintro e w1 ⟨rfl, hx⟩
    have Z := Lib.hid (show Ext w w1 from (Ext.alloc _ _).trans hx)
    have BA := Lib.hid (show w1.heap[w.heap.size]? = some (.cells #[.int .i64 code, .int .i64 addr, .int .i64 count, .slice A1 n1 c1, .slice A2 n2 c2, .slice A3 n3 c3] 26 (0, 0)) from hx.block (heap_at _ _ _ (by simp)))
    have X := Lib.hid Z.out
    clear hx Z
    obtain ⟨d0, d1, d2, d3, d4, d5⟩ := cells6 BA.out
    go_wp2_with fail
    refine (HG0.out _ X.out).mono ?_
    rintro e w2 ⟨t, rfl, how, hx⟩
    have Z := Lib.hid (show Ext w1 w2 from hx)
    replace BA := Lib.hid (Z.out.block BA.out)
    replace X := Lib.hid (X.out.trans Z.out)
    clear how
    obtain ⟨B1, m1, k1, B2, m2, k2, B3, m3, k3⟩ := t
    simp only [repV, rep0]
    clear d0 d1 d2 d3 d4 d5
    clear hx Z
    obtain ⟨d0, d1, d2, d3, d4, d5⟩ := cells6 BA.out
    have da0 := fun o : Obj => (cells6 ((Ext.alloc _ o).block BA.out)).1
    have da1 := fun o : Obj => (cells6 ((Ext.alloc _ o).block BA.out)).2.1
    have da2 := fun o : Obj => (cells6 ((Ext.alloc _ o).block BA.out)).2.2.1
    have da3 := fun o : Obj => (cells6 ((Ext.alloc _ o).block BA.out)).2.2.2.1
    have da4 := fun o : Obj => (cells6 ((Ext.alloc _ o).block BA.out)).2.2.2.2.1
    have da5 := fun o : Obj => (cells6 ((Ext.alloc _ o).block BA.out)).2.2.2.2.2
    go_wp2_with fail
    refine (HCK.out _ (X.out.trans (Ext.alloc _ _))).mono ?_
    rintro e w3 ⟨rfl, hx⟩
    have Z := Lib.hid (show Ext w2 w3 from (Ext.alloc _ _).trans hx)
    replace BA := Lib.hid (Z.out.block BA.out)
    have BR := Lib.hid (show w3.heap[w2.heap.size]? = some (.cells #[.int .i64 0, .slice B1 m1 k1, .slice B2 m2 k2, .slice B3 m3 k3] 29 (0, 0)) from hx.block (heap_at _ _ _ (by simp)))
    replace X := Lib.hid (X.out.trans Z.out)
    clear d0 d1 d2 d3 d4 d5 da0 da1 da2 da3 da4 da5
    clear hx Z
    obtain ⟨d0, d1, d2, d3, d4, d5⟩ := cells6 BA.out
    obtain ⟨g0, g1, g2, g3⟩ := cells4 BR.out
    go_wp2_with fail
    refine (works04_any _).mono ?_
    rintro e w4 ⟨rfl, hx⟩
    have Z := Lib.hid (show Ext w3 w4 from hx)
    replace BA := Lib.hid (Z.out.block BA.out)
    replace BR := Lib.hid (Z.out.block BR.out)
    replace X := Lib.hid (X.out.trans Z.out)
    clear d0 d1 d2 d3 d4 d5 g0 g1 g2 g3
    clear hx Z
    obtain ⟨d0, d1, d2, d3, d4, d5⟩ := cells6 BA.out
    obtain ⟨g0, g1, g2, g3⟩ := cells4 BR.out
    go_wp2_with fail
    go_ret
    exact ⟨rfl, X.out⟩
  · skip
    go_enter Try.func8, Try.ntmps8
    go_wp2_with fail
    refine (HL.out _).mono ?_
    rintro e w1 ⟨rfl, hx⟩
    have Z := Lib.hid (show Ext w w1 from (Ext.alloc _ _).trans hx)
    have BA := Lib.hid (show w1.heap[w.heap.size]? = some (.cells #[.int .i64 code, .int .i64 addr, .int .i64 count, .slice A1 n1 c1, .slice A2 n2 c2, .slice A3 n3 c3] 26 (0, 0)) from hx.block (heap_at _ _ _ (by simp)))
    have X := Lib.hid Z.out
    clear hx Z
    obtain ⟨d0, d1, d2, d3, d4, d5⟩ := cells6 BA.out
    go_wp2_with fail
    refine (HG0.out _ X.out).mono ?_
    rintro e w2 ⟨t, rfl, how, hx⟩
    have Z := Lib.hid (show Ext w1 w2 from hx)
    replace BA := Lib.hid (Z.out.block BA.out)
    replace X := Lib.hid (X.out.trans Z.out)
    clear how
    obtain ⟨B1, m1, k1, B2, m2, k2, B3, m3, k3⟩ := t
    simp only [repV, rep0]
    clear d0 d1 d2 d3 d4 d5
    clear hx Z
    obtain ⟨d0, d1, d2, d3, d4, d5⟩ := cells6 BA.out
    have da0 := fun o : Obj => (cells6 ((Ext.alloc _ o).block BA.out)).1
    have da1 := fun o : Obj => (cells6 ((Ext.alloc _ o).block BA.out)).2.1
    have da2 := fun o : Obj => (cells6 ((Ext.alloc _ o).block BA.out)).2.2.1
    have da3 := fun o : Obj => (cells6 ((Ext.alloc _ o).block BA.out)).2.2.2.1
    have da4 := fun o : Obj => (cells6 ((Ext.alloc _ o).block BA.out)).2.2.2.2.1
    have da5 := fun o : Obj => (cells6 ((Ext.alloc _ o).block BA.out)).2.2.2.2.2
    go_wp2_with fail
    refine (HCK.out _ (X.out.trans (Ext.alloc _ _))).mono ?_
    rintro e w3 ⟨rfl, hx⟩
    have Z := Lib.hid (show Ext w2 w3 from (Ext.alloc _ _).trans hx)
    replace BA := Lib.hid (Z.out.block BA.out)
    have BR := Lib.hid (show w3.heap[w2.heap.size]? = some (.cells #[.int .i64 0, .slice B1 m1 k1, .slice B2 m2 k2, .slice B3 m3 k3] 29 (0, 0)) from hx.block (heap_at _ _ _ (by simp)))
    replace X := Lib.hid (X.out.trans Z.out)
    clear d0 d1 d2 d3 d4 d5 da0 da1 da2 da3 da4 da5
    clear hx Z
    obtain ⟨d0, d1, d2, d3, d4, d5⟩ := cells6 BA.out
    obtain ⟨g0, g1, g2, g3⟩ := cells4 BR.out
    go_wp2_with fail
    refine (works04_any _).mono ?_
    rintro e w4 ⟨rfl, hx⟩
    have Z := Lib.hid (show Ext w3 w4 from hx)
    replace BA := Lib.hid (Z.out.block BA.out)
    replace BR := Lib.hid (Z.out.block BR.out)
    replace X := Lib.hid (X.out.trans Z.out)
    clear d0 d1 d2 d3 d4 d5 g0 g1 g2 g3
    clear hx Z
    obtain ⟨d0, d1, d2, d3, d4, d5⟩ := cells6 BA.out
    obtain ⟨g0, g1, g2, g3⟩ := cells4 BR.out
    go_wp2_with fail
    go_ret
    exact ⟨rfl, X.out⟩
theorem exc_in (code addr count : Int) (A1 A2 A3 : Option Addr) (n1 c1 n2 c2 n3 c3 : Nat) (w : World) (n : Nat) (hn1 : 1 ≤ n) (hn2 : n ≤ 127) (X0 X1 : UInt8) (hX1 : X1.toNat = n) (HL : Hid (∀ W, Calls Try.prog 26 #[.agg #[.int .i64 code, .int .i64 addr, .int .i64 count, .slice A1 n1 c1, .slice A2 n2 c2, .slice A3 n3 c3]] W (RetQ W false)))(HG0 : Hid (∀ W, Ext w W → Calls Try.prog 28 #[.agg #[.int .i64 code, .int .i64 addr, .int .i64 count, .slice A1 n1 c1, .slice A2 n2 c2, .slice A3 n3 c3], .slice none 0 0] W (RetGR W (rep0, 1))))(HCK : Hid (∀ W, Ext w W → Calls Try.prog 15 #[.agg #[.int .i64 code, .int .i64 addr, .int .i64 count, .slice A1 n1 c1, .slice A2 n2 c2, .slice A3 n3 c3], .agg #[.int .i64 (n : Int), .slice none 0 0, .slice none 0 0, .slice none 0 0]] W (RetI W 0)))(HPT : Hid (∀ W, Ext w W → Calls Try.prog 20 #[.agg #[.int .i64 code, .int .i64 addr, .int .i64 count, .slice A1 n1 c1, .slice A2 n2 c2, .slice A3 n3 c3], .agg #[.int .i64 (n : Int), .slice none 0 0, .slice none 0 0, .slice none 0 0]] W (RetU W [X0, X1] 0)))(HG : Hid (∀ W A c, Ext w W → 2 ≤ c → c ≤ 9223372036854775807 → Rd W A 2 (([X0, X1] : List UInt8).map cB) → Calls Try.prog 28 #[.agg #[.int .i64 code, .int .i64 addr, .int .i64 count, .slice A1 n1 c1, .slice A2 n2 c2, .slice A3 n3 c3], .slice A 2 c] W (RetGR W (⟨(n : Int), [], [], []⟩, 0)))) :
    Calls Try.prog 8 #[.agg #[.int .i64 code, .int .i64 addr, .int .i64 count, .slice A1 n1 c1, .slice A2 n2 c2, .slice A3 n3 c3], .int .i64 (n : Int)] w (RetQ w true) := by
  have HS := Lib.hid (fun (s : RepS) (W : World) (h1 : RepRd W ⟨(n : Int), [], [], []⟩ s) => same_reply ⟨(n : Int), [], [], []⟩ s repS0 W h1 ⟨Rd.nil_ _, Rd.nil_ _, RdL.nil_ _ _ _, by unfold i64P; simp only; omega, by simp [repS0], by simp [repS0], by simp [repS0]⟩)
  simp only [repV, repS0] at HS
  go_enter Try.func8, Try.ntmps8
  go_wp2_with fail
  refine (HL.out _).mono ?_
  rintro e w1 ⟨rfl, hx⟩
  have Z := Lib.hid (show Ext w w1 from (Ext.alloc _ _).trans hx)
  have BA := Lib.hid (show w1.heap[w.heap.size]? = some (.cells #[.int .i64 code, .int .i64 addr, .int .i64 count, .slice A1 n1 c1, .slice A2 n2 c2, .slice A3 n3 c3] 26 (0, 0)) from hx.block (heap_at _ _ _ (by simp)))
  have X := Lib.hid Z.out
  clear hx Z
  obtain ⟨d0, d1, d2, d3, d4, d5⟩ := cells6 BA.out
  go_wp2_with fail
  refine (HG0.out _ X.out).mono ?_
  rintro e w2 ⟨t, rfl, how, hx⟩
  have Z := Lib.hid (show Ext w1 w2 from hx)
  replace BA := Lib.hid (Z.out.block BA.out)
  replace X := Lib.hid (X.out.trans Z.out)
  clear how
  obtain ⟨B1, m1, k1, B2, m2, k2, B3, m3, k3⟩ := t
  simp only [repV, rep0]
  clear d0 d1 d2 d3 d4 d5
  clear hx Z
  obtain ⟨d0, d1, d2, d3, d4, d5⟩ := cells6 BA.out
  have da0 := fun o : Obj => (cells6 ((Ext.alloc _ o).block BA.out)).1
  have da1 := fun o : Obj => (cells6 ((Ext.alloc _ o).block BA.out)).2.1
  have da2 := fun o : Obj => (cells6 ((Ext.alloc _ o).block BA.out)).2.2.1
  have da3 := fun o : Obj => (cells6 ((Ext.alloc _ o).block BA.out)).2.2.2.1
  have da4 := fun o : Obj => (cells6 ((Ext.alloc _ o).block BA.out)).2.2.2.2.1
  have da5 := fun o : Obj => (cells6 ((Ext.alloc _ o).block BA.out)).2.2.2.2.2
  go_wp2_with fail
  refine (HCK.out _ (X.out.trans (Ext.alloc _ _))).mono ?_
  rintro e w3 ⟨rfl, hx⟩
  have Z := Lib.hid (show Ext w2 w3 from (Ext.alloc _ _).trans hx)
  replace BA := Lib.hid (Z.out.block BA.out)
  have BR := Lib.hid (show w3.heap[w2.heap.size]? = some (.cells #[.int .i64 0, .slice B1 m1 k1, .slice B2 m2 k2, .slice B3 m3 k3] 29 (0, 0)) from hx.block (heap_at _ _ _ (by simp)))
  replace X := Lib.hid (X.out.trans Z.out)
  clear d0 d1 d2 d3 d4 d5 da0 da1 da2 da3 da4 da5
  clear hx Z
  obtain ⟨d0, d1, d2, d3, d4, d5⟩ := cells6 BA.out
  obtain ⟨g0, g1, g2, g3⟩ := cells4 BR.out
  go_wp2_with fail
  refine (HPT.out _ X.out).mono ?_
  rintro e w4 ⟨A5, n5, c5, rfl, ho5, hx⟩
  have Z := Lib.hid (show Ext w3 w4 from hx)
  replace BA := Lib.hid (Z.out.block BA.out)
  replace BR := Lib.hid (Z.out.block BR.out)
  replace X := Lib.hid (X.out.trans Z.out)
  obtain rfl : n5 = 2 := by have h1 := ho5.len; simp at h1; omega
  have hc5 := ho5.cap
  have hk5 := ho5.capLe
  have HO := Lib.hid ho5.rd
  clear ho5
  clear d0 d1 d2 d3 d4 d5 g0 g1 g2 g3
  clear hx Z
  obtain ⟨d0, d1, d2, d3, d4, d5⟩ := cells6 BA.out
  obtain ⟨g0, g1, g2, g3⟩ := cells4 BR.out
  go_wp2_with fail
  refine (HG.out _ A5 c5 X.out hc5 hk5 HO.out).mono ?_
  rintro e w5 ⟨t, rfl, how, hx⟩
  have Z := Lib.hid (show Ext w4 w5 from hx)
  replace BA := Lib.hid (Z.out.block BA.out)
  replace BR := Lib.hid (Z.out.block BR.out)
  replace X := Lib.hid (X.out.trans Z.out)
  replace HO := Lib.hid (HO.out.ext Z.out)
  have HW := Lib.hid how.rd
  clear how
  obtain ⟨E1, p1, q1, E2, p2, q2, E3, p3, q3⟩ := t
  simp only [repV]
  obtain ⟨bk, off, rfl, hbk, hcl⟩ := HO.out.2 (by omega)
  have e1 := hcl 1 _ rfl
  clear hcl
  simp only [cB, hX1] at e1
  have e1a := fun o : Obj => (Ext.alloc _ o).cell hbk e1
  clear d0 d1 d2 d3 d4 d5 g0 g1 g2 g3
  clear hx Z
  obtain ⟨d0, d1, d2, d3, d4, d5⟩ := cells6 BA.out
  obtain ⟨g0, g1, g2, g3⟩ := cells4 BR.out
  go_wp2_with fail
  refine (HS.out ⟨E1, p1, q1, E2, p2, q2, E3, p3, q3⟩ _ (HW.out.ext (Ext.alloc _ _))).mono ?_
  rintro e w6 ⟨rfl, hx⟩
  have Z := Lib.hid (show Ext w5 w6 from (Ext.alloc _ _).trans hx)
  replace BA := Lib.hid (Z.out.block BA.out)
  replace BR := Lib.hid (Z.out.block BR.out)
  have BX := Lib.hid (show w6.heap[w5.heap.size]? = some (.cells #[.int .i64 (n : Int), .slice E1 p1 q1, .slice E2 p2 q2, .slice E3 p3 q3] 29 (0, 0)) from hx.block (heap_at _ _ _ (by simp)))
  replace X := Lib.hid (X.out.trans Z.out)
  replace HW := Lib.hid (HW.out.ext Z.out)
  clear d0 d1 d2 d3 d4 d5 g0 g1 g2 g3
  clear hx Z
  obtain ⟨d0, d1, d2, d3, d4, d5⟩ := cells6 BA.out
  obtain ⟨g0, g1, g2, g3⟩ := cells4 BR.out
  obtain ⟨f0, f1, f2, f3⟩ := cells4 BX.out
  go_wp2_with fail
  refine (works04_any _).mono ?_
  rintro e w7 ⟨rfl, hx⟩
  have Z := Lib.hid (show Ext w6 w7 from hx)
  replace BA := Lib.hid (Z.out.block BA.out)
  replace BR := Lib.hid (Z.out.block BR.out)
  replace BX := Lib.hid (Z.out.block BX.out)
  replace X := Lib.hid (X.out.trans Z.out)
  replace HW := Lib.hid (HW.out.ext Z.out)
  clear d0 d1 d2 d3 d4 d5 g0 g1 g2 g3 f0 f1 f2 f3
  clear hx Z
  obtain ⟨d0, d1, d2, d3, d4, d5⟩ := cells6 BA.out
  obtain ⟨g0, g1, g2, g3⟩ := cells4 BR.out
  obtain ⟨f0, f1, f2, f3⟩ := cells4 BX.out
  go_wp2_with fail
  go_ret
  exact ⟨rfl, X.out⟩
theorem checkF_ne1 (a : AskD) : checkF a ≠ 1 := by
  unfold checkF partsF
  repeat' split
  all_goals omega
theorem lawReplyExceptions (a : AskD) (s : AskS) (exc : Int) (w : World) (ha : AskRd w a s) (wfe : (Lit.int .i64 exc).wf = true) :
    Calls Try.prog 8 #[askV a s, .int .i64 exc] w (RetQ w true) := by
  have hE : i64P exc := i64P_of wfe
  have HL := Lib.hid (fun W => longAsk_any a s W)
  have hrd : ∀ W, RepRd W ⟨exc, [], [], []⟩ repS0 := fun W => ⟨Rd.nil_ _, Rd.nil_ _, RdL.nil_ _ _ _, hE, by simp [repS0], by simp [repS0], by simp [repS0]⟩
  have HG0 := Lib.hid (fun W (hX : Ext w W) => replyGet_any a [] s none 0 0 W (ha.ext hX) (Rd.nil_ _) (by omega) (by omega))
  have HCK := Lib.hid (fun W (hX : Ext w W) => replyCheck_any a ⟨exc, [], [], []⟩ s repS0 W (ha.ext hX) (hrd W))
  have HPT := Lib.hid (fun W (hX : Ext w W) => replyPut_any a ⟨exc, [], [], []⟩ s repS0 W (ha.ext hX) (hrd W))
  rw [getR_nil] at HG0
  have hne := checkF_ne1 a
  have hlaw := @ex_law a exc
  have hnoK : checkF a ≠ 0 → checkR a ⟨exc, [], [], []⟩ = checkF a := fun h => by unfold checkR; rw [if_pos h]
  by_cases hbig : 70000 < s.n1 ∨ 70000 < s.n2 ∨ 70000 < s.n3
  · rw [decide_eq_true hbig] at HL
    exact exc_long _ _ _ _ _ _ _ _ _ _ _ _ exc w HL
  rw [decide_eq_false hbig] at HL
  by_cases hK : checkF a = 0
  · rw [if_neg (by simp [hK])] at HG0
    obtain ⟨l1, l2⟩ := hlaw hK
    by_cases hr : exc < 1 ∨ 127 < exc
    · by_cases h0 : exc = 0
      · exact exc_zero _ _ _ _ _ _ _ _ _ _ _ _ exc w _ h0 HL HG0 HCK
      · rw [l1 hr h0] at HCK
        exact exc_out _ _ _ _ _ _ _ _ _ _ _ _ exc w (by simpa using h0) hr HL HG0 HCK
    · obtain ⟨l3, l4, l5, l6⟩ := l2 (by omega)
      have HG := Lib.hid (fun W A c (hX : Ext w W) (h1 : 2 ≤ c) (h2 : c ≤ 9223372036854775807) (h : Rd W A 2 (([UInt8.ofNat (a.code + 128).toNat, UInt8.ofNat exc.toNat] : List UInt8).map cB)) => replyGet_any a _ s A 2 c W (ha.ext hX) h ⟨h1, h2⟩ (by omega))
      rw [l6] at HG
      rw [l3] at HCK
      rw [l4, l5] at HPT
      obtain ⟨n, rfl⟩ := Int.eq_ofNat_of_zero_le (show 0 ≤ exc by omega)
      exact exc_in _ _ _ _ _ _ _ _ _ _ _ _ w n (by omega) (by omega) _ _ (toNat_ofNat8 (by omega)) HL HG0 HCK HPT HG
  · rw [if_pos hK] at HG0
    rw [hnoK hK] at HCK
    exact exc_bad _ _ _ _ _ _ _ _ _ _ _ _ exc w _ (by simpa using hne) (by simp) HL HG0 HCK
end Go.Proofs.Ytpjmhckdeeonbaa

namespace Go.Proofs.Ytpjmhckdeeonbaa
set_option linter.unusedVariables false
set_option linter.unusedSimpArgs false
set_option maxRecDepth 100000
set_option maxHeartbeats 2000000
open Go Go.RowKit Go.Out

theorem step_b8 {ops : Array Oper} {o : Oper} {a : Act} {w : World} {K : Act → World → Prop} {Q : Exit → Act → World → Prop} {E : Prop} (hgd : o.guard = none) (s x : Operand)
    (ho : o.op = .call { callee := .builtin .append, args := #[s, x], argTypes := #[36, 36] })
    {base : Nat} {A : Option Addr} {n c : Nat} {xs : List Value} (hs : a.eval s = .slice A n c) (hown : Own w base 5 IsU8 A n c xs)
    {A' : Option Addr} {m c' : Nat} {news : List Value} (hx : a.eval x = .slice A' m c') (hr : Rd w A' m news) (hnp : ∀ u ∈ news, IsU8 u) (hsz : n + m ≤ 140737488355328) (hbase : base ≤ w.heap.size)
    (h : ∀ A1 c1 w1, Own w1 base 5 IsU8 A1 (n + m) c1 (xs ++ news) → w.grownBy w1 (blk A) → (blk A1 = blk A ∨ blk A1 = some w.heap.size) → K (a.put o.dst (.slice A1 (n + m) c1)) w1) :
    if Region.wanted o (yielded ops a.tmps) = true then Oper.wp Try.prog o a w K Q else E :=
  step_append_Own hgd s x _ ho IsU8 base _ (.int .u8 0) 1 Try.underlying36 info_u8 rfl ⟨0, rfl⟩ (fun _ => isU8_one) A n c xs hs hown A' m c' news hx hr hnp (by omega) (by omega) hbase h
theorem back_long (code addr count exc : Int) (A1 A2 A3 B1 B2 B3 : Option Addr) (n1 c1 n2 c2 n3 c3 m1 k1 m2 k2 m3 k3 : Nat) (cut : Int) (mo : UInt8) (w : World) (HL : Hid (∀ W, Ext w W → Calls Try.prog 14 #[.agg #[.int .i64 code, .int .i64 addr, .int .i64 count, .slice A1 n1 c1, .slice A2 n2 c2, .slice A3 n3 c3], .agg #[.int .i64 exc, .slice B1 m1 k1, .slice B2 m2 k2, .slice B3 m3 k3]] W (RetQ W true))) :
    Calls Try.prog 6 #[.agg #[.int .i64 code, .int .i64 addr, .int .i64 count, .slice A1 n1 c1, .slice A2 n2 c2, .slice A3 n3 c3], .agg #[.int .i64 exc, .slice B1 m1 k1, .slice B2 m2 k2, .slice B3 m3 k3], .int .i64 cut, .int .u8 (mo.toNat : Int)] w (RetQ w true) := by
  go_enter Try.func6, Try.ntmps6
  go_wp2_with fail
  refine (HL.out _ ((Ext.alloc _ _).trans (Ext.alloc _ _))).mono ?_
  rintro e w1 ⟨rfl, hx⟩
  have Z := Lib.hid (show Ext w w1 from ((Ext.alloc _ _).trans (Ext.alloc _ _)).trans hx)
  have BA := Lib.hid (show w1.heap[w.heap.size]? = some (.cells #[.int .i64 code, .int .i64 addr, .int .i64 count, .slice A1 n1 c1, .slice A2 n2 c2, .slice A3 n3 c3] 26 (0, 0)) from hx.block ((Ext.alloc _ _).block (heap_at _ _ _ (by simp))))
  have BR := Lib.hid (show w1.heap[w.heap.size + 1]? = some (.cells #[.int .i64 exc, .slice B1 m1 k1, .slice B2 m2 k2, .slice B3 m3 k3] 29 (0, 0)) from hx.block (heap_at _ _ _ (by simp)))
  have X := Lib.hid Z.out
  clear hx Z
  obtain ⟨d0, d1, d2, d3, d4, d5⟩ := cells6 BA.out
  obtain ⟨g0, g1, g2, g3⟩ := cells4 BR.out
  go_wp2_with fail
  refine (works04_any _).mono ?_
  rintro e w2 ⟨rfl, hx⟩
  have Z := Lib.hid (show Ext w1 w2 from hx)
  replace BA := Lib.hid (Z.out.block BA.out)
  replace BR := Lib.hid (Z.out.block BR.out)
  replace X := Lib.hid (X.out.trans Z.out)
  clear d0 d1 d2 d3 d4 d5 g0 g1 g2 g3
  clear hx Z
  obtain ⟨d0, d1, d2, d3, d4, d5⟩ := cells6 BA.out
  obtain ⟨g0, g1, g2, g3⟩ := cells4 BR.out
  go_wp2_with fail
  go_ret
  exact ⟨rfl, X.out⟩
theorem back_bad (code addr count exc : Int) (A1 A2 A3 B1 B2 B3 : Option Addr) (n1 c1 n2 c2 n3 c3 m1 k1 m2 k2 m3 k3 : Nat) (cut : Int) (mo : UInt8) (w : World) (K : Int) (hK : (K != 0) = true) (hee : (K == K) = true) (HL : Hid (∀ W, Ext w W → Calls Try.prog 14 #[.agg #[.int .i64 code, .int .i64 addr, .int .i64 count, .slice A1 n1 c1, .slice A2 n2 c2, .slice A3 n3 c3], .agg #[.int .i64 exc, .slice B1 m1 k1, .slice B2 m2 k2, .slice B3 m3 k3]] W (RetQ W false)))(HPT : Hid (∀ W, Ext w W → Calls Try.prog 20 #[.agg #[.int .i64 code, .int .i64 addr, .int .i64 count, .slice A1 n1 c1, .slice A2 n2 c2, .slice A3 n3 c3], .agg #[.int .i64 exc, .slice B1 m1 k1, .slice B2 m2 k2, .slice B3 m3 k3]] W (RetU W [] K)))(HCK : Hid (∀ W, Ext w W → Calls Try.prog 15 #[.agg #[.int .i64 code, .int .i64 addr, .int .i64 count, .slice A1 n1 c1, .slice A2 n2 c2, .slice A3 n3 c3], .agg #[.int .i64 exc, .slice B1 m1 k1, .slice B2 m2 k2, .slice B3 m3 k3]] W (RetI W K))) :
    Calls Try.prog 6 #[.agg #[.int .i64 code, .int .i64 addr, .int .i64 count, .slice A1 n1 c1, .slice A2 n2 c2, .slice A3 n3 c3], .agg #[.int .i64 exc, .slice B1 m1 k1, .slice B2 m2 k2, .slice B3 m3 k3], .int .i64 cut, .int .u8 (mo.toNat : Int)] w (RetQ w true) := by
  go_enter Try.func6, Try.ntmps6
  go_wp2_with fail
  refine (HL.out _ ((Ext.alloc _ _).trans (Ext.alloc _ _))).mono ?_
  rintro e w1 ⟨rfl, hx⟩
  have Z := Lib.hid (show Ext w w1 from ((Ext.alloc _ _).trans (Ext.alloc _ _)).trans hx)
  have BA := Lib.hid (show w1.heap[w.heap.size]? = some (.cells #[.int .i64 code, .int .i64 addr, .int .i64 count, .slice A1 n1 c1, .slice A2 n2 c2, .slice A3 n3 c3] 26 (0, 0)) from hx.block ((Ext.alloc _ _).block (heap_at _ _ _ (by simp))))
  have BR := Lib.hid (show w1.heap[w.heap.size + 1]? = some (.cells #[.int .i64 exc, .slice B1 m1 k1, .slice B2 m2 k2, .slice B3 m3 k3] 29 (0, 0)) from hx.block (heap_at _ _ _ (by simp)))
  have X := Lib.hid Z.out
  clear hx Z
  obtain ⟨d0, d1, d2, d3, d4, d5⟩ := cells6 BA.out
  obtain ⟨g0, g1, g2, g3⟩ := cells4 BR.out
  go_wp2_with fail
  refine (HPT.out _ X.out).mono ?_
  rintro e w2 ⟨A5, n5, c5, rfl, ho5, hx⟩
  have Z := Lib.hid (show Ext w1 w2 from hx)
  replace BA := Lib.hid (Z.out.block BA.out)
  replace BR := Lib.hid (Z.out.block BR.out)
  replace X := Lib.hid (X.out.trans Z.out)
  obtain rfl : n5 = 0 := by have h1 := ho5.len; simp at h1; omega
  clear ho5
  clear d0 d1 d2 d3 d4 d5 g0 g1 g2 g3
  clear hx Z
  obtain ⟨d0, d1, d2, d3, d4, d5⟩ := cells6 BA.out
  obtain ⟨g0, g1, g2, g3⟩ := cells4 BR.out
  go_wp2_with fail
  refine (HCK.out _ X.out).mono ?_
  rintro e w3 ⟨rfl, hx⟩
  have Z := Lib.hid (show Ext w2 w3 from hx)
  replace BA := Lib.hid (Z.out.block BA.out)
  replace BR := Lib.hid (Z.out.block BR.out)
  replace X := Lib.hid (X.out.trans Z.out)
  clear d0 d1 d2 d3 d4 d5 g0 g1 g2 g3
  clear hx Z
  obtain ⟨d0, d1, d2, d3, d4, d5⟩ := cells6 BA.out
  obtain ⟨g0, g1, g2, g3⟩ := cells4 BR.out
  go_wp2_with fail
  refine (works04_any _).mono ?_
  rintro e w4 ⟨rfl, hx⟩
  have Z := Lib.hid (show Ext w3 w4 from hx)
  replace BA := Lib.hid (Z.out.block BA.out)
  replace BR := Lib.hid (Z.out.block BR.out)
  replace X := Lib.hid (X.out.trans Z.out)
  clear d0 d1 d2 d3 d4 d5 g0 g1 g2 g3
  clear hx Z
  obtain ⟨d0, d1, d2, d3, d4, d5⟩ := cells6 BA.out
  obtain ⟨g0, g1, g2, g3⟩ := cells4 BR.out
  go_wp2_with fail
  go_ret
  exact ⟨rfl, X.out⟩
theorem back_ok (code addr count exc : Int) (A1 A2 A3 B1 B2 B3 : Option Addr) (n1 c1 n2 c2 n3 c3 m1 k1 m2 k2 m3 k3 : Nat) (cut : Int) (mo : UInt8) (w : World) (rr : RepD) (hre : rr.exc = exc) (xs : List UInt8) (n : Nat) (hn : xs.length = n) (hn2 : 2 ≤ n) (hn3 : n ≤ 253) (HL : Hid (∀ W, Ext w W → Calls Try.prog 14 #[.agg #[.int .i64 code, .int .i64 addr, .int .i64 count, .slice A1 n1 c1, .slice A2 n2 c2, .slice A3 n3 c3], .agg #[.int .i64 exc, .slice B1 m1 k1, .slice B2 m2 k2, .slice B3 m3 k3]] W (RetQ W false)))(HPT : Hid (∀ W, Ext w W → Calls Try.prog 20 #[.agg #[.int .i64 code, .int .i64 addr, .int .i64 count, .slice A1 n1 c1, .slice A2 n2 c2, .slice A3 n3 c3], .agg #[.int .i64 exc, .slice B1 m1 k1, .slice B2 m2 k2, .slice B3 m3 k3]] W (RetU W xs 0)))(HG : Hid (∀ W A c, Ext w W → n ≤ c → c ≤ 9223372036854775807 → Rd W A n ((xs).map cB) → Calls Try.prog 28 #[.agg #[.int .i64 code, .int .i64 addr, .int .i64 count, .slice A1 n1 c1, .slice A2 n2 c2, .slice A3 n3 c3], .slice A n c] W (RetGR W (rr, 0))))(HGT : Hid (∀ W A k c, Ext w W → k < n → k ≤ c → c ≤ 9223372036854775807 → Rd W A k ((xs.take k).map cB) → Calls Try.prog 28 #[.agg #[.int .i64 code, .int .i64 addr, .int .i64 count, .slice A1 n1 c1, .slice A2 n2 c2, .slice A3 n3 c3], .slice A k c] W (RetGR W (rep0, 1))))(HGM : Hid (∀ W A c, Ext w W → (n + 1) ≤ c → c ≤ 9223372036854775807 → Rd W A (n + 1) ((xs ++ [mo]).map cB) → Calls Try.prog 28 #[.agg #[.int .i64 code, .int .i64 addr, .int .i64 count, .slice A1 n1 c1, .slice A2 n2 c2, .slice A3 n3 c3], .slice A (n + 1) c] W (RetGR W (rep0, 2))))(HS : Hid (∀ W (s : RepS), Ext w W → RepRd W rr s → Calls Try.prog 24 #[repV rr s, .agg #[.int .i64 exc, .slice B1 m1 k1, .slice B2 m2 k2, .slice B3 m3 k3]] W (RetQ W true))) :
    Calls Try.prog 6 #[.agg #[.int .i64 code, .int .i64 addr, .int .i64 count, .slice A1 n1 c1, .slice A2 n2 c2, .slice A3 n3 c3], .agg #[.int .i64 exc, .slice B1 m1 k1, .slice B2 m2 k2, .slice B3 m3 k3], .int .i64 cut, .int .u8 (mo.toNat : Int)] w (RetQ w true) := by
  have HN := Lib.hid hn
  clear hn
  obtain ⟨rexc, ron, rset, rfiles⟩ := rr
  simp only at hre
  subst hre
  simp only [repV] at HS
  have HP := Lib.hid (fun W => pick_any cut n W (by omega) (by omega))
  go_enter Try.func6, Try.ntmps6
  go_wp2_with fail
  refine (HL.out _ ((Ext.alloc _ _).trans (Ext.alloc _ _))).mono ?_
  rintro e w1 ⟨rfl, hx⟩
  have Z := Lib.hid (show Ext w w1 from ((Ext.alloc _ _).trans (Ext.alloc _ _)).trans hx)
  have BA := Lib.hid (show w1.heap[w.heap.size]? = some (.cells #[.int .i64 code, .int .i64 addr, .int .i64 count, .slice A1 n1 c1, .slice A2 n2 c2, .slice A3 n3 c3] 26 (0, 0)) from hx.block ((Ext.alloc _ _).block (heap_at _ _ _ (by simp))))
  have BR := Lib.hid (show w1.heap[w.heap.size + 1]? = some (.cells #[.int .i64 rexc, .slice B1 m1 k1, .slice B2 m2 k2, .slice B3 m3 k3] 29 (0, 0)) from hx.block (heap_at _ _ _ (by simp)))
  have X := Lib.hid Z.out
  have BA1 := BA
  have X1 := X
  have Y := Lib.hid (Ext.refl w1)
  clear hx Z
  obtain ⟨d0, d1, d2, d3, d4, d5⟩ := cells6 BA.out
  obtain ⟨g0, g1, g2, g3⟩ := cells4 BR.out
  go_wp2_with fail
  refine (HPT.out _ X.out).mono ?_
  rintro e w2 ⟨A5, n5, c5, rfl, ho5, hx⟩
  have Z := Lib.hid (show Ext w1 w2 from hx)
  replace BA := Lib.hid (Z.out.block BA.out)
  replace BR := Lib.hid (Z.out.block BR.out)
  replace X := Lib.hid (X.out.trans Z.out)
  replace Y := Lib.hid (Y.out.trans Z.out)
  obtain rfl : n5 = n := by have h1 := ho5.len; have h2 := HN.out; simp at h1; omega
  have hc5 := ho5.cap
  have hk5 := ho5.capLe
  have HO := Lib.hid ho5
  clear ho5
  clear d0 d1 d2 d3 d4 d5 g0 g1 g2 g3
  clear hx Z
  obtain ⟨d0, d1, d2, d3, d4, d5⟩ := cells6 BA.out
  obtain ⟨g0, g1, g2, g3⟩ := cells4 BR.out
  go_wp2_with fail
  refine (HG.out _ A5 c5 X.out hc5 hk5 HO.out.rd).mono ?_
  rintro e w3 ⟨t, rfl, how, hx⟩
  have Z := Lib.hid (show Ext w2 w3 from hx)
  replace BA := Lib.hid (Z.out.block BA.out)
  replace BR := Lib.hid (Z.out.block BR.out)
  replace X := Lib.hid (X.out.trans Z.out)
  replace HO := Lib.hid (HO.out.ext Z.out)
  replace Y := Lib.hid (Y.out.trans Z.out)
  have HW := Lib.hid how.rd
  clear how
  obtain ⟨E1, p1, q1, E2, p2, q2, E3, p3, q3⟩ := t
  simp only [repV]
  clear d0 d1 d2 d3 d4 d5 g0 g1 g2 g3
  clear hx Z
  obtain ⟨d0, d1, d2, d3, d4, d5⟩ := cells6 BA.out
  have da0 := fun o : Obj => (cells6 ((Ext.alloc _ o).block BA.out)).1
  have da1 := fun o : Obj => (cells6 ((Ext.alloc _ o).block BA.out)).2.1
  have da2 := fun o : Obj => (cells6 ((Ext.alloc _ o).block BA.out)).2.2.1
  have da3 := fun o : Obj => (cells6 ((Ext.alloc _ o).block BA.out)).2.2.2.1
  have da4 := fun o : Obj => (cells6 ((Ext.alloc _ o).block BA.out)).2.2.2.2.1
  have da5 := fun o : Obj => (cells6 ((Ext.alloc _ o).block BA.out)).2.2.2.2.2
  obtain ⟨g0, g1, g2, g3⟩ := cells4 BR.out
  have ga0 := fun o : Obj => (cells4 ((Ext.alloc _ o).block BR.out)).1
  have ga1 := fun o : Obj => (cells4 ((Ext.alloc _ o).block BR.out)).2.1
  have ga2 := fun o : Obj => (cells4 ((Ext.alloc _ o).block BR.out)).2.2.1
  have ga3 := fun o : Obj => (cells4 ((Ext.alloc _ o).block BR.out)).2.2.2
  go_wp2_with fail
  refine (HS.out _ ⟨E1, p1, q1, E2, p2, q2, E3, p3, q3⟩ (X.out.trans (Ext.alloc _ _)) (HW.out.ext (Ext.alloc _ _))).mono ?_
  rintro e w4 ⟨rfl, hx⟩
  have Z := Lib.hid (show Ext w3 w4 from (Ext.alloc _ _).trans hx)
  replace BA := Lib.hid (Z.out.block BA.out)
  replace BR := Lib.hid (Z.out.block BR.out)
  have BX := Lib.hid (show w4.heap[w3.heap.size]? = some (.cells #[.int .i64 rexc, .slice E1 p1 q1, .slice E2 p2 q2, .slice E3 p3 q3] 29 (0, 0)) from hx.block (heap_at _ _ _ (by simp)))
  replace X := Lib.hid (X.out.trans Z.out)
  replace HO := Lib.hid (HO.out.ext Z.out)
  replace HW := Lib.hid (HW.out.ext Z.out)
  replace Y := Lib.hid (Y.out.trans Z.out)
  clear d0 d1 d2 d3 d4 d5 da0 da1 da2 da3 da4 da5 g0 g1 g2 g3 ga0 ga1 ga2 ga3
  clear hx Z
  obtain ⟨d0, d1, d2, d3, d4, d5⟩ := cells6 BA.out
  have HSS := Lib.hid (fun (W : World) (hX : Ext w1 W) => (show W.cell? ⟨w.heap.size, 0, none⟩ = some (.int .i64 code) ∧ W.cell? ⟨w.heap.size, 1, none⟩ = some (.int .i64 addr) ∧ W.cell? ⟨w.heap.size, 2, none⟩ = some (.int .i64 count) ∧ W.cell? ⟨w.heap.size, 3, none⟩ = some (.slice A1 n1 c1) ∧ W.cell? ⟨w.heap.size, 4, none⟩ = some (.slice A2 n2 c2) ∧ W.cell? ⟨w.heap.size, 5, none⟩ = some (.slice A3 n3 c3) from cells6 (hX.block BA1.out)))
  go_wp2_with fail
  go_region_held3 (fun W => W.cell? ⟨w.heap.size, 0, none⟩ = some (.int .i64 code) ∧ W.cell? ⟨w.heap.size, 1, none⟩ = some (.int .i64 addr) ∧ W.cell? ⟨w.heap.size, 2, none⟩ = some (.int .i64 count) ∧ W.cell? ⟨w.heap.size, 3, none⟩ = some (.slice A1 n1 c1) ∧ W.cell? ⟨w.heap.size, 4, none⟩ = some (.slice A2 n2 c2) ∧ W.cell? ⟨w.heap.size, 5, none⟩ = some (.slice A3 n3 c3)) (first | with_reducible exact HSS.out _ (Y.out.trans (Ext.draw _)) | with_reducible exact HSS.out _ Y5.out | go_keep) ((first
    | (go_at_call 32
       with_reducible refine Calls.mono (HP.out _) ?_
       rintro e v_ ⟨p, hpn, rfl, rfl⟩
       have hp2 : (p : Int) ≤ (c5 : Int) := by omega
       have HRT := Lib.hid (show Rd w4.drew A5 p ((xs.take p).map cB) by rw [List.map_take]; exact (HO.out.rd.ext (Ext.draw _)).take (by omega)))
    | (go_at_call 28
       with_reducible refine Calls.mono (HGT.out _ A5 p c5 (X.out.trans (Ext.draw _)) hpn (by omega) hk5 HRT.out) ?_
       rintro e w5 ⟨⟨G1, r1, u1, G2, r2, u2, G3, r3, u3⟩, rfl, how, hx⟩
       have Y5 := Lib.hid (Y.out.trans ((Ext.draw _).trans hx))
       have X5 := Lib.hid (X.out.trans ((Ext.draw _).trans hx))
       have HO5 := Lib.hid (HO.out.ext ((Ext.draw _).trans hx))
       clear how hx)
    | fail))
  clear d0 d1 d2 d3 d4 d5
  obtain ⟨d0, d1, d2, d3, d4, d5⟩ := HSS.out _ Y5.out
  have HLT := Lib.hid (fun (W : World) (g : Nat) (hg : g = W.heap.size) => (show Rd (W.alloc (.cells #[.int .u8 (mo.toNat : Int)] 5)) (some ⟨g, 0, none⟩) 1 (([mo] : List UInt8).map cB) from Rd.of_heap (ys := []) (heap_at _ _ _ hg) rfl rfl))
  go_wp2_with fail
  go_region_held3 (fun W => W.cell? ⟨w.heap.size, 0, none⟩ = some (.int .i64 code) ∧ W.cell? ⟨w.heap.size, 1, none⟩ = some (.int .i64 addr) ∧ W.cell? ⟨w.heap.size, 2, none⟩ = some (.int .i64 count) ∧ W.cell? ⟨w.heap.size, 3, none⟩ = some (.slice A1 n1 c1) ∧ W.cell? ⟨w.heap.size, 4, none⟩ = some (.slice A2 n2 c2) ∧ W.cell? ⟨w.heap.size, 5, none⟩ = some (.slice A3 n3 c3)) (first | with_reducible exact HSS.out _ (Y5.out.trans (Ext.draw _)) | with_reducible exact HSS.out _ (Y5.out.trans ((Ext.draw _).trans (Ext.alloc _ _))) | with_reducible exact HSS.out _ Y6.out | with_reducible exact HSS.out _ Y7.out | go_keep) ((first
    | (refine step_b8 rfl (.tmp 77) (.tmp 79) rfl rfl (HO5.out.ext ((Ext.draw _).trans (Ext.alloc _ _))) rfl (HLT.out _ _ (by simp)) isU8_map (by omega) (by have := HO5.out; simp; exact Nat.le_trans Y5.out.size (Nat.le_succ _)) ?_
       intro A6 c6 w6 hown hg hbk
       rw [← List.map_append] at hown
       have HO6 := Lib.hid hown
       have X6 := Lib.hid ((X5.out.trans ((Ext.draw _).trans (Ext.alloc _ _))).grown' hg (fun g e => Nat.le_trans X1.out.size (HO5.out.lt g e).1))
       have Y6 := Lib.hid ((Y5.out.trans ((Ext.draw _).trans (Ext.alloc _ _))).grown' hg (fun g e => (HO5.out.lt g e).1))
       clear hown hg hbk)
    | (go_at_call 28
       with_reducible refine Calls.mono (HGM.out _ A6 c6 X6.out HO6.out.cap HO6.out.capLe HO6.out.rd) ?_
       rintro e w7 ⟨⟨G1', r1', u1', G2', r2', u2', G3', r3', u3'⟩, rfl, how, hx⟩
       have X7 := Lib.hid (X6.out.trans hx)
       have Y7 := Lib.hid (Y6.out.trans hx)
       clear how hx)
    | fail))
  clear d0 d1 d2 d3 d4 d5
  go_wp2_with fail
  refine (works04_any _).mono ?_
  rintro e w8 ⟨rfl, hx⟩
  go_wp2_with fail
  go_ret
  exact ⟨rfl, X7.out.trans hx⟩
theorem lawReplyBack (a : AskD) (s : AskS) (r : RepD) (t : RepS) (cut : Int) (m : Int) (w : World) (ha : AskRd w a s) (hr : RepRd w r t) (wfc : (Lit.int .i64 cut).wf = true) (wfm : (Lit.int .u8 m).wf = true) :
    Calls Try.prog 6 #[askV a s, repV r t, .int .i64 cut, .int .u8 m] w (RetQ w true) := by
  have hm := bounds_u8 wfm
  obtain ⟨mo, rfl⟩ : ∃ mo : UInt8, m = (mo.toNat : Int) := ⟨UInt8.ofNat m.toNat, by rw [toNat_ofNat8 (by omega)]; omega⟩
  have HL := Lib.hid (fun W (hX : Ext w W) => long04_any a r s t W (ha.ext hX) (hr.ext hX))
  generalize (decide (70000 < s.n1 ∨ 70000 < s.n2 ∨ 70000 < s.n3) || longR r) = P at HL
  cases P with
  | true => exact back_long _ _ _ _ _ _ _ _ _ _ _ _ _ _ _ _ _ _ _ _ _ _ cut mo w HL
  | false =>
    have HPT := Lib.hid (fun W (hX : Ext w W) => replyPut_any a r s t W (ha.ext hX) (hr.ext hX))
    by_cases hK : checkR a r = 0
    · obtain ⟨g1, g2, g3, g4⟩ := getR_putR hK
      have q1 := fun k (h : k < (putR a r).1.length) => getR_take hK h
      have q2 := getR_more hK (m := [mo]) (by simp)
      have HG := fun (xs : List UInt8) (R : RepD × Int) (hR : getR a xs = R) (W : World) (A : Option Addr) (c n : Nat) (hX : Ext w W) (h1 : n ≤ c) (h2 : c ≤ 9223372036854775807) (h3 : n ≤ 300) (h : Rd W A n (xs.map cB)) => (by
        have h5 := replyGet_any a xs s A n c W (ha.ext hX) h ⟨h1, h2⟩ (by omega)
        rwa [hR] at h5 : Calls Try.prog 28 #[askV a s, .slice A n c] W (RetGR W R))
      rw [g2] at HPT
      refine back_ok _ _ _ _ _ _ _ _ _ _ _ _ _ _ _ _ _ _ _ _ _ _ cut mo w r rfl (putR a r).1 _ rfl g3 g4 HL HPT (Lib.hid fun W A c hX h1 h2 h => HG _ _ g1 W A c _ hX h1 h2 (by omega) h)
        (Lib.hid fun W A k c hX hk h1 h2 h => HG _ _ (q1 k hk) W A c _ hX h1 h2 (by omega) h) (Lib.hid fun W A c hX h1 h2 h => HG _ _ q2 W A c _ hX h1 h2 (by omega) h) (Lib.hid fun W u hX h => same_reply r u t W h (hr.ext hX))
    · have HCK := Lib.hid (fun W (hX : Ext w W) => replyCheck_any a r s t W (ha.ext hX) (hr.ext hX))
      rw [putR_no hK] at HPT
      exact back_bad _ _ _ _ _ _ _ _ _ _ _ _ _ _ _ _ _ _ _ _ _ _ cut mo w _ (by simpa using hK) (by simp) HL HPT HCK
end Go.Proofs.Ytpjmhckdeeonbaa

namespace Go.Proofs.Ytpjmhckdeeonbaa
set_option linter.unusedVariables false
set_option linter.unusedSimpArgs false
set_option maxRecDepth 100000
set_option maxHeartbeats 2000000
open Go Go.RowKit Go.Out

theorem skip_op {o : Oper} {y : Nat → Option Bool} {A B : Prop} (h : Region.wanted o y = false) (hb : B) : if Region.wanted o y = true then A else B := by
  rw [h]; exact hb
theorem checks_long (code addr count exc : Int) (A1 A2 A3 B1 B2 B3 : Option Addr) (n1 c1 n2 c2 n3 c3 m1 k1 m2 k2 m3 k3 : Nat) (w : World) (HL : Hid (∀ W, Ext w W → Calls Try.prog 14 #[.agg #[.int .i64 code, .int .i64 addr, .int .i64 count, .slice A1 n1 c1, .slice A2 n2 c2, .slice A3 n3 c3], .agg #[.int .i64 exc, .slice B1 m1 k1, .slice B2 m2 k2, .slice B3 m3 k3]] W (RetQ W true))) :
    Calls Try.prog 3 #[.agg #[.int .i64 code, .int .i64 addr, .int .i64 count, .slice A1 n1 c1, .slice A2 n2 c2, .slice A3 n3 c3], .agg #[.int .i64 exc, .slice B1 m1 k1, .slice B2 m2 k2, .slice B3 m3 k3]] w (RetQ w true) := by
  have HB := Lib.hid (two_boxes w #[.int .i64 code, .int .i64 addr, .int .i64 count, .slice A1 n1 c1, .slice A2 n2 c2, .slice A3 n3 c3] #[.int .i64 exc, .slice B1 m1 k1, .slice B2 m2 k2, .slice B3 m3 k3] 26 29)
  have HSS := Lib.hid (fun (W : World) (hX : Ext ((w.alloc (.cells #[.int .i64 code, .int .i64 addr, .int .i64 count, .slice A1 n1 c1, .slice A2 n2 c2, .slice A3 n3 c3] 26)).alloc (.cells #[.int .i64 exc, .slice B1 m1 k1, .slice B2 m2 k2, .slice B3 m3 k3] 29)) W) => (show (W.cell? ⟨w.heap.size, 0, none⟩ = some (.int .i64 code) ∧ W.cell? ⟨w.heap.size, 1, none⟩ = some (.int .i64 addr) ∧ W.cell? ⟨w.heap.size, 2, none⟩ = some (.int .i64 count) ∧ W.cell? ⟨w.heap.size, 3, none⟩ = some (.slice A1 n1 c1) ∧ W.cell? ⟨w.heap.size, 4, none⟩ = some (.slice A2 n2 c2) ∧ W.cell? ⟨w.heap.size, 5, none⟩ = some (.slice A3 n3 c3)) ∧ (W.cell? ⟨w.heap.size + 1, 0, none⟩ = some (.int .i64 exc) ∧ W.cell? ⟨w.heap.size + 1, 1, none⟩ = some (.slice B1 m1 k1) ∧ W.cell? ⟨w.heap.size + 1, 2, none⟩ = some (.slice B2 m2 k2) ∧ W.cell? ⟨w.heap.size + 1, 3, none⟩ = some (.slice B3 m3 k3)) from ⟨cells6 (HB.out W hX).1, cells4 (HB.out W hX).2⟩))
  obtain ⟨V, hV⟩ : ∃ V, ((w.alloc (.cells #[.int .i64 code, .int .i64 addr, .int .i64 count, .slice A1 n1 c1, .slice A2 n2 c2, .slice A3 n3 c3] 26)).alloc (.cells #[.int .i64 exc, .slice B1 m1 k1, .slice B2 m2 k2, .slice B3 m3 k3] 29)) = V := ⟨_, rfl⟩
  have XV := Lib.hid (show Ext w V from hV ▸ ext_pair _ _ _)
  rw [hV] at HSS
  have HV := Lib.hid hV
  clear hV HB
  obtain ⟨⟨d0, d1, d2, d3, d4, d5⟩, g0, g1, g2, g3⟩ := HSS.out _ (Ext.refl _)
  go_enter Try.func3, Try.ntmps3
  go_wp2_with fail
  rw [HV.out]
  first | (go_region_law ((first
  | (refine skip_op rfl ?_)
  | (go_simp
     go_at_call 14
     with_reducible refine Calls.mono (HL.out _ (XV.out.trans (Ext.draw _))) ?_
     rintro e v1 ⟨rfl, hx⟩
     have Y1 := Lib.hid ((Ext.draw V).trans hx)
     clear hx)
  | fail))) | fail
  all_goals
    go_wp2_with fail
    go_ret
    exact ⟨rfl, XV.out.trans Y1.out⟩
theorem checks_ok (code addr count exc : Int) (A1 A2 A3 B1 B2 B3 : Option Addr) (n1 c1 n2 c2 n3 c3 m1 k1 m2 k2 m3 k3 : Nat) (w : World) (K : Int) (hee : (K == K) = true) (HL : Hid (∀ W, Ext w W → Calls Try.prog 14 #[.agg #[.int .i64 code, .int .i64 addr, .int .i64 count, .slice A1 n1 c1, .slice A2 n2 c2, .slice A3 n3 c3], .agg #[.int .i64 exc, .slice B1 m1 k1, .slice B2 m2 k2, .slice B3 m3 k3]] W (RetQ W false)))(HCK : Hid (∀ W, Ext w W → Calls Try.prog 15 #[.agg #[.int .i64 code, .int .i64 addr, .int .i64 count, .slice A1 n1 c1, .slice A2 n2 c2, .slice A3 n3 c3], .agg #[.int .i64 exc, .slice B1 m1 k1, .slice B2 m2 k2, .slice B3 m3 k3]] W (RetI W K)))(HC4 : Hid (∀ W, Ext w W → Calls Try.prog 16 #[.agg #[.int .i64 code, .int .i64 addr, .int .i64 count, .slice A1 n1 c1, .slice A2 n2 c2, .slice A3 n3 c3], .agg #[.int .i64 exc, .slice B1 m1 k1, .slice B2 m2 k2, .slice B3 m3 k3]] W (RetI W K))) :
    Calls Try.prog 3 #[.agg #[.int .i64 code, .int .i64 addr, .int .i64 count, .slice A1 n1 c1, .slice A2 n2 c2, .slice A3 n3 c3], .agg #[.int .i64 exc, .slice B1 m1 k1, .slice B2 m2 k2, .slice B3 m3 k3]] w (RetQ w true) := by
  have HB := Lib.hid (two_boxes w #[.int .i64 code, .int .i64 addr, .int .i64 count, .slice A1 n1 c1, .slice A2 n2 c2, .slice A3 n3 c3] #[.int .i64 exc, .slice B1 m1 k1, .slice B2 m2 k2, .slice B3 m3 k3] 26 29)
  have HSS := Lib.hid (fun (W : World) (hX : Ext ((w.alloc (.cells #[.int .i64 code, .int .i64 addr, .int .i64 count, .slice A1 n1 c1, .slice A2 n2 c2, .slice A3 n3 c3] 26)).alloc (.cells #[.int .i64 exc, .slice B1 m1 k1, .slice B2 m2 k2, .slice B3 m3 k3] 29)) W) => (show (W.cell? ⟨w.heap.size, 0, none⟩ = some (.int .i64 code) ∧ W.cell? ⟨w.heap.size, 1, none⟩ = some (.int .i64 addr) ∧ W.cell? ⟨w.heap.size, 2, none⟩ = some (.int .i64 count) ∧ W.cell? ⟨w.heap.size, 3, none⟩ = some (.slice A1 n1 c1) ∧ W.cell? ⟨w.heap.size, 4, none⟩ = some (.slice A2 n2 c2) ∧ W.cell? ⟨w.heap.size, 5, none⟩ = some (.slice A3 n3 c3)) ∧ (W.cell? ⟨w.heap.size + 1, 0, none⟩ = some (.int .i64 exc) ∧ W.cell? ⟨w.heap.size + 1, 1, none⟩ = some (.slice B1 m1 k1) ∧ W.cell? ⟨w.heap.size + 1, 2, none⟩ = some (.slice B2 m2 k2) ∧ W.cell? ⟨w.heap.size + 1, 3, none⟩ = some (.slice B3 m3 k3)) from ⟨cells6 (HB.out W hX).1, cells4 (HB.out W hX).2⟩))
  obtain ⟨V, hV⟩ : ∃ V, ((w.alloc (.cells #[.int .i64 code, .int .i64 addr, .int .i64 count, .slice A1 n1 c1, .slice A2 n2 c2, .slice A3 n3 c3] 26)).alloc (.cells #[.int .i64 exc, .slice B1 m1 k1, .slice B2 m2 k2, .slice B3 m3 k3] 29)) = V := ⟨_, rfl⟩
  have XV := Lib.hid (show Ext w V from hV ▸ ext_pair _ _ _)
  rw [hV] at HSS
  have HV := Lib.hid hV
  clear hV HB
  obtain ⟨⟨d0, d1, d2, d3, d4, d5⟩, g0, g1, g2, g3⟩ := HSS.out _ (Ext.refl _)
  go_enter Try.func3, Try.ntmps3
  go_wp2_with fail
  rw [HV.out]
  go_region_held3 (fun W => (W.cell? ⟨w.heap.size, 0, none⟩ = some (.int .i64 code) ∧ W.cell? ⟨w.heap.size, 1, none⟩ = some (.int .i64 addr) ∧ W.cell? ⟨w.heap.size, 2, none⟩ = some (.int .i64 count) ∧ W.cell? ⟨w.heap.size, 3, none⟩ = some (.slice A1 n1 c1) ∧ W.cell? ⟨w.heap.size, 4, none⟩ = some (.slice A2 n2 c2) ∧ W.cell? ⟨w.heap.size, 5, none⟩ = some (.slice A3 n3 c3)) ∧ (W.cell? ⟨w.heap.size + 1, 0, none⟩ = some (.int .i64 exc) ∧ W.cell? ⟨w.heap.size + 1, 1, none⟩ = some (.slice B1 m1 k1) ∧ W.cell? ⟨w.heap.size + 1, 2, none⟩ = some (.slice B2 m2 k2) ∧ W.cell? ⟨w.heap.size + 1, 3, none⟩ = some (.slice B3 m3 k3))) (first | with_reducible exact HSS.out _ (Ext.draw _) | with_reducible exact HSS.out _ Y4.out | with_reducible exact HSS.out _ Y3.out | with_reducible exact HSS.out _ Y2.out | with_reducible exact HSS.out _ Y1.out | go_keep) ((first
  | (go_at_call 14
     with_reducible refine Calls.mono (HL.out _ (XV.out.trans (Ext.draw _))) ?_
     rintro e v1 ⟨rfl, hx⟩
     have Y1 := Lib.hid ((Ext.draw V).trans hx)
     clear hx)
  | (go_at_call 15
     with_reducible refine Calls.mono (HCK.out _ (XV.out.trans Y1.out)) ?_
     rintro e v2 ⟨rfl, hx⟩
     have Y2 := Lib.hid (Y1.out.trans hx)
     clear hx)
  | (go_at_call 16
     with_reducible refine Calls.mono (HC4.out _ (XV.out.trans Y2.out)) ?_
     rintro e v3 ⟨rfl, hx⟩
     have Y3 := Lib.hid (Y2.out.trans hx)
     clear hx)
  | (go_at_call 17
     with_reducible refine Calls.mono (works04_any _) ?_
     rintro e v4 ⟨rfl, hx⟩
     have Y4 := Lib.hid (Y3.out.trans hx)
     clear hx)
  | fail))
  all_goals
    go_wp2_with fail
    go_ret
    exact ⟨by simp, XV.out.trans Y4.out⟩
theorem lawReplyChecks (a : AskD) (s : AskS) (r : RepD) (t : RepS) (w : World) (ha : AskRd w a s) (hr : RepRd w r t) :
    Calls Try.prog 3 #[askV a s, repV r t] w (RetQ w true) := by
  have HL := Lib.hid (fun W (hX : Ext w W) => long04_any a r s t W (ha.ext hX) (hr.ext hX))
  generalize (decide (70000 < s.n1 ∨ 70000 < s.n2 ∨ 70000 < s.n3) || longR r) = P at HL
  cases P with
  | true => exact checks_long _ _ _ _ _ _ _ _ _ _ _ _ _ _ _ _ _ _ _ _ _ _ w HL
  | false => exact checks_ok _ _ _ _ _ _ _ _ _ _ _ _ _ _ _ _ _ _ _ _ _ _ w (checkR a r) (by simp) HL (Lib.hid fun W hX => replyCheck_any a r s t W (ha.ext hX) (hr.ext hX)) (Lib.hid fun W hX => ref04Check_any a r s t W (ha.ext hX) (hr.ext hX))
end Go.Proofs.Ytpjmhckdeeonbaa

namespace Go.Proofs.Ytpjmhckdeeonbaa
set_option linter.unusedVariables false
set_option linter.unusedSimpArgs false
set_option maxRecDepth 100000
set_option maxHeartbeats 2000000
open Go Go.RowKit Go.Out

theorem puts_long (code addr count exc : Int) (A1 A2 A3 B1 B2 B3 : Option Addr) (n1 c1 n2 c2 n3 c3 m1 k1 m2 k2 m3 k3 : Nat) (w : World) (HL : Hid (∀ W, Ext w W → Calls Try.prog 14 #[.agg #[.int .i64 code, .int .i64 addr, .int .i64 count, .slice A1 n1 c1, .slice A2 n2 c2, .slice A3 n3 c3], .agg #[.int .i64 exc, .slice B1 m1 k1, .slice B2 m2 k2, .slice B3 m3 k3]] W (RetQ W true))) :
    Calls Try.prog 4 #[.agg #[.int .i64 code, .int .i64 addr, .int .i64 count, .slice A1 n1 c1, .slice A2 n2 c2, .slice A3 n3 c3], .agg #[.int .i64 exc, .slice B1 m1 k1, .slice B2 m2 k2, .slice B3 m3 k3]] w (RetQ w true) := by
  go_enter Try.func4, Try.ntmps4
  go_wp2_with fail
  refine (HL.out _ ((Ext.alloc _ _).trans (Ext.alloc _ _))).mono ?_
  rintro e w1 ⟨rfl, hx⟩
  have Z := Lib.hid (show Ext w w1 from ((Ext.alloc _ _).trans (Ext.alloc _ _)).trans hx)
  have BA := Lib.hid (show w1.heap[w.heap.size]? = some (.cells #[.int .i64 code, .int .i64 addr, .int .i64 count, .slice A1 n1 c1, .slice A2 n2 c2, .slice A3 n3 c3] 26 (0, 0)) from hx.block ((Ext.alloc _ _).block (heap_at _ _ _ (by simp))))
  have BR := Lib.hid (show w1.heap[w.heap.size + 1]? = some (.cells #[.int .i64 exc, .slice B1 m1 k1, .slice B2 m2 k2, .slice B3 m3 k3] 29 (0, 0)) from hx.block (heap_at _ _ _ (by simp)))
  have X := Lib.hid Z.out
  clear hx Z
  obtain ⟨d0, d1, d2, d3, d4, d5⟩ := cells6 BA.out
  obtain ⟨g0, g1, g2, g3⟩ := cells4 BR.out
  go_wp2_with fail
  refine (works04_any _).mono ?_
  rintro e w2 ⟨rfl, hx⟩
  have Z := Lib.hid (show Ext w1 w2 from hx)
  replace BA := Lib.hid (Z.out.block BA.out)
  replace BR := Lib.hid (Z.out.block BR.out)
  replace X := Lib.hid (X.out.trans Z.out)
  clear d0 d1 d2 d3 d4 d5 g0 g1 g2 g3
  clear hx Z
  obtain ⟨d0, d1, d2, d3, d4, d5⟩ := cells6 BA.out
  obtain ⟨g0, g1, g2, g3⟩ := cells4 BR.out
  go_wp2_with fail
  go_ret
  exact ⟨rfl, X.out⟩
theorem lawReplyPuts (a : AskD) (s : AskS) (r : RepD) (t : RepS) (w : World) (ha : AskRd w a s) (hr : RepRd w r t) :
    Calls Try.prog 4 #[askV a s, repV r t] w (RetQ w true) := by
  have HL := Lib.hid (fun W (hX : Ext w W) => long04_any a r s t W (ha.ext hX) (hr.ext hX))
  have hlong : (decide (70000 < s.n1 ∨ 70000 < s.n2 ∨ 70000 < s.n3) || longR r) = false → (s.n1 ≤ 70000 ∧ s.n2 ≤ 70000 ∧ s.n3 ≤ 70000) ∧ t.n1 ≤ 70000 ∧ t.n2 ≤ 70000 ∧ t.n3 ≤ 1000 := fun h => by
    simp only [Bool.or_eq_false_iff, decide_eq_false_iff_not] at h
    have h2 := longR_le h.2
    have h3 := hr.n1; have h4 := hr.n2; have h5 := hr.n3
    omega
  generalize (decide (70000 < s.n1 ∨ 70000 < s.n2 ∨ 70000 < s.n3) || longR r) = P at HL hlong
  cases P with
  | true => exact puts_long _ _ _ _ _ _ _ _ _ _ _ _ _ _ _ _ _ _ _ _ _ _ w HL
  | false =>
  obtain ⟨⟨b1, b2, b3⟩, b4, b5, b6⟩ := hlong rfl
  have HLN := Lib.hid (fun (W : World) (hX : Ext w W) => lentAsk_any a s W (ha.ext hX) b1 b2 b3)
  have HLR := Lib.hid (fun (W : World) (base : Nat) (t : AskS) (h : AskLent W base a s t) => h.rd ha b1 b2 b3)
  have HCP := Lib.hid (fun (W : World) (hX : Ext w W) => copyReply_any r t W (hr.ext hX) b4 b5 b6)
  have HP := Lib.hid (fun (W : World) (u : AskS) (v : RepS) (h : AskRd W a u) (h' : RepRd W r v) => replyPut_any a r u v W h h')
  have HP4 := Lib.hid (fun (W : World) (hX : Ext w W) => ref04Put_any a r s t W (ha.ext hX) (hr.ext hX))
  have HKP := Lib.hid (fun (W : World) (base : Nat) (t : AskS) (hX : Ext w W) (h : AskLent W base a s t) => keptAsk_any a s t base W (ha.ext hX) h b1 b2 b3)
  have HSR := Lib.hid (fun (W : World) (v : RepS) (hX : Ext w W) (h : RepRd W r v) => same_reply r v t W h (hr.ext hX))
  have hlen : (putR a r).1.length ≤ 300 := by
    by_cases hK : checkR a r = 0
    · have := (getR_putR hK).2.2; omega
    · rw [putR_no hK]; simp
  generalize putR a r = PP at *
  obtain ⟨xs, E⟩ := PP
  simp only at HP HP4 hlen
  have hee : (E != E) = false := by simp
  obtain ⟨n, hn⟩ : ∃ n, xs.length = n := ⟨_, rfl⟩
  rw [hn] at hlen
  have HN := Lib.hid hn
  clear ha hr hlong hn
  obtain ⟨code, addr, count, on, set, parts⟩ := a
  obtain ⟨A1, n1, c1, A2, n2, c2, A3, n3, c3⟩ := s
  obtain ⟨exc, ron, rset, files⟩ := r
  obtain ⟨B1, m1, k1, B2, m2, k2, B3, m3, k3⟩ := t
  simp only [askV, repV] at HL HLN HCP HP HP4 HKP HSR ⊢
  go_enter Try.func4, Try.ntmps4
  go_wp2_with fail
  refine (HL.out _ ((Ext.alloc _ _).trans (Ext.alloc _ _))).mono ?_
  rintro e w1 ⟨rfl, hx⟩
  have Z := Lib.hid (show Ext w w1 from ((Ext.alloc _ _).trans (Ext.alloc _ _)).trans hx)
  have BA := Lib.hid (show w1.heap[w.heap.size]? = some (.cells #[.int .i64 code, .int .i64 addr, .int .i64 count, .slice A1 n1 c1, .slice A2 n2 c2, .slice A3 n3 c3] 26 (0, 0)) from hx.block ((Ext.alloc _ _).block (heap_at _ _ _ (by simp))))
  have BR := Lib.hid (show w1.heap[w.heap.size + 1]? = some (.cells #[.int .i64 exc, .slice B1 m1 k1, .slice B2 m2 k2, .slice B3 m3 k3] 29 (0, 0)) from hx.block (heap_at _ _ _ (by simp)))
  have X := Lib.hid Z.out
  clear hx Z
  obtain ⟨d0, d1, d2, d3, d4, d5⟩ := cells6 BA.out
  obtain ⟨g0, g1, g2, g3⟩ := cells4 BR.out
  go_wp2_with fail
  refine (HLN.out _ X.out).mono ?_
  rintro e w2 ⟨t, rfl, hlent, hx⟩
  have Z := Lib.hid (show Ext w1 w2 from hx)
  replace BA := Lib.hid (Z.out.block BA.out)
  replace BR := Lib.hid (Z.out.block BR.out)
  replace X := Lib.hid (X.out.trans Z.out)
  have HLT := Lib.hid hlent
  have HRT := Lib.hid (HLR.out _ _ _ hlent)
  clear hlent
  obtain ⟨C1, p1, q1, C2, p2, q2, C3, p3, q3⟩ := t
  simp only
  clear d0 d1 d2 d3 d4 d5 g0 g1 g2 g3
  clear hx Z
  obtain ⟨d0, d1, d2, d3, d4, d5⟩ := cells6 BA.out
  have da0 := fun o : Obj => (cells6 ((Ext.alloc _ o).block BA.out)).1
  have da1 := fun o : Obj => (cells6 ((Ext.alloc _ o).block BA.out)).2.1
  have da2 := fun o : Obj => (cells6 ((Ext.alloc _ o).block BA.out)).2.2.1
  have da3 := fun o : Obj => (cells6 ((Ext.alloc _ o).block BA.out)).2.2.2.1
  have da4 := fun o : Obj => (cells6 ((Ext.alloc _ o).block BA.out)).2.2.2.2.1
  have da5 := fun o : Obj => (cells6 ((Ext.alloc _ o).block BA.out)).2.2.2.2.2
  obtain ⟨g0, g1, g2, g3⟩ := cells4 BR.out
  have ga0 := fun o : Obj => (cells4 ((Ext.alloc _ o).block BR.out)).1
  have ga1 := fun o : Obj => (cells4 ((Ext.alloc _ o).block BR.out)).2.1
  have ga2 := fun o : Obj => (cells4 ((Ext.alloc _ o).block BR.out)).2.2.1
  have ga3 := fun o : Obj => (cells4 ((Ext.alloc _ o).block BR.out)).2.2.2
  go_wp2_with fail
  refine (HCP.out _ (X.out.trans (Ext.alloc _ _))).mono ?_
  rintro e w3 ⟨t, rfl, how, hx⟩
  have Z := Lib.hid (show Ext w2 w3 from (Ext.alloc _ _).trans hx)
  replace BA := Lib.hid (Z.out.block BA.out)
  replace BR := Lib.hid (Z.out.block BR.out)
  have BX := Lib.hid (show w3.heap[w2.heap.size]? = some (.cells #[.int .i64 code, .int .i64 addr, .int .i64 count, .slice C1 p1 q1, .slice C2 p2 q2, .slice C3 p3 q3] 26 (0, 0)) from hx.block (heap_at _ _ _ (by simp)))
  replace X := Lib.hid (X.out.trans Z.out)
  replace HLT := Lib.hid (HLT.out.ext Z.out)
  replace HRT := Lib.hid (HRT.out.ext Z.out)
  have HOY := Lib.hid how.rd
  clear how
  obtain ⟨D1, r1, u1, D2, r2, u2, D3, r3, u3⟩ := t
  simp only
  clear d0 d1 d2 d3 d4 d5 da0 da1 da2 da3 da4 da5 g0 g1 g2 g3 ga0 ga1 ga2 ga3
  clear hx Z
  obtain ⟨d0, d1, d2, d3, d4, d5⟩ := cells6 BA.out
  have da0 := fun o : Obj => (cells6 ((Ext.alloc _ o).block BA.out)).1
  have da1 := fun o : Obj => (cells6 ((Ext.alloc _ o).block BA.out)).2.1
  have da2 := fun o : Obj => (cells6 ((Ext.alloc _ o).block BA.out)).2.2.1
  have da3 := fun o : Obj => (cells6 ((Ext.alloc _ o).block BA.out)).2.2.2.1
  have da4 := fun o : Obj => (cells6 ((Ext.alloc _ o).block BA.out)).2.2.2.2.1
  have da5 := fun o : Obj => (cells6 ((Ext.alloc _ o).block BA.out)).2.2.2.2.2
  obtain ⟨g0, g1, g2, g3⟩ := cells4 BR.out
  have ga0 := fun o : Obj => (cells4 ((Ext.alloc _ o).block BR.out)).1
  have ga1 := fun o : Obj => (cells4 ((Ext.alloc _ o).block BR.out)).2.1
  have ga2 := fun o : Obj => (cells4 ((Ext.alloc _ o).block BR.out)).2.2.1
  have ga3 := fun o : Obj => (cells4 ((Ext.alloc _ o).block BR.out)).2.2.2
  obtain ⟨x0, x1, x2, x3, x4, x5⟩ := cells6 BX.out
  have xa0 := fun o : Obj => (cells6 ((Ext.alloc _ o).block BX.out)).1
  have xa1 := fun o : Obj => (cells6 ((Ext.alloc _ o).block BX.out)).2.1
  have xa2 := fun o : Obj => (cells6 ((Ext.alloc _ o).block BX.out)).2.2.1
  have xa3 := fun o : Obj => (cells6 ((Ext.alloc _ o).block BX.out)).2.2.2.1
  have xa4 := fun o : Obj => (cells6 ((Ext.alloc _ o).block BX.out)).2.2.2.2.1
  have xa5 := fun o : Obj => (cells6 ((Ext.alloc _ o).block BX.out)).2.2.2.2.2
  go_wp2_with fail
  obtain ⟨V, hV⟩ : ∃ V, (w3.alloc (.cells #[.int .i64 exc, .slice D1 r1 u1, .slice D2 r2 u2, .slice D3 r3 u3] 29)) = V := ⟨_, rfl⟩
  rw [hV]
  have Z := Lib.hid (show Ext w3 V from hV ▸ Ext.alloc _ _)
  replace BA := Lib.hid (Z.out.block BA.out)
  replace BR := Lib.hid (Z.out.block BR.out)
  replace BX := Lib.hid (Z.out.block BX.out)
  have BY := Lib.hid (show V.heap[w3.heap.size]? = some (.cells #[.int .i64 exc, .slice D1 r1 u1, .slice D2 r2 u2, .slice D3 r3 u3] 29 (0, 0)) from hV ▸ heap_at _ _ _ (by simp))
  replace X := Lib.hid (X.out.trans Z.out)
  replace HLT := Lib.hid (HLT.out.ext Z.out)
  replace HRT := Lib.hid (HRT.out.ext Z.out)
  replace HOY := Lib.hid (HOY.out.ext Z.out)
  clear d0 d1 d2 d3 d4 d5 da0 da1 da2 da3 da4 da5 g0 g1 g2 g3 ga0 ga1 ga2 ga3 x0 x1 x2 x3 x4 x5 xa0 xa1 xa2 xa3 xa4 xa5
  clear Z hV
  have BA0 := BA; have BR0 := BR; have BX0 := BX; have BY0 := BY; have XV := X; have HLT0 := HLT; have HOY0 := HOY
  have Y := Lib.hid (Ext.refl V)
  refine (HP.out _ ⟨C1, p1, q1, C2, p2, q2, C3, p3, q3⟩ ⟨D1, r1, u1, D2, r2, u2, D3, r3, u3⟩ HRT.out HOY.out).mono ?_
  rintro e w4 ⟨A5, n5, c5, rfl, ho5, hx⟩
  have Z := Lib.hid (show Ext V w4 from hx)
  replace BA := Lib.hid (Z.out.block BA.out)
  replace BR := Lib.hid (Z.out.block BR.out)
  replace BX := Lib.hid (Z.out.block BX.out)
  replace BY := Lib.hid (Z.out.block BY.out)
  replace X := Lib.hid (X.out.trans Z.out)
  replace HLT := Lib.hid (HLT.out.ext Z.out)
  replace HRT := Lib.hid (HRT.out.ext Z.out)
  replace HOY := Lib.hid (HOY.out.ext Z.out)
  replace Y := Lib.hid (Y.out.trans Z.out)
  obtain rfl : n = n5 := by have h1 := ho5.len; have h2 := HN.out; simp at h1; omega
  have HO5 := Lib.hid ho5
  have HS5 := HO5
  clear ho5
  clear hx Z
  obtain ⟨d0, d1, d2, d3, d4, d5⟩ := cells6 BA.out
  obtain ⟨g0, g1, g2, g3⟩ := cells4 BR.out
  obtain ⟨x0, x1, x2, x3, x4, x5⟩ := cells6 BX.out
  obtain ⟨y0, y1, y2, y3⟩ := cells4 BY.out
  go_wp2_with fail
  have YP := Y
  refine (HP.out _ ⟨C1, p1, q1, C2, p2, q2, C3, p3, q3⟩ ⟨D1, r1, u1, D2, r2, u2, D3, r3, u3⟩ HRT.out HOY.out).mono ?_
  rintro e w5 ⟨A6, n6, c6, rfl, ho6, hx⟩
  have Z := Lib.hid (show Ext w4 w5 from hx)
  replace BA := Lib.hid (Z.out.block BA.out)
  replace BR := Lib.hid (Z.out.block BR.out)
  replace BX := Lib.hid (Z.out.block BX.out)
  replace BY := Lib.hid (Z.out.block BY.out)
  replace X := Lib.hid (X.out.trans Z.out)
  replace HLT := Lib.hid (HLT.out.ext Z.out)
  replace HRT := Lib.hid (HRT.out.ext Z.out)
  replace HOY := Lib.hid (HOY.out.ext Z.out)
  replace HO5 := Lib.hid (HO5.out.ext Z.out)
  replace Y := Lib.hid (Y.out.trans Z.out)
  obtain rfl : n = n6 := by have h1 := ho6.len; have h2 := HN.out; simp at h1; omega
  have Z5 := Lib.hid (show V.heap.size ≤ w4.heap.size from YP.out.size)
  have HO6 := Lib.hid ho6
  have HSEP := Lib.hid (Sep.of_lt HS5.out ho6 (Nat.le_refl _))
  clear ho6 HS5
  clear d0 d1 d2 d3 d4 d5 g0 g1 g2 g3 x0 x1 x2 x3 x4 x5 y0 y1 y2 y3
  clear hx Z
  obtain ⟨d0, d1, d2, d3, d4, d5⟩ := cells6 BA.out
  obtain ⟨g0, g1, g2, g3⟩ := cells4 BR.out
  obtain ⟨x0, x1, x2, x3, x4, x5⟩ := cells6 BX.out
  obtain ⟨y0, y1, y2, y3⟩ := cells4 BY.out
  go_wp2_with fail
  refine (HP4.out _ X.out).mono ?_
  rintro e w6 ⟨A7, n7, c7, rfl, ho7, hx⟩
  have Z := Lib.hid (show Ext w5 w6 from hx)
  replace BA := Lib.hid (Z.out.block BA.out)
  replace BR := Lib.hid (Z.out.block BR.out)
  replace BX := Lib.hid (Z.out.block BX.out)
  replace BY := Lib.hid (Z.out.block BY.out)
  replace X := Lib.hid (X.out.trans Z.out)
  replace HLT := Lib.hid (HLT.out.ext Z.out)
  replace HRT := Lib.hid (HRT.out.ext Z.out)
  replace HOY := Lib.hid (HOY.out.ext Z.out)
  replace HO5 := Lib.hid (HO5.out.ext Z.out)
  replace HO6 := Lib.hid (HO6.out.ext Z.out)
  replace Y := Lib.hid (Y.out.trans Z.out)
  obtain rfl : n = n7 := by have h1 := ho7.len; have h2 := HN.out; simp at h1; omega
  have HO7 := Lib.hid ho7.rd
  clear ho7
  clear d0 d1 d2 d3 d4 d5 g0 g1 g2 g3 x0 x1 x2 x3 x4 x5 y0 y1 y2 y3
  clear hx Z
  obtain ⟨d0, d1, d2, d3, d4, d5⟩ := cells6 BA.out
  obtain ⟨g0, g1, g2, g3⟩ := cells4 BR.out
  obtain ⟨x0, x1, x2, x3, x4, x5⟩ := cells6 BX.out
  obtain ⟨y0, y1, y2, y3⟩ := cells4 BY.out
  go_wp2_with fail
  refine (same_any xs xs _ _ _ _ _ _ _ HO5.out.rd HO7.out (by unfold maxLen; omega)).mono ?_
  rintro e w7 ⟨rfl, hx⟩
  have Z := Lib.hid (show Ext w6 w7 from (Ext.of hx))
  replace BA := Lib.hid (Z.out.block BA.out)
  replace BR := Lib.hid (Z.out.block BR.out)
  replace BX := Lib.hid (Z.out.block BX.out)
  replace BY := Lib.hid (Z.out.block BY.out)
  replace X := Lib.hid (X.out.trans Z.out)
  replace HLT := Lib.hid (HLT.out.ext Z.out)
  replace HRT := Lib.hid (HRT.out.ext Z.out)
  replace HOY := Lib.hid (HOY.out.ext Z.out)
  replace HO5 := Lib.hid (HO5.out.ext Z.out)
  replace HO6 := Lib.hid (HO6.out.ext Z.out)
  replace HO7 := Lib.hid (HO7.out.ext Z.out)
  replace Y := Lib.hid (Y.out.trans Z.out)
  rw [decide_eq_true rfl]
  clear d0 d1 d2 d3 d4 d5 g0 g1 g2 g3 x0 x1 x2 x3 x4 x5 y0 y1 y2 y3
  clear hx Z
  obtain ⟨d0, d1, d2, d3, d4, d5⟩ := cells6 BA.out
  obtain ⟨g0, g1, g2, g3⟩ := cells4 BR.out
  obtain ⟨x0, x1, x2, x3, x4, x5⟩ := cells6 BX.out
  obtain ⟨y0, y1, y2, y3⟩ := cells4 BY.out
  go_wp2_with fail
  refine (same_any xs xs _ _ _ _ _ _ _ HO6.out.rd HO7.out (by unfold maxLen; omega)).mono ?_
  rintro e w8 ⟨rfl, hx⟩
  have Z := Lib.hid (show Ext w7 w8 from (Ext.of hx))
  replace BA := Lib.hid (Z.out.block BA.out)
  replace BR := Lib.hid (Z.out.block BR.out)
  replace BX := Lib.hid (Z.out.block BX.out)
  replace BY := Lib.hid (Z.out.block BY.out)
  replace X := Lib.hid (X.out.trans Z.out)
  replace HLT := Lib.hid (HLT.out.ext Z.out)
  replace HRT := Lib.hid (HRT.out.ext Z.out)
  replace HOY := Lib.hid (HOY.out.ext Z.out)
  replace HO5 := Lib.hid (HO5.out.ext Z.out)
  replace HO6 := Lib.hid (HO6.out.ext Z.out)
  replace HO7 := Lib.hid (HO7.out.ext Z.out)
  replace Y := Lib.hid (Y.out.trans Z.out)
  rw [decide_eq_true rfl]
  clear d0 d1 d2 d3 d4 d5 g0 g1 g2 g3 x0 x1 x2 x3 x4 x5 y0 y1 y2 y3
  clear hx Z
  obtain ⟨d0, d1, d2, d3, d4, d5⟩ := cells6 BA.out
  obtain ⟨g0, g1, g2, g3⟩ := cells4 BR.out
  obtain ⟨x0, x1, x2, x3, x4, x5⟩ := cells6 BX.out
  obtain ⟨y0, y1, y2, y3⟩ := cells4 BY.out
  go_wp2_with fail
  refine (HKP.out _ _ ⟨C1, p1, q1, C2, p2, q2, C3, p3, q3⟩ X.out HLT.out).mono ?_
  rintro e w9 ⟨rfl, hx⟩
  have Z := Lib.hid (show Ext w8 w9 from hx)
  replace BA := Lib.hid (Z.out.block BA.out)
  replace BR := Lib.hid (Z.out.block BR.out)
  replace BX := Lib.hid (Z.out.block BX.out)
  replace BY := Lib.hid (Z.out.block BY.out)
  replace X := Lib.hid (X.out.trans Z.out)
  replace HLT := Lib.hid (HLT.out.ext Z.out)
  replace HRT := Lib.hid (HRT.out.ext Z.out)
  replace HOY := Lib.hid (HOY.out.ext Z.out)
  replace HO5 := Lib.hid (HO5.out.ext Z.out)
  replace HO6 := Lib.hid (HO6.out.ext Z.out)
  replace HO7 := Lib.hid (HO7.out.ext Z.out)
  replace Y := Lib.hid (Y.out.trans Z.out)
  clear d0 d1 d2 d3 d4 d5 g0 g1 g2 g3 x0 x1 x2 x3 x4 x5 y0 y1 y2 y3
  clear hx Z
  obtain ⟨d0, d1, d2, d3, d4, d5⟩ := cells6 BA.out
  obtain ⟨g0, g1, g2, g3⟩ := cells4 BR.out
  obtain ⟨x0, x1, x2, x3, x4, x5⟩ := cells6 BX.out
  obtain ⟨y0, y1, y2, y3⟩ := cells4 BY.out
  go_wp2_with fail
  refine (HSR.out _ ⟨D1, r1, u1, D2, r2, u2, D3, r3, u3⟩ X.out HOY.out).mono ?_
  rintro e w10 ⟨rfl, hx⟩
  have Z := Lib.hid (show Ext w9 w10 from hx)
  replace BA := Lib.hid (Z.out.block BA.out)
  replace BR := Lib.hid (Z.out.block BR.out)
  replace BX := Lib.hid (Z.out.block BX.out)
  replace BY := Lib.hid (Z.out.block BY.out)
  replace X := Lib.hid (X.out.trans Z.out)
  replace HLT := Lib.hid (HLT.out.ext Z.out)
  replace HRT := Lib.hid (HRT.out.ext Z.out)
  replace HOY := Lib.hid (HOY.out.ext Z.out)
  replace HO5 := Lib.hid (HO5.out.ext Z.out)
  replace HO6 := Lib.hid (HO6.out.ext Z.out)
  replace HO7 := Lib.hid (HO7.out.ext Z.out)
  replace Y := Lib.hid (Y.out.trans Z.out)
  clear d0 d1 d2 d3 d4 d5 g0 g1 g2 g3 x0 x1 x2 x3 x4 x5 y0 y1 y2 y3
  clear hx Z
  obtain ⟨d0, d1, d2, d3, d4, d5⟩ := cells6 BA.out
  obtain ⟨g0, g1, g2, g3⟩ := cells4 BR.out
  obtain ⟨x0, x1, x2, x3, x4, x5⟩ := cells6 BX.out
  obtain ⟨y0, y1, y2, y3⟩ := cells4 BY.out
  go_wp2_with fail
  refine (apart_alloc [(A5, n, c5), (A6, n, c6)] 2 V.heap.size w10 rfl ?_ ?_ ?_ Y.out.size (by omega)).mono ?_
  · intro s hs
    simp only [List.mem_cons, List.not_mem_nil, or_false] at hs
    rcases hs with rfl | rfl
    · exact ⟨_, HO5.out⟩
    · exact ⟨_, HO6.out.mono Z5.out⟩
  · simp only [List.pairwise_cons, List.mem_cons, List.not_mem_nil, or_false, forall_eq]
    exact ⟨HSEP.out, by simp, List.Pairwise.nil⟩
  · intro s hs
    simp only [List.mem_cons, List.not_mem_nil, or_false] at hs
    rcases hs with rfl | rfl <;> simp <;> omega
  rintro e w20 ⟨rfl, hb⟩
  have Y20 := Lib.hid (show Ext V w20 from Y.out.below.trans hb)
  have X := Lib.hid (XV.out.trans Y20.out)
  have BA := Lib.hid (Y20.out.block BA0.out); have BR := Lib.hid (Y20.out.block BR0.out); have BX := Lib.hid (Y20.out.block BX0.out); have BY := Lib.hid (Y20.out.block BY0.out)
  have HLT := Lib.hid (HLT0.out.ext Y20.out); have HOY := Lib.hid (HOY0.out.ext Y20.out)
  clear d0 d1 d2 d3 d4 d5 g0 g1 g2 g3 x0 x1 x2 x3 x4 x5 y0 y1 y2 y3
  clear hb
  obtain ⟨d0, d1, d2, d3, d4, d5⟩ := cells6 BA.out
  obtain ⟨g0, g1, g2, g3⟩ := cells4 BR.out
  obtain ⟨x0, x1, x2, x3, x4, x5⟩ := cells6 BX.out
  obtain ⟨y0, y1, y2, y3⟩ := cells4 BY.out
  go_wp2_with fail
  refine (HKP.out _ _ ⟨C1, p1, q1, C2, p2, q2, C3, p3, q3⟩ X.out HLT.out).mono ?_
  rintro e w21 ⟨rfl, hx⟩
  have Z := Lib.hid (show Ext w20 w21 from hx)
  replace BA := Lib.hid (Z.out.block BA.out)
  replace BR := Lib.hid (Z.out.block BR.out)
  replace BX := Lib.hid (Z.out.block BX.out)
  replace BY := Lib.hid (Z.out.block BY.out)
  replace X := Lib.hid (X.out.trans Z.out)
  replace HLT := Lib.hid (HLT.out.ext Z.out)
  replace HOY := Lib.hid (HOY.out.ext Z.out)
  clear d0 d1 d2 d3 d4 d5 g0 g1 g2 g3 x0 x1 x2 x3 x4 x5 y0 y1 y2 y3
  clear hx Z
  obtain ⟨d0, d1, d2, d3, d4, d5⟩ := cells6 BA.out
  obtain ⟨g0, g1, g2, g3⟩ := cells4 BR.out
  obtain ⟨x0, x1, x2, x3, x4, x5⟩ := cells6 BX.out
  obtain ⟨y0, y1, y2, y3⟩ := cells4 BY.out
  go_wp2_with fail
  refine (HSR.out _ ⟨D1, r1, u1, D2, r2, u2, D3, r3, u3⟩ X.out HOY.out).mono ?_
  rintro e w22 ⟨rfl, hx⟩
  have Z := Lib.hid (show Ext w21 w22 from hx)
  replace BA := Lib.hid (Z.out.block BA.out)
  replace BR := Lib.hid (Z.out.block BR.out)
  replace BX := Lib.hid (Z.out.block BX.out)
  replace BY := Lib.hid (Z.out.block BY.out)
  replace X := Lib.hid (X.out.trans Z.out)
  replace HLT := Lib.hid (HLT.out.ext Z.out)
  replace HOY := Lib.hid (HOY.out.ext Z.out)
  clear d0 d1 d2 d3 d4 d5 g0 g1 g2 g3 x0 x1 x2 x3 x4 x5 y0 y1 y2 y3
  clear hx Z
  obtain ⟨d0, d1, d2, d3, d4, d5⟩ := cells6 BA.out
  obtain ⟨g0, g1, g2, g3⟩ := cells4 BR.out
  obtain ⟨x0, x1, x2, x3, x4, x5⟩ := cells6 BX.out
  obtain ⟨y0, y1, y2, y3⟩ := cells4 BY.out
  go_wp2_with fail
  refine (works04_any _).mono ?_
  rintro e w23 ⟨rfl, hx⟩
  have Z := Lib.hid (show Ext w22 w23 from hx)
  replace BA := Lib.hid (Z.out.block BA.out)
  replace BR := Lib.hid (Z.out.block BR.out)
  replace BX := Lib.hid (Z.out.block BX.out)
  replace BY := Lib.hid (Z.out.block BY.out)
  replace X := Lib.hid (X.out.trans Z.out)
  replace HLT := Lib.hid (HLT.out.ext Z.out)
  replace HOY := Lib.hid (HOY.out.ext Z.out)
  clear d0 d1 d2 d3 d4 d5 g0 g1 g2 g3 x0 x1 x2 x3 x4 x5 y0 y1 y2 y3
  clear hx Z
  obtain ⟨d0, d1, d2, d3, d4, d5⟩ := cells6 BA.out
  obtain ⟨g0, g1, g2, g3⟩ := cells4 BR.out
  obtain ⟨x0, x1, x2, x3, x4, x5⟩ := cells6 BX.out
  obtain ⟨y0, y1, y2, y3⟩ := cells4 BY.out
  go_wp2_with fail
  go_ret
  exact ⟨rfl, X.out⟩
end Go.Proofs.Ytpjmhckdeeonbaa

namespace Go.Proofs.Ytpjmhckdeeonbaa
set_option linter.unusedVariables false
set_option linter.unusedSimpArgs false
set_option maxRecDepth 100000
set_option maxHeartbeats 2000000
open Go Go.RowKit Go.Out

theorem RepOw.keep {w w' : World} {base : Nat} {r : RepD} {t : RepS} (h : RepOw w base r t) (hk : ∀ g, base ≤ g → g < w.heap.size → w'.heap[g]? = w.heap[g]?) : RepOw w' base r t :=
  ⟨h.on.kept fun g hg => hk g (h.on.lt g hg).1 (h.on.lt g hg).2, h.set.kept fun g hg => hk g (h.set.lt g hg).1 (h.set.lt g hg).2, owl_keep h.files hk, h.n3, h.cap3, h.exc⟩
theorem gets_long (code addr count : Int) (A1 A2 A3 : Option Addr) (n1 c1 n2 c2 n3 c3 : Nat) (A : Option Addr) (N c : Nat) (w : World) (P : Bool) (HL : Hid (∀ W, Calls Try.prog 26 #[.agg #[.int .i64 code, .int .i64 addr, .int .i64 count, .slice A1 n1 c1, .slice A2 n2 c2, .slice A3 n3 c3]] W (RetQ W P))) (hN : P = true ∨ 70000 < N) :
    Calls Try.prog 5 #[.agg #[.int .i64 code, .int .i64 addr, .int .i64 count, .slice A1 n1 c1, .slice A2 n2 c2, .slice A3 n3 c3], .slice A N c] w (RetQ w true) := by
  cases P with
  | true =>
    go_enter Try.func5, Try.ntmps5
    go_wp2_with fail
    refine (HL.out _).mono ?_
    rintro e w1 ⟨rfl, hx⟩
    have Z := Lib.hid (show Ext w w1 from (Ext.alloc _ _).trans hx)
    have BA := Lib.hid (show w1.heap[w.heap.size]? = some (.cells #[.int .i64 code, .int .i64 addr, .int .i64 count, .slice A1 n1 c1, .slice A2 n2 c2, .slice A3 n3 c3] 26 (0, 0)) from hx.block (heap_at _ _ _ (by simp)))
    have X := Lib.hid Z.out
    clear hx Z
    obtain ⟨d0, d1, d2, d3, d4, d5⟩ := cells6 BA.out
    go_wp2_with fail
    refine (works04_any _).mono ?_
    rintro e w2 ⟨rfl, hx⟩
    have Z := Lib.hid (show Ext w1 w2 from hx)
    replace BA := Lib.hid (Z.out.block BA.out)
    replace X := Lib.hid (X.out.trans Z.out)
    clear d0 d1 d2 d3 d4 d5
    clear hx Z
    obtain ⟨d0, d1, d2, d3, d4, d5⟩ := cells6 BA.out
    go_wp2_with fail
    go_ret
    exact ⟨rfl, X.out⟩
  | false =>
    have hN : 70000 < N := by simpa using hN
    have hgt : (N : Int) > 70000 := by omega
    go_enter Try.func5, Try.ntmps5
    go_wp2_with fail
    refine (HL.out _).mono ?_
    rintro e w1 ⟨rfl, hx⟩
    have Z := Lib.hid (show Ext w w1 from (Ext.alloc _ _).trans hx)
    have BA := Lib.hid (show w1.heap[w.heap.size]? = some (.cells #[.int .i64 code, .int .i64 addr, .int .i64 count, .slice A1 n1 c1, .slice A2 n2 c2, .slice A3 n3 c3] 26 (0, 0)) from hx.block (heap_at _ _ _ (by simp)))
    have X := Lib.hid Z.out
    clear hx Z
    obtain ⟨d0, d1, d2, d3, d4, d5⟩ := cells6 BA.out
    go_wp2_with fail
    refine (works04_any _).mono ?_
    rintro e w2 ⟨rfl, hx⟩
    have Z := Lib.hid (show Ext w1 w2 from hx)
    replace BA := Lib.hid (Z.out.block BA.out)
    replace X := Lib.hid (X.out.trans Z.out)
    clear d0 d1 d2 d3 d4 d5
    clear hx Z
    obtain ⟨d0, d1, d2, d3, d4, d5⟩ := cells6 BA.out
    go_wp2_with fail
    go_ret
    exact ⟨rfl, X.out⟩
theorem lawReplyGets (a : AskD) (s : AskS) (b : List UInt8) (A : Option Addr) (N c : Nat) (w : World) (ha : AskRd w a s) (hb : Rd w A N (b.map cB)) (hnc : N ≤ c) (hm : c ≤ 9223372036854775807) (hbb : c * 1 ≤ 140737488351232) :
    Calls Try.prog 5 #[askV a s, .slice A N c] w (RetQ w true) := by
  have HL := Lib.hid (fun W => longAsk_any a s W)
  obtain ⟨P, hP⟩ : ∃ P, decide (70000 < s.n1 ∨ 70000 < s.n2 ∨ 70000 < s.n3) = P := ⟨_, rfl⟩
  rw [hP] at HL
  by_cases hbig : P = true ∨ 70000 < N
  · exact gets_long _ _ _ _ _ _ _ _ _ _ _ _ A N c w P HL hbig
  have hPf : P = false := by cases P <;> simp_all
  subst hPf
  have hN : ¬ 70000 < N := fun h => hbig (.inr h)
  have hgt : ¬ (N : Int) > 70000 := by omega
  have hs := of_decide_eq_false hP
  have b1 : s.n1 ≤ 70000 := by omega
  have b2 : s.n2 ≤ 70000 := by omega
  have b3 : s.n3 ≤ 70000 := by omega
  have HLN := Lib.hid (fun (W : World) (hX : Ext w W) => lentAsk_any a s W (ha.ext hX) b1 b2 b3)
  have HLR := Lib.hid (fun (W : World) (base : Nat) (t : AskS) (h : AskLent W base a s t) => h.rd ha b1 b2 b3)
  have HKP := Lib.hid (fun (W : World) (base : Nat) (t : AskS) (hX : Ext w W) (h : AskLent W base a s t) => keptAsk_any a s t base W (ha.ext hX) h b1 b2 b3)
  have HG := Lib.hid (fun (W : World) (u : AskS) (g k : Nat) (h : AskRd W a u) (h' : Rd W (some ⟨g, 0, none⟩) N (b.map cB)) (h1 : N ≤ k ∧ k ≤ 9223372036854775807) => replyGet_any a b u (some ⟨g, 0, none⟩) N k W h h' h1 (by omega))
  have HG4 := Lib.hid (fun (W : World) (hX : Ext w W) => ref04Get_any a b s A N c W (ha.ext hX) (hb.ext hX) ⟨hnc, hm⟩ (by omega))
  have HB := Lib.hid hb
  generalize getR a b = R at *
  obtain ⟨r, E⟩ := R
  have hee : (E != E) = false := by simp
  have HSP := Lib.hid (fun (t : RepS) (base : Nat) (w1 W : World) (ho : RepOw w1 base r t) (hx : Ext w1 W) (hbs : base ≤ w1.heap.size) => spoilReply_any r t base w1 W ho hx hbs)
  have HSR := Lib.hid (fun (W : World) (u v : RepS) (h : RepRd W r u) (h' : RepRd W r v) => same_reply r u v W h h')
  clear ha hb hbig hP hs
  obtain ⟨code, addr, count, on, set, parts⟩ := a
  obtain ⟨A1, n1, c1, A2, n2, c2, A3, n3, c3⟩ := s
  obtain ⟨exc, ron, rset, files⟩ := r
  simp only [askV, repV] at HL HLN HG HG4 HKP HSR HSP ⊢
  go_enter Try.func5, Try.ntmps5
  go_wp2_with fail
  refine (HL.out _).mono ?_
  rintro e w1 ⟨rfl, hx⟩
  have Z := Lib.hid (show Ext w w1 from (Ext.alloc _ _).trans hx)
  have BA := Lib.hid (show w1.heap[w.heap.size]? = some (.cells #[.int .i64 code, .int .i64 addr, .int .i64 count, .slice A1 n1 c1, .slice A2 n2 c2, .slice A3 n3 c3] 26 (0, 0)) from hx.block (heap_at _ _ _ (by simp)))
  have X := Lib.hid Z.out
  clear hx Z
  obtain ⟨d0, d1, d2, d3, d4, d5⟩ := cells6 BA.out
  go_wp2_with fail
  refine (HLN.out _ X.out).mono ?_
  rintro e w2 ⟨t, rfl, hlent, hx⟩
  have Z := Lib.hid (show Ext w1 w2 from hx)
  replace BA := Lib.hid (Z.out.block BA.out)
  replace X := Lib.hid (X.out.trans Z.out)
  have HLT := Lib.hid hlent
  have HRT := Lib.hid (HLR.out _ _ _ hlent)
  clear hlent
  obtain ⟨C1, p1, q1, C2, p2, q2, C3, p3, q3⟩ := t
  simp only
  clear d0 d1 d2 d3 d4 d5
  clear hx Z
  obtain ⟨d0, d1, d2, d3, d4, d5⟩ := cells6 BA.out
  go_wp2_with fail
  refine (lent_any b _ _ _ _ (HB.out.ext (X.out.trans (Ext.alloc _ _))) (by omega)).mono ?_
  rintro e w3 ⟨gx, curx, rfl, hgx, hhx, hcurx, hx⟩
  have Z := Lib.hid (show Ext w2 w3 from (Ext.alloc _ _).trans (Ext.of hx))
  replace BA := Lib.hid (Z.out.block BA.out)
  have BX := Lib.hid (show w3.heap[w2.heap.size]? = some (.cells #[.int .i64 code, .int .i64 addr, .int .i64 count, .slice C1 p1 q1, .slice C2 p2 q2, .slice C3 p3 q3] 26 (0, 0)) from (Ext.of hx).block (heap_at _ _ _ (by simp)))
  replace X := Lib.hid (X.out.trans Z.out)
  replace HLT := Lib.hid (HLT.out.ext Z.out)
  replace HRT := Lib.hid (HRT.out.ext Z.out)
  have HY := Lib.hid hhx
  have HCX := Lib.hid hcurx
  have HOY := Lib.hid (lent_own hgx hhx hcurx HB.out.length (by omega))
  clear hgx hhx hcurx
  clear d0 d1 d2 d3 d4 d5
  clear hx Z
  obtain ⟨d0, d1, d2, d3, d4, d5⟩ := cells6 BA.out
  obtain ⟨x0, x1, x2, x3, x4, x5⟩ := cells6 BX.out
  have BA0 := BA; have BX0 := BX; have XV := X; have HLT0 := HLT; have HY0 := HY
  have Y3 := Lib.hid (Ext.refl w3)
  go_wp2_with fail
  refine (HG.out _ ⟨C1, p1, q1, C2, p2, q2, C3, p3, q3⟩ gx (N + 5) HRT.out HOY.out.rd ⟨by omega, by omega⟩).mono ?_
  rintro e w4 ⟨t, rfl, how, hx⟩
  have Z := Lib.hid (show Ext w3 w4 from hx)
  replace BA := Lib.hid (Z.out.block BA.out)
  replace BX := Lib.hid (Z.out.block BX.out)
  replace X := Lib.hid (X.out.trans Z.out)
  replace HLT := Lib.hid (HLT.out.ext Z.out)
  replace HRT := Lib.hid (HRT.out.ext Z.out)
  replace HOY := Lib.hid (HOY.out.ext Z.out)
  replace HY := Lib.hid (Z.out.block HY.out)
  replace Y3 := Lib.hid (Y3.out.trans Z.out)
  have Y34 := Lib.hid Z.out.size
  have HOW := Lib.hid how
  have HW1 := Lib.hid how.rd
  clear how
  obtain ⟨B1, m1, k1, B2, m2, k2, B3, m3, k3⟩ := t
  simp only [repV]
  have Y4 := Lib.hid (Ext.refl w4)
  clear d0 d1 d2 d3 d4 d5 x0 x1 x2 x3 x4 x5
  clear hx Z
  obtain ⟨d0, d1, d2, d3, d4, d5⟩ := cells6 BA.out
  have da0 := fun o : Obj => (cells6 ((Ext.alloc _ o).block BA.out)).1
  have da1 := fun o : Obj => (cells6 ((Ext.alloc _ o).block BA.out)).2.1
  have da2 := fun o : Obj => (cells6 ((Ext.alloc _ o).block BA.out)).2.2.1
  have da3 := fun o : Obj => (cells6 ((Ext.alloc _ o).block BA.out)).2.2.2.1
  have da4 := fun o : Obj => (cells6 ((Ext.alloc _ o).block BA.out)).2.2.2.2.1
  have da5 := fun o : Obj => (cells6 ((Ext.alloc _ o).block BA.out)).2.2.2.2.2
  obtain ⟨x0, x1, x2, x3, x4, x5⟩ := cells6 BX.out
  have xa0 := fun o : Obj => (cells6 ((Ext.alloc _ o).block BX.out)).1
  have xa1 := fun o : Obj => (cells6 ((Ext.alloc _ o).block BX.out)).2.1
  have xa2 := fun o : Obj => (cells6 ((Ext.alloc _ o).block BX.out)).2.2.1
  have xa3 := fun o : Obj => (cells6 ((Ext.alloc _ o).block BX.out)).2.2.2.1
  have xa4 := fun o : Obj => (cells6 ((Ext.alloc _ o).block BX.out)).2.2.2.2.1
  have xa5 := fun o : Obj => (cells6 ((Ext.alloc _ o).block BX.out)).2.2.2.2.2
  go_wp2_with fail
  refine (HG.out _ ⟨C1, p1, q1, C2, p2, q2, C3, p3, q3⟩ gx (N + 5) (HRT.out.ext (Ext.alloc _ _)) (HOY.out.ext (Ext.alloc _ _)).rd ⟨by omega, by omega⟩).mono ?_
  rintro e w5 ⟨t, rfl, how, hx⟩
  have Z := Lib.hid (show Ext w4 w5 from (Ext.alloc _ _).trans hx)
  replace BA := Lib.hid (Z.out.block BA.out)
  replace BX := Lib.hid (Z.out.block BX.out)
  have B1X := Lib.hid (show w5.heap[w4.heap.size]? = some (.cells #[.int .i64 exc, .slice B1 m1 k1, .slice B2 m2 k2, .slice B3 m3 k3] 29 (0, 0)) from hx.block (heap_at _ _ _ (by simp)))
  replace X := Lib.hid (X.out.trans Z.out)
  replace HLT := Lib.hid (HLT.out.ext Z.out)
  replace HRT := Lib.hid (HRT.out.ext Z.out)
  replace HOY := Lib.hid (HOY.out.ext Z.out)
  replace HW1 := Lib.hid (HW1.out.ext Z.out)
  replace HY := Lib.hid (Z.out.block HY.out)
  replace Y3 := Lib.hid (Y3.out.trans Z.out)
  replace Y4 := Lib.hid (Y4.out.trans Z.out)
  have Y45 := Lib.hid (show w4.heap.size ≤ w5.heap.size from Z.out.size)
  have HW2 := Lib.hid (how.mono (show w4.heap.size ≤ _ from (Ext.alloc _ _).size))
  clear how
  obtain ⟨D1, r1, u1, D2, r2, u2, D3, r3, u3⟩ := t
  simp only [repV]
  clear d0 d1 d2 d3 d4 d5 da0 da1 da2 da3 da4 da5 x0 x1 x2 x3 x4 x5 xa0 xa1 xa2 xa3 xa4 xa5
  clear hx Z
  obtain ⟨d0, d1, d2, d3, d4, d5⟩ := cells6 BA.out
  have da0 := fun o : Obj => (cells6 ((Ext.alloc _ o).block BA.out)).1
  have da1 := fun o : Obj => (cells6 ((Ext.alloc _ o).block BA.out)).2.1
  have da2 := fun o : Obj => (cells6 ((Ext.alloc _ o).block BA.out)).2.2.1
  have da3 := fun o : Obj => (cells6 ((Ext.alloc _ o).block BA.out)).2.2.2.1
  have da4 := fun o : Obj => (cells6 ((Ext.alloc _ o).block BA.out)).2.2.2.2.1
  have da5 := fun o : Obj => (cells6 ((Ext.alloc _ o).block BA.out)).2.2.2.2.2
  obtain ⟨x0, x1, x2, x3, x4, x5⟩ := cells6 BX.out
  have xa0 := fun o : Obj => (cells6 ((Ext.alloc _ o).block BX.out)).1
  have xa1 := fun o : Obj => (cells6 ((Ext.alloc _ o).block BX.out)).2.1
  have xa2 := fun o : Obj => (cells6 ((Ext.alloc _ o).block BX.out)).2.2.1
  have xa3 := fun o : Obj => (cells6 ((Ext.alloc _ o).block BX.out)).2.2.2.1
  have xa4 := fun o : Obj => (cells6 ((Ext.alloc _ o).block BX.out)).2.2.2.2.1
  have xa5 := fun o : Obj => (cells6 ((Ext.alloc _ o).block BX.out)).2.2.2.2.2
  obtain ⟨g0, g1, g2, g3⟩ := cells4 B1X.out
  have ga0 := fun o : Obj => (cells4 ((Ext.alloc _ o).block B1X.out)).1
  have ga1 := fun o : Obj => (cells4 ((Ext.alloc _ o).block B1X.out)).2.1
  have ga2 := fun o : Obj => (cells4 ((Ext.alloc _ o).block B1X.out)).2.2.1
  have ga3 := fun o : Obj => (cells4 ((Ext.alloc _ o).block B1X.out)).2.2.2
  go_wp2_with fail
  have Y4P := Y4
  refine (HG4.out _ (X.out.trans (Ext.alloc _ _))).mono ?_
  rintro e w6 ⟨t, rfl, how, hx⟩
  have Z := Lib.hid (show Ext w5 w6 from (Ext.alloc _ _).trans hx)
  replace BA := Lib.hid (Z.out.block BA.out)
  replace BX := Lib.hid (Z.out.block BX.out)
  replace B1X := Lib.hid (Z.out.block B1X.out)
  have B2X := Lib.hid (show w6.heap[w5.heap.size]? = some (.cells #[.int .i64 exc, .slice D1 r1 u1, .slice D2 r2 u2, .slice D3 r3 u3] 29 (0, 0)) from hx.block (heap_at _ _ _ (by simp)))
  replace X := Lib.hid (X.out.trans Z.out)
  replace HLT := Lib.hid (HLT.out.ext Z.out)
  replace HRT := Lib.hid (HRT.out.ext Z.out)
  replace HOY := Lib.hid (HOY.out.ext Z.out)
  replace HW1 := Lib.hid (HW1.out.ext Z.out)
  replace HW2 := Lib.hid (HW2.out.ext Z.out)
  replace HY := Lib.hid (Z.out.block HY.out)
  replace Y3 := Lib.hid (Y3.out.trans Z.out)
  replace Y4 := Lib.hid (Y4.out.trans Z.out)
  have Y46 := Lib.hid (show w4.heap.size ≤ w6.heap.size from Nat.le_trans Y45.out Z.out.size)
  have HW3 := Lib.hid (how.mono (show w4.heap.size ≤ _ from Nat.le_trans Y4P.out.size (Ext.alloc _ _).size))
  clear how
  obtain ⟨E1, v1, z1, E2, v2, z2, E3, v3, z3⟩ := t
  simp only [repV]
  clear d0 d1 d2 d3 d4 d5 da0 da1 da2 da3 da4 da5 x0 x1 x2 x3 x4 x5 xa0 xa1 xa2 xa3 xa4 xa5 g0 g1 g2 g3 ga0 ga1 ga2 ga3
  clear hx Z
  obtain ⟨d0, d1, d2, d3, d4, d5⟩ := cells6 BA.out
  have da0 := fun o : Obj => (cells6 ((Ext.alloc _ o).block BA.out)).1
  have da1 := fun o : Obj => (cells6 ((Ext.alloc _ o).block BA.out)).2.1
  have da2 := fun o : Obj => (cells6 ((Ext.alloc _ o).block BA.out)).2.2.1
  have da3 := fun o : Obj => (cells6 ((Ext.alloc _ o).block BA.out)).2.2.2.1
  have da4 := fun o : Obj => (cells6 ((Ext.alloc _ o).block BA.out)).2.2.2.2.1
  have da5 := fun o : Obj => (cells6 ((Ext.alloc _ o).block BA.out)).2.2.2.2.2
  obtain ⟨x0, x1, x2, x3, x4, x5⟩ := cells6 BX.out
  have xa0 := fun o : Obj => (cells6 ((Ext.alloc _ o).block BX.out)).1
  have xa1 := fun o : Obj => (cells6 ((Ext.alloc _ o).block BX.out)).2.1
  have xa2 := fun o : Obj => (cells6 ((Ext.alloc _ o).block BX.out)).2.2.1
  have xa3 := fun o : Obj => (cells6 ((Ext.alloc _ o).block BX.out)).2.2.2.1
  have xa4 := fun o : Obj => (cells6 ((Ext.alloc _ o).block BX.out)).2.2.2.2.1
  have xa5 := fun o : Obj => (cells6 ((Ext.alloc _ o).block BX.out)).2.2.2.2.2
  obtain ⟨g0, g1, g2, g3⟩ := cells4 B1X.out
  have ga0 := fun o : Obj => (cells4 ((Ext.alloc _ o).block B1X.out)).1
  have ga1 := fun o : Obj => (cells4 ((Ext.alloc _ o).block B1X.out)).2.1
  have ga2 := fun o : Obj => (cells4 ((Ext.alloc _ o).block B1X.out)).2.2.1
  have ga3 := fun o : Obj => (cells4 ((Ext.alloc _ o).block B1X.out)).2.2.2
  obtain ⟨e0, e1, e2, e3⟩ := cells4 B2X.out
  have ea0 := fun o : Obj => (cells4 ((Ext.alloc _ o).block B2X.out)).1
  have ea1 := fun o : Obj => (cells4 ((Ext.alloc _ o).block B2X.out)).2.1
  have ea2 := fun o : Obj => (cells4 ((Ext.alloc _ o).block B2X.out)).2.2.1
  have ea3 := fun o : Obj => (cells4 ((Ext.alloc _ o).block B2X.out)).2.2.2
  go_wp2_with fail
  refine (HSR.out _ ⟨B1, m1, k1, B2, m2, k2, B3, m3, k3⟩ ⟨E1, v1, z1, E2, v2, z2, E3, v3, z3⟩ (HW1.out.ext (Ext.alloc _ _)) (HW3.out.ext (Ext.alloc _ _)).rd).mono ?_
  rintro e w7 ⟨rfl, hx⟩
  have Z := Lib.hid (show Ext w6 w7 from (Ext.alloc _ _).trans hx)
  replace BA := Lib.hid (Z.out.block BA.out)
  replace BX := Lib.hid (Z.out.block BX.out)
  replace B1X := Lib.hid (Z.out.block B1X.out)
  replace B2X := Lib.hid (Z.out.block B2X.out)
  have B3X := Lib.hid (show w7.heap[w6.heap.size]? = some (.cells #[.int .i64 exc, .slice E1 v1 z1, .slice E2 v2 z2, .slice E3 v3 z3] 29 (0, 0)) from hx.block (heap_at _ _ _ (by simp)))
  replace X := Lib.hid (X.out.trans Z.out)
  replace HLT := Lib.hid (HLT.out.ext Z.out)
  replace HRT := Lib.hid (HRT.out.ext Z.out)
  replace HOY := Lib.hid (HOY.out.ext Z.out)
  replace HW1 := Lib.hid (HW1.out.ext Z.out)
  replace HW2 := Lib.hid (HW2.out.ext Z.out)
  replace HW3 := Lib.hid (HW3.out.ext Z.out)
  replace HY := Lib.hid (Z.out.block HY.out)
  replace Y3 := Lib.hid (Y3.out.trans Z.out)
  replace Y4 := Lib.hid (Y4.out.trans Z.out)
  clear d0 d1 d2 d3 d4 d5 da0 da1 da2 da3 da4 da5 x0 x1 x2 x3 x4 x5 xa0 xa1 xa2 xa3 xa4 xa5 g0 g1 g2 g3 ga0 ga1 ga2 ga3 e0 e1 e2 e3 ea0 ea1 ea2 ea3
  clear hx Z
  obtain ⟨d0, d1, d2, d3, d4, d5⟩ := cells6 BA.out
  obtain ⟨x0, x1, x2, x3, x4, x5⟩ := cells6 BX.out
  obtain ⟨g0, g1, g2, g3⟩ := cells4 B1X.out
  obtain ⟨e0, e1, e2, e3⟩ := cells4 B2X.out
  obtain ⟨h0, h1, h2, h3⟩ := cells4 B3X.out
  go_wp2_with fail
  refine (HSR.out _ ⟨D1, r1, u1, D2, r2, u2, D3, r3, u3⟩ ⟨E1, v1, z1, E2, v2, z2, E3, v3, z3⟩ HW2.out.rd HW3.out.rd).mono ?_
  rintro e w8 ⟨rfl, hx⟩
  have Z := Lib.hid (show Ext w7 w8 from hx)
  replace BA := Lib.hid (Z.out.block BA.out)
  replace BX := Lib.hid (Z.out.block BX.out)
  replace B1X := Lib.hid (Z.out.block B1X.out)
  replace B2X := Lib.hid (Z.out.block B2X.out)
  replace B3X := Lib.hid (Z.out.block B3X.out)
  replace X := Lib.hid (X.out.trans Z.out)
  replace HLT := Lib.hid (HLT.out.ext Z.out)
  replace HRT := Lib.hid (HRT.out.ext Z.out)
  replace HOY := Lib.hid (HOY.out.ext Z.out)
  replace HW1 := Lib.hid (HW1.out.ext Z.out)
  replace HW2 := Lib.hid (HW2.out.ext Z.out)
  replace HW3 := Lib.hid (HW3.out.ext Z.out)
  replace HY := Lib.hid (Z.out.block HY.out)
  replace Y3 := Lib.hid (Y3.out.trans Z.out)
  replace Y4 := Lib.hid (Y4.out.trans Z.out)
  clear d0 d1 d2 d3 d4 d5 x0 x1 x2 x3 x4 x5 g0 g1 g2 g3 e0 e1 e2 e3 h0 h1 h2 h3
  clear hx Z
  obtain ⟨d0, d1, d2, d3, d4, d5⟩ := cells6 BA.out
  obtain ⟨x0, x1, x2, x3, x4, x5⟩ := cells6 BX.out
  obtain ⟨g0, g1, g2, g3⟩ := cells4 B1X.out
  obtain ⟨e0, e1, e2, e3⟩ := cells4 B2X.out
  obtain ⟨h0, h1, h2, h3⟩ := cells4 B3X.out
  go_wp2_with fail
  refine (HKP.out _ _ ⟨C1, p1, q1, C2, p2, q2, C3, p3, q3⟩ X.out HLT.out).mono ?_
  rintro e w9 ⟨rfl, hx⟩
  have Z := Lib.hid (show Ext w8 w9 from hx)
  replace BA := Lib.hid (Z.out.block BA.out)
  replace BX := Lib.hid (Z.out.block BX.out)
  replace B1X := Lib.hid (Z.out.block B1X.out)
  replace B2X := Lib.hid (Z.out.block B2X.out)
  replace B3X := Lib.hid (Z.out.block B3X.out)
  replace X := Lib.hid (X.out.trans Z.out)
  replace HLT := Lib.hid (HLT.out.ext Z.out)
  replace HRT := Lib.hid (HRT.out.ext Z.out)
  replace HOY := Lib.hid (HOY.out.ext Z.out)
  replace HW1 := Lib.hid (HW1.out.ext Z.out)
  replace HW2 := Lib.hid (HW2.out.ext Z.out)
  replace HW3 := Lib.hid (HW3.out.ext Z.out)
  replace HY := Lib.hid (Z.out.block HY.out)
  replace Y3 := Lib.hid (Y3.out.trans Z.out)
  replace Y4 := Lib.hid (Y4.out.trans Z.out)
  clear d0 d1 d2 d3 d4 d5 x0 x1 x2 x3 x4 x5 g0 g1 g2 g3 e0 e1 e2 e3 h0 h1 h2 h3
  clear hx Z
  obtain ⟨d0, d1, d2, d3, d4, d5⟩ := cells6 BA.out
  obtain ⟨x0, x1, x2, x3, x4, x5⟩ := cells6 BX.out
  obtain ⟨g0, g1, g2, g3⟩ := cells4 B1X.out
  obtain ⟨e0, e1, e2, e3⟩ := cells4 B2X.out
  obtain ⟨h0, h1, h2, h3⟩ := cells4 B3X.out
  go_wp2_with fail
  refine (kept_any b _ _ _ gx curx _ (HB.out.ext X.out) HY.out HCX.out (by omega)).mono ?_
  rintro e w10 ⟨rfl, hx⟩
  have Z := Lib.hid (show Ext w9 w10 from (Ext.of hx))
  replace BA := Lib.hid (Z.out.block BA.out)
  replace BX := Lib.hid (Z.out.block BX.out)
  replace B1X := Lib.hid (Z.out.block B1X.out)
  replace B2X := Lib.hid (Z.out.block B2X.out)
  replace B3X := Lib.hid (Z.out.block B3X.out)
  replace X := Lib.hid (X.out.trans Z.out)
  replace HLT := Lib.hid (HLT.out.ext Z.out)
  replace HRT := Lib.hid (HRT.out.ext Z.out)
  replace HOY := Lib.hid (HOY.out.ext Z.out)
  replace HW1 := Lib.hid (HW1.out.ext Z.out)
  replace HW2 := Lib.hid (HW2.out.ext Z.out)
  replace HW3 := Lib.hid (HW3.out.ext Z.out)
  replace HY := Lib.hid (Z.out.block HY.out)
  replace Y3 := Lib.hid (Y3.out.trans Z.out)
  replace Y4 := Lib.hid (Y4.out.trans Z.out)
  clear d0 d1 d2 d3 d4 d5 x0 x1 x2 x3 x4 x5 g0 g1 g2 g3 e0 e1 e2 e3 h0 h1 h2 h3
  clear hx Z
  obtain ⟨d0, d1, d2, d3, d4, d5⟩ := cells6 BA.out
  obtain ⟨x0, x1, x2, x3, x4, x5⟩ := cells6 BX.out
  obtain ⟨g0, g1, g2, g3⟩ := cells4 B1X.out
  obtain ⟨e0, e1, e2, e3⟩ := cells4 B2X.out
  obtain ⟨h0, h1, h2, h3⟩ := cells4 B3X.out
  go_wp2_with fail
  refine (HSP.out ⟨B1, m1, k1, B2, m2, k2, B3, m3, k3⟩ _ w4 _ HOW.out Y4.out Y34.out).mono ?_
  rintro e w20 ⟨rfl, hmid⟩
  have Y20 := Lib.hid (show Ext w3 w20 from Y3.out.below.trans hmid.below)
  have hk := Lib.hid hmid.block
  replace X := Lib.hid (XV.out.trans Y20.out)
  have hl2 := lt_of_heap B2X.out; have hl3 := lt_of_heap B3X.out
  replace BA := Lib.hid (Y20.out.block BA0.out); replace BX := Lib.hid (Y20.out.block BX0.out)
  replace B2X := Lib.hid ((hk.out _ (by have := Y45.out; omega) hl2).trans B2X.out)
  replace B3X := Lib.hid ((hk.out _ (by have := Y46.out; omega) hl3).trans B3X.out)
  replace HW2 := Lib.hid (HW2.out.keep fun g h1 h2 => hk.out g h1 h2)
  replace HW3 := Lib.hid (HW3.out.keep fun g h1 h2 => hk.out g h1 h2)
  replace HLT := Lib.hid (HLT0.out.ext Y20.out)
  replace HY := Lib.hid (Y20.out.block HY0.out)
  clear d0 d1 d2 d3 d4 d5 x0 x1 x2 x3 x4 x5 g0 g1 g2 g3 e0 e1 e2 e3 h0 h1 h2 h3
  clear hmid hl2 hl3
  obtain ⟨d0, d1, d2, d3, d4, d5⟩ := cells6 BA.out
  obtain ⟨x0, x1, x2, x3, x4, x5⟩ := cells6 BX.out
  obtain ⟨e0, e1, e2, e3⟩ := cells4 B2X.out
  obtain ⟨h0, h1, h2, h3⟩ := cells4 B3X.out
  go_wp2_with fail
  refine (HSR.out _ ⟨D1, r1, u1, D2, r2, u2, D3, r3, u3⟩ ⟨E1, v1, z1, E2, v2, z2, E3, v3, z3⟩ HW2.out.rd HW3.out.rd).mono ?_
  rintro e w21 ⟨rfl, hx⟩
  have Z := Lib.hid (show Ext w20 w21 from hx)
  replace BA := Lib.hid (Z.out.block BA.out)
  replace BX := Lib.hid (Z.out.block BX.out)
  replace B2X := Lib.hid (Z.out.block B2X.out)
  replace B3X := Lib.hid (Z.out.block B3X.out)
  replace X := Lib.hid (X.out.trans Z.out)
  replace HW2 := Lib.hid (HW2.out.ext Z.out)
  replace HW3 := Lib.hid (HW3.out.ext Z.out)
  replace HLT := Lib.hid (HLT.out.ext Z.out)
  replace HY := Lib.hid (Z.out.block HY.out)
  clear d0 d1 d2 d3 d4 d5 x0 x1 x2 x3 x4 x5 e0 e1 e2 e3 h0 h1 h2 h3
  clear hx Z
  obtain ⟨d0, d1, d2, d3, d4, d5⟩ := cells6 BA.out
  obtain ⟨x0, x1, x2, x3, x4, x5⟩ := cells6 BX.out
  obtain ⟨e0, e1, e2, e3⟩ := cells4 B2X.out
  obtain ⟨h0, h1, h2, h3⟩ := cells4 B3X.out
  go_wp2_with fail
  refine (HKP.out _ _ ⟨C1, p1, q1, C2, p2, q2, C3, p3, q3⟩ X.out HLT.out).mono ?_
  rintro e w22 ⟨rfl, hx⟩
  have Z := Lib.hid (show Ext w21 w22 from hx)
  replace BA := Lib.hid (Z.out.block BA.out)
  replace BX := Lib.hid (Z.out.block BX.out)
  replace B2X := Lib.hid (Z.out.block B2X.out)
  replace B3X := Lib.hid (Z.out.block B3X.out)
  replace X := Lib.hid (X.out.trans Z.out)
  replace HW2 := Lib.hid (HW2.out.ext Z.out)
  replace HW3 := Lib.hid (HW3.out.ext Z.out)
  replace HLT := Lib.hid (HLT.out.ext Z.out)
  replace HY := Lib.hid (Z.out.block HY.out)
  clear d0 d1 d2 d3 d4 d5 x0 x1 x2 x3 x4 x5 e0 e1 e2 e3 h0 h1 h2 h3
  clear hx Z
  obtain ⟨d0, d1, d2, d3, d4, d5⟩ := cells6 BA.out
  obtain ⟨x0, x1, x2, x3, x4, x5⟩ := cells6 BX.out
  obtain ⟨e0, e1, e2, e3⟩ := cells4 B2X.out
  obtain ⟨h0, h1, h2, h3⟩ := cells4 B3X.out
  go_wp2_with fail
  refine (kept_any b _ _ _ gx curx _ (HB.out.ext X.out) HY.out HCX.out (by omega)).mono ?_
  rintro e w23 ⟨rfl, hx⟩
  have Z := Lib.hid (show Ext w22 w23 from (Ext.of hx))
  replace BA := Lib.hid (Z.out.block BA.out)
  replace BX := Lib.hid (Z.out.block BX.out)
  replace B2X := Lib.hid (Z.out.block B2X.out)
  replace B3X := Lib.hid (Z.out.block B3X.out)
  replace X := Lib.hid (X.out.trans Z.out)
  replace HW2 := Lib.hid (HW2.out.ext Z.out)
  replace HW3 := Lib.hid (HW3.out.ext Z.out)
  replace HLT := Lib.hid (HLT.out.ext Z.out)
  replace HY := Lib.hid (Z.out.block HY.out)
  clear d0 d1 d2 d3 d4 d5 x0 x1 x2 x3 x4 x5 e0 e1 e2 e3 h0 h1 h2 h3
  clear hx Z
  obtain ⟨d0, d1, d2, d3, d4, d5⟩ := cells6 BA.out
  obtain ⟨x0, x1, x2, x3, x4, x5⟩ := cells6 BX.out
  obtain ⟨e0, e1, e2, e3⟩ := cells4 B2X.out
  obtain ⟨h0, h1, h2, h3⟩ := cells4 B3X.out
  go_wp2_with fail
  refine (works04_any _).mono ?_
  rintro e w24 ⟨rfl, hx⟩
  have Z := Lib.hid (show Ext w23 w24 from hx)
  replace BA := Lib.hid (Z.out.block BA.out)
  replace BX := Lib.hid (Z.out.block BX.out)
  replace B2X := Lib.hid (Z.out.block B2X.out)
  replace B3X := Lib.hid (Z.out.block B3X.out)
  replace X := Lib.hid (X.out.trans Z.out)
  replace HW2 := Lib.hid (HW2.out.ext Z.out)
  replace HW3 := Lib.hid (HW3.out.ext Z.out)
  replace HLT := Lib.hid (HLT.out.ext Z.out)
  replace HY := Lib.hid (Z.out.block HY.out)
  clear d0 d1 d2 d3 d4 d5 x0 x1 x2 x3 x4 x5 e0 e1 e2 e3 h0 h1 h2 h3
  clear hx Z
  obtain ⟨d0, d1, d2, d3, d4, d5⟩ := cells6 BA.out
  obtain ⟨x0, x1, x2, x3, x4, x5⟩ := cells6 BX.out
  obtain ⟨e0, e1, e2, e3⟩ := cells4 B2X.out
  obtain ⟨h0, h1, h2, h3⟩ := cells4 B3X.out
  go_wp2_with fail
  go_ret
  exact ⟨rfl, X.out⟩
end Go.Proofs.Ytpjmhckdeeonbaa
