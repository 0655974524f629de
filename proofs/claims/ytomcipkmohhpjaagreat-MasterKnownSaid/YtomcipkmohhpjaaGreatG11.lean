/- Contract of the reference's Put (chapter 04). (genrepq.py prints this.) -/
import Derived.Test.YtomcipkmohhpjaaGreatG07
import Derived.Test.YtomcipkmohhpjaaGreatRep5
import Derived.Test.YtomcipkmohhpjaaGreatG09
import Derived.Test.YtomcipkmohhpjaaGreatG03
import Derived.Test.YtomcipkmohhpjaaGreatRepGA
import Derived.Test.YtomcipkmohhpjaaGreatG04
import Derived.Test.YtomcipkmohhpjaaGreatG05
namespace Go.Out
open Go Go.RowKit
set_option linter.unusedVariables false
theorem Own.take {w : World} {base : Nat} {e : TypeId} {p : Value → Prop} {A : Option Addr} {n c k : Nat} {xs : List Value} (h : Own w base e p A n c xs) (hk : k ≤ n) : Own w base e p A k c (xs.take k) := by
  obtain ⟨h1, h2, h3, h4⟩ := h
  refine ⟨by rw [List.length_take]; omega, by omega, h3, ?_⟩
  rcases h4 with h4 | ⟨g, off, cur, e1, h5, h6, h7, h8, h9⟩
  · exact .inl h4
  · refine .inr ⟨g, off, cur, e1, h5, h6, h7, ?_, h9⟩
    rw [← h8, List.take_take, Nat.min_eq_left hk]
end Go.Out
namespace Go.Proofs.YtomcipkmohhpjaaGreat
set_option linter.unusedVariables false
set_option linter.unusedSimpArgs false
set_option maxRecDepth 100000
set_option maxHeartbeats 2000000
open Go Go.RowKit Go.Out

theorem rq_no (code addr count exc : Int) (A1 A2 A3 B1 B2 B3 : Option Addr) (n1 c1 n2 c2 n3 c3 m1 k1 m2 k2 m3 k3 : Nat) (w : World) (K : Int) (hK : (K != 0) = true) (HC : Hid (∀ W, Ext w W → Calls Tryz.prog 58 #[.agg #[.int .i64 code, .int .i64 addr, .int .i64 count, .slice A1 n1 c1, .slice A2 n2 c2, .slice A3 n3 c3], .agg #[.int .i64 exc, .slice B1 m1 k1, .slice B2 m2 k2, .slice B3 m3 k3]] W (RetI W K))) :
    Calls Tryz.prog 28 #[.agg #[.int .i64 code, .int .i64 addr, .int .i64 count, .slice A1 n1 c1, .slice A2 n2 c2, .slice A3 n3 c3], .agg #[.int .i64 exc, .slice B1 m1 k1, .slice B2 m2 k2, .slice B3 m3 k3]] w (RetU w [] K) := by
  go_enter Tryz.func28, Tryz.ntmps28
  go_wp2_with fail
  refine (HC.out _ ((Ext.alloc _ _).trans (Ext.alloc _ _))).mono ?_
  rintro e w1 ⟨rfl, hx⟩
  have Z := Lib.hid (show Ext w w1 from ((Ext.alloc _ _).trans (Ext.alloc _ _)).trans hx)
  have BA := Lib.hid (show w1.heap[w.heap.size]? = some (.cells #[.int .i64 code, .int .i64 addr, .int .i64 count, .slice A1 n1 c1, .slice A2 n2 c2, .slice A3 n3 c3] 37 (0, 0)) from hx.block ((Ext.alloc _ _).block (heap_at _ _ _ (by simp))))
  have BR := Lib.hid (show w1.heap[w.heap.size + 1]? = some (.cells #[.int .i64 exc, .slice B1 m1 k1, .slice B2 m2 k2, .slice B3 m3 k3] 40 (0, 0)) from hx.block (heap_at _ _ _ (by simp)))
  have X := Lib.hid Z.out
  clear hx Z
  obtain ⟨d0, d1, d2, d3, d4, d5⟩ := cells6 BA.out
  obtain ⟨g0, g1, g2, g3⟩ := cells4 BR.out
  go_wp2_with fail
  go_ret2
  exact ⟨none, 0, 0, rfl, Own.nil_ _ _ _ _, X.out⟩
theorem rq_ex (code addr count exc : Int) (A1 A2 A3 B1 B2 B3 : Option Addr) (n1 c1 n2 c2 n3 c3 m1 k1 m2 k2 m3 k3 : Nat) (w : World) (n c : Nat) (he : exc = (n : Int)) (hc : code = (c : Int)) (h1 : 1 ≤ n) (h2 : n ≤ 127) (h3 : 1 ≤ c) (h4 : c ≤ 20) (HC : Hid (∀ W, Ext w W → Calls Tryz.prog 58 #[.agg #[.int .i64 code, .int .i64 addr, .int .i64 count, .slice A1 n1 c1, .slice A2 n2 c2, .slice A3 n3 c3], .agg #[.int .i64 exc, .slice B1 m1 k1, .slice B2 m2 k2, .slice B3 m3 k3]] W (RetI W 0))) :
    Calls Tryz.prog 28 #[.agg #[.int .i64 code, .int .i64 addr, .int .i64 count, .slice A1 n1 c1, .slice A2 n2 c2, .slice A3 n3 c3], .agg #[.int .i64 exc, .slice B1 m1 k1, .slice B2 m2 k2, .slice B3 m3 k3]] w (RetU w [UInt8.ofNat (c + 128), UInt8.ofNat n] 0) := by
  subst he; subst hc
  have hne : ((n : Int) != 0) = true := by simp; omega
  have w1 : IntKind.i64.wrap ((c : Int) + 128) = (c : Int) + 128 := IntWalk.i64_in _ (by omega)
  have w2 : IntKind.u8.wrap ((c : Int) + 128) = (c : Int) + 128 := by rw [IntKind.wrap_u8]; omega
  have w3 : IntKind.u8.wrap (n : Int) = (n : Int) := by rw [IntKind.wrap_u8]; omega
  have e2 : (UInt8.ofNat (c + 128)).toNat = c + 128 := toNat_ofNat8 (by omega)
  have e3 : (UInt8.ofNat n).toNat = n := toNat_ofNat8 (by omega)
  have E2 := Lib.hid e2; have E3 := Lib.hid e3; clear e2 e3
  go_enter Tryz.func28, Tryz.ntmps28
  go_wp2_with fail
  refine (HC.out _ ((Ext.alloc _ _).trans (Ext.alloc _ _))).mono ?_
  rintro e w1 ⟨rfl, hx⟩
  have Z := Lib.hid (show Ext w w1 from ((Ext.alloc _ _).trans (Ext.alloc _ _)).trans hx)
  have BA := Lib.hid (show w1.heap[w.heap.size]? = some (.cells #[.int .i64 (c : Int), .int .i64 addr, .int .i64 count, .slice A1 n1 c1, .slice A2 n2 c2, .slice A3 n3 c3] 37 (0, 0)) from hx.block ((Ext.alloc _ _).block (heap_at _ _ _ (by simp))))
  have BR := Lib.hid (show w1.heap[w.heap.size + 1]? = some (.cells #[.int .i64 (n : Int), .slice B1 m1 k1, .slice B2 m2 k2, .slice B3 m3 k3] 40 (0, 0)) from hx.block (heap_at _ _ _ (by simp)))
  have X := Lib.hid Z.out
  clear hx Z
  obtain ⟨d0, d1, d2, d3, d4, d5⟩ := cells6 BA.out
  obtain ⟨g0, g1, g2, g3⟩ := cells4 BR.out
  go_wp2_with fail
  go_ret2
  exact ⟨_, _, _, rfl, lit2 w1 _ X.out.size _ _ _ _ (by rw [E2.out]; omega) (by rw [E3.out]), X.out.trans (Ext.alloc _ _)⟩
theorem rq_bits (code addr count : Int) (A1 A2 A3 B1 B2 B3 : Option Addr) (n1 c1 n2 c2 n3 c3 m1 k1 m2 k2 m3 k3 : Nat) (w : World) (c N : Nat) (hc : code = (c : Int)) (h3 : 1 ≤ c) (h4 : c ≤ 20) (xs : List UInt8) (hN : N ≤ 250) (hx : xs.length = N) (hm : m3 = 0) (HC : Hid (∀ W, Ext w W → Calls Tryz.prog 58 #[.agg #[.int .i64 code, .int .i64 addr, .int .i64 count, .slice A1 n1 c1, .slice A2 n2 c2, .slice A3 n3 c3], .agg #[.int .i64 0, .slice B1 m1 k1, .slice B2 m2 k2, .slice B3 m3 k3]] W (RetI W 0)))(HB : Hid (∀ W, Ext w W → Calls Tryz.prog 59 #[.agg #[.int .i64 code, .int .i64 addr, .int .i64 count, .slice A1 n1 c1, .slice A2 n2 c2, .slice A3 n3 c3]] W (RetQ W true)))(HW : Hid (∀ W, Ext w W → Calls Tryz.prog 61 #[.agg #[.int .i64 code, .int .i64 addr, .int .i64 count, .slice A1 n1 c1, .slice A2 n2 c2, .slice A3 n3 c3]] W (RetQ W false)))(HCALL : Hid (∀ W, Ext w W → Calls Tryz.prog 60 #[.slice B1 m1 k1] W (RetOwn W 5 IsU8 N (xs.map cB)))) :
    Calls Tryz.prog 28 #[.agg #[.int .i64 code, .int .i64 addr, .int .i64 count, .slice A1 n1 c1, .slice A2 n2 c2, .slice A3 n3 c3], .agg #[.int .i64 0, .slice B1 m1 k1, .slice B2 m2 k2, .slice B3 m3 k3]] w (RetU w (UInt8.ofNat c :: UInt8.ofNat N :: xs) 0) := by
  subst hc; subst hm
  have w8 : IntKind.u8.wrap (N : Int) = (N : Int) := by rw [IntKind.wrap_u8]; omega
  have w9 : IntKind.u8.wrap (c : Int) = (c : Int) := by rw [IntKind.wrap_u8]; omega
  have e2 : (UInt8.ofNat c).toNat = c := toNat_ofNat8 (by omega)
  have e3 : (UInt8.ofNat N).toNat = N := toNat_ofNat8 (by omega)
  have E2 := Lib.hid e2; have E3 := Lib.hid e3; have HX := Lib.hid hx; clear e2 e3 hx
  go_enter Tryz.func28, Tryz.ntmps28
  go_wp2_with fail
  refine (HC.out _ ((Ext.alloc _ _).trans (Ext.alloc _ _))).mono ?_
  rintro e w1 ⟨rfl, hx⟩
  have Z := Lib.hid (show Ext w w1 from ((Ext.alloc _ _).trans (Ext.alloc _ _)).trans hx)
  have BA := Lib.hid (show w1.heap[w.heap.size]? = some (.cells #[.int .i64 (c : Int), .int .i64 addr, .int .i64 count, .slice A1 n1 c1, .slice A2 n2 c2, .slice A3 n3 c3] 37 (0, 0)) from hx.block ((Ext.alloc _ _).block (heap_at _ _ _ (by simp))))
  have BR := Lib.hid (show w1.heap[w.heap.size + 1]? = some (.cells #[.int .i64 0, .slice B1 m1 k1, .slice B2 m2 k2, .slice B3 0 k3] 40 (0, 0)) from hx.block (heap_at _ _ _ (by simp)))
  have X := Lib.hid Z.out
  clear hx Z
  obtain ⟨d0, d1, d2, d3, d4, d5⟩ := cells6 BA.out
  obtain ⟨g0, g1, g2, g3⟩ := cells4 BR.out
  go_wp2_with fail
  refine (HB.out _ X.out).mono ?_
  rintro e w2 ⟨rfl, hx⟩
  have Z := Lib.hid (show Ext w1 w2 from hx)
  replace BA := Lib.hid (Z.out.block BA.out)
  replace BR := Lib.hid (Z.out.block BR.out)
  replace X := Lib.hid (X.out.trans Z.out)
  clear d0 d1 d2 d3 d4 d5 g0 g1 g2 g3
  clear hx Z
  obtain ⟨d0, d1, d2, d3, d4, d5⟩ := cells6 BA.out
  obtain ⟨g0, g1, g2, g3⟩ := cells4 BR.out
  go_wp2_with fail
  refine (HCALL.out _ X.out).mono ?_
  rintro e w3 ⟨A4, c4, rfl, ho4, hx⟩
  have Z := Lib.hid (show Ext w2 w3 from (Ext.of hx))
  replace BA := Lib.hid (Z.out.block BA.out)
  replace BR := Lib.hid (Z.out.block BR.out)
  replace X := Lib.hid (X.out.trans Z.out)
  have HO4 := Lib.hid ho4
  clear ho4
  clear d0 d1 d2 d3 d4 d5 g0 g1 g2 g3
  clear hx Z
  obtain ⟨d0, d1, d2, d3, d4, d5⟩ := cells6 BA.out
  obtain ⟨g0, g1, g2, g3⟩ := cells4 BR.out
  go_wp2_with fail
  refine (HW.out _ X.out).mono ?_
  rintro e w4 ⟨rfl, hx⟩
  have Z := Lib.hid (show Ext w3 w4 from hx)
  replace BA := Lib.hid (Z.out.block BA.out)
  replace BR := Lib.hid (Z.out.block BR.out)
  replace X := Lib.hid (X.out.trans Z.out)
  replace HO4 := Lib.hid (HO4.out.ext Z.out)
  clear d0 d1 d2 d3 d4 d5 g0 g1 g2 g3
  clear hx Z
  obtain ⟨d0, d1, d2, d3, d4, d5⟩ := cells6 BA.out
  obtain ⟨g0, g1, g2, g3⟩ := cells4 BR.out
  go_wp2_with fail
  refine wp_loop_rounds 1 ?_
  rw [rounds_succ]
  go_wp2_with fail
  refine (HB.out _ X.out).mono ?_
  rintro e w5 ⟨rfl, hx⟩
  have Z := Lib.hid (show Ext w4 w5 from hx)
  replace BA := Lib.hid (Z.out.block BA.out)
  replace BR := Lib.hid (Z.out.block BR.out)
  replace X := Lib.hid (X.out.trans Z.out)
  replace HO4 := Lib.hid (HO4.out.ext Z.out)
  clear d0 d1 d2 d3 d4 d5 g0 g1 g2 g3
  clear hx Z
  obtain ⟨d0, d1, d2, d3, d4, d5⟩ := cells6 BA.out
  obtain ⟨g0, g1, g2, g3⟩ := cells4 BR.out
  have HL := Lib.hid (lit2 w5 w.heap.size X.out.size (UInt8.ofNat c) (UInt8.ofNat N) (c : Int) (N : Int) (by rw [E2.out]) (by rw [E3.out]))
  go_wp2_with (at_builtin; refine app_u8 _ rfl (.tmp 96) (.tmp 97) rfl rfl HL.out rfl (HO4.out.rd.ext (Ext.alloc _ _)) isU8_map (by omega) (X.out.trans (Ext.alloc _ _)).size ?_; intro A6 c6 w9 hown hg hbk)
  go_ret2
  refine ⟨_, _, _, rfl, ?_, (X.out.trans (Ext.alloc _ _)).grown' hg (fun g hg => (HL.out.lt g hg).1)⟩
  rw [← List.map_append] at hown
  have hlen : 2 + N = N + 2 := by omega
  first | exact hown | (rw [hlen] at hown; exact hown)
theorem rq_words (code addr count : Int) (A1 A2 A3 B1 B2 B3 : Option Addr) (n1 c1 n2 c2 n3 c3 m1 k1 m2 k2 m3 k3 : Nat) (w : World) (c N : Nat) (hc : code = (c : Int)) (h3 : 1 ≤ c) (h4 : c ≤ 20) (xs : List UInt8) (hN : N ≤ 250) (hx : xs.length = N) (hm : m3 = 0) (HC : Hid (∀ W, Ext w W → Calls Tryz.prog 58 #[.agg #[.int .i64 code, .int .i64 addr, .int .i64 count, .slice A1 n1 c1, .slice A2 n2 c2, .slice A3 n3 c3], .agg #[.int .i64 0, .slice B1 m1 k1, .slice B2 m2 k2, .slice B3 m3 k3]] W (RetI W 0)))(HB : Hid (∀ W, Ext w W → Calls Tryz.prog 59 #[.agg #[.int .i64 code, .int .i64 addr, .int .i64 count, .slice A1 n1 c1, .slice A2 n2 c2, .slice A3 n3 c3]] W (RetQ W false)))(HW : Hid (∀ W, Ext w W → Calls Tryz.prog 61 #[.agg #[.int .i64 code, .int .i64 addr, .int .i64 count, .slice A1 n1 c1, .slice A2 n2 c2, .slice A3 n3 c3]] W (RetQ W true)))(HCALL : Hid (∀ W, Ext w W → Calls Tryz.prog 62 #[.slice B2 m2 k2] W (RetOwn W 5 IsU8 N (xs.map cB)))) :
    Calls Tryz.prog 28 #[.agg #[.int .i64 code, .int .i64 addr, .int .i64 count, .slice A1 n1 c1, .slice A2 n2 c2, .slice A3 n3 c3], .agg #[.int .i64 0, .slice B1 m1 k1, .slice B2 m2 k2, .slice B3 m3 k3]] w (RetU w (UInt8.ofNat c :: UInt8.ofNat N :: xs) 0) := by
  subst hc; subst hm
  have w8 : IntKind.u8.wrap (N : Int) = (N : Int) := by rw [IntKind.wrap_u8]; omega
  have w9 : IntKind.u8.wrap (c : Int) = (c : Int) := by rw [IntKind.wrap_u8]; omega
  have e2 : (UInt8.ofNat c).toNat = c := toNat_ofNat8 (by omega)
  have e3 : (UInt8.ofNat N).toNat = N := toNat_ofNat8 (by omega)
  have E2 := Lib.hid e2; have E3 := Lib.hid e3; have HX := Lib.hid hx; clear e2 e3 hx
  go_enter Tryz.func28, Tryz.ntmps28
  go_wp2_with fail
  refine (HC.out _ ((Ext.alloc _ _).trans (Ext.alloc _ _))).mono ?_
  rintro e w1 ⟨rfl, hx⟩
  have Z := Lib.hid (show Ext w w1 from ((Ext.alloc _ _).trans (Ext.alloc _ _)).trans hx)
  have BA := Lib.hid (show w1.heap[w.heap.size]? = some (.cells #[.int .i64 (c : Int), .int .i64 addr, .int .i64 count, .slice A1 n1 c1, .slice A2 n2 c2, .slice A3 n3 c3] 37 (0, 0)) from hx.block ((Ext.alloc _ _).block (heap_at _ _ _ (by simp))))
  have BR := Lib.hid (show w1.heap[w.heap.size + 1]? = some (.cells #[.int .i64 0, .slice B1 m1 k1, .slice B2 m2 k2, .slice B3 0 k3] 40 (0, 0)) from hx.block (heap_at _ _ _ (by simp)))
  have X := Lib.hid Z.out
  clear hx Z
  obtain ⟨d0, d1, d2, d3, d4, d5⟩ := cells6 BA.out
  obtain ⟨g0, g1, g2, g3⟩ := cells4 BR.out
  go_wp2_with fail
  refine (HB.out _ X.out).mono ?_
  rintro e w2 ⟨rfl, hx⟩
  have Z := Lib.hid (show Ext w1 w2 from hx)
  replace BA := Lib.hid (Z.out.block BA.out)
  replace BR := Lib.hid (Z.out.block BR.out)
  replace X := Lib.hid (X.out.trans Z.out)
  clear d0 d1 d2 d3 d4 d5 g0 g1 g2 g3
  clear hx Z
  obtain ⟨d0, d1, d2, d3, d4, d5⟩ := cells6 BA.out
  obtain ⟨g0, g1, g2, g3⟩ := cells4 BR.out
  go_wp2_with fail
  refine (HW.out _ X.out).mono ?_
  rintro e w3 ⟨rfl, hx⟩
  have Z := Lib.hid (show Ext w2 w3 from hx)
  replace BA := Lib.hid (Z.out.block BA.out)
  replace BR := Lib.hid (Z.out.block BR.out)
  replace X := Lib.hid (X.out.trans Z.out)
  clear d0 d1 d2 d3 d4 d5 g0 g1 g2 g3
  clear hx Z
  obtain ⟨d0, d1, d2, d3, d4, d5⟩ := cells6 BA.out
  obtain ⟨g0, g1, g2, g3⟩ := cells4 BR.out
  go_wp2_with fail
  refine (HCALL.out _ X.out).mono ?_
  rintro e w4 ⟨A4, c4, rfl, ho4, hx⟩
  have Z := Lib.hid (show Ext w3 w4 from (Ext.of hx))
  replace BA := Lib.hid (Z.out.block BA.out)
  replace BR := Lib.hid (Z.out.block BR.out)
  replace X := Lib.hid (X.out.trans Z.out)
  have HO4 := Lib.hid ho4
  clear ho4
  clear d0 d1 d2 d3 d4 d5 g0 g1 g2 g3
  clear hx Z
  obtain ⟨d0, d1, d2, d3, d4, d5⟩ := cells6 BA.out
  obtain ⟨g0, g1, g2, g3⟩ := cells4 BR.out
  go_wp2_with fail
  refine wp_loop_rounds 1 ?_
  rw [rounds_succ]
  go_wp2_with fail
  refine (HB.out _ X.out).mono ?_
  rintro e w5 ⟨rfl, hx⟩
  have Z := Lib.hid (show Ext w4 w5 from hx)
  replace BA := Lib.hid (Z.out.block BA.out)
  replace BR := Lib.hid (Z.out.block BR.out)
  replace X := Lib.hid (X.out.trans Z.out)
  replace HO4 := Lib.hid (HO4.out.ext Z.out)
  clear d0 d1 d2 d3 d4 d5 g0 g1 g2 g3
  clear hx Z
  obtain ⟨d0, d1, d2, d3, d4, d5⟩ := cells6 BA.out
  obtain ⟨g0, g1, g2, g3⟩ := cells4 BR.out
  go_wp2_with fail
  refine (HW.out _ X.out).mono ?_
  rintro e w6 ⟨rfl, hx⟩
  have Z := Lib.hid (show Ext w5 w6 from hx)
  replace BA := Lib.hid (Z.out.block BA.out)
  replace BR := Lib.hid (Z.out.block BR.out)
  replace X := Lib.hid (X.out.trans Z.out)
  replace HO4 := Lib.hid (HO4.out.ext Z.out)
  clear d0 d1 d2 d3 d4 d5 g0 g1 g2 g3
  clear hx Z
  obtain ⟨d0, d1, d2, d3, d4, d5⟩ := cells6 BA.out
  obtain ⟨g0, g1, g2, g3⟩ := cells4 BR.out
  have HL := Lib.hid (lit2 w6 w.heap.size X.out.size (UInt8.ofNat c) (UInt8.ofNat N) (c : Int) (N : Int) (by rw [E2.out]) (by rw [E3.out]))
  go_wp2_with (at_builtin; refine app_u8 _ rfl (.tmp 96) (.tmp 97) rfl rfl HL.out rfl (HO4.out.rd.ext (Ext.alloc _ _)) isU8_map (by omega) (X.out.trans (Ext.alloc _ _)).size ?_; intro A6 c6 w9 hown hg hbk)
  go_ret2
  refine ⟨_, _, _, rfl, ?_, (X.out.trans (Ext.alloc _ _)).grown' hg (fun g hg => (HL.out.lt g hg).1)⟩
  rw [← List.map_append] at hown
  have hlen : 2 + N = N + 2 := by omega
  first | exact hown | (rw [hlen] at hown; exact hown)
theorem rq_write (code addr count : Int) (A1 A2 A3 B1 B2 B3 : Option Addr) (n1 c1 n2 c2 n3 c3 m1 k1 m2 k2 m3 k3 : Nat) (w : World) (xs : List UInt8) (hx : 5 ≤ xs.length) (hm : m3 = 0) (HC : Hid (∀ W, Ext w W → Calls Tryz.prog 58 #[.agg #[.int .i64 code, .int .i64 addr, .int .i64 count, .slice A1 n1 c1, .slice A2 n2 c2, .slice A3 n3 c3], .agg #[.int .i64 0, .slice B1 m1 k1, .slice B2 m2 k2, .slice B3 m3 k3]] W (RetI W 0)))(HB : Hid (∀ W, Ext w W → Calls Tryz.prog 59 #[.agg #[.int .i64 code, .int .i64 addr, .int .i64 count, .slice A1 n1 c1, .slice A2 n2 c2, .slice A3 n3 c3]] W (RetQ W false)))(HW : Hid (∀ W, Ext w W → Calls Tryz.prog 61 #[.agg #[.int .i64 code, .int .i64 addr, .int .i64 count, .slice A1 n1 c1, .slice A2 n2 c2, .slice A3 n3 c3]] W (RetQ W false)))(HF : Hid (∀ W, Ext w W → Calls Tryz.prog 63 #[.agg #[.int .i64 code, .int .i64 addr, .int .i64 count, .slice A1 n1 c1, .slice A2 n2 c2, .slice A3 n3 c3]] W (RetQ W false)))(HCALL : Hid (∀ W, Ext w W → Calls Tryz.prog 46 #[.agg #[.int .i64 code, .int .i64 addr, .int .i64 count, .slice A1 n1 c1, .slice A2 n2 c2, .slice A3 n3 c3]] W (RetU W xs 0))) :
    Calls Tryz.prog 28 #[.agg #[.int .i64 code, .int .i64 addr, .int .i64 count, .slice A1 n1 c1, .slice A2 n2 c2, .slice A3 n3 c3], .agg #[.int .i64 0, .slice B1 m1 k1, .slice B2 m2 k2, .slice B3 m3 k3]] w (RetU w (xs.take 5) 0) := by
  subst hm
  have HX := Lib.hid hx
  clear hx
  go_enter Tryz.func28, Tryz.ntmps28
  go_wp2_with fail
  refine (HC.out _ ((Ext.alloc _ _).trans (Ext.alloc _ _))).mono ?_
  rintro e w1 ⟨rfl, hx⟩
  have Z := Lib.hid (show Ext w w1 from ((Ext.alloc _ _).trans (Ext.alloc _ _)).trans hx)
  have BA := Lib.hid (show w1.heap[w.heap.size]? = some (.cells #[.int .i64 code, .int .i64 addr, .int .i64 count, .slice A1 n1 c1, .slice A2 n2 c2, .slice A3 n3 c3] 37 (0, 0)) from hx.block ((Ext.alloc _ _).block (heap_at _ _ _ (by simp))))
  have BR := Lib.hid (show w1.heap[w.heap.size + 1]? = some (.cells #[.int .i64 0, .slice B1 m1 k1, .slice B2 m2 k2, .slice B3 0 k3] 40 (0, 0)) from hx.block (heap_at _ _ _ (by simp)))
  have X := Lib.hid Z.out
  clear hx Z
  obtain ⟨d0, d1, d2, d3, d4, d5⟩ := cells6 BA.out
  obtain ⟨g0, g1, g2, g3⟩ := cells4 BR.out
  go_wp2_with fail
  refine (HB.out _ X.out).mono ?_
  rintro e w2 ⟨rfl, hx⟩
  have Z := Lib.hid (show Ext w1 w2 from hx)
  replace BA := Lib.hid (Z.out.block BA.out)
  replace BR := Lib.hid (Z.out.block BR.out)
  replace X := Lib.hid (X.out.trans Z.out)
  clear d0 d1 d2 d3 d4 d5 g0 g1 g2 g3
  clear hx Z
  obtain ⟨d0, d1, d2, d3, d4, d5⟩ := cells6 BA.out
  obtain ⟨g0, g1, g2, g3⟩ := cells4 BR.out
  go_wp2_with fail
  refine (HW.out _ X.out).mono ?_
  rintro e w3 ⟨rfl, hx⟩
  have Z := Lib.hid (show Ext w2 w3 from hx)
  replace BA := Lib.hid (Z.out.block BA.out)
  replace BR := Lib.hid (Z.out.block BR.out)
  replace X := Lib.hid (X.out.trans Z.out)
  clear d0 d1 d2 d3 d4 d5 g0 g1 g2 g3
  clear hx Z
  obtain ⟨d0, d1, d2, d3, d4, d5⟩ := cells6 BA.out
  obtain ⟨g0, g1, g2, g3⟩ := cells4 BR.out
  go_wp2_with fail
  refine wp_loop_rounds 1 ?_
  rw [rounds_succ]
  go_wp2_with fail
  refine (HB.out _ X.out).mono ?_
  rintro e w4 ⟨rfl, hx⟩
  have Z := Lib.hid (show Ext w3 w4 from hx)
  replace BA := Lib.hid (Z.out.block BA.out)
  replace BR := Lib.hid (Z.out.block BR.out)
  replace X := Lib.hid (X.out.trans Z.out)
  clear d0 d1 d2 d3 d4 d5 g0 g1 g2 g3
  clear hx Z
  obtain ⟨d0, d1, d2, d3, d4, d5⟩ := cells6 BA.out
  obtain ⟨g0, g1, g2, g3⟩ := cells4 BR.out
  go_wp2_with fail
  refine (HW.out _ X.out).mono ?_
  rintro e w5 ⟨rfl, hx⟩
  have Z := Lib.hid (show Ext w4 w5 from hx)
  replace BA := Lib.hid (Z.out.block BA.out)
  replace BR := Lib.hid (Z.out.block BR.out)
  replace X := Lib.hid (X.out.trans Z.out)
  clear d0 d1 d2 d3 d4 d5 g0 g1 g2 g3
  clear hx Z
  obtain ⟨d0, d1, d2, d3, d4, d5⟩ := cells6 BA.out
  obtain ⟨g0, g1, g2, g3⟩ := cells4 BR.out
  go_wp2_with fail
  refine (HF.out _ X.out).mono ?_
  rintro e w6 ⟨rfl, hx⟩
  have Z := Lib.hid (show Ext w5 w6 from hx)
  replace BA := Lib.hid (Z.out.block BA.out)
  replace BR := Lib.hid (Z.out.block BR.out)
  replace X := Lib.hid (X.out.trans Z.out)
  clear d0 d1 d2 d3 d4 d5 g0 g1 g2 g3
  clear hx Z
  obtain ⟨d0, d1, d2, d3, d4, d5⟩ := cells6 BA.out
  obtain ⟨g0, g1, g2, g3⟩ := cells4 BR.out
  go_wp2_with fail
  have XO := X
  refine (HCALL.out _ X.out).mono ?_
  rintro e w7 ⟨A5, n5, c5, rfl, ho5, hx⟩
  have Z := Lib.hid (show Ext w6 w7 from hx)
  replace BA := Lib.hid (Z.out.block BA.out)
  replace BR := Lib.hid (Z.out.block BR.out)
  replace X := Lib.hid (X.out.trans Z.out)
  have hn5 : 5 ≤ n5 := by have h1 := ho5.len; have h2 := HX.out; simp at h1; omega
  have hc5 : (5 : Int) ≤ (c5 : Int) := by have := ho5.cap; omega
  have HO := Lib.hid (ho5.mono (show w.heap.size ≤ _ from XO.out.size))
  clear ho5
  clear d0 d1 d2 d3 d4 d5 g0 g1 g2 g3
  clear hx Z
  obtain ⟨d0, d1, d2, d3, d4, d5⟩ := cells6 BA.out
  obtain ⟨g0, g1, g2, g3⟩ := cells4 BR.out
  go_wp2_with fail
  go_ret2
  refine ⟨_, _, _, rfl, ?_, X.out⟩
  have := HO.out.take (k := 5) hn5
  rwa [← List.map_take] at this
end Go.Proofs.YtomcipkmohhpjaaGreat

namespace Go.Proofs.YtomcipkmohhpjaaGreat
set_option linter.unusedVariables false
set_option linter.unusedSimpArgs false
set_option maxRecDepth 100000
set_option maxHeartbeats 2000000
open Go Go.RowKit Go.Out

theorem lit1 (w : World) (g : Nat) (hg : g = w.heap.size) (x : UInt8) (v : Int) (hv : v = (x.toNat : Int)) : Rd (w.alloc (.cells #[.int .u8 v] 5)) (some ⟨g, 0, none⟩) 1 (([x] : List UInt8).map cB) := by
  subst hv
  exact Rd.of_heap (ys := []) (heap_at _ _ _ hg) rfl rfl
theorem rq_files (code addr count : Int) (A1 A2 A3 B1 B2 B3 : Option Addr) (n1 c1 n2 c2 n3 c3 m1 k1 m2 k2 m3 k3 : Nat) (w : World) (l : List (List UInt16)) (N : Nat) (hc : code = 20) (hR : RdL fileK w B3 m3 l) (hN : (filesB l).length = N) (hl : N ≤ 245) (HC : Hid (∀ W, Ext w W → Calls Tryz.prog 58 #[.agg #[.int .i64 code, .int .i64 addr, .int .i64 count, .slice A1 n1 c1, .slice A2 n2 c2, .slice A3 n3 c3], .agg #[.int .i64 0, .slice B1 m1 k1, .slice B2 m2 k2, .slice B3 m3 k3]] W (RetI W 0)))(HB : Hid (∀ W, Ext w W → Calls Tryz.prog 59 #[.agg #[.int .i64 code, .int .i64 addr, .int .i64 count, .slice A1 n1 c1, .slice A2 n2 c2, .slice A3 n3 c3]] W (RetQ W false)))(HW : Hid (∀ W, Ext w W → Calls Tryz.prog 61 #[.agg #[.int .i64 code, .int .i64 addr, .int .i64 count, .slice A1 n1 c1, .slice A2 n2 c2, .slice A3 n3 c3]] W (RetQ W false)))(HF : Hid (∀ W, Ext w W → Calls Tryz.prog 63 #[.agg #[.int .i64 code, .int .i64 addr, .int .i64 count, .slice A1 n1 c1, .slice A2 n2 c2, .slice A3 n3 c3]] W (RetQ W true))) :
    Calls Tryz.prog 28 #[.agg #[.int .i64 code, .int .i64 addr, .int .i64 count, .slice A1 n1 c1, .slice A2 n2 c2, .slice A3 n3 c3], .agg #[.int .i64 0, .slice B1 m1 k1, .slice B2 m2 k2, .slice B3 m3 k3]] w (RetU w (20 :: UInt8.ofNat N :: filesB l) 0) := by
  subst hc
  have HR := Lib.hid hR
  have HE := Lib.hid hR.length
  have HT := Lib.hid (fun k => filesB_take_le l k)
  rw [hN] at HT
  have hm3 : m3 ≤ 245 := by
    have h2 : ∀ l : List (List UInt16), l.length ≤ (filesB l).length := fun l => by
      induction l with
      | nil => simp
      | cons f l ih => rw [filesB_cons, List.length_append, fileB_length, List.length_cons]; omega
    have := h2 l
    have := hR.length
    omega
  have HN := Lib.hid hN
  have w8 : IntKind.u8.wrap (N : Int) = (N : Int) := by rw [IntKind.wrap_u8]; omega
  have e3 : (UInt8.ofNat N).toNat = N := toNat_ofNat8 (by omega)
  have E3 := Lib.hid e3
  clear e3 hR hN
  go_enter Tryz.func28, Tryz.ntmps28
  go_wp2_with fail
  refine (HC.out _ ((Ext.alloc _ _).trans (Ext.alloc _ _))).mono ?_
  rintro e w1 ⟨rfl, hx⟩
  have Z := Lib.hid (show Ext w w1 from ((Ext.alloc _ _).trans (Ext.alloc _ _)).trans hx)
  have BA := Lib.hid (show w1.heap[w.heap.size]? = some (.cells #[.int .i64 20, .int .i64 addr, .int .i64 count, .slice A1 n1 c1, .slice A2 n2 c2, .slice A3 n3 c3] 37 (0, 0)) from hx.block ((Ext.alloc _ _).block (heap_at _ _ _ (by simp))))
  have BR := Lib.hid (show w1.heap[w.heap.size + 1]? = some (.cells #[.int .i64 0, .slice B1 m1 k1, .slice B2 m2 k2, .slice B3 m3 k3] 40 (0, 0)) from hx.block (heap_at _ _ _ (by simp)))
  have X := Lib.hid Z.out
  clear hx Z
  obtain ⟨d0, d1, d2, d3, d4, d5⟩ := cells6 BA.out
  obtain ⟨g0, g1, g2, g3⟩ := cells4 BR.out
  go_wp2_with fail
  refine (HB.out _ X.out).mono ?_
  rintro e w2 ⟨rfl, hx⟩
  have Z := Lib.hid (show Ext w1 w2 from hx)
  replace BA := Lib.hid (Z.out.block BA.out)
  replace BR := Lib.hid (Z.out.block BR.out)
  replace X := Lib.hid (X.out.trans Z.out)
  clear d0 d1 d2 d3 d4 d5 g0 g1 g2 g3
  clear hx Z
  obtain ⟨d0, d1, d2, d3, d4, d5⟩ := cells6 BA.out
  obtain ⟨g0, g1, g2, g3⟩ := cells4 BR.out
  go_wp2_with fail
  refine (HW.out _ X.out).mono ?_
  rintro e w3 ⟨rfl, hx⟩
  have Z := Lib.hid (show Ext w2 w3 from hx)
  replace BA := Lib.hid (Z.out.block BA.out)
  replace BR := Lib.hid (Z.out.block BR.out)
  replace X := Lib.hid (X.out.trans Z.out)
  clear d0 d1 d2 d3 d4 d5 g0 g1 g2 g3
  clear hx Z
  obtain ⟨d0, d1, d2, d3, d4, d5⟩ := cells6 BA.out
  obtain ⟨g0, g1, g2, g3⟩ := cells4 BR.out
  go_wp2_with fail
  clear d0 d1 d2 d3 d4 d5 g0 g1 g2 g3
  go_loopw [7, 8] (fun b i wr => ∃ (k q : Nat) (A5 : Option Addr) (c5 : Nat), k ≤ m3 ∧ b = .slice A5 q c5 ∧ i = .int .i64 (k : Int) ∧ q ≤ N ∧ Hid (Own wr w3.heap.size 5 IsU8 A5 q c5 ((filesB (l.take k)).map cB)) ∧ Hid (Ext w3 wr)) (fun _ i _ => m3 - (intOf i).toNat)
  case atStart => exact ⟨0, 0, none, 0, Nat.zero_le _, rfl, rfl, by omega, by simpa [Hid, filesB] using Own.nil_ _ _ _ _, Lib.hid (Ext.refl _)⟩
  case round =>
    obtain ⟨k, q, A5, c5, hk, rfl, rfl, hq, HO, HX⟩ := hrel
    obtain ⟨g0, g1, g2, g3⟩ := cells4 (HX.out.block BR.out)
    rcases Nat.lt_or_ge k m3 with hlt | hge
    · obtain ⟨b1, o1, f, A6, n6, c6, hf, rfl, hb1, f0w, hr6, hn6, -, -⟩ := file_cells HR.out hlt
      have f0 := (X.out.trans HX.out).cell hb1 f0w
      have hst := filesB_take hf
      have hq' : (filesB (l.take k)).length = q := by have := HO.out.len; simpa using this
      have hle := HT.out (k + 1)
      rw [hst, List.length_append, fileB_length, hq', hn6] at hle
      have Hst := Lib.hid hst
      obtain ⟨M, hM⟩ : ∃ M, 1 + 2 * n6 = M := ⟨_, rfl⟩
      have hM8 : (UInt8.ofNat M).toNat = M := toNat_ofNat8 (by omega)
      have v1 : IntKind.i64.wrap (2 * (n6 : Int)) = 2 * (n6 : Int) := IntWalk.i64_in _ (by omega)
      have v2 : IntKind.i64.wrap (1 + 2 * (n6 : Int)) = 1 + 2 * (n6 : Int) := IntWalk.i64_in _ (by omega)
      have v3 : IntKind.u8.wrap (1 + 2 * (n6 : Int)) = 1 + 2 * (n6 : Int) := by rw [IntKind.wrap_u8]; omega
      have Hfb := Lib.hid (show fileB f = ([UInt8.ofNat M] ++ [6]) ++ wb f by unfold fileB; rw [hn6, hM]; rfl)
      have HV := Lib.hid (show 1 + 2 * (n6 : Int) = ((UInt8.ofNat M).toNat : Int) by rw [hM8]; omega)
      have HCALL := Lib.hid (fun W (hX : Ext w W) => refBytes_any f A6 n6 c6 W (hr6.ext hX) (by omega))
      have F0 := Lib.hid (fun W (hX : Ext w3 W) => (X.out.trans hX).cell hb1 f0w)
      clear hf hst hr6 hM8 hM f0w hb1 hn6
      go_wp2_with (at_builtin; first
        | (refine app_u8 _ rfl (.tmp 46) (.tmp 56) rfl rfl (HO.out.ext (Ext.alloc _ _)) rfl (lit1 _ _ rfl (UInt8.ofNat M) _ HV.out) isU8_map (by omega) (HX.out.trans (Ext.alloc _ _)).size ?_
           intro A7 c7 w3' hown hg hbk
           rw [← List.map_append] at hown
           have HO3 := Lib.hid hown
           have HX3 := Lib.hid ((HX.out.trans (Ext.alloc _ _)).grown' hg (fun g hg => (HO.out.lt g hg).1))
           clear hown hg hbk g0 g1 g2 g3 f0
           obtain ⟨g0, g1, g2, g3⟩ := cells4 (HX3.out.block BR.out)
           have f0 := F0.out _ HX3.out)
        | (refine app_u8 _ rfl (.tmp 58) (.tmp 59) rfl rfl (HO3.out.ext (Ext.alloc _ _)) rfl (lit1 _ _ rfl 6 6 rfl) isU8_map (by omega) (HX3.out.trans (Ext.alloc _ _)).size ?_
           intro A8 c8 w4' hown hg hbk
           rw [← List.map_append] at hown
           have HO4 := Lib.hid hown
           have HX4 := Lib.hid ((HX3.out.trans (Ext.alloc _ _)).grown' hg (fun g hg => (HO3.out.lt g hg).1))
           clear hown hg hbk g0 g1 g2 g3 f0
           obtain ⟨g0, g1, g2, g3⟩ := cells4 (HX4.out.block BR.out)
           have f0 := F0.out _ HX4.out)
        | fail)
      refine (HCALL.out _ (X.out.trans HX4.out)).mono ?_
      rintro e w5 ⟨A9, c9, rfl, ho9, hb9⟩
      have HO5 := Lib.hid (HO4.out.ext hb9)
      have HX5 := Lib.hid (HX4.out.trans hb9)
      have HO9 := Lib.hid ho9
      clear ho9 hb9 g0 g1 g2 g3 f0
      go_wp2_with (at_builtin; refine app_u8 _ rfl (.tmp 61) (.tmp 67) rfl rfl HO5.out rfl HO9.out.rd isU8_map (by omega) HX5.out.size ?_; intro A10 c10 w6 hown hg hbk; rw [← List.map_append] at hown; have HO6 := Lib.hid hown; have HX6 := Lib.hid (HX5.out.grown' hg (fun g hg => (HO5.out.lt g hg).1)); clear hown hg hbk)
      go_roundw
      case rel => exact ⟨k + 1, q + 1 + 1 + 2 * n6, A10, c10, by omega, rfl, by go_num, by omega, by rw [Hst.out, Hfb.out, ← List.append_assoc, ← List.append_assoc]; exact HO6, HX6⟩
      case measure => simp [intOf]; omega
    · obtain rfl : k = m3 := by omega
      have hall : l.take k = l := List.take_of_length_le (by have := HE.out; omega)
      rw [hall] at HO
      have hqN : q = N := by have h1 := HO.out.len; have := HN.out; simp at h1; omega
      subst hqN
      replace BA := Lib.hid (HX.out.block BA.out)
      replace X := Lib.hid (X.out.trans HX.out)
      obtain ⟨d0, d1, d2, d3, d4, d5⟩ := cells6 BA.out
      clear hall HX
  
      go_wp2_with fail
      refine (HB.out _ X.out).mono ?_
      rintro e w21 ⟨rfl, hx⟩
      have Z := Lib.hid (show Ext wr w21 from hx)
      replace BA := Lib.hid (Z.out.block BA.out)
      replace X := Lib.hid (X.out.trans Z.out)
      replace HO := Lib.hid (HO.out.ext Z.out)
      clear d0 d1 d2 d3 d4 d5 g0 g1 g2 g3
      clear hx Z
      obtain ⟨d0, d1, d2, d3, d4, d5⟩ := cells6 BA.out
      go_wp2_with fail
      refine (HW.out _ X.out).mono ?_
      rintro e w22 ⟨rfl, hx⟩
      have Z := Lib.hid (show Ext w21 w22 from hx)
      replace BA := Lib.hid (Z.out.block BA.out)
      replace X := Lib.hid (X.out.trans Z.out)
      replace HO := Lib.hid (HO.out.ext Z.out)
      clear d0 d1 d2 d3 d4 d5
      clear hx Z
      obtain ⟨d0, d1, d2, d3, d4, d5⟩ := cells6 BA.out
      go_wp2_with fail
      refine (HF.out _ X.out).mono ?_
      rintro e w23 ⟨rfl, hx⟩
      have Z := Lib.hid (show Ext w22 w23 from hx)
      replace BA := Lib.hid (Z.out.block BA.out)
      replace X := Lib.hid (X.out.trans Z.out)
      replace HO := Lib.hid (HO.out.ext Z.out)
      clear d0 d1 d2 d3 d4 d5
      clear hx Z
      obtain ⟨d0, d1, d2, d3, d4, d5⟩ := cells6 BA.out
      have HL := Lib.hid (lit2 w23 w.heap.size X.out.size 20 (UInt8.ofNat q) 20 (q : Int) rfl (by rw [E3.out]))
      go_wp2_with (at_builtin; refine app_u8 _ rfl (.tmp 96) (.tmp 97) rfl rfl HL.out rfl (HO.out.rd.ext (Ext.alloc _ _)) isU8_map (by omega) (X.out.trans (Ext.alloc _ _)).size ?_; intro A12 c12 w12 hown hg hbk)
      go_ret2
      refine ⟨_, _, _, rfl, ?_, (X.out.trans (Ext.alloc _ _)).grown' hg (fun g hg => (HL.out.lt g hg).1)⟩
      rw [← List.map_append] at hown
      exact hown

theorem ref04Put_any (a : AskD) (r : RepD) (s : AskS) (t : RepS) (w : World) (ha : AskRd w a s) (hr : RepRd w r t) :
    Calls Tryz.prog 28 #[askV a s, repV r t] w (RetU w (putR a r).1 (putR a r).2) := by
  have HC := Lib.hid (fun W (hX : Ext w W) => ref04Check_any a r s t W (ha.ext hX) (hr.ext hX))
  have HB := Lib.hid (fun W (_ : Ext w W) => bits04_any a s W)
  have HW := Lib.hid (fun W (_ : Ext w W) => words04_any a s W)
  have HF := Lib.hid (fun W (_ : Ext w W) => files04_any a s W)
  by_cases h : checkR a r = 0
  · obtain ⟨hK, hrc⟩ := rep_cases h
    have hcl := code_lt hK
    obtain ⟨c, hc⟩ : ∃ c : Nat, a.code = (c : Int) := ⟨a.code.toNat, by omega⟩
    have hct : a.code.toNat = c := by omega
    rw [h] at HC
    rcases hrc with ⟨e, h1, h2, rfl⟩ | ⟨hcc, l, h1, h2, h3, rfl⟩ | ⟨hcc, l, h1, h2, h3, rfl⟩ | ⟨hcc, l, h1, h2, rfl⟩ | ⟨hcc, rfl⟩
    · rw [putR_ex h h1 rfl, show (a.code + 128).toNat = c + 128 by omega]
      exact rq_ex _ _ _ _ _ _ _ _ _ _ _ _ _ _ _ _ _ _ _ _ _ _ w e c rfl hc h1 h2 (by omega) (by omega) HC
    · have hp : plainC a.code := by unfold plainC; omega
      rw [putR_plain h rfl hp, bodyR1 hcc, hct]
      rw [decide_eq_true hcc] at HB
      rw [decide_eq_false (by omega)] at HW
      have q1 := hr.n1; have q3 := hr.n3
      simp only at q1
      have HCALL := Lib.hid (fun W (hX : Ext w W) => refBits_any l t.A1 t.n1 t.c1 W (hr.on.ext hX) (by omega))
      rw [← q1] at HCALL
      have hl : (bitsF l).length = need l.length := bitsF_length l
      rw [hl]
      refine rq_bits _ _ _ _ _ _ _ _ _ _ _ _ _ _ _ _ _ _ _ _ _ w c _ hc (by omega) (by omega) (bitsF l) (need_le h3) hl (by rw [← q3]; rfl) HC HB HW (q1 ▸ HCALL)
    · have hp : plainC a.code := by unfold plainC; omega
      rw [putR_plain h rfl hp, bodyR3 hcc, hct]
      rw [decide_eq_false (by omega)] at HB
      rw [decide_eq_true hcc] at HW
      have q2 := hr.n2; have q3 := hr.n3
      simp only at q2
      have HCALL := Lib.hid (fun W (hX : Ext w W) => refBytes_any l t.A2 t.n2 t.c2 W (hr.set.ext hX) (by omega))
      have hl : (wb l).length = 2 * t.n2 := by rw [wb_length, q2]
      rw [hl]
      exact rq_words _ _ _ _ _ _ _ _ _ _ _ _ _ _ _ _ _ _ _ _ _ w c _ hc (by omega) (by omega) (wb l) (by omega) hl (by rw [← q3]; rfl) HC HB HW HCALL
    · have hp : plainC a.code := by unfold plainC; omega
      rw [putR_plain h rfl hp, bodyR20 hcc, hct]
      rw [decide_eq_false (by omega)] at HB
      rw [decide_eq_false (by omega)] at HW
      rw [decide_eq_true hcc] at HF
      obtain rfl : c = 20 := by omega
      have h4 := filesB_length h1
      have h5 := (partsF_zero h2).2
      have h6 : (filesB l).length ≤ 245 := by omega
      exact rq_files _ _ _ _ _ _ _ _ _ _ _ _ _ _ _ _ _ _ _ _ _ w l (filesB l).length hc hr.files rfl h6 HC HB HW HF
    · have hp : ¬ plainC a.code := by unfold plainC; omega
      rw [putR_echo h rfl hp]
      rw [decide_eq_false (by omega)] at HB
      rw [decide_eq_false (by omega)] at HW
      rw [decide_eq_false (by omega)] at HF
      have q3 := hr.n3
      have HCALL := Lib.hid (fun W (hX : Ext w W) => ref3Put_any a s W (ha.ext hX))
      have h2 : (putA a).2 = 0 := by rw [putA_ok hK]
      rw [h2] at HCALL
      exact rq_write _ _ _ _ _ _ _ _ _ _ _ _ _ _ _ _ _ _ _ _ _ w _ (getA_put hK).2.1 (by rw [← q3]; rfl) HC HB HW HF HCALL
  · rw [putR_no h]
    exact rq_no _ _ _ _ _ _ _ _ _ _ _ _ _ _ _ _ _ _ _ _ _ _ w _ (by simpa using h) HC
end Go.Proofs.YtomcipkmohhpjaaGreat

namespace Go.Out
open Go Go.RowKit
set_option linter.unusedVariables false

theorem many_of3 {a : AskD} (h : checkF a = 0) (hc : a.code = 3 ∨ a.code = 4) : 1 ≤ a.count ∧ a.count ≤ 125 := by
  obtain ⟨h1, h2, h3, h4, h5, h6, h7, h8⟩ := checkF_parts a h
  have h1 : manyF a = a.count := by unfold manyF; rw [if_pos (by unfold isCnt; omega)]
  have h2 : mostF a.code = 125 := by unfold mostF; rw [if_neg (by omega), if_pos hc]
  omega
theorem b0_ne {b : List UInt8} (h : b.length ≠ 0) : ∃ x r, b = x :: r ∧ b0 b = x.toNat := by
  cases b with
  | nil => exact absurd rfl h
  | cons x r => exact ⟨x, r, rfl, rfl⟩
theorem getR_cases {a : AskD} {b : List UInt8} (h : (getR a b).2 = 0) : checkF a = 0 ∧ b.length ≠ 0 ∧
    (((b0 b : Int) = a.code + 128 ∧ (exR b).2 = 0 ∧ (getR a b).1 = (exR b).1) ∨ ((b0 b : Int) = a.code ∧ b.length = lenR a ∧ readR a b = some (getR a b).1)) := by
  unfold getR at h ⊢
  split at h
  · rename_i h1; exact absurd h h1
  · rename_i h1
    rw [if_neg h1]
    have h1 : checkF a = 0 := Classical.not_not.1 h1
    refine ⟨h1, ?_⟩
    split at h
    · simp at h
    · rename_i h2
      rw [if_neg h2]
      refine ⟨h2, ?_⟩
      split at h
      · rename_i h3
        rw [if_pos h3]
        exact .inl ⟨h3, h, rfl⟩
      · rename_i h3
        rw [if_neg h3]
        split at h
        · simp at h
        · rename_i h4
          rw [if_neg h4]
          split at h
          · simp at h
          · rename_i h5
            rw [if_neg h5]
            split at h
            · simp at h
            · rename_i h6
              rw [if_neg h6]
              split at h
              · rename_i r hr
                rw [hr]
                exact .inr ⟨Classical.not_not.1 h4, by omega, rfl⟩
              · simp at h
theorem check_plain {a : AskD} {r : RepD} (hK : checkF a = 0) (h0 : r.exc = 0) (h1 : foreignB a.code r.on.length r.set.length r.files.length = false) (h2 : countedB a r = true) : checkR a r = 0 := by
  unfold checkR
  rw [if_neg (by simp [hK]), if_neg (by simp [h0]), if_neg (by simp [h1]), if_neg (by simp [h2])]
theorem check_ex {a : AskD} {e : Nat} (hK : checkF a = 0) (h1 : 1 ≤ e) (h2 : e ≤ 127) : checkR a ⟨(e : Nat), [], [], []⟩ = 0 := by
  unfold checkR
  rw [if_neg (by simp [hK]), if_pos (by simp only; omega), if_neg (by simp only; omega), if_neg (by simp)]
theorem cons2 {b : List UInt8} {c n : Nat} (h0 : b0 b = c) (h1 : (b.getD 1 0).toNat = n) (h : 2 ≤ b.length) : UInt8.ofNat c :: UInt8.ofNat n :: b.drop 2 = b := by
  obtain ⟨x0, x1, r, rfl⟩ := len2 h
  subst h0; subst h1
  show UInt8.ofNat x0.toNat :: UInt8.ofNat x1.toNat :: r = _
  rw [u8_eq_of (x := x0) rfl, u8_eq_of (x := x1) rfl]
theorem noParts {a : AskD} (h : checkF a = 0) (hp : ¬ plainC a.code) : a.parts = [] := by
  rcases ask_cases h with ⟨c, A, n, _, _, _, _, _, rfl⟩ | ⟨A, x, _, rfl⟩ | ⟨A, v, _, rfl⟩ | ⟨A, l, _, _, _, rfl⟩ | ⟨A, l, _, _, _, rfl⟩ | ⟨l, _, _, _, rfl⟩
  · rfl
  · rfl
  · rfl
  · rfl
  · rfl
  · exact absurd (by unfold plainC; simp) hp
theorem check_rep0 {a : AskD} (h : checkF a = 0) (hp : ¬ plainC a.code) : checkR a rep0 = 0 := by
  have hq := hp
  unfold plainC at hq
  refine check_plain h rfl ?_ ?_
  · unfold foreignB; rw [if_neg (by omega), if_neg (by omega), if_neg (by omega)]; rfl
  · unfold countedB; rw [if_neg (by omega), if_neg (by omega), noParts h hp]; rfl
/-- What is read may be an answer, and is made into the same bytes. -/
theorem putR_getR {a : AskD} {b : List UInt8} (h : (getR a b).2 = 0) : checkR a (getR a b).1 = 0 ∧ putR a (getR a b).1 = (b, 0) := by
  obtain ⟨hK, hb, h | h⟩ := getR_cases h
  · obtain ⟨h1, h2, h3⟩ := h
    rw [h3]
    have hcl := code_lt hK
    unfold exR at h2 ⊢
    split at h2
    · simp at h2
    · rename_i q1
      rw [if_neg q1]
      split at h2
      · simp at h2
      · rename_i q2
        rw [if_neg q2]
        split at h2
        · simp at h2
        · rename_i q3
          rw [if_neg q3]
          obtain ⟨x0, x1, r, rfl⟩ := len2 (b := b) (by omega)
          have hr : r = [] := by
            cases r with
            | nil => rfl
            | cons _ _ => simp at q2
          subst hr
          have h1' : (x0.toNat : Int) = a.code + 128 := h1
          have q3' : ¬ (x1 = 0 ∨ 127 < x1.toNat) := q3
          have hx1 : 1 ≤ x1.toNat := by
            rcases Nat.eq_zero_or_pos x1.toNat with hz | hz
            · exact absurd (.inl (UInt8.toNat.inj (by rw [hz]; rfl))) q3'
            · exact hz
          have hck := check_ex (a := a) (e := x1.toNat) hK hx1 (by omega)
          refine ⟨hck, ?_⟩
          show putR a ⟨((x1.toNat : Nat) : Int), [], [], []⟩ = _
          rw [putR_ex hck hx1 rfl, show (a.code + 128).toNat = x0.toNat by omega, u8_eq_of (x := x0) rfl, u8_eq_of (x := x1) rfl]
  · obtain ⟨h1, h2, h3⟩ := h
    generalize (getR a b).1 = r at *
    have hcl := code_lt hK
    by_cases hp : plainC a.code
    · by_cases hbad : ((b.getD 1 0).toNat : Int) = (b.length : Int) - 2
      · have hl2 : 2 ≤ b.length := by
          rw [h2]
          rcases plainC_cases hp with hc | hc | hc
          · rw [lenR1 hc]; omega
          · rw [lenR3 hc]; omega
          · rw [lenR20 hc]; omega
        have key : checkR a r = 0 → r.exc = 0 → bodyR a r = b.drop 2 → checkR a r = 0 ∧ putR a r = (b, 0) := fun k1 k2 k3 => by
          refine ⟨k1, ?_⟩
          rw [putR_plain k1 k2 hp, k3]
          have hd : (b.drop 2).length = b.length - 2 := List.length_drop
          rw [cons2 (c := a.code.toNat) (n := (b.drop 2).length) (by omega) (by omega) hl2]
        rcases plainC_cases hp with hc | hc | hc
        · rw [readR1 hc hbad] at h3
          split at h3
          · rename_i hz
            injection h3 with h3
            subst h3
            obtain ⟨u1, u2⟩ := unbitsF_zero hz
            refine key (check_plain hK rfl ?_ ?_) rfl ?_
            · unfold foreignB; rw [if_pos hc]; simp
            · unfold countedB; rw [if_pos hc]; simpa using u1
            · rw [bodyR1 hc]; exact u2
          · simp at h3
        · rw [readR3 hc hbad] at h3
          injection h3 with h3
          subst h3
          have hm := many_of3 hK hc
          rw [lenR3 hc] at h2
          refine key (check_plain hK rfl ?_ ?_) rfl ?_
          · unfold foreignB; rw [if_neg (by omega), if_pos hc]; simp
          · unfold countedB; rw [if_neg (by omega), if_pos hc]
            simp only [bw_length, List.length_drop, decide_eq_true_eq]
            omega
          · rw [bodyR3 hc]; exact wb_bw _ (by rw [List.length_drop]; omega)
        · rw [readR20 hc hbad] at h3
          rw [lenR20 hc] at h2
          obtain ⟨p1, p2⟩ := partsF_zero (checkF_parts a hK).2.2.2.2.2.2.2
          have p3 := sumP_nonneg p1
          cases hf : filesOf a.parts (b.drop 2) with
          | none => rw [hf] at h3; simp at h3
          | some l =>
            rw [hf] at h3
            simp only [Option.map_some, Option.some.injEq] at h3
            subst h3
            obtain ⟨f1, f2⟩ := filesOf_some hf p1 (by rw [List.length_drop]; omega)
            refine key (check_plain hK rfl ?_ ?_) rfl ?_
            · unfold foreignB; rw [if_neg (by omega), if_neg (by omega), if_pos hc]; simp
            · unfold countedB; rw [if_neg (by omega), if_neg (by omega)]; exact f2
            · rw [bodyR20 hc]; exact f1
      · rw [readR_bad hp hbad] at h3; simp at h3
    · rw [readR_echo hp] at h3
      split at h3
      · rename_i he
        injection h3 with h3
        subst h3
        have hck := check_rep0 hK hp
        refine ⟨hck, ?_⟩
        rw [putR_echo hck rfl hp, he]
      · simp at h3
end Go.Out

namespace Go.Proofs.YtomcipkmohhpjaaGreat
set_option linter.unusedVariables false
set_option linter.unusedSimpArgs false
set_option maxRecDepth 100000
set_option maxHeartbeats 2000000
open Go Go.RowKit Go.Out

end Go.Proofs.YtomcipkmohhpjaaGreat

namespace Go.Proofs.YtomcipkmohhpjaaGreat
set_option linter.unusedVariables false
set_option linter.unusedSimpArgs false
set_option maxRecDepth 100000
set_option maxHeartbeats 2000000
open Go Go.RowKit Go.Out

end Go.Proofs.YtomcipkmohhpjaaGreat
