/- Contracts of the statements' two, works and long (chapter 04). (genrepw.py prints this.) -/
import Derived.Test.YtpjmhckdeeonbaaRepGA
import Derived.Test.YtpjmhckdeeonbaaRepP2
import Derived.Test.YtpjmhckdeeonbaaRepK
import Derived.Test.YtpjmhckdeeonbaaAskKit
import Derived.Test.YtpjmhckdeeonbaaAskS2
namespace Go.Proofs.Ytpjmhckdeeonbaa
set_option linter.unusedVariables false
set_option linter.unusedSimpArgs false
set_option maxRecDepth 100000
set_option maxHeartbeats 2000000
open Go Go.RowKit Go.Out

def ask2 : AskD := ⟨3, 0, 2, [], [], []⟩
def rep2 : RepD := ⟨0, [], [1, 512], []⟩
theorem ask2_rd (w : World) : AskRd w ask2 askS0 :=
  ⟨Rd.nil_ _, Rd.nil_ _, RdL.nil_ _ _ _, by unfold i64P ask2; simp, by unfold i64P ask2; simp, by unfold i64P ask2; simp, by simp [askS0], by simp [askS0], by simp [askS0]⟩
theorem rep2_rd {w : World} {A : Option Addr} (h : Rd w A 2 (([1, 512] : List UInt16).map cW)) : RepRd w rep2 ⟨none, 0, 0, A, 2, 2, none, 0, 0⟩ :=
  ⟨Rd.nil_ _, h, RdL.nil_ _ _ _, by unfold i64P rep2; simp, by simp, by simp, by simp⟩
theorem put2 : putR ask2 rep2 = ([3, 4, 0, 1, 2, 0], 0) := by decide +kernel
theorem check2 : checkR ask2 rep2 = 0 := by decide +kernel
theorem get2 : getR ask2 [3, 4, 0, 1, 2, 0] = (rep2, 0) := by
  have h := (getR_putR check2).1
  rwa [put2] at h
theorem two04_any (w : World) : Calls Try.prog 33 #[] w fun e w' => ∃ A, e = .returned (.tuple #[askV ask2 askS0, repV rep2 ⟨none, 0, 0, A, 2, 2, none, 0, 0⟩]) ∧ Rd w' A 2 (([1, 512] : List UInt16).map cW) ∧ Ext w w' := by
  go_enter Try.func33, Try.ntmps33
  go_wp2_with fail
  refine bodyPost_ret (v := .tuple #[askV ask2 askS0, repV rep2 ⟨none, 0, 0, some ⟨w.heap.size + 2, 0, none⟩, 2, 2, none, 0, 0⟩]) (by simp [results, Try.results33, go_sem, askV, repV, ask2, rep2, askS0, *]) rfl ⟨_, rfl, ?_, ?_⟩
  · refine Rd.of_heap (cur := #[.int .u16 1, .int .u16 512]) (ys := []) (t := 54) (heap_at _ _ _ (by simp)) rfl rfl
  · repeat' (first | with_reducible exact Ext.refl _ | with_reducible refine Ext.alloc' ?_ _ | with_reducible refine Ext.set' ?_ (by simp) _)
theorem put2_any (w : World) (A : Option Addr) (h : Rd w A 2 (([1, 512] : List UInt16).map cW)) : Calls Try.prog 20 #[askV ask2 askS0, repV rep2 ⟨none, 0, 0, A, 2, 2, none, 0, 0⟩] w (RetU w [3, 4, 0, 1, 2, 0] 0) := by
  have := replyPut_any ask2 rep2 askS0 ⟨none, 0, 0, A, 2, 2, none, 0, 0⟩ w (ask2_rd w) (rep2_rd h)
  rwa [put2] at this
theorem get2_any (w : World) (A : Option Addr) (c : Nat) (hc : 6 ≤ c ∧ c ≤ 9223372036854775807) (h : Rd w A 6 (([3, 4, 0, 1, 2, 0] : List UInt8).map cB)) : Calls Try.prog 28 #[askV ask2 askS0, .slice A 6 c] w (RetGR w (rep2, 0)) := by
  have := replyGet_any ask2 [3, 4, 0, 1, 2, 0] askS0 A 6 c w (ask2_rd w) h hc (by omega)
  rwa [get2] at this
theorem lit6 (w : World) (g : Nat) (hg : g = w.heap.size) : Rd (w.alloc (.cells #[.int .u8 3, .int .u8 4, .int .u8 0, .int .u8 1, .int .u8 2, .int .u8 0] 5)) (some ⟨g, 0, none⟩) 6 (([3, 4, 0, 1, 2, 0] : List UInt8).map cB) :=
  Rd.of_heap (ys := []) (heap_at _ _ _ hg) rfl rfl
theorem works04_any (w : World) : Calls Try.prog 17 #[] w (RetQ w true) := by
  have H2 := Lib.hid put2_any; have H3 := Lib.hid get2_any
  have HS := Lib.hid (fun (s t : RepS) (W : World) (h1 : RepRd W rep2 s) (h2 : RepRd W rep2 t) => sameReply_eq rep2 s t W h1 h2 (Nat.le_trans h1.cap1.1 h1.cap1.2) (Nat.le_trans h1.cap2.1 h1.cap2.2) (Nat.le_trans h1.cap3.1 h1.cap3.2))
  simp only [askV, repV, ask2, rep2, askS0] at H2 H3 HS
  go_enter Try.func17, Try.ntmps17
  go_wp2_with fail
  refine (two04_any _).mono ?_
  rintro e w1 ⟨A, rfl, hrd, hx⟩
  have Z := Lib.hid (show Ext w w1 from hx)
  have X := Lib.hid Z.out
  have HR := Lib.hid hrd
  clear hrd
  simp only [askV, repV, ask2, rep2, askS0]
  clear hx Z
  go_wp2_with fail
  refine (H2.out _ A (HR.out.ext ((Ext.alloc _ _).trans (Ext.alloc _ _)))).mono ?_
  rintro e w2 ⟨A5, n5, c5, rfl, ho5, hx⟩
  have Z := Lib.hid (show Ext w1 w2 from ((Ext.alloc _ _).trans (Ext.alloc _ _)).trans hx)
  have BA := Lib.hid (show w2.heap[w1.heap.size]? = some (.cells #[.int .i64 3, .int .i64 0, .int .i64 2, .slice none 0 0, .slice none 0 0, .slice none 0 0] 26 (0, 0)) from hx.block ((Ext.alloc _ _).block (heap_at _ _ _ (by simp))))
  have BR := Lib.hid (show w2.heap[w1.heap.size + 1]? = some (.cells #[.int .i64 0, .slice none 0 0, .slice A 2 2, .slice none 0 0] 29 (0, 0)) from hx.block (heap_at _ _ _ (by simp)))
  replace X := Lib.hid (X.out.trans Z.out)
  obtain rfl : n5 = 6 := by have := ho5.len; simpa using this.symm
  have HO := Lib.hid ho5.rd
  have hc5 := ho5.cap
  have hk5 := ho5.capLe
  clear ho5
  replace HR := Lib.hid (HR.out.ext Z.out)
  clear hx Z
  obtain ⟨d0, d1, d2, d3, d4, d5⟩ := cells6 BA.out
  obtain ⟨g0, g1, g2, g3⟩ := cells4 BR.out
  go_wp2_with fail
  refine (H3.out _ A5 c5 ⟨hc5, hk5⟩ HO.out).mono ?_
  rintro e w3 ⟨t, rfl, how, hx⟩
  have Z := Lib.hid (show Ext w2 w3 from hx)
  replace BA := Lib.hid (Z.out.block BA.out)
  replace BR := Lib.hid (Z.out.block BR.out)
  replace X := Lib.hid (X.out.trans Z.out)
  replace HR := Lib.hid (HR.out.ext Z.out)
  replace HO := Lib.hid (HO.out.ext Z.out)
  have HW := Lib.hid how.rd
  clear how
  obtain ⟨E1, p1, q1, E2, p2, q2, E3, p3, q3⟩ := t
  simp only [repV, rep2]
  clear d0 d1 d2 d3 d4 d5 g0 g1 g2 g3
  clear hx Z
  obtain ⟨d0, d1, d2, d3, d4, d5⟩ := cells6 BA.out
  obtain ⟨g0, g1, g2, g3⟩ := cells4 BR.out
  go_wp2_with fail
  refine (same_any [3, 4, 0, 1, 2, 0] [3, 4, 0, 1, 2, 0] _ _ _ _ _ _ _ (HO.out.ext ((Ext.alloc _ _).trans (Ext.alloc _ _))) (lit6 _ _ (by simp)) (by unfold maxLen; omega)).mono ?_
  rintro e w4 ⟨rfl, hx⟩
  have Z := Lib.hid (show Ext w3 w4 from ((Ext.alloc _ _).trans (Ext.alloc _ _)).trans (Ext.of hx))
  replace BA := Lib.hid (Z.out.block BA.out)
  replace BR := Lib.hid (Z.out.block BR.out)
  have BX := Lib.hid (show w4.heap[w3.heap.size]? = some (.cells #[.int .i64 0, .slice E1 p1 q1, .slice E2 p2 q2, .slice E3 p3 q3] 29 (0, 0)) from (Ext.of hx).block ((Ext.alloc _ _).block (heap_at _ _ _ (by simp))))
  replace X := Lib.hid (X.out.trans Z.out)
  replace HR := Lib.hid (HR.out.ext Z.out)
  replace HO := Lib.hid (HO.out.ext Z.out)
  replace HW := Lib.hid (HW.out.ext Z.out)
  rw [decide_eq_true rfl]
  clear d0 d1 d2 d3 d4 d5 g0 g1 g2 g3
  clear hx Z
  obtain ⟨d0, d1, d2, d3, d4, d5⟩ := cells6 BA.out
  obtain ⟨g0, g1, g2, g3⟩ := cells4 BR.out
  obtain ⟨f0, f1, f2, f3⟩ := cells4 BX.out
  go_wp2_with fail
  refine (HS.out ⟨E1, p1, q1, E2, p2, q2, E3, p3, q3⟩ ⟨none, 0, 0, A, 2, 2, none, 0, 0⟩ _ HW.out (rep2_rd HR.out)).mono ?_
  rintro e w5 ⟨rfl, hx⟩
  have Z := Lib.hid (show Ext w4 w5 from hx)
  replace BA := Lib.hid (Z.out.block BA.out)
  replace BR := Lib.hid (Z.out.block BR.out)
  replace BX := Lib.hid (Z.out.block BX.out)
  replace X := Lib.hid (X.out.trans Z.out)
  replace HR := Lib.hid (HR.out.ext Z.out)
  replace HO := Lib.hid (HO.out.ext Z.out)
  replace HW := Lib.hid (HW.out.ext Z.out)
  clear d0 d1 d2 d3 d4 d5 g0 g1 g2 g3 f0 f1 f2 f3
  clear hx Z
  obtain ⟨d0, d1, d2, d3, d4, d5⟩ := cells6 BA.out
  obtain ⟨g0, g1, g2, g3⟩ := cells4 BR.out
  obtain ⟨f0, f1, f2, f3⟩ := cells4 BX.out
  go_wp2_with fail
  go_ret
  exact ⟨rfl, X.out⟩
theorem long04_any (a : AskD) (r : RepD) (s : AskS) (t : RepS) (w : World) (ha : AskRd w a s) (hr : RepRd w r t) :
    Calls Try.prog 14 #[askV a s, repV r t] w (RetQ w (decide (70000 < s.n1 ∨ 70000 < s.n2 ∨ 70000 < s.n3) || longR r)) := by
  have HL := Lib.hid (fun W => longAsk_any a s W)
  have HR := Lib.hid (fun W (hX : Ext w W) => longReply_any r t W (hr.ext hX))
  generalize decide (70000 < s.n1 ∨ 70000 < s.n2 ∨ 70000 < s.n3) = P at *
  generalize longR r = Q at *
  clear ha hr
  obtain ⟨code, addr, count, on, set, parts⟩ := a
  obtain ⟨A1, n1, c1, A2, n2, c2, A3, n3, c3⟩ := s
  obtain ⟨exc, ron, rset, files⟩ := r
  obtain ⟨B1, m1, k1, B2, m2, k2, B3, m3, k3⟩ := t
  simp only [askV, repV] at HL HR ⊢
  go_enter Try.func14, Try.ntmps14
  go_wp2_with fail
  refine (HL.out _).mono ?_
  rintro e w1 ⟨rfl, hx⟩
  have Z := Lib.hid (show Ext w w1 from ((Ext.alloc _ _).trans (Ext.alloc _ _)).trans hx)
  have BA := Lib.hid (show w1.heap[w.heap.size]? = some (.cells #[.int .i64 code, .int .i64 addr, .int .i64 count, .slice A1 n1 c1, .slice A2 n2 c2, .slice A3 n3 c3] 26 (0, 0)) from hx.block ((Ext.alloc _ _).block (heap_at _ _ _ (by simp))))
  have BR := Lib.hid (show w1.heap[w.heap.size + 1]? = some (.cells #[.int .i64 exc, .slice B1 m1 k1, .slice B2 m2 k2, .slice B3 m3 k3] 29 (0, 0)) from hx.block (heap_at _ _ _ (by simp)))
  have X := Lib.hid Z.out
  clear hx Z
  obtain ⟨d0, d1, d2, d3, d4, d5⟩ := cells6 BA.out
  obtain ⟨g0, g1, g2, g3⟩ := cells4 BR.out
  cases P with
  | true =>
    go_wp2_with fail
    go_ret
    exact ⟨rfl, X.out⟩
  | false =>
    go_wp2_with fail
    refine (HR.out _ X.out).mono ?_
    rintro e w2 ⟨rfl, hx⟩
    have Z := Lib.hid (show Ext w1 w2 from hx)
    replace BA := Lib.hid (Z.out.block BA.out)
    replace BR := Lib.hid (Z.out.block BR.out)
    replace X := Lib.hid (X.out.trans Z.out)
    clear d0 d1 d2 d3 d4 d5 g0 g1 g2 g3
    clear hx Z
    obtain ⟨d0, d1, d2, d3, d4, d5⟩ := cells6 BA.out
    obtain ⟨g0, g1, g2, g3⟩ := cells4 BR.out
    go_wp2_with fail
    go_ret
    exact ⟨by simp, X.out⟩
end Go.Proofs.Ytpjmhckdeeonbaa
