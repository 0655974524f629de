/- The walk of ReplyForms: for every input true. (genrepl.py prints this.) -/
import Derived.Test.YtpjmhckdeeonbaaRepW
import Derived.Test.YtpjmhckdeeonbaaRepLaw2
namespace Go.Proofs.Ytpjmhckdeeonbaa
set_option linter.unusedVariables false
set_option linter.unusedSimpArgs false
set_option maxRecDepth 100000
set_option maxHeartbeats 2000000
open Go Go.RowKit Go.Out

theorem same_reply (r : RepD) (s t : RepS) (W : World) (h1 : RepRd W r s) (h2 : RepRd W r t) : Calls Try.prog 24 #[repV r s, repV r t] W (RetQ W true) :=
  sameReply_eq r s t W h1 h2 (Nat.le_trans h1.cap1.1 h1.cap1.2) (Nat.le_trans h1.cap2.1 h1.cap2.2) (Nat.le_trans h1.cap3.1 h1.cap3.2)
theorem rep0_rd (w : World) : RepRd w rep0 repS0 := ⟨Rd.nil_ _, Rd.nil_ _, RdL.nil_ _ _ _, by unfold i64P rep0; simp, by simp [repS0], by simp [repS0], by simp [repS0]⟩
theorem forms_long (code addr count : Int) (A1 A2 A3 : Option Addr) (n1 c1 n2 c2 n3 c3 : Nat) (A : Option Addr) (N c : Nat) (w : World) (P : Bool) (HL : Hid (∀ W, Calls Try.prog 26 #[.agg #[.int .i64 code, .int .i64 addr, .int .i64 count, .slice A1 n1 c1, .slice A2 n2 c2, .slice A3 n3 c3]] W (RetQ W P))) (hN : P = true ∨ 70000 < N) :
    Calls Try.prog 7 #[.agg #[.int .i64 code, .int .i64 addr, .int .i64 count, .slice A1 n1 c1, .slice A2 n2 c2, .slice A3 n3 c3], .slice A N c] w (RetQ w true) := by
  cases P with
  | true =>
    go_enter Try.func7, Try.ntmps7
    go_wp2_with fail
    refine (HL.out _).mono ?_
    rintro e w1 ⟨rfl, hx⟩
    have Z := Lib.hid (show Ext w w1 from (Ext.alloc _ _).trans hx)
    have BA := Lib.hid (show w1.heap[w.heap.size]? = some (.cells #[.int .i64 code, .int .i64 addr, .int .i64 count, .slice A1 n1 c1, .slice A2 n2 c2, .slice A3 n3 c3] 26 (0, 0)) from hx.block (heap_at _ _ _ (by simp)))
    have X := Lib.hid Z.out
    clear hx Z
    obtain ⟨d0, d1, d2, d3, d4, d5⟩ := cells6 BA.out
    go_wp2_with fail
    refine (works04_any _).mono ?_
    rintro e w2 ⟨rfl, hx⟩
    have Z := Lib.hid (show Ext w1 w2 from hx)
    replace BA := Lib.hid (Z.out.block BA.out)
    replace X := Lib.hid (X.out.trans Z.out)
    clear d0 d1 d2 d3 d4 d5
    clear hx Z
    obtain ⟨d0, d1, d2, d3, d4, d5⟩ := cells6 BA.out
    go_wp2_with fail
    go_ret
    exact ⟨rfl, X.out⟩
  | false =>
    have hN : 70000 < N := by simpa using hN
    have hgt : (N : Int) > 70000 := by omega
    go_enter Try.func7, Try.ntmps7
    go_wp2_with fail
    refine (HL.out _).mono ?_
    rintro e w1 ⟨rfl, hx⟩
    have Z := Lib.hid (show Ext w w1 from (Ext.alloc _ _).trans hx)
    have BA := Lib.hid (show w1.heap[w.heap.size]? = some (.cells #[.int .i64 code, .int .i64 addr, .int .i64 count, .slice A1 n1 c1, .slice A2 n2 c2, .slice A3 n3 c3] 26 (0, 0)) from hx.block (heap_at _ _ _ (by simp)))
    have X := Lib.hid Z.out
    clear hx Z
    obtain ⟨d0, d1, d2, d3, d4, d5⟩ := cells6 BA.out
    go_wp2_with fail
    refine (works04_any _).mono ?_
    rintro e w2 ⟨rfl, hx⟩
    have Z := Lib.hid (show Ext w1 w2 from hx)
    replace BA := Lib.hid (Z.out.block BA.out)
    replace X := Lib.hid (X.out.trans Z.out)
    clear d0 d1 d2 d3 d4 d5
    clear hx Z
    obtain ⟨d0, d1, d2, d3, d4, d5⟩ := cells6 BA.out
    go_wp2_with fail
    go_ret
    exact ⟨rfl, X.out⟩
theorem lawReplyForms (a : AskD) (s : AskS) (b : List UInt8) (A : Option Addr) (N c : Nat) (w : World) (ha : AskRd w a s) (hb : Rd w A N (b.map cB)) (hnc : N ≤ c) (hm : c ≤ 9223372036854775807) (hbb : c * 1 ≤ 140737488351232) :
    Calls Try.prog 7 #[askV a s, .slice A N c] w (RetQ w true) := by
  have HL := Lib.hid (fun W => longAsk_any a s W)
  have HG := Lib.hid (fun W (hX : Ext w W) => replyGet_any a b s A N c W (ha.ext hX) (hb.ext hX) ⟨hnc, hm⟩ (by omega))
  have HPT := Lib.hid (fun W t (hX : Ext w W) (h : RepRd W (getR a b).1 t) => replyPut_any a (getR a b).1 s t W (ha.ext hX) h)
  have HCK := Lib.hid (fun W t (hX : Ext w W) (h : RepRd W (getR a b).1 t) => replyCheck_any a (getR a b).1 s t W (ha.ext hX) h)
  have HB := Lib.hid hb
  have f0 := @putR_getR a b; have f1 := @getR_err a b
  have HBL := Lib.hid hb.length
  generalize getR a b = R at *
  obtain ⟨r, E⟩ := R
  simp only at HG HPT HCK f0 f1
  generalize decide (70000 < s.n1 ∨ 70000 < s.n2 ∨ 70000 < s.n3) = P at HL
  clear ha hb
  obtain ⟨code, addr, count, on, set, parts⟩ := a
  obtain ⟨A1, n1, c1, A2, n2, c2, A3, n3, c3⟩ := s
  simp only [askV] at HL HG HPT HCK f0 ⊢
  by_cases hbig : P = true ∨ 70000 < N
  · exact forms_long code addr count A1 A2 A3 n1 c1 n2 c2 n3 c3 A N c w P HL hbig
  have hP : P = false := by cases P <;> simp_all
  have hN : ¬ 70000 < N := fun h => hbig (.inr h)
  subst hP
  have hgt : ¬ (N : Int) > 70000 := by omega
  clear hbig
  by_cases hE : E = 0
  · subst hE
    obtain ⟨e1, e2⟩ := f0 rfl
    rw [e1] at HCK
    rw [e2] at HPT
    simp only at HPT
    clear f0 f1 e1 e2
    go_enter Try.func7, Try.ntmps7
    go_wp2_with fail
    refine (HL.out _).mono ?_
    rintro e w1 ⟨rfl, hx⟩
    have Z := Lib.hid (show Ext w w1 from (Ext.alloc _ _).trans hx)
    have BA := Lib.hid (show w1.heap[w.heap.size]? = some (.cells #[.int .i64 code, .int .i64 addr, .int .i64 count, .slice A1 n1 c1, .slice A2 n2 c2, .slice A3 n3 c3] 26 (0, 0)) from hx.block (heap_at _ _ _ (by simp)))
    have X := Lib.hid Z.out
    clear hx Z
    obtain ⟨d0, d1, d2, d3, d4, d5⟩ := cells6 BA.out
    go_wp2_with fail
    refine (HG.out _ X.out).mono ?_
    rintro e w2 ⟨t, rfl, how, hx⟩
    have Z := Lib.hid (show Ext w1 w2 from hx)
    replace BA := Lib.hid (Z.out.block BA.out)
    replace X := Lib.hid (X.out.trans Z.out)
    have HW := Lib.hid how.rd
    clear how
    obtain ⟨B1, m1, k1, B2, m2, k2, B3, m3, k3⟩ := t
    obtain ⟨exc, ron, rset, files⟩ := r
    simp only [repV] at HPT HCK HW ⊢
    clear d0 d1 d2 d3 d4 d5
    clear hx Z
    obtain ⟨d0, d1, d2, d3, d4, d5⟩ := cells6 BA.out
    have da0 := fun o : Obj => (cells6 ((Ext.alloc _ o).block BA.out)).1
    have da1 := fun o : Obj => (cells6 ((Ext.alloc _ o).block BA.out)).2.1
    have da2 := fun o : Obj => (cells6 ((Ext.alloc _ o).block BA.out)).2.2.1
    have da3 := fun o : Obj => (cells6 ((Ext.alloc _ o).block BA.out)).2.2.2.1
    have da4 := fun o : Obj => (cells6 ((Ext.alloc _ o).block BA.out)).2.2.2.2.1
    have da5 := fun o : Obj => (cells6 ((Ext.alloc _ o).block BA.out)).2.2.2.2.2
    go_wp2_with fail
    refine (HPT.out _ ⟨B1, m1, k1, B2, m2, k2, B3, m3, k3⟩ (X.out.trans (Ext.alloc _ _)) (HW.out.ext (Ext.alloc _ _))).mono ?_
    rintro e w3 ⟨A5, n5, c5, rfl, ho5, hx⟩
    have Z := Lib.hid (show Ext w2 w3 from (Ext.alloc _ _).trans hx)
    replace BA := Lib.hid (Z.out.block BA.out)
    have BR := Lib.hid (show w3.heap[w2.heap.size]? = some (.cells #[.int .i64 exc, .slice B1 m1 k1, .slice B2 m2 k2, .slice B3 m3 k3] 29 (0, 0)) from hx.block (heap_at _ _ _ (by simp)))
    replace X := Lib.hid (X.out.trans Z.out)
    replace HW := Lib.hid (HW.out.ext Z.out)
    obtain rfl : N = n5 := by have h1 := ho5.len; have h2 := HBL.out; simp at h1; omega
    have HO := Lib.hid ho5.rd
    clear ho5
    clear d0 d1 d2 d3 d4 d5 da0 da1 da2 da3 da4 da5
    clear hx Z
    obtain ⟨d0, d1, d2, d3, d4, d5⟩ := cells6 BA.out
    obtain ⟨g0, g1, g2, g3⟩ := cells4 BR.out
    go_wp2_with fail
    refine (HCK.out _ ⟨B1, m1, k1, B2, m2, k2, B3, m3, k3⟩ X.out HW.out).mono ?_
    rintro e w4 ⟨rfl, hx⟩
    have Z := Lib.hid (show Ext w3 w4 from hx)
    replace BA := Lib.hid (Z.out.block BA.out)
    replace BR := Lib.hid (Z.out.block BR.out)
    replace X := Lib.hid (X.out.trans Z.out)
    replace HW := Lib.hid (HW.out.ext Z.out)
    replace HO := Lib.hid (HO.out.ext Z.out)
    clear d0 d1 d2 d3 d4 d5 g0 g1 g2 g3
    clear hx Z
    obtain ⟨d0, d1, d2, d3, d4, d5⟩ := cells6 BA.out
    obtain ⟨g0, g1, g2, g3⟩ := cells4 BR.out
    go_wp2_with fail
    refine (same_any b b _ _ _ _ _ _ _ HO.out (HB.out.ext X.out) (by unfold maxLen; omega)).mono ?_
    rintro e w5 ⟨rfl, hx⟩
    have Z := Lib.hid (show Ext w4 w5 from (Ext.of hx))
    replace BA := Lib.hid (Z.out.block BA.out)
    replace BR := Lib.hid (Z.out.block BR.out)
    replace X := Lib.hid (X.out.trans Z.out)
    replace HW := Lib.hid (HW.out.ext Z.out)
    replace HO := Lib.hid (HO.out.ext Z.out)
    rw [decide_eq_true rfl]
    clear d0 d1 d2 d3 d4 d5 g0 g1 g2 g3
    clear hx Z
    obtain ⟨d0, d1, d2, d3, d4, d5⟩ := cells6 BA.out
    obtain ⟨g0, g1, g2, g3⟩ := cells4 BR.out
    go_wp2_with fail
    refine (works04_any _).mono ?_
    rintro e w6 ⟨rfl, hx⟩
    have Z := Lib.hid (show Ext w5 w6 from hx)
    replace BA := Lib.hid (Z.out.block BA.out)
    replace BR := Lib.hid (Z.out.block BR.out)
    replace X := Lib.hid (X.out.trans Z.out)
    replace HW := Lib.hid (HW.out.ext Z.out)
    replace HO := Lib.hid (HO.out.ext Z.out)
    clear d0 d1 d2 d3 d4 d5 g0 g1 g2 g3
    clear hx Z
    obtain ⟨d0, d1, d2, d3, d4, d5⟩ := cells6 BA.out
    obtain ⟨g0, g1, g2, g3⟩ := cells4 BR.out
    go_wp2_with fail
    go_ret
    exact ⟨rfl, X.out⟩
  · have hE0 : (E != 0) = true := by simpa using hE
    obtain rfl := f1 hE
    clear f0 f1 HPT HCK
    have HS := Lib.hid (fun (s : RepS) (W : World) (h1 : RepRd W rep0 s) => same_reply rep0 s repS0 W h1 (rep0_rd W))
    simp only [repV, rep0, repS0] at HS HG
    go_enter Try.func7, Try.ntmps7
    go_wp2_with fail
    refine (HL.out _).mono ?_
    rintro e w1 ⟨rfl, hx⟩
    have Z := Lib.hid (show Ext w w1 from (Ext.alloc _ _).trans hx)
    have BA := Lib.hid (show w1.heap[w.heap.size]? = some (.cells #[.int .i64 code, .int .i64 addr, .int .i64 count, .slice A1 n1 c1, .slice A2 n2 c2, .slice A3 n3 c3] 26 (0, 0)) from hx.block (heap_at _ _ _ (by simp)))
    have X := Lib.hid Z.out
    clear hx Z
    obtain ⟨d0, d1, d2, d3, d4, d5⟩ := cells6 BA.out
    go_wp2_with fail
    refine (HG.out _ X.out).mono ?_
    rintro e w2 ⟨t, rfl, how, hx⟩
    have Z := Lib.hid (show Ext w1 w2 from hx)
    replace BA := Lib.hid (Z.out.block BA.out)
    replace X := Lib.hid (X.out.trans Z.out)
    have HW := Lib.hid how.rd
    clear how
    obtain ⟨B1, m1, k1, B2, m2, k2, B3, m3, k3⟩ := t
    simp only [repV, rep0]
    clear d0 d1 d2 d3 d4 d5
    clear hx Z
    obtain ⟨d0, d1, d2, d3, d4, d5⟩ := cells6 BA.out
    go_wp2_with fail
    refine (HS.out ⟨B1, m1, k1, B2, m2, k2, B3, m3, k3⟩ _ (HW.out.ext (Ext.alloc _ _))).mono ?_
    rintro e w3 ⟨rfl, hx⟩
    have Z := Lib.hid (show Ext w2 w3 from (Ext.alloc _ _).trans hx)
    replace BA := Lib.hid (Z.out.block BA.out)
    have BR := Lib.hid (show w3.heap[w2.heap.size]? = some (.cells #[.int .i64 0, .slice B1 m1 k1, .slice B2 m2 k2, .slice B3 m3 k3] 29 (0, 0)) from hx.block (heap_at _ _ _ (by simp)))
    replace X := Lib.hid (X.out.trans Z.out)
    replace HW := Lib.hid (HW.out.ext Z.out)
    clear d0 d1 d2 d3 d4 d5
    clear hx Z
    obtain ⟨d0, d1, d2, d3, d4, d5⟩ := cells6 BA.out
    obtain ⟨g0, g1, g2, g3⟩ := cells4 BR.out
    go_wp2_with fail
    refine (works04_any _).mono ?_
    rintro e w4 ⟨rfl, hx⟩
    have Z := Lib.hid (show Ext w3 w4 from hx)
    replace BA := Lib.hid (Z.out.block BA.out)
    replace BR := Lib.hid (Z.out.block BR.out)
    replace X := Lib.hid (X.out.trans Z.out)
    replace HW := Lib.hid (HW.out.ext Z.out)
    clear d0 d1 d2 d3 d4 d5 g0 g1 g2 g3
    clear hx Z
    obtain ⟨d0, d1, d2, d3, d4, d5⟩ := cells6 BA.out
    obtain ⟨g0, g1, g2, g3⟩ := cells4 BR.out
    go_wp2_with fail
    go_ret
    exact ⟨rfl, X.out⟩
end Go.Proofs.Ytpjmhckdeeonbaa
