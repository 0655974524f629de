/- Contract of reply.read: rows of files; whatever the request. (genrepr.py prints this.) -/
import Derived.Test.YtpjmhckdeeonbaaRepR3
import Derived.Test.YtpjmhckdeeonbaaRepR4
namespace Go.Proofs.Ytpjmhckdeeonbaa
set_option linter.unusedVariables false
set_option linter.unusedSimpArgs false
set_option maxRecDepth 100000
set_option maxHeartbeats 2000000
open Go Go.RowKit Go.Out


theorem rfil_ok (addr count : Int) (A1 A2 A3 : Option Addr) (n1 c1 n2 c2 n3 c3 : Nat) (parts : List PartD) (x0 x1 : UInt8) (r : List UInt8) (A : Option Addr) (N c : Nat) (w : World) (hpr : RdL partK w A3 n3 parts) (hn3 : n3 ≤ 35) (hb : Rd w A N ((x0 :: x1 :: r).map cB)) (hcp : N ≤ c ∧ c ≤ 9223372036854775807) (hN : 3 ≤ N) (hN2 : N ≤ 253)
    (hgood : parts.any (fun p => decide (badP p)) = false) (hsum : 2 + sumP parts = (N : Int)) (hbad : (x1.toNat : Int) = (N : Int) - 2) (l : List (List UInt16)) (ho : filesOf parts ((x0 :: x1 :: r).drop 2) = some l) :
    Calls Try.prog 79 #[.agg #[.int .i64 20, .int .i64 addr, .int .i64 count, .slice A1 n1 c1, .slice A2 n2 c2, .slice A3 n3 c3], .slice A N c] w (RetRR w (some ⟨0, [], [], l⟩)) := by
  have hl := hb.length
  have HT := Lib.hid (fun V (hX : Ext w V) => take_at (x0 :: x1 :: r) A N c w.heap.size w V hb hX (Nat.le_refl _) hcp (by omega))
  have hmf : ∀ (fn : Fn) (first cap : Array Value) (w : World), (Instr.makeFunc fn first cap).run Try.prog w = .ok (.func fn first cap) w := fun _ _ _ _ => rfl
  have hne : (IntKind.i64.wrap (x1.toNat : Int) != IntKind.i64.wrap ((N : Int) - 2)) = false := by rw [IntWalk.i64_in _ (by have := x1.toNat_lt; omega), IntWalk.i64_in _ (by omega)]; simpa using hbad
  have hX0 := x1.toNat_lt
  clear hl
  obtain ⟨V, hV, hX0, hVs, q0, q1, q2, q3, q4⟩ := start5 w (.cells #[.int .i64 20, .int .i64 addr, .int .i64 count, .slice A1 n1 c1, .slice A2 n2 c2, .slice A3 n3 c3] 26) (.cells #[.slice A N c] 36) (.cells #[.int .i64 0, .slice none 0 0, .slice none 0 0, .slice none 0 0] 29) (.cells #[.int .i64 1] 3) (.cells #[.int .i64 0, .slice none 0 0, .slice none 0 0, .slice none 0 0] 29)
  have X0 := Lib.hid hX0
  obtain ⟨p0, p1, p2, p3⟩ := cells4 q2
  obtain ⟨g0, g1, g2, g3⟩ := cells4 q4
  obtain ⟨d0, -, d2, -⟩ := cells6 q0
  have d1 : V.cell? ⟨w.heap.size + 1, 0, none⟩ = some (.slice A N c) := cell_of_row _ _ _ _ _ _ q1
  have k0 := frozen_of_row _ _ 0 _ _ q2
  have m0 := frozen_of_row _ _ 0 _ _ q4
  have k1 := frozen_of_row _ _ 1 _ _ q2
  have m1 := frozen_of_row _ _ 1 _ _ q4
  have k2 := frozen_of_row _ _ 2 _ _ q2
  have m2 := frozen_of_row _ _ 2 _ _ q4
  have k3 := frozen_of_row _ _ 3 _ _ q2
  have m3 := frozen_of_row _ _ 3 _ _ q4
  have HT1 := Lib.hid (show Calls Try.prog 108 #[.int .i64 1, .pointer (some ⟨w.heap.size + 1 + 1 + 1, 0, none⟩), .pointer (some ⟨w.heap.size + 1, 0, none⟩)] V.drew fun e w' => ∃ A', e = .returned (.slice A' 1 (c - 1)) ∧ Rd w A' 1 [.int .u8 (x1.toNat : Int)] ∧ w' = V.drew.setCell ⟨w.heap.size + 1 + 1 + 1, 0, none⟩ (.int .i64 2) from HT.out V.drew (Ext.drew' X0.out) 1 1 (by omega) q3 q1)
  have hA2 : (V.setCell ⟨w.heap.size + 1 + 1 + 1, 0, none⟩ (.int .i64 2)).drew.heap[w.heap.size + 1 + 1 + 1]? = some (.cells #[.int .i64 2] 3 (0, 0)) := heap_setCell_same _ _ _ _ _ _ q3
  have hB2 := set_other (b := w.heap.size + 1 + 1 + 1) q1 (by omega) (.int .i64 2)
  have hX2 : Ext w (V.setCell ⟨w.heap.size + 1 + 1 + 1, 0, none⟩ (.int .i64 2)).drew := Ext.drew' (Ext.set' X0.out (by simp; omega) _)
  have HPT := Lib.hid (parts_any parts 20 addr count A1 A2 A3 n1 c1 n2 c2 n3 c3 (x0 :: x1 :: r) A N c w.heap.size w (V.setCell ⟨w.heap.size + 1 + 1 + 1, 0, none⟩ (.int .i64 2)).drew hpr hn3 hb hX2 (Nat.le_refl _) (by simp; omega) hcp hN2 hA2 hB2 hgood hsum)
  rw [ho] at HPT
  have Q2 := Lib.hid (show (V.setCell ⟨w.heap.size + 1 + 1 + 1, 0, none⟩ (.int .i64 2)).drew.heap[w.heap.size + 1 + 1]? = _ from set_other q2 (by omega) _)
  have Q4 := Lib.hid (show (V.setCell ⟨w.heap.size + 1 + 1 + 1, 0, none⟩ (.int .i64 2)).drew.heap[w.heap.size + 1 + 1 + 1 + 1]? = _ from set_other q4 (by omega) _)
  have HSZ := Lib.hid (show w.heap.size + 5 ≤ (V.setCell ⟨w.heap.size + 1 + 1 + 1, 0, none⟩ (.int .i64 2)).drew.heap.size by simp; omega)
  obtain ⟨d0, d1', d2, d3, d4, d5⟩ := cells6 q0
  have D := fun k v (h : V.cell? ⟨w.heap.size, k, none⟩ = some v) => (show (V.setCell ⟨w.heap.size + 1 + 1 + 1, 0, none⟩ (.int .i64 2)).drew.cell? ⟨w.heap.size, k, none⟩ = some v from (World.cell?_setCell_far _ _ _ _ (by simp <;> omega)).trans h)
  have e0 := D _ _ d0; have e1 := D _ _ d1'; have e2 := D _ _ d2; have e3 := D _ _ d3; have e4 := D _ _ d4; have e5 := D _ _ d5
  clear hA2 hB2 hX2 hpr hgood hsum ho D hb
  clear q0 q1 q2 q3 q4 hX0
  go_enter Try.func79, Try.ntmps79
  go_wp2_with fail
  clear hV
  go_region_with ((first
    | (go_at_call 108
       refine HT1.out.mono ?_
       rintro e w2 ⟨A5, rfl, hrd, rfl⟩
       obtain ⟨bk, off, rfl, hbk, hcl⟩ := hrd.2 (by omega)
       have c0 : V.cell? ⟨bk, off, none⟩ = some (.int .u8 (x1.toNat : Int)) := X0.out.cell hbk (hcl 0 _ rfl))
    | fail))
  all_goals
    go_wp2_with fail
    refine HPT.out.mono ?_
    rintro e w3 ⟨hx3, hz3, hk3, hres⟩
    obtain ⟨v, rfl, hol⟩ := hres
    obtain ⟨A9, c9, rfl, h91, h92, -, -⟩ := hol.form
    have HOR := Lib.hid (show RepOw w3 (w.heap.size + 5) ⟨0, [], [], l⟩ ⟨none, 0, 0, none, 0, 0, A9, l.length, c9⟩ from ⟨Own.nil_ _ _ _ _, Own.nil_ _ _ _ _, OwL.monoO hol HSZ.out, rfl, ⟨h91, h92⟩, by unfold i64P; simp⟩)
    clear hol h91 h92
    have Q2' := (hk3 (w.heap.size + 1 + 1) (by have := HSZ.out; omega) (by omega)).trans Q2.out
    have Q4' := (hk3 (w.heap.size + 1 + 1 + 1 + 1) (by have := HSZ.out; omega) (by omega)).trans Q4.out
    obtain ⟨p0, p1, p2, p3⟩ := cells4 Q2'
    obtain ⟨g0, g1, g2, g3⟩ := cells4 Q4'
    have k0 := frozen_of_row _ _ 0 _ _ Q2'
    have m0 := frozen_of_row _ _ 0 _ _ Q4'
    have k1 := frozen_of_row _ _ 1 _ _ Q2'
    have m1 := frozen_of_row _ _ 1 _ _ Q4'
    have k2 := frozen_of_row _ _ 2 _ _ Q2'
    have m2 := frozen_of_row _ _ 2 _ _ Q4'
    have k3 := frozen_of_row _ _ 3 _ _ Q2'
    have m3 := frozen_of_row _ _ 3 _ _ Q4'
    have X7 := Lib.hid hx3
    clear Q2' Q4' hx3 hz3 hk3
    go_wp2_with fail
    refine bodyPost_ret (v := .tuple #[repV ⟨0, [], [], l⟩ ⟨none, 0, 0, none, 0, 0, A9, l.length, c9⟩, .bool true]) (by simp [results, Try.results79, go_sem, repV, *]) rfl ⟨?_, _, rfl, ?_⟩
    · repeat' (first | with_reducible exact X7.out | with_reducible refine Ext.drew' ?_ | with_reducible refine Ext.set' ?_ (by simp; omega) _)
    · refine RepOw.mono (base := w.heap.size + 5) ?_ (by omega)
      repeat' (first | with_reducible exact HOR.out | with_reducible refine RepOw.set_below ?_ (by simp) _)
theorem rfil_no (addr count : Int) (A1 A2 A3 : Option Addr) (n1 c1 n2 c2 n3 c3 : Nat) (parts : List PartD) (x0 x1 : UInt8) (r : List UInt8) (A : Option Addr) (N c : Nat) (w : World) (hpr : RdL partK w A3 n3 parts) (hn3 : n3 ≤ 35) (hb : Rd w A N ((x0 :: x1 :: r).map cB)) (hcp : N ≤ c ∧ c ≤ 9223372036854775807) (hN : 3 ≤ N) (hN2 : N ≤ 253)
    (hgood : parts.any (fun p => decide (badP p)) = false) (hsum : 2 + sumP parts = (N : Int)) (hbad : (x1.toNat : Int) = (N : Int) - 2) (ho : filesOf parts ((x0 :: x1 :: r).drop 2) = none) :
    Calls Try.prog 79 #[.agg #[.int .i64 20, .int .i64 addr, .int .i64 count, .slice A1 n1 c1, .slice A2 n2 c2, .slice A3 n3 c3], .slice A N c] w (RetRR w none) := by
  have hl := hb.length
  have HT := Lib.hid (fun V (hX : Ext w V) => take_at (x0 :: x1 :: r) A N c w.heap.size w V hb hX (Nat.le_refl _) hcp (by omega))
  have hmf : ∀ (fn : Fn) (first cap : Array Value) (w : World), (Instr.makeFunc fn first cap).run Try.prog w = .ok (.func fn first cap) w := fun _ _ _ _ => rfl
  have hne : (IntKind.i64.wrap (x1.toNat : Int) != IntKind.i64.wrap ((N : Int) - 2)) = false := by rw [IntWalk.i64_in _ (by have := x1.toNat_lt; omega), IntWalk.i64_in _ (by omega)]; simpa using hbad
  have hX0 := x1.toNat_lt
  clear hl
  obtain ⟨V, hV, hX0, hVs, q0, q1, q2, q3, q4⟩ := start5 w (.cells #[.int .i64 20, .int .i64 addr, .int .i64 count, .slice A1 n1 c1, .slice A2 n2 c2, .slice A3 n3 c3] 26) (.cells #[.slice A N c] 36) (.cells #[.int .i64 0, .slice none 0 0, .slice none 0 0, .slice none 0 0] 29) (.cells #[.int .i64 1] 3) (.cells #[.int .i64 0, .slice none 0 0, .slice none 0 0, .slice none 0 0] 29)
  have X0 := Lib.hid hX0
  obtain ⟨p0, p1, p2, p3⟩ := cells4 q2
  obtain ⟨g0, g1, g2, g3⟩ := cells4 q4
  obtain ⟨d0, -, d2, -⟩ := cells6 q0
  have d1 : V.cell? ⟨w.heap.size + 1, 0, none⟩ = some (.slice A N c) := cell_of_row _ _ _ _ _ _ q1
  have k0 := frozen_of_row _ _ 0 _ _ q2
  have m0 := frozen_of_row _ _ 0 _ _ q4
  have k1 := frozen_of_row _ _ 1 _ _ q2
  have m1 := frozen_of_row _ _ 1 _ _ q4
  have k2 := frozen_of_row _ _ 2 _ _ q2
  have m2 := frozen_of_row _ _ 2 _ _ q4
  have k3 := frozen_of_row _ _ 3 _ _ q2
  have m3 := frozen_of_row _ _ 3 _ _ q4
  have HT1 := Lib.hid (show Calls Try.prog 108 #[.int .i64 1, .pointer (some ⟨w.heap.size + 1 + 1 + 1, 0, none⟩), .pointer (some ⟨w.heap.size + 1, 0, none⟩)] V.drew fun e w' => ∃ A', e = .returned (.slice A' 1 (c - 1)) ∧ Rd w A' 1 [.int .u8 (x1.toNat : Int)] ∧ w' = V.drew.setCell ⟨w.heap.size + 1 + 1 + 1, 0, none⟩ (.int .i64 2) from HT.out V.drew (Ext.drew' X0.out) 1 1 (by omega) q3 q1)
  have hA2 : (V.setCell ⟨w.heap.size + 1 + 1 + 1, 0, none⟩ (.int .i64 2)).drew.heap[w.heap.size + 1 + 1 + 1]? = some (.cells #[.int .i64 2] 3 (0, 0)) := heap_setCell_same _ _ _ _ _ _ q3
  have hB2 := set_other (b := w.heap.size + 1 + 1 + 1) q1 (by omega) (.int .i64 2)
  have hX2 : Ext w (V.setCell ⟨w.heap.size + 1 + 1 + 1, 0, none⟩ (.int .i64 2)).drew := Ext.drew' (Ext.set' X0.out (by simp; omega) _)
  have HPT := Lib.hid (parts_any parts 20 addr count A1 A2 A3 n1 c1 n2 c2 n3 c3 (x0 :: x1 :: r) A N c w.heap.size w (V.setCell ⟨w.heap.size + 1 + 1 + 1, 0, none⟩ (.int .i64 2)).drew hpr hn3 hb hX2 (Nat.le_refl _) (by simp; omega) hcp hN2 hA2 hB2 hgood hsum)
  rw [ho] at HPT
  have Q2 := Lib.hid (show (V.setCell ⟨w.heap.size + 1 + 1 + 1, 0, none⟩ (.int .i64 2)).drew.heap[w.heap.size + 1 + 1]? = _ from set_other q2 (by omega) _)
  have Q4 := Lib.hid (show (V.setCell ⟨w.heap.size + 1 + 1 + 1, 0, none⟩ (.int .i64 2)).drew.heap[w.heap.size + 1 + 1 + 1 + 1]? = _ from set_other q4 (by omega) _)
  have HSZ := Lib.hid (show w.heap.size + 5 ≤ (V.setCell ⟨w.heap.size + 1 + 1 + 1, 0, none⟩ (.int .i64 2)).drew.heap.size by simp; omega)
  obtain ⟨d0, d1', d2, d3, d4, d5⟩ := cells6 q0
  have D := fun k v (h : V.cell? ⟨w.heap.size, k, none⟩ = some v) => (show (V.setCell ⟨w.heap.size + 1 + 1 + 1, 0, none⟩ (.int .i64 2)).drew.cell? ⟨w.heap.size, k, none⟩ = some v from (World.cell?_setCell_far _ _ _ _ (by simp <;> omega)).trans h)
  have e0 := D _ _ d0; have e1 := D _ _ d1'; have e2 := D _ _ d2; have e3 := D _ _ d3; have e4 := D _ _ d4; have e5 := D _ _ d5
  clear hA2 hB2 hX2 hpr hgood hsum ho D hb
  clear q0 q1 q2 q3 q4 hX0
  go_enter Try.func79, Try.ntmps79
  go_wp2_with fail
  clear hV
  go_region_with ((first
    | (go_at_call 108
       refine HT1.out.mono ?_
       rintro e w2 ⟨A5, rfl, hrd, rfl⟩
       obtain ⟨bk, off, rfl, hbk, hcl⟩ := hrd.2 (by omega)
       have c0 : V.cell? ⟨bk, off, none⟩ = some (.int .u8 (x1.toNat : Int)) := X0.out.cell hbk (hcl 0 _ rfl))
    | fail))
  all_goals
    go_wp2_with fail
    refine HPT.out.mono ?_
    rintro e w3 ⟨hx3, hz3, hk3, hres⟩
    obtain rfl := hres
    have Q2' := (hk3 (w.heap.size + 1 + 1) (by have := HSZ.out; omega) (by omega)).trans Q2.out
    have Q4' := (hk3 (w.heap.size + 1 + 1 + 1 + 1) (by have := HSZ.out; omega) (by omega)).trans Q4.out
    obtain ⟨p0, p1, p2, p3⟩ := cells4 Q2'
    obtain ⟨g0, g1, g2, g3⟩ := cells4 Q4'
    have k0 := frozen_of_row _ _ 0 _ _ Q2'
    have m0 := frozen_of_row _ _ 0 _ _ Q4'
    have k1 := frozen_of_row _ _ 1 _ _ Q2'
    have m1 := frozen_of_row _ _ 1 _ _ Q4'
    have k2 := frozen_of_row _ _ 2 _ _ Q2'
    have m2 := frozen_of_row _ _ 2 _ _ Q4'
    have k3 := frozen_of_row _ _ 3 _ _ Q2'
    have m3 := frozen_of_row _ _ 3 _ _ Q4'
    have X7 := Lib.hid hx3
    clear Q2' Q4' hx3 hz3 hk3
    go_wp2_with fail
    refine bodyPost_ret (v := .tuple #[.agg #[.int .i64 0, .slice none 0 0, .slice none 0 0, .slice none 0 0], .bool false]) (by simp [results, Try.results79, go_sem, repV, *]) rfl ⟨?_, 0, repS0, rfl⟩
    repeat' (first | with_reducible exact X7.out | with_reducible refine Ext.drew' ?_ | with_reducible refine Ext.set' ?_ (by simp; omega) _)
theorem rfil_bad (addr count : Int) (A1 A2 A3 : Option Addr) (n1 c1 n2 c2 n3 c3 : Nat) (x0 x1 : UInt8) (r : List UInt8) (A : Option Addr) (N c : Nat) (w : World) (hb : Rd w A N ((x0 :: x1 :: r).map cB)) (hcp : N ≤ c ∧ c ≤ 9223372036854775807) (hN : 3 ≤ N) (hN2 : N ≤ 253)
    (hbad : ¬ (x1.toNat : Int) = (N : Int) - 2) :
    Calls Try.prog 79 #[.agg #[.int .i64 20, .int .i64 addr, .int .i64 count, .slice A1 n1 c1, .slice A2 n2 c2, .slice A3 n3 c3], .slice A N c] w (RetRR w none) := by
  have HT := Lib.hid (fun V (hX : Ext w V) => take_at (x0 :: x1 :: r) A N c w.heap.size w V hb hX (Nat.le_refl _) hcp (by omega))
  have hmf : ∀ (fn : Fn) (first cap : Array Value) (w : World), (Instr.makeFunc fn first cap).run Try.prog w = .ok (.func fn first cap) w := fun _ _ _ _ => rfl
  have hne : (IntKind.i64.wrap (x1.toNat : Int) != IntKind.i64.wrap ((N : Int) - 2)) = true := by rw [IntWalk.i64_in _ (by have := x1.toNat_lt; omega), IntWalk.i64_in _ (by omega)]; simpa using hbad
  have hX0 := x1.toNat_lt
  clear hb
  obtain ⟨V, hV, hX0, hVs, q0, q1, q2, q3, q4⟩ := start5 w (.cells #[.int .i64 20, .int .i64 addr, .int .i64 count, .slice A1 n1 c1, .slice A2 n2 c2, .slice A3 n3 c3] 26) (.cells #[.slice A N c] 36) (.cells #[.int .i64 0, .slice none 0 0, .slice none 0 0, .slice none 0 0] 29) (.cells #[.int .i64 1] 3) (.cells #[.int .i64 0, .slice none 0 0, .slice none 0 0, .slice none 0 0] 29)
  have X0 := Lib.hid hX0
  obtain ⟨p0, p1, p2, p3⟩ := cells4 q2
  obtain ⟨g0, g1, g2, g3⟩ := cells4 q4
  obtain ⟨d0, -, d2, -⟩ := cells6 q0
  have d1 : V.cell? ⟨w.heap.size + 1, 0, none⟩ = some (.slice A N c) := cell_of_row _ _ _ _ _ _ q1
  have k0 := frozen_of_row _ _ 0 _ _ q2
  have m0 := frozen_of_row _ _ 0 _ _ q4
  have k1 := frozen_of_row _ _ 1 _ _ q2
  have m1 := frozen_of_row _ _ 1 _ _ q4
  have k2 := frozen_of_row _ _ 2 _ _ q2
  have m2 := frozen_of_row _ _ 2 _ _ q4
  have k3 := frozen_of_row _ _ 3 _ _ q2
  have m3 := frozen_of_row _ _ 3 _ _ q4
  have HT1 := Lib.hid (show Calls Try.prog 108 #[.int .i64 1, .pointer (some ⟨w.heap.size + 1 + 1 + 1, 0, none⟩), .pointer (some ⟨w.heap.size + 1, 0, none⟩)] V.drew fun e w' => ∃ A', e = .returned (.slice A' 1 (c - 1)) ∧ Rd w A' 1 [.int .u8 (x1.toNat : Int)] ∧ w' = V.drew.setCell ⟨w.heap.size + 1 + 1 + 1, 0, none⟩ (.int .i64 2) from HT.out V.drew (Ext.drew' X0.out) 1 1 (by omega) q3 q1)
  clear q0 q1 q2 q3 q4 hX0
  go_enter Try.func79, Try.ntmps79
  go_wp2_with fail
  clear hV
  go_region_with ((first
    | (go_at_call 108
       refine HT1.out.mono ?_
       rintro e w2 ⟨A5, rfl, hrd, rfl⟩
       obtain ⟨bk, off, rfl, hbk, hcl⟩ := hrd.2 (by omega)
       have c0 : V.cell? ⟨bk, off, none⟩ = some (.int .u8 (x1.toNat : Int)) := X0.out.cell hbk (hcl 0 _ rfl))
    | fail))
  all_goals
    go_wp2_with fail
    refine bodyPost_ret (v := .tuple #[.agg #[.int .i64 0, .slice none 0 0, .slice none 0 0, .slice none 0 0], .bool false]) (by simp [results, Try.results79, go_sem, repV, *]) rfl ⟨?_, 0, repS0, rfl⟩
    repeat' (first | with_reducible exact X0.out | with_reducible refine Ext.drew' ?_ | with_reducible refine Ext.set' ?_ (by simp; omega) _)
theorem read_files (a : AskD) (b : List UInt8) (s : AskS) (A : Option Addr) (N c : Nat) (w : World) (ha : AskRd w a s) (hb : Rd w A N (b.map cB)) (hcp : N ≤ c ∧ c ≤ 9223372036854775807) (hc : a.code = 20) (hK : partsF a.parts = 0) (hn3 : a.parts.length ≤ 35) (hlen : 2 + sumP a.parts = (N : Int)) (hN : 3 ≤ N) (hN2 : N ≤ 253) :
    Calls Try.prog 79 #[askV a s, .slice A N c] w (RetRR w (readR a b)) := by
  have hl := hb.length
  obtain ⟨x0, x1, r, rfl⟩ := len2 (b := b) (by omega)
  have hbt : ((x0 :: x1 :: r).getD 1 0).toNat = x1.toNat := rfl
  have hp := ha.parts
  have e3 := ha.n3
  obtain ⟨code, addr, count, on, set, parts⟩ := a
  obtain ⟨A1, n1, c1, A2, n2, c2, A3, n3, c3⟩ := s
  simp only at hc hK hn3 hlen hp e3
  subst hc
  by_cases hbad : (x1.toNat : Int) = (N : Int) - 2
  · rw [readR20 rfl (by rw [hbt, hl]; exact hbad)]
    simp only [askV]
    cases ho : filesOf parts ((x0 :: x1 :: r).drop 2) with
    | none => exact rfil_no addr count A1 A2 A3 n1 c1 n2 c2 n3 c3 parts x0 x1 r A N c w hp (by omega) hb hcp hN hN2 (partsF_zero hK).1 hlen hbad ho
    | some l => exact rfil_ok addr count A1 A2 A3 n1 c1 n2 c2 n3 c3 parts x0 x1 r A N c w hp (by omega) hb hcp hN hN2 (partsF_zero hK).1 hlen hbad l ho
  · rw [readR_bad (by unfold plainC; simp) (by rw [hbt, hl]; exact hbad)]
    simp only [askV]
    exact rfil_bad addr count A1 A2 A3 n1 c1 n2 c2 n3 c3 x0 x1 r A N c w hb hcp hN hN2 hbad
end Go.Proofs.Ytpjmhckdeeonbaa
