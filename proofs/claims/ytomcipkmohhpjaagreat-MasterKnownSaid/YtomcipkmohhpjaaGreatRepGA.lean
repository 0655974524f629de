/- Contract of reply.Get, given what reply.read hands back. (genrepget.py prints this.) -/
import Derived.Test.YtomcipkmohhpjaaGreatG09
import Derived.BigQuiet
import Derived.Deep.QuietTactic
import Derived.Test.YtomcipkmohhpjaaGreatRepR5
namespace Go.Proofs.YtomcipkmohhpjaaGreat
set_option linter.unusedVariables false
set_option linter.unusedSimpArgs false
set_option maxRecDepth 100000
set_option maxHeartbeats 2000000
open Go Go.RowKit Go.Out

theorem rget_no (code addr count : Int) (A1 A2 A3 : Option Addr) (n1 c1 n2 c2 n3 c3 : Nat) (w : World) (A : Option Addr) (N c : Nat) (K : Int) (hK : (K != 0) = true) (HC : Hid (∀ W, Ext w W → Calls Tryz.prog 79 #[.agg #[.int .i64 code, .int .i64 addr, .int .i64 count, .slice A1 n1 c1, .slice A2 n2 c2, .slice A3 n3 c3]] W (RetI W K))) :
    Calls Tryz.prog 70 #[.agg #[.int .i64 code, .int .i64 addr, .int .i64 count, .slice A1 n1 c1, .slice A2 n2 c2, .slice A3 n3 c3], .slice A N c] w (RetGR w (rep0, K)) := by
  have HB := Lib.hid (two_boxes w #[.int .i64 code, .int .i64 addr, .int .i64 count, .slice A1 n1 c1, .slice A2 n2 c2, .slice A3 n3 c3] #[.int .i64 0, .slice none 0 0, .slice none 0 0, .slice none 0 0] 37 40)
  go_enter Tryz.func70, Tryz.ntmps70
  go_wp2_with fail
  refine (HC.out _ (ext_pair _ _ _)).mono ?_
  rintro e w1 ⟨rfl, hx1⟩
  have Y1 := Lib.hid hx1
  clear hx1
  obtain ⟨hb1, hb2⟩ := HB.out _ Y1.out
  obtain ⟨d0, d1, d2, d3, d4, d5⟩ := cells6 hb1
  obtain ⟨p0, p1, p2, p3⟩ := cells4 hb2
  have k0 := frozen_of_row _ _ 0 _ _ hb2
  have k1 := frozen_of_row _ _ 1 _ _ hb2
  have k2 := frozen_of_row _ _ 2 _ _ hb2
  have k3 := frozen_of_row _ _ 3 _ _ hb2
  have X1 := Lib.hid ((ext_pair _ _ _).trans Y1.out)
  have HS := Lib.hid (show w.heap.size + 2 ≤ _ from by have := Y1.out.size; simpa using this)
  clear hb1 hb2
  go_wp2_with fail
  refine bodyPost_ret (v := .tuple #[repV rep0 repS0, .int .i64 K]) (by simp [results, Tryz.results70, go_sem, repV, rep0, repS0, *]) rfl ⟨repS0, rfl, repOw0 _ _, ?_⟩
  repeat' (first | with_reducible exact X1.out | with_reducible refine Ext.drewN' ?_ _ | with_reducible refine Ext.drew' ?_ | with_reducible refine Ext.alloc' ?_ _ | with_reducible refine Ext.set' ?_ (by simp <;> omega) _)
theorem rget_nil (code addr count : Int) (A1 A2 A3 : Option Addr) (n1 c1 n2 c2 n3 c3 : Nat) (w : World) (A : Option Addr) (N c : Nat) (HC : Hid (∀ W, Ext w W → Calls Tryz.prog 79 #[.agg #[.int .i64 code, .int .i64 addr, .int .i64 count, .slice A1 n1 c1, .slice A2 n2 c2, .slice A3 n3 c3]] W (RetI W 0))) (hN : N = 0) :
    Calls Tryz.prog 70 #[.agg #[.int .i64 code, .int .i64 addr, .int .i64 count, .slice A1 n1 c1, .slice A2 n2 c2, .slice A3 n3 c3], .slice A N c] w (RetGR w (rep0, 1)) := by
  subst hN
  have HB := Lib.hid (two_boxes w #[.int .i64 code, .int .i64 addr, .int .i64 count, .slice A1 n1 c1, .slice A2 n2 c2, .slice A3 n3 c3] #[.int .i64 0, .slice none 0 0, .slice none 0 0, .slice none 0 0] 37 40)
  go_enter Tryz.func70, Tryz.ntmps70
  go_wp2_with fail
  refine (HC.out _ (ext_pair _ _ _)).mono ?_
  rintro e w1 ⟨rfl, hx1⟩
  have Y1 := Lib.hid hx1
  clear hx1
  obtain ⟨hb1, hb2⟩ := HB.out _ Y1.out
  obtain ⟨d0, d1, d2, d3, d4, d5⟩ := cells6 hb1
  obtain ⟨p0, p1, p2, p3⟩ := cells4 hb2
  have k0 := frozen_of_row _ _ 0 _ _ hb2
  have k1 := frozen_of_row _ _ 1 _ _ hb2
  have k2 := frozen_of_row _ _ 2 _ _ hb2
  have k3 := frozen_of_row _ _ 3 _ _ hb2
  have X1 := Lib.hid ((ext_pair _ _ _).trans Y1.out)
  have HS := Lib.hid (show w.heap.size + 2 ≤ _ from by have := Y1.out.size; simpa using this)
  clear hb1 hb2
  go_wp2_with fail
  refine bodyPost_ret (v := .tuple #[repV rep0 repS0, .int .i64 1]) (by simp [results, Tryz.results70, go_sem, repV, rep0, repS0, *]) rfl ⟨repS0, rfl, repOw0 _ _, ?_⟩
  repeat' (first | with_reducible exact X1.out | with_reducible refine Ext.drewN' ?_ _ | with_reducible refine Ext.drew' ?_ | with_reducible refine Ext.alloc' ?_ _ | with_reducible refine Ext.set' ?_ (by simp <;> omega) _)
theorem rget_ex (code addr count : Int) (A1 A2 A3 : Option Addr) (n1 c1 n2 c2 n3 c3 : Nat) (w : World) (A : Option Addr) (N c : Nat) (HC : Hid (∀ W, Ext w W → Calls Tryz.prog 79 #[.agg #[.int .i64 code, .int .i64 addr, .int .i64 count, .slice A1 n1 c1, .slice A2 n2 c2, .slice A3 n3 c3]] W (RetI W 0)))(x0 : Nat) (bk off : Nat) (hA : A = some ⟨bk, off, none⟩) (hN : 0 < N) (hN0 : ((N : Int) == 0) = false) (hbk : bk < w.heap.size) (hc0 : w.cell? ⟨bk, off, none⟩ = some (.int .u8 (x0 : Int))) (hex : (IntKind.i64.wrap (x0 : Int) == IntKind.i64.wrap (code + 128)) = true) (hexw : (wrap64 (x0 : Int) == wrap64 (code + 128)) = true) (R : RepD × Int) (HE : Hid (∀ W, Ext w W → Calls Tryz.prog 102 #[.slice A N c] W (RetGR W R))) :
    Calls Tryz.prog 70 #[.agg #[.int .i64 code, .int .i64 addr, .int .i64 count, .slice A1 n1 c1, .slice A2 n2 c2, .slice A3 n3 c3], .slice A N c] w (RetGR w R) := by
  have HB := Lib.hid (two_boxes w #[.int .i64 code, .int .i64 addr, .int .i64 count, .slice A1 n1 c1, .slice A2 n2 c2, .slice A3 n3 c3] #[.int .i64 0, .slice none 0 0, .slice none 0 0, .slice none 0 0] 37 40)
  subst hA
  have HC0 := Lib.hid (fun W (hX : Ext w W) => hX.cell hbk hc0)
  clear hc0
  go_enter Tryz.func70, Tryz.ntmps70
  go_wp2_with fail
  refine (HC.out _ (ext_pair _ _ _)).mono ?_
  rintro e w1 ⟨rfl, hx1⟩
  have Y1 := Lib.hid hx1
  clear hx1
  obtain ⟨hb1, hb2⟩ := HB.out _ Y1.out
  obtain ⟨d0, d1, d2, d3, d4, d5⟩ := cells6 hb1
  obtain ⟨p0, p1, p2, p3⟩ := cells4 hb2
  have k0 := frozen_of_row _ _ 0 _ _ hb2
  have k1 := frozen_of_row _ _ 1 _ _ hb2
  have k2 := frozen_of_row _ _ 2 _ _ hb2
  have k3 := frozen_of_row _ _ 3 _ _ hb2
  have X1 := Lib.hid ((ext_pair _ _ _).trans Y1.out)
  have HS := Lib.hid (show w.heap.size + 2 ≤ _ from by have := Y1.out.size; simpa using this)
  clear hb1 hb2
  have c0 := HC0.out _ X1.out
  go_wp2_with fail
  go_quiet (fail)
  go_wp2_with fail
  refine (HE.out _ (Ext.drewN' X1.out _)).mono ?_
  rintro e w2 ⟨t, rfl, how, hx2⟩
  replace Y1 := Lib.hid ((Ext.drewN' Y1.out _).trans hx2)
  have HO := Lib.hid (how.mono (show w.heap.size + 2 ≤ _ from HS.out))
  clear how hx2 X1 d0 d1 d2 d3 d4 d5 p0 p1 p2 p3 k0 k1 k2 k3 c0
  obtain ⟨r1, r2⟩ := R
  simp only at HO ⊢
  obtain ⟨hb1, hb2⟩ := HB.out _ Y1.out
  obtain ⟨d0, d1, d2, d3, d4, d5⟩ := cells6 hb1
  obtain ⟨p0, p1, p2, p3⟩ := cells4 hb2
  have k0 := frozen_of_row _ _ 0 _ _ hb2
  have k1 := frozen_of_row _ _ 1 _ _ hb2
  have k2 := frozen_of_row _ _ 2 _ _ hb2
  have k3 := frozen_of_row _ _ 3 _ _ hb2
  have X1 := Lib.hid ((ext_pair _ _ _).trans Y1.out)
  have HS := Lib.hid (show w.heap.size + 2 ≤ _ from by have := Y1.out.size; simpa using this)
  clear hb1 hb2
  simp only [repV]
  go_wp2_with fail
  refine bodyPost_ret (v := .tuple #[repV r1 t, .int .i64 r2]) (by simp [results, Tryz.results70, go_sem, repV, rep0, repS0, *]) rfl ⟨t, rfl, ?_, ?_⟩
  · refine RepOw.mono (base := w.heap.size + 2) ?_ (by omega)
    repeat' (first | with_reducible exact HO.out | with_reducible refine RepOw.set_below ?_ (by simp) _)
  · repeat' (first | with_reducible exact X1.out | with_reducible refine Ext.drewN' ?_ _ | with_reducible refine Ext.drew' ?_ | with_reducible refine Ext.alloc' ?_ _ | with_reducible refine Ext.set' ?_ (by simp <;> omega) _)
theorem rget_code (code addr count : Int) (A1 A2 A3 : Option Addr) (n1 c1 n2 c2 n3 c3 : Nat) (w : World) (A : Option Addr) (N c : Nat) (HC : Hid (∀ W, Ext w W → Calls Tryz.prog 79 #[.agg #[.int .i64 code, .int .i64 addr, .int .i64 count, .slice A1 n1 c1, .slice A2 n2 c2, .slice A3 n3 c3]] W (RetI W 0)))(x0 : Nat) (bk off : Nat) (hA : A = some ⟨bk, off, none⟩) (hN : 0 < N) (hN0 : ((N : Int) == 0) = false) (hbk : bk < w.heap.size) (hc0 : w.cell? ⟨bk, off, none⟩ = some (.int .u8 (x0 : Int))) (hex : (IntKind.i64.wrap (x0 : Int) == IntKind.i64.wrap (code + 128)) = false) (hexw : (wrap64 (x0 : Int) == wrap64 (code + 128)) = false) (hce : (IntKind.i64.wrap (x0 : Int) != IntKind.i64.wrap code) = true) (hcew : (wrap64 (x0 : Int) != code) = true) :
    Calls Tryz.prog 70 #[.agg #[.int .i64 code, .int .i64 addr, .int .i64 count, .slice A1 n1 c1, .slice A2 n2 c2, .slice A3 n3 c3], .slice A N c] w (RetGR w (rep0, 20)) := by
  have HB := Lib.hid (two_boxes w #[.int .i64 code, .int .i64 addr, .int .i64 count, .slice A1 n1 c1, .slice A2 n2 c2, .slice A3 n3 c3] #[.int .i64 0, .slice none 0 0, .slice none 0 0, .slice none 0 0] 37 40)
  subst hA
  have HC0 := Lib.hid (fun W (hX : Ext w W) => hX.cell hbk hc0)
  clear hc0
  go_enter Tryz.func70, Tryz.ntmps70
  go_wp2_with fail
  refine (HC.out _ (ext_pair _ _ _)).mono ?_
  rintro e w1 ⟨rfl, hx1⟩
  have Y1 := Lib.hid hx1
  clear hx1
  obtain ⟨hb1, hb2⟩ := HB.out _ Y1.out
  obtain ⟨d0, d1, d2, d3, d4, d5⟩ := cells6 hb1
  obtain ⟨p0, p1, p2, p3⟩ := cells4 hb2
  have k0 := frozen_of_row _ _ 0 _ _ hb2
  have k1 := frozen_of_row _ _ 1 _ _ hb2
  have k2 := frozen_of_row _ _ 2 _ _ hb2
  have k3 := frozen_of_row _ _ 3 _ _ hb2
  have X1 := Lib.hid ((ext_pair _ _ _).trans Y1.out)
  have HS := Lib.hid (show w.heap.size + 2 ≤ _ from by have := Y1.out.size; simpa using this)
  clear hb1 hb2
  have c0 := HC0.out _ X1.out
  go_wp2_with fail
  go_quiet (fail)
  go_wp2_with fail
  go_quiet (fail)
  go_wp2_with fail
  refine bodyPost_ret (v := .tuple #[repV rep0 repS0, .int .i64 20]) (by simp [results, Tryz.results70, go_sem, repV, rep0, repS0, *]) rfl ⟨repS0, rfl, repOw0 _ _, ?_⟩
  repeat' (first | with_reducible exact X1.out | with_reducible refine Ext.drewN' ?_ _ | with_reducible refine Ext.drew' ?_ | with_reducible refine Ext.alloc' ?_ _ | with_reducible refine Ext.set' ?_ (by simp <;> omega) _)
theorem rget_short (code addr count : Int) (A1 A2 A3 : Option Addr) (n1 c1 n2 c2 n3 c3 : Nat) (w : World) (A : Option Addr) (N c : Nat) (HC : Hid (∀ W, Ext w W → Calls Tryz.prog 79 #[.agg #[.int .i64 code, .int .i64 addr, .int .i64 count, .slice A1 n1 c1, .slice A2 n2 c2, .slice A3 n3 c3]] W (RetI W 0)))(x0 : Nat) (bk off : Nat) (hA : A = some ⟨bk, off, none⟩) (hN : 0 < N) (hN0 : ((N : Int) == 0) = false) (hbk : bk < w.heap.size) (hc0 : w.cell? ⟨bk, off, none⟩ = some (.int .u8 (x0 : Int))) (hex : (IntKind.i64.wrap (x0 : Int) == IntKind.i64.wrap (code + 128)) = false) (hexw : (wrap64 (x0 : Int) == wrap64 (code + 128)) = false) (hce : (IntKind.i64.wrap (x0 : Int) != IntKind.i64.wrap code) = false) (hcew : (wrap64 (x0 : Int) != code) = false)(L : Nat) (HL : Hid (∀ W, Ext w W → Calls Tryz.prog 103 #[.agg #[.int .i64 code, .int .i64 addr, .int .i64 count, .slice A1 n1 c1, .slice A2 n2 c2, .slice A3 n3 c3]] W (RetI W (L : Nat)))) (hs : (N : Int) < (L : Int)) :
    Calls Tryz.prog 70 #[.agg #[.int .i64 code, .int .i64 addr, .int .i64 count, .slice A1 n1 c1, .slice A2 n2 c2, .slice A3 n3 c3], .slice A N c] w (RetGR w (rep0, 1)) := by
  have HB := Lib.hid (two_boxes w #[.int .i64 code, .int .i64 addr, .int .i64 count, .slice A1 n1 c1, .slice A2 n2 c2, .slice A3 n3 c3] #[.int .i64 0, .slice none 0 0, .slice none 0 0, .slice none 0 0] 37 40)
  subst hA
  have HC0 := Lib.hid (fun W (hX : Ext w W) => hX.cell hbk hc0)
  clear hc0
  go_enter Tryz.func70, Tryz.ntmps70
  go_wp2_with fail
  refine (HC.out _ (ext_pair _ _ _)).mono ?_
  rintro e w1 ⟨rfl, hx1⟩
  have Y1 := Lib.hid hx1
  clear hx1
  obtain ⟨hb1, hb2⟩ := HB.out _ Y1.out
  obtain ⟨d0, d1, d2, d3, d4, d5⟩ := cells6 hb1
  obtain ⟨p0, p1, p2, p3⟩ := cells4 hb2
  have k0 := frozen_of_row _ _ 0 _ _ hb2
  have k1 := frozen_of_row _ _ 1 _ _ hb2
  have k2 := frozen_of_row _ _ 2 _ _ hb2
  have k3 := frozen_of_row _ _ 3 _ _ hb2
  have X1 := Lib.hid ((ext_pair _ _ _).trans Y1.out)
  have HS := Lib.hid (show w.heap.size + 2 ≤ _ from by have := Y1.out.size; simpa using this)
  clear hb1 hb2
  have c0 := HC0.out _ X1.out
  go_wp2_with fail
  go_quiet (fail)
  go_wp2_with fail
  go_quiet (fail)
  go_wp2_with fail
  refine (HL.out _ (Ext.drewN' X1.out _)).mono ?_
  rintro e wl1 ⟨rfl, hx⟩
  replace Y1 := Lib.hid ((Ext.drewN' Y1.out _).trans hx)
  clear hx X1 d0 d1 d2 d3 d4 d5 p0 p1 p2 p3 k0 k1 k2 k3 c0
  obtain ⟨hb1, hb2⟩ := HB.out _ Y1.out
  obtain ⟨d0, d1, d2, d3, d4, d5⟩ := cells6 hb1
  obtain ⟨p0, p1, p2, p3⟩ := cells4 hb2
  have k0 := frozen_of_row _ _ 0 _ _ hb2
  have k1 := frozen_of_row _ _ 1 _ _ hb2
  have k2 := frozen_of_row _ _ 2 _ _ hb2
  have k3 := frozen_of_row _ _ 3 _ _ hb2
  have X1 := Lib.hid ((ext_pair _ _ _).trans Y1.out)
  have HS := Lib.hid (show w.heap.size + 2 ≤ _ from by have := Y1.out.size; simpa using this)
  clear hb1 hb2
  have c0 := HC0.out _ X1.out
  go_wp2_with fail
  refine bodyPost_ret (v := .tuple #[repV rep0 repS0, .int .i64 1]) (by simp [results, Tryz.results70, go_sem, repV, rep0, repS0, *]) rfl ⟨repS0, rfl, repOw0 _ _, ?_⟩
  repeat' (first | with_reducible exact X1.out | with_reducible refine Ext.drewN' ?_ _ | with_reducible refine Ext.drew' ?_ | with_reducible refine Ext.alloc' ?_ _ | with_reducible refine Ext.set' ?_ (by simp <;> omega) _)
theorem rget_long (code addr count : Int) (A1 A2 A3 : Option Addr) (n1 c1 n2 c2 n3 c3 : Nat) (w : World) (A : Option Addr) (N c : Nat) (HC : Hid (∀ W, Ext w W → Calls Tryz.prog 79 #[.agg #[.int .i64 code, .int .i64 addr, .int .i64 count, .slice A1 n1 c1, .slice A2 n2 c2, .slice A3 n3 c3]] W (RetI W 0)))(x0 : Nat) (bk off : Nat) (hA : A = some ⟨bk, off, none⟩) (hN : 0 < N) (hN0 : ((N : Int) == 0) = false) (hbk : bk < w.heap.size) (hc0 : w.cell? ⟨bk, off, none⟩ = some (.int .u8 (x0 : Int))) (hex : (IntKind.i64.wrap (x0 : Int) == IntKind.i64.wrap (code + 128)) = false) (hexw : (wrap64 (x0 : Int) == wrap64 (code + 128)) = false) (hce : (IntKind.i64.wrap (x0 : Int) != IntKind.i64.wrap code) = false) (hcew : (wrap64 (x0 : Int) != code) = false)(L : Nat) (HL : Hid (∀ W, Ext w W → Calls Tryz.prog 103 #[.agg #[.int .i64 code, .int .i64 addr, .int .i64 count, .slice A1 n1 c1, .slice A2 n2 c2, .slice A3 n3 c3]] W (RetI W (L : Nat)))) (hs : (L : Int) < (N : Int)) :
    Calls Tryz.prog 70 #[.agg #[.int .i64 code, .int .i64 addr, .int .i64 count, .slice A1 n1 c1, .slice A2 n2 c2, .slice A3 n3 c3], .slice A N c] w (RetGR w (rep0, 2)) := by
  have HB := Lib.hid (two_boxes w #[.int .i64 code, .int .i64 addr, .int .i64 count, .slice A1 n1 c1, .slice A2 n2 c2, .slice A3 n3 c3] #[.int .i64 0, .slice none 0 0, .slice none 0 0, .slice none 0 0] 37 40)
  subst hA
  have HC0 := Lib.hid (fun W (hX : Ext w W) => hX.cell hbk hc0)
  clear hc0
  go_enter Tryz.func70, Tryz.ntmps70
  go_wp2_with fail
  refine (HC.out _ (ext_pair _ _ _)).mono ?_
  rintro e w1 ⟨rfl, hx1⟩
  have Y1 := Lib.hid hx1
  clear hx1
  obtain ⟨hb1, hb2⟩ := HB.out _ Y1.out
  obtain ⟨d0, d1, d2, d3, d4, d5⟩ := cells6 hb1
  obtain ⟨p0, p1, p2, p3⟩ := cells4 hb2
  have k0 := frozen_of_row _ _ 0 _ _ hb2
  have k1 := frozen_of_row _ _ 1 _ _ hb2
  have k2 := frozen_of_row _ _ 2 _ _ hb2
  have k3 := frozen_of_row _ _ 3 _ _ hb2
  have X1 := Lib.hid ((ext_pair _ _ _).trans Y1.out)
  have HS := Lib.hid (show w.heap.size + 2 ≤ _ from by have := Y1.out.size; simpa using this)
  clear hb1 hb2
  have c0 := HC0.out _ X1.out
  go_wp2_with fail
  go_quiet (fail)
  go_wp2_with fail
  go_quiet (fail)
  go_wp2_with fail
  refine (HL.out _ (Ext.drewN' X1.out _)).mono ?_
  rintro e wl1 ⟨rfl, hx⟩
  replace Y1 := Lib.hid ((Ext.drewN' Y1.out _).trans hx)
  clear hx X1 d0 d1 d2 d3 d4 d5 p0 p1 p2 p3 k0 k1 k2 k3 c0
  obtain ⟨hb1, hb2⟩ := HB.out _ Y1.out
  obtain ⟨d0, d1, d2, d3, d4, d5⟩ := cells6 hb1
  obtain ⟨p0, p1, p2, p3⟩ := cells4 hb2
  have k0 := frozen_of_row _ _ 0 _ _ hb2
  have k1 := frozen_of_row _ _ 1 _ _ hb2
  have k2 := frozen_of_row _ _ 2 _ _ hb2
  have k3 := frozen_of_row _ _ 3 _ _ hb2
  have X1 := Lib.hid ((ext_pair _ _ _).trans Y1.out)
  have HS := Lib.hid (show w.heap.size + 2 ≤ _ from by have := Y1.out.size; simpa using this)
  clear hb1 hb2
  have c0 := HC0.out _ X1.out
  go_wp2_with fail
  refine (HL.out _ X1.out).mono ?_
  rintro e wl2 ⟨rfl, hx⟩
  replace Y1 := Lib.hid (Y1.out.trans hx)
  clear hx X1 d0 d1 d2 d3 d4 d5 p0 p1 p2 p3 k0 k1 k2 k3 c0
  obtain ⟨hb1, hb2⟩ := HB.out _ Y1.out
  obtain ⟨d0, d1, d2, d3, d4, d5⟩ := cells6 hb1
  obtain ⟨p0, p1, p2, p3⟩ := cells4 hb2
  have k0 := frozen_of_row _ _ 0 _ _ hb2
  have k1 := frozen_of_row _ _ 1 _ _ hb2
  have k2 := frozen_of_row _ _ 2 _ _ hb2
  have k3 := frozen_of_row _ _ 3 _ _ hb2
  have X1 := Lib.hid ((ext_pair _ _ _).trans Y1.out)
  have HS := Lib.hid (show w.heap.size + 2 ≤ _ from by have := Y1.out.size; simpa using this)
  clear hb1 hb2
  go_wp2_with fail
  refine bodyPost_ret (v := .tuple #[repV rep0 repS0, .int .i64 2]) (by simp [results, Tryz.results70, go_sem, repV, rep0, repS0, *]) rfl ⟨repS0, rfl, repOw0 _ _, ?_⟩
  repeat' (first | with_reducible exact X1.out | with_reducible refine Ext.drewN' ?_ _ | with_reducible refine Ext.drew' ?_ | with_reducible refine Ext.alloc' ?_ _ | with_reducible refine Ext.set' ?_ (by simp <;> omega) _)
theorem rget_form (code addr count : Int) (A1 A2 A3 : Option Addr) (n1 c1 n2 c2 n3 c3 : Nat) (w : World) (A : Option Addr) (N c : Nat) (HC : Hid (∀ W, Ext w W → Calls Tryz.prog 79 #[.agg #[.int .i64 code, .int .i64 addr, .int .i64 count, .slice A1 n1 c1, .slice A2 n2 c2, .slice A3 n3 c3]] W (RetI W 0)))(x0 : Nat) (bk off : Nat) (hA : A = some ⟨bk, off, none⟩) (hN : 0 < N) (hN0 : ((N : Int) == 0) = false) (hbk : bk < w.heap.size) (hc0 : w.cell? ⟨bk, off, none⟩ = some (.int .u8 (x0 : Int))) (hex : (IntKind.i64.wrap (x0 : Int) == IntKind.i64.wrap (code + 128)) = false) (hexw : (wrap64 (x0 : Int) == wrap64 (code + 128)) = false) (hce : (IntKind.i64.wrap (x0 : Int) != IntKind.i64.wrap code) = false) (hcew : (wrap64 (x0 : Int) != code) = false)(L : Nat) (HL : Hid (∀ W, Ext w W → Calls Tryz.prog 103 #[.agg #[.int .i64 code, .int .i64 addr, .int .i64 count, .slice A1 n1 c1, .slice A2 n2 c2, .slice A3 n3 c3]] W (RetI W (L : Nat)))) (hs : L = N) (HR : Hid (∀ W, Ext w W → Calls Tryz.prog 104 #[.agg #[.int .i64 code, .int .i64 addr, .int .i64 count, .slice A1 n1 c1, .slice A2 n2 c2, .slice A3 n3 c3], .slice A N c] W (RetRR W none))) :
    Calls Tryz.prog 70 #[.agg #[.int .i64 code, .int .i64 addr, .int .i64 count, .slice A1 n1 c1, .slice A2 n2 c2, .slice A3 n3 c3], .slice A N c] w (RetGR w (rep0, 4)) := by
  subst hs
  have HB := Lib.hid (two_boxes w #[.int .i64 code, .int .i64 addr, .int .i64 count, .slice A1 n1 c1, .slice A2 n2 c2, .slice A3 n3 c3] #[.int .i64 0, .slice none 0 0, .slice none 0 0, .slice none 0 0] 37 40)
  subst hA
  have HC0 := Lib.hid (fun W (hX : Ext w W) => hX.cell hbk hc0)
  clear hc0
  go_enter Tryz.func70, Tryz.ntmps70
  go_wp2_with fail
  refine (HC.out _ (ext_pair _ _ _)).mono ?_
  rintro e w1 ⟨rfl, hx1⟩
  have Y1 := Lib.hid hx1
  clear hx1
  obtain ⟨hb1, hb2⟩ := HB.out _ Y1.out
  obtain ⟨d0, d1, d2, d3, d4, d5⟩ := cells6 hb1
  obtain ⟨p0, p1, p2, p3⟩ := cells4 hb2
  have k0 := frozen_of_row _ _ 0 _ _ hb2
  have k1 := frozen_of_row _ _ 1 _ _ hb2
  have k2 := frozen_of_row _ _ 2 _ _ hb2
  have k3 := frozen_of_row _ _ 3 _ _ hb2
  have X1 := Lib.hid ((ext_pair _ _ _).trans Y1.out)
  have HS := Lib.hid (show w.heap.size + 2 ≤ _ from by have := Y1.out.size; simpa using this)
  clear hb1 hb2
  have c0 := HC0.out _ X1.out
  go_wp2_with fail
  go_quiet (fail)
  go_wp2_with fail
  go_quiet (fail)
  go_wp2_with fail
  refine (HL.out _ (Ext.drewN' X1.out _)).mono ?_
  rintro e wl1 ⟨rfl, hx⟩
  replace Y1 := Lib.hid ((Ext.drewN' Y1.out _).trans hx)
  clear hx X1 d0 d1 d2 d3 d4 d5 p0 p1 p2 p3 k0 k1 k2 k3 c0
  obtain ⟨hb1, hb2⟩ := HB.out _ Y1.out
  obtain ⟨d0, d1, d2, d3, d4, d5⟩ := cells6 hb1
  obtain ⟨p0, p1, p2, p3⟩ := cells4 hb2
  have k0 := frozen_of_row _ _ 0 _ _ hb2
  have k1 := frozen_of_row _ _ 1 _ _ hb2
  have k2 := frozen_of_row _ _ 2 _ _ hb2
  have k3 := frozen_of_row _ _ 3 _ _ hb2
  have X1 := Lib.hid ((ext_pair _ _ _).trans Y1.out)
  have HS := Lib.hid (show w.heap.size + 2 ≤ _ from by have := Y1.out.size; simpa using this)
  clear hb1 hb2
  have c0 := HC0.out _ X1.out
  go_wp2_with fail
  refine (HL.out _ X1.out).mono ?_
  rintro e wl2 ⟨rfl, hx⟩
  replace Y1 := Lib.hid (Y1.out.trans hx)
  clear hx X1 d0 d1 d2 d3 d4 d5 p0 p1 p2 p3 k0 k1 k2 k3 c0
  obtain ⟨hb1, hb2⟩ := HB.out _ Y1.out
  obtain ⟨d0, d1, d2, d3, d4, d5⟩ := cells6 hb1
  obtain ⟨p0, p1, p2, p3⟩ := cells4 hb2
  have k0 := frozen_of_row _ _ 0 _ _ hb2
  have k1 := frozen_of_row _ _ 1 _ _ hb2
  have k2 := frozen_of_row _ _ 2 _ _ hb2
  have k3 := frozen_of_row _ _ 3 _ _ hb2
  have X1 := Lib.hid ((ext_pair _ _ _).trans Y1.out)
  have HS := Lib.hid (show w.heap.size + 2 ≤ _ from by have := Y1.out.size; simpa using this)
  clear hb1 hb2
  go_wp2_with fail
  refine (HR.out _ X1.out).mono ?_
  rintro e w2 ⟨hx2, x, t, rfl⟩
  replace Y1 := Lib.hid (Y1.out.trans hx2)
  clear hx2 X1 d0 d1 d2 d3 d4 d5 p0 p1 p2 p3 k0 k1 k2 k3
  obtain ⟨hb1, hb2⟩ := HB.out _ Y1.out
  obtain ⟨d0, d1, d2, d3, d4, d5⟩ := cells6 hb1
  obtain ⟨p0, p1, p2, p3⟩ := cells4 hb2
  have k0 := frozen_of_row _ _ 0 _ _ hb2
  have k1 := frozen_of_row _ _ 1 _ _ hb2
  have k2 := frozen_of_row _ _ 2 _ _ hb2
  have k3 := frozen_of_row _ _ 3 _ _ hb2
  have X1 := Lib.hid ((ext_pair _ _ _).trans Y1.out)
  have HS := Lib.hid (show w.heap.size + 2 ≤ _ from by have := Y1.out.size; simpa using this)
  have pa0 := fun o : Obj => (cells4 ((Ext.alloc w2 o).block hb2)).1
  have pa1 := fun o : Obj => (cells4 ((Ext.alloc w2 o).block hb2)).2.1
  have pa2 := fun o : Obj => (cells4 ((Ext.alloc w2 o).block hb2)).2.2.1
  have pa3 := fun o : Obj => (cells4 ((Ext.alloc w2 o).block hb2)).2.2.2
  have ka0 := fun o : Obj => frozen_of_row (w2.alloc o) _ 0 _ _ ((Ext.alloc w2 o).block hb2)
  have ka1 := fun o : Obj => frozen_of_row (w2.alloc o) _ 1 _ _ ((Ext.alloc w2 o).block hb2)
  have ka2 := fun o : Obj => frozen_of_row (w2.alloc o) _ 2 _ _ ((Ext.alloc w2 o).block hb2)
  have ka3 := fun o : Obj => frozen_of_row (w2.alloc o) _ 3 _ _ ((Ext.alloc w2 o).block hb2)
  clear hb1 hb2
  go_wp2_with fail
  refine bodyPost_ret (v := .tuple #[repV rep0 repS0, .int .i64 4]) (by simp [results, Tryz.results70, go_sem, repV, rep0, repS0, *]) rfl ⟨repS0, rfl, repOw0 _ _, ?_⟩
  repeat' (first | with_reducible exact X1.out | with_reducible refine Ext.drewN' ?_ _ | with_reducible refine Ext.drew' ?_ | with_reducible refine Ext.alloc' ?_ _ | with_reducible refine Ext.set' ?_ (by simp <;> omega) _)
theorem rget_ok (code addr count : Int) (A1 A2 A3 : Option Addr) (n1 c1 n2 c2 n3 c3 : Nat) (w : World) (A : Option Addr) (N c : Nat) (HC : Hid (∀ W, Ext w W → Calls Tryz.prog 79 #[.agg #[.int .i64 code, .int .i64 addr, .int .i64 count, .slice A1 n1 c1, .slice A2 n2 c2, .slice A3 n3 c3]] W (RetI W 0)))(x0 : Nat) (bk off : Nat) (hA : A = some ⟨bk, off, none⟩) (hN : 0 < N) (hN0 : ((N : Int) == 0) = false) (hbk : bk < w.heap.size) (hc0 : w.cell? ⟨bk, off, none⟩ = some (.int .u8 (x0 : Int))) (hex : (IntKind.i64.wrap (x0 : Int) == IntKind.i64.wrap (code + 128)) = false) (hexw : (wrap64 (x0 : Int) == wrap64 (code + 128)) = false) (hce : (IntKind.i64.wrap (x0 : Int) != IntKind.i64.wrap code) = false) (hcew : (wrap64 (x0 : Int) != code) = false)(L : Nat) (HL : Hid (∀ W, Ext w W → Calls Tryz.prog 103 #[.agg #[.int .i64 code, .int .i64 addr, .int .i64 count, .slice A1 n1 c1, .slice A2 n2 c2, .slice A3 n3 c3]] W (RetI W (L : Nat)))) (hs : L = N) (r1 : RepD) (HR : Hid (∀ W, Ext w W → Calls Tryz.prog 104 #[.agg #[.int .i64 code, .int .i64 addr, .int .i64 count, .slice A1 n1 c1, .slice A2 n2 c2, .slice A3 n3 c3], .slice A N c] W (RetRR W (some r1)))) :
    Calls Tryz.prog 70 #[.agg #[.int .i64 code, .int .i64 addr, .int .i64 count, .slice A1 n1 c1, .slice A2 n2 c2, .slice A3 n3 c3], .slice A N c] w (RetGR w (r1, 0)) := by
  subst hs
  have HB := Lib.hid (two_boxes w #[.int .i64 code, .int .i64 addr, .int .i64 count, .slice A1 n1 c1, .slice A2 n2 c2, .slice A3 n3 c3] #[.int .i64 0, .slice none 0 0, .slice none 0 0, .slice none 0 0] 37 40)
  subst hA
  have HC0 := Lib.hid (fun W (hX : Ext w W) => hX.cell hbk hc0)
  clear hc0
  go_enter Tryz.func70, Tryz.ntmps70
  go_wp2_with fail
  refine (HC.out _ (ext_pair _ _ _)).mono ?_
  rintro e w1 ⟨rfl, hx1⟩
  have Y1 := Lib.hid hx1
  clear hx1
  obtain ⟨hb1, hb2⟩ := HB.out _ Y1.out
  obtain ⟨d0, d1, d2, d3, d4, d5⟩ := cells6 hb1
  obtain ⟨p0, p1, p2, p3⟩ := cells4 hb2
  have k0 := frozen_of_row _ _ 0 _ _ hb2
  have k1 := frozen_of_row _ _ 1 _ _ hb2
  have k2 := frozen_of_row _ _ 2 _ _ hb2
  have k3 := frozen_of_row _ _ 3 _ _ hb2
  have X1 := Lib.hid ((ext_pair _ _ _).trans Y1.out)
  have HS := Lib.hid (show w.heap.size + 2 ≤ _ from by have := Y1.out.size; simpa using this)
  clear hb1 hb2
  have c0 := HC0.out _ X1.out
  go_wp2_with fail
  go_quiet (fail)
  go_wp2_with fail
  go_quiet (fail)
  go_wp2_with fail
  refine (HL.out _ (Ext.drewN' X1.out _)).mono ?_
  rintro e wl1 ⟨rfl, hx⟩
  replace Y1 := Lib.hid ((Ext.drewN' Y1.out _).trans hx)
  clear hx X1 d0 d1 d2 d3 d4 d5 p0 p1 p2 p3 k0 k1 k2 k3 c0
  obtain ⟨hb1, hb2⟩ := HB.out _ Y1.out
  obtain ⟨d0, d1, d2, d3, d4, d5⟩ := cells6 hb1
  obtain ⟨p0, p1, p2, p3⟩ := cells4 hb2
  have k0 := frozen_of_row _ _ 0 _ _ hb2
  have k1 := frozen_of_row _ _ 1 _ _ hb2
  have k2 := frozen_of_row _ _ 2 _ _ hb2
  have k3 := frozen_of_row _ _ 3 _ _ hb2
  have X1 := Lib.hid ((ext_pair _ _ _).trans Y1.out)
  have HS := Lib.hid (show w.heap.size + 2 ≤ _ from by have := Y1.out.size; simpa using this)
  clear hb1 hb2
  have c0 := HC0.out _ X1.out
  go_wp2_with fail
  refine (HL.out _ X1.out).mono ?_
  rintro e wl2 ⟨rfl, hx⟩
  replace Y1 := Lib.hid (Y1.out.trans hx)
  clear hx X1 d0 d1 d2 d3 d4 d5 p0 p1 p2 p3 k0 k1 k2 k3 c0
  obtain ⟨hb1, hb2⟩ := HB.out _ Y1.out
  obtain ⟨d0, d1, d2, d3, d4, d5⟩ := cells6 hb1
  obtain ⟨p0, p1, p2, p3⟩ := cells4 hb2
  have k0 := frozen_of_row _ _ 0 _ _ hb2
  have k1 := frozen_of_row _ _ 1 _ _ hb2
  have k2 := frozen_of_row _ _ 2 _ _ hb2
  have k3 := frozen_of_row _ _ 3 _ _ hb2
  have X1 := Lib.hid ((ext_pair _ _ _).trans Y1.out)
  have HS := Lib.hid (show w.heap.size + 2 ≤ _ from by have := Y1.out.size; simpa using this)
  clear hb1 hb2
  go_wp2_with fail
  refine (HR.out _ X1.out).mono ?_
  rintro e w2 ⟨hx2, t, rfl, how⟩
  replace Y1 := Lib.hid (Y1.out.trans hx2)
  have HO := Lib.hid (how.mono (show w.heap.size + 2 ≤ _ from HS.out))
  clear how hx2 X1 d0 d1 d2 d3 d4 d5 p0 p1 p2 p3 k0 k1 k2 k3
  obtain ⟨hb1, hb2⟩ := HB.out _ Y1.out
  obtain ⟨d0, d1, d2, d3, d4, d5⟩ := cells6 hb1
  obtain ⟨p0, p1, p2, p3⟩ := cells4 hb2
  have k0 := frozen_of_row _ _ 0 _ _ hb2
  have k1 := frozen_of_row _ _ 1 _ _ hb2
  have k2 := frozen_of_row _ _ 2 _ _ hb2
  have k3 := frozen_of_row _ _ 3 _ _ hb2
  have X1 := Lib.hid ((ext_pair _ _ _).trans Y1.out)
  have HS := Lib.hid (show w.heap.size + 2 ≤ _ from by have := Y1.out.size; simpa using this)
  have pa0 := fun o : Obj => (cells4 ((Ext.alloc w2 o).block hb2)).1
  have pa1 := fun o : Obj => (cells4 ((Ext.alloc w2 o).block hb2)).2.1
  have pa2 := fun o : Obj => (cells4 ((Ext.alloc w2 o).block hb2)).2.2.1
  have pa3 := fun o : Obj => (cells4 ((Ext.alloc w2 o).block hb2)).2.2.2
  have ka0 := fun o : Obj => frozen_of_row (w2.alloc o) _ 0 _ _ ((Ext.alloc w2 o).block hb2)
  have ka1 := fun o : Obj => frozen_of_row (w2.alloc o) _ 1 _ _ ((Ext.alloc w2 o).block hb2)
  have ka2 := fun o : Obj => frozen_of_row (w2.alloc o) _ 2 _ _ ((Ext.alloc w2 o).block hb2)
  have ka3 := fun o : Obj => frozen_of_row (w2.alloc o) _ 3 _ _ ((Ext.alloc w2 o).block hb2)
  clear hb1 hb2
  simp only [repV]
  go_wp2_with fail
  refine bodyPost_ret (v := .tuple #[repV r1 t, .int .i64 0]) (by simp [results, Tryz.results70, go_sem, repV, rep0, repS0, *]) rfl ⟨t, rfl, ?_, ?_⟩
  · refine RepOw.mono (base := w.heap.size + 2) ?_ (by omega)
    repeat' (first | with_reducible exact HO.out | with_reducible exact HO.out.ext (Ext.alloc _ _) | with_reducible refine RepOw.set_below ?_ (by simp) _)
  · repeat' (first | with_reducible exact X1.out | with_reducible refine Ext.drewN' ?_ _ | with_reducible refine Ext.drew' ?_ | with_reducible refine Ext.alloc' ?_ _ | with_reducible refine Ext.set' ?_ (by simp <;> omega) _)
end Go.Proofs.YtomcipkmohhpjaaGreat

namespace Go.Proofs.YtomcipkmohhpjaaGreat
set_option linter.unusedVariables false
set_option linter.unusedSimpArgs false
set_option maxRecDepth 100000
set_option maxHeartbeats 1000000
open Go Go.RowKit Go.Out

theorem many_parts {a : AskD} (h : checkF a = 0) : (a.code = 1 ∨ a.code = 2 → 1 ≤ a.count ∧ a.count ≤ 2000) ∧ (a.code = 3 ∨ a.code = 4 → 1 ≤ a.count ∧ a.count ≤ 125) ∧ (a.code = 20 → 1 ≤ a.parts.length ∧ a.parts.length ≤ 35) := by
  obtain ⟨h1, h2, h3, h4, h5, h6, h7, h8⟩ := checkF_parts a h
  refine ⟨fun h => ?_, fun h => ?_, fun h => ?_⟩
  · have h1 : manyF a = a.count := by unfold manyF; rw [if_pos (by unfold isCnt; omega)]
    have h2 : mostF a.code = 2000 := by unfold mostF; rw [if_pos h]
    omega
  · have h1 : manyF a = a.count := by unfold manyF; rw [if_pos (by unfold isCnt; omega)]
    have h2 : mostF a.code = 125 := by unfold mostF; rw [if_neg (by omega), if_pos h]
    omega
  · have h1 : manyF a = a.parts.length := by unfold manyF; rw [if_neg (by unfold isCnt; omega), if_neg (by unfold isOn; omega), if_neg (by unfold isSet; omega)]
    have h2 : mostF a.code = 35 := by unfold mostF; rw [h]; rfl
    omega
theorem read_any (a : AskD) (b : List UInt8) (s : AskS) (A : Option Addr) (N c : Nat) (w : World) (ha : AskRd w a s) (hb : Rd w A N (b.map cB)) (hcp : N ≤ c ∧ c ≤ 9223372036854775807) (hK : checkF a = 0) (hl : lenR a = N) :
    Calls Tryz.prog 104 #[askV a s, .slice A N c] w (RetRR w (readR a b)) := by
  have hc := codeP_cases (checkF_parts a hK).1
  obtain ⟨m1, m2, m3⟩ := many_parts hK
  have hp := (checkF_parts a hK).2.2.2.2.2.2.2
  by_cases h1 : a.code = 1 ∨ a.code = 2
  · have := m1 h1
    rw [lenR1 h1] at hl
    have := need_le (n := a.count.toNat) (by omega)
    have h3 : 1 ≤ need a.count.toNat := by unfold need; omega
    exact read_bits a b s A N c w hb hcp h1 (by omega) (by omega) (by omega)
  by_cases h2 : a.code = 3 ∨ a.code = 4
  · have := m2 h2
    rw [lenR3 h2] at hl
    exact read_words a b s A N c w hb hcp h2 (by omega) (by omega) (by omega)
  by_cases h3 : a.code = 20
  · have := m3 h3
    rw [lenR20 h3] at hl
    obtain ⟨q1, q2⟩ := partsF_zero hp
    have q3 := sumP_nonneg q1
    exact read_files a b s A N c w ha hb hcp h3 hp (by omega) (by omega) (by omega) (by omega)
  · have hpl : ¬ plainC a.code := by unfold plainC; omega
    rw [lenR5 hpl] at hl
    subst hl
    rw [readR_echo hpl]
    exact read_write a b s A c w ha hb hK (by omega)

theorem replyGet_any (a : AskD) (b : List UInt8) (s : AskS) (A : Option Addr) (N c : Nat) (w : World) (ha : AskRd w a s) (hb : Rd w A N (b.map cB)) (hcp : N ≤ c ∧ c ≤ 9223372036854775807) (hN : N ≤ 140737488355328) :
    Calls Tryz.prog 70 #[askV a s, .slice A N c] w (RetGR w (getR a b)) := by
  have hbl := hb.length
  have HC := Lib.hid (fun W (hX : Ext w W) => check_any a s W (ha.ext hX))
  have HE := Lib.hid (fun W (hX : Ext w W) => exception_any b A N c W (hb.ext hX) hN)
  by_cases hK : checkF a = 0
  · have HL := Lib.hid (fun W (hX : Ext w W) => length_any a s W (ha.ext hX) hK)
    have HRD := fun (h : lenR a = N) => Lib.hid (fun W (hX : Ext w W) => read_any a b s A N c W (ha.ext hX) (hb.ext hX) hcp hK h)
    have hcl := code_lt hK
    rw [hK] at HC
    unfold getR
    rw [if_neg (by simpa using hK)]
    by_cases h0 : N = 0
    · rw [if_pos (by omega)]
      obtain ⟨code, addr, count, on, set, parts⟩ := a
      obtain ⟨A1, n1, c1, A2, n2, c2, A3, n3, c3⟩ := s
      exact rget_nil code addr count A1 A2 A3 n1 c1 n2 c2 n3 c3 w A N c HC h0
    · rw [if_neg (by omega)]
      obtain ⟨bk, off, hA, hbk, hcl0⟩ := hb.2 (by omega)
      obtain ⟨x0, r, rfl⟩ : ∃ x0 r, b = x0 :: r := by
        cases b with
        | nil => simp at hbl; omega
        | cons x r => exact ⟨x, r, rfl⟩
      have hc0 := hcl0 0 _ rfl
      rw [Nat.add_zero] at hc0
      have hb0 : b0 (x0 :: r) = x0.toNat := rfl
      have hx0 := x0.toNat_lt
      have hN0 : ((N : Int) == 0) = false := by simp; omega
      have w1 : IntKind.i64.wrap (x0.toNat : Int) = (x0.toNat : Int) := IntWalk.i64_in _ (by omega)
      have w2 : IntKind.i64.wrap (a.code + 128) = a.code + 128 := IntWalk.i64_in _ (by omega)
      have w3 : IntKind.i64.wrap a.code = a.code := IntWalk.i64_in _ (by omega)
      have w4 : wrap64 (x0.toNat : Int) = (x0.toNat : Int) := IntWalk.wrap64_in _ (by omega)
      have w5 : wrap64 (a.code + 128) = a.code + 128 := IntWalk.wrap64_in _ (by omega)
      rw [hb0]
      by_cases h1 : (x0.toNat : Int) = a.code + 128
      · rw [if_pos h1]
        have e1 : (IntKind.i64.wrap (x0.toNat : Int) == IntKind.i64.wrap (a.code + 128)) = true := by rw [w1, w2]; simpa using h1
        have e2 : (wrap64 (x0.toNat : Int) == wrap64 (a.code + 128)) = true := by rw [w4, w5]; simpa using h1
        obtain ⟨code, addr, count, on, set, parts⟩ := a
        obtain ⟨A1, n1, c1, A2, n2, c2, A3, n3, c3⟩ := s
        exact rget_ex code addr count A1 A2 A3 n1 c1 n2 c2 n3 c3 w A N c HC x0.toNat bk off hA (by omega) hN0 hbk hc0 e1 e2 _ HE
      · rw [if_neg h1]
        have e1 : (IntKind.i64.wrap (x0.toNat : Int) == IntKind.i64.wrap (a.code + 128)) = false := by rw [w1, w2]; simpa using h1
        have e2 : (wrap64 (x0.toNat : Int) == wrap64 (a.code + 128)) = false := by rw [w4, w5]; simpa using h1
        by_cases h2 : (x0.toNat : Int) ≠ a.code
        · rw [if_pos h2]
          have e3 : (IntKind.i64.wrap (x0.toNat : Int) != IntKind.i64.wrap a.code) = true := by rw [w1, w3]; simpa using h2
          have e4 : (wrap64 (x0.toNat : Int) != a.code) = true := by rw [w4]; simpa using h2
          obtain ⟨code, addr, count, on, set, parts⟩ := a
          obtain ⟨A1, n1, c1, A2, n2, c2, A3, n3, c3⟩ := s
          exact rget_code code addr count A1 A2 A3 n1 c1 n2 c2 n3 c3 w A N c HC x0.toNat bk off hA (by omega) hN0 hbk hc0 e1 e2 e3 e4
        · rw [if_neg h2]
          have e3 : (IntKind.i64.wrap (x0.toNat : Int) != IntKind.i64.wrap a.code) = false := by rw [w1, w3]; simpa using h2
          have e4 : (wrap64 (x0.toNat : Int) != a.code) = false := by rw [w4]; simpa using h2
          by_cases h3 : (x0 :: r).length < lenR a
          · rw [if_pos h3]
            obtain ⟨code, addr, count, on, set, parts⟩ := a
            obtain ⟨A1, n1, c1, A2, n2, c2, A3, n3, c3⟩ := s
            exact rget_short code addr count A1 A2 A3 n1 c1 n2 c2 n3 c3 w A N c HC x0.toNat bk off hA (by omega) hN0 hbk hc0 e1 e2 e3 e4 _ HL (by omega)
          · rw [if_neg h3]
            by_cases h4 : lenR a < (x0 :: r).length
            · rw [if_pos h4]
              obtain ⟨code, addr, count, on, set, parts⟩ := a
              obtain ⟨A1, n1, c1, A2, n2, c2, A3, n3, c3⟩ := s
              exact rget_long code addr count A1 A2 A3 n1 c1 n2 c2 n3 c3 w A N c HC x0.toNat bk off hA (by omega) hN0 hbk hc0 e1 e2 e3 e4 _ HL (by omega)
            · rw [if_neg h4]
              have hlN : lenR a = N := by omega
              have HR := HRD hlN
              cases hrr : readR a (x0 :: r) with
              | none =>
                rw [hrr] at HR
                obtain ⟨code, addr, count, on, set, parts⟩ := a
                obtain ⟨A1, n1, c1, A2, n2, c2, A3, n3, c3⟩ := s
                exact rget_form code addr count A1 A2 A3 n1 c1 n2 c2 n3 c3 w A N c HC x0.toNat bk off hA (by omega) hN0 hbk hc0 e1 e2 e3 e4 _ HL hlN HR
              | some r1 =>
                rw [hrr] at HR
                obtain ⟨code, addr, count, on, set, parts⟩ := a
                obtain ⟨A1, n1, c1, A2, n2, c2, A3, n3, c3⟩ := s
                exact rget_ok code addr count A1 A2 A3 n1 c1 n2 c2 n3 c3 w A N c HC x0.toNat bk off hA (by omega) hN0 hbk hc0 e1 e2 e3 e4 _ HL hlN r1 HR
  · unfold getR
    rw [if_pos hK]
    have hne : (checkF a != 0) = true := by simpa using hK
    obtain ⟨code, addr, count, on, set, parts⟩ := a
    obtain ⟨A1, n1, c1, A2, n2, c2, A3, n3, c3⟩ := s
    exact rget_no code addr count A1 A2 A3 n1 c1 n2 c2 n3 c3 w A N c _ hne HC
end Go.Proofs.YtomcipkmohhpjaaGreat
