/- Contract of reply.Get, given what reply.read hands back. (genrepget.py prints this.) -/
import Derived.Test.YtpjmhckdeeonbaaRepF
import Derived.BigQuiet
import Derived.Deep.QuietTactic
namespace Go.Proofs.Ytpjmhckdeeonbaa
set_option linter.unusedVariables false
set_option linter.unusedSimpArgs false
set_option maxRecDepth 100000
set_option maxHeartbeats 2000000
open Go Go.RowKit Go.Out

theorem rget_no (code addr count : Int) (A1 A2 A3 : Option Addr) (n1 c1 n2 c2 n3 c3 : Nat) (w : World) (A : Option Addr) (N c : Nat) (K : Int) (hK : (K != 0) = true) (HC : Hid (∀ W, Ext w W → Calls Try.prog 52 #[.agg #[.int .i64 code, .int .i64 addr, .int .i64 count, .slice A1 n1 c1, .slice A2 n2 c2, .slice A3 n3 c3]] W (RetI W K))) :
    Calls Try.prog 28 #[.agg #[.int .i64 code, .int .i64 addr, .int .i64 count, .slice A1 n1 c1, .slice A2 n2 c2, .slice A3 n3 c3], .slice A N c] w (RetGR w (rep0, K)) := by
  have HB := Lib.hid (two_boxes w #[.int .i64 code, .int .i64 addr, .int .i64 count, .slice A1 n1 c1, .slice A2 n2 c2, .slice A3 n3 c3] #[.int .i64 0, .slice none 0 0, .slice none 0 0, .slice none 0 0] 26 29)
  go_enter Try.func28, Try.ntmps28
  go_wp2_with fail
  refine (HC.out _ (ext_pair _ _ _)).mono ?_
  rintro e w1 ⟨rfl, hx1⟩
  have Y1 := Lib.hid hx1
  clear hx1
  obtain ⟨hb1, hb2⟩ := HB.out _ Y1.out
  obtain ⟨d0, d1, d2, d3, d4, d5⟩ := cells6 hb1
  obtain ⟨p0, p1, p2, p3⟩ := cells4 hb2
  have k0 := frozen_of_row _ _ 0 _ _ hb2
  have k1 := frozen_of_row _ _ 1 _ _ hb2
  have k2 := frozen_of_row _ _ 2 _ _ hb2
  have k3 := frozen_of_row _ _ 3 _ _ hb2
  have X1 := Lib.hid ((ext_pair _ _ _).trans Y1.out)
  have HS := Lib.hid (show w.heap.size + 2 ≤ _ from by have := Y1.out.size; simpa using this)
  clear hb1 hb2
  go_wp2_with fail
  refine bodyPost_ret (v := .tuple #[repV rep0 repS0, .int .i64 K]) (by simp [results, Try.results28, go_sem, repV, rep0, repS0, *]) rfl ⟨repS0, rfl, repOw0 _ _, ?_⟩
  repeat' (first | with_reducible exact X1.out | with_reducible refine Ext.drewN' ?_ _ | with_reducible refine Ext.drew' ?_ | with_reducible refine Ext.alloc' ?_ _ | with_reducible refine Ext.set' ?_ (by simp <;> omega) _)
theorem rget_nil (code addr count : Int) (A1 A2 A3 : Option Addr) (n1 c1 n2 c2 n3 c3 : Nat) (w : World) (A : Option Addr) (N c : Nat) (HC : Hid (∀ W, Ext w W → Calls Try.prog 52 #[.agg #[.int .i64 code, .int .i64 addr, .int .i64 count, .slice A1 n1 c1, .slice A2 n2 c2, .slice A3 n3 c3]] W (RetI W 0))) (hN : N = 0) :
    Calls Try.prog 28 #[.agg #[.int .i64 code, .int .i64 addr, .int .i64 count, .slice A1 n1 c1, .slice A2 n2 c2, .slice A3 n3 c3], .slice A N c] w (RetGR w (rep0, 1)) := by
  subst hN
  have HB := Lib.hid (two_boxes w #[.int .i64 code, .int .i64 addr, .int .i64 count, .slice A1 n1 c1, .slice A2 n2 c2, .slice A3 n3 c3] #[.int .i64 0, .slice none 0 0, .slice none 0 0, .slice none 0 0] 26 29)
  go_enter Try.func28, Try.ntmps28
  go_wp2_with fail
  refine (HC.out _ (ext_pair _ _ _)).mono ?_
  rintro e w1 ⟨rfl, hx1⟩
  have Y1 := Lib.hid hx1
  clear hx1
  obtain ⟨hb1, hb2⟩ := HB.out _ Y1.out
  obtain ⟨d0, d1, d2, d3, d4, d5⟩ := cells6 hb1
  obtain ⟨p0, p1, p2, p3⟩ := cells4 hb2
  have k0 := frozen_of_row _ _ 0 _ _ hb2
  have k1 := frozen_of_row _ _ 1 _ _ hb2
  have k2 := frozen_of_row _ _ 2 _ _ hb2
  have k3 := frozen_of_row _ _ 3 _ _ hb2
  have X1 := Lib.hid ((ext_pair _ _ _).trans Y1.out)
  have HS := Lib.hid (show w.heap.size + 2 ≤ _ from by have := Y1.out.size; simpa using this)
  clear hb1 hb2
  go_wp2_with fail
  refine bodyPost_ret (v := .tuple #[repV rep0 repS0, .int .i64 1]) (by simp [results, Try.results28, go_sem, repV, rep0, repS0, *]) rfl ⟨repS0, rfl, repOw0 _ _, ?_⟩
  repeat' (first | with_reducible exact X1.out | with_reducible refine Ext.drewN' ?_ _ | with_reducible refine Ext.drew' ?_ | with_reducible refine Ext.alloc' ?_ _ | with_reducible refine Ext.set' ?_ (by simp <;> omega) _)
theorem rget_ex (code addr count : Int) (A1 A2 A3 : Option Addr) (n1 c1 n2 c2 n3 c3 : Nat) (w : World) (A : Option Addr) (N c : Nat) (HC : Hid (∀ W, Ext w W → Calls Try.prog 52 #[.agg #[.int .i64 code, .int .i64 addr, .int .i64 count, .slice A1 n1 c1, .slice A2 n2 c2, .slice A3 n3 c3]] W (RetI W 0)))(x0 : Nat) (bk off : Nat) (hA : A = some ⟨bk, off, none⟩) (hN : 0 < N) (hN0 : ((N : Int) == 0) = false) (hbk : bk < w.heap.size) (hc0 : w.cell? ⟨bk, off, none⟩ = some (.int .u8 (x0 : Int))) (hex : (IntKind.i64.wrap (x0 : Int) == IntKind.i64.wrap (code + 128)) = true) (hexw : (wrap64 (x0 : Int) == wrap64 (code + 128)) = true) (R : RepD × Int) (HE : Hid (∀ W, Ext w W → Calls Try.prog 77 #[.slice A N c] W (RetGR W R))) :
    Calls Try.prog 28 #[.agg #[.int .i64 code, .int .i64 addr, .int .i64 count, .slice A1 n1 c1, .slice A2 n2 c2, .slice A3 n3 c3], .slice A N c] w (RetGR w R) := by
  have HB := Lib.hid (two_boxes w #[.int .i64 code, .int .i64 addr, .int .i64 count, .slice A1 n1 c1, .slice A2 n2 c2, .slice A3 n3 c3] #[.int .i64 0, .slice none 0 0, .slice none 0 0, .slice none 0 0] 26 29)
  subst hA
  have HC0 := Lib.hid (fun W (hX : Ext w W) => hX.cell hbk hc0)
  clear hc0
  go_enter Try.func28, Try.ntmps28
  go_wp2_with fail
  refine (HC.out _ (ext_pair _ _ _)).mono ?_
  rintro e w1 ⟨rfl, hx1⟩
  have Y1 := Lib.hid hx1
  clear hx1
  obtain ⟨hb1, hb2⟩ := HB.out _ Y1.out
  obtain ⟨d0, d1, d2, d3, d4, d5⟩ := cells6 hb1
  obtain ⟨p0, p1, p2, p3⟩ := cells4 hb2
  have k0 := frozen_of_row _ _ 0 _ _ hb2
  have k1 := frozen_of_row _ _ 1 _ _ hb2
  have k2 := frozen_of_row _ _ 2 _ _ hb2
  have k3 := frozen_of_row _ _ 3 _ _ hb2
  have X1 := Lib.hid ((ext_pair _ _ _).trans Y1.out)
  have HS := Lib.hid (show w.heap.size + 2 ≤ _ from by have := Y1.out.size; simpa using this)
  clear hb1 hb2
  have c0 := HC0.out _ X1.out
  go_wp2_with fail
  go_quiet (fail)
  go_wp2_with fail
  refine (HE.out _ (Ext.drewN' X1.out _)).mono ?_
  rintro e w2 ⟨t, rfl, how, hx2⟩
  replace Y1 := Lib.hid ((Ext.drewN' Y1.out _).trans hx2)
  have HO := Lib.hid (how.mono (show w.heap.size + 2 ≤ _ from HS.out))
  clear how hx2 X1 d0 d1 d2 d3 d4 d5 p0 p1 p2 p3 k0 k1 k2 k3 c0
  obtain ⟨r1, r2⟩ := R
  simp only at HO ⊢
  obtain ⟨hb1, hb2⟩ := HB.out _ Y1.out
  obtain ⟨d0, d1, d2, d3, d4, d5⟩ := cells6 hb1
  obtain ⟨p0, p1, p2, p3⟩ := cells4 hb2
  have k0 := frozen_of_row _ _ 0 _ _ hb2
  have k1 := frozen_of_row _ _ 1 _ _ hb2
  have k2 := frozen_of_row _ _ 2 _ _ hb2
  have k3 := frozen_of_row _ _ 3 _ _ hb2
  have X1 := Lib.hid ((ext_pair _ _ _).trans Y1.out)
  have HS := Lib.hid (show w.heap.size + 2 ≤ _ from by have := Y1.out.size; simpa using this)
  clear hb1 hb2
  simp only [repV]
  go_wp2_with fail
  refine bodyPost_ret (v := .tuple #[repV r1 t, .int .i64 r2]) (by simp [results, Try.results28, go_sem, repV, rep0, repS0, *]) rfl ⟨t, rfl, ?_, ?_⟩
  · refine RepOw.mono (base := w.heap.size + 2) ?_ (by omega)
    repeat' (first | with_reducible exact HO.out | with_reducible refine RepOw.set_below ?_ (by simp) _)
  · repeat' (first | with_reducible exact X1.out | with_reducible refine Ext.drewN' ?_ _ | with_reducible refine Ext.drew' ?_ | with_reducible refine Ext.alloc' ?_ _ | with_reducible refine Ext.set' ?_ (by simp <;> omega) _)
theorem rget_code (code addr count : Int) (A1 A2 A3 : Option Addr) (n1 c1 n2 c2 n3 c3 : Nat) (w : World) (A : Option Addr) (N c : Nat) (HC : Hid (∀ W, Ext w W → Calls Try.prog 52 #[.agg #[.int .i64 code, .int .i64 addr, .int .i64 count, .slice A1 n1 c1, .slice A2 n2 c2, .slice A3 n3 c3]] W (RetI W 0)))(x0 : Nat) (bk off : Nat) (hA : A = some ⟨bk, off, none⟩) (hN : 0 < N) (hN0 : ((N : Int) == 0) = false) (hbk : bk < w.heap.size) (hc0 : w.cell? ⟨bk, off, none⟩ = some (.int .u8 (x0 : Int))) (hex : (IntKind.i64.wrap (x0 : Int) == IntKind.i64.wrap (code + 128)) = false) (hexw : (wrap64 (x0 : Int) == wrap64 (code + 128)) = false) (hce : (IntKind.i64.wrap (x0 : Int) != IntKind.i64.wrap code) = true) (hcew : (wrap64 (x0 : Int) != code) = true) :
    Calls Try.prog 28 #[.agg #[.int .i64 code, .int .i64 addr, .int .i64 count, .slice A1 n1 c1, .slice A2 n2 c2, .slice A3 n3 c3], .slice A N c] w (RetGR w (rep0, 20)) := by
  have HB := Lib.hid (two_boxes w #[.int .i64 code, .int .i64 addr, .int .i64 count, .slice A1 n1 c1, .slice A2 n2 c2, .slice A3 n3 c3] #[.int .i64 0, .slice none 0 0, .slice none 0 0, .slice none 0 0] 26 29)
  subst hA
  have HC0 := Lib.hid (fun W (hX : Ext w W) => hX.cell hbk hc0)
  clear hc0
  go_enter Try.func28, Try.ntmps28
  go_wp2_with fail
  refine (HC.out _ (ext_pair _ _ _)).mono ?_
  rintro e w1 ⟨rfl, hx1⟩
  have Y1 := Lib.hid hx1
  clear hx1
  obtain ⟨hb1, hb2⟩ := HB.out _ Y1.out
  obtain ⟨d0, d1, d2, d3, d4, d5⟩ := cells6 hb1
  obtain ⟨p0, p1, p2, p3⟩ := cells4 hb2
  have k0 := frozen_of_row _ _ 0 _ _ hb2
  have k1 := frozen_of_row _ _ 1 _ _ hb2
  have k2 := frozen_of_row _ _ 2 _ _ hb2
  have k3 := frozen_of_row _ _ 3 _ _ hb2
  have X1 := Lib.hid ((ext_pair _ _ _).trans Y1.out)
  have HS := Lib.hid (show w.heap.size + 2 ≤ _ from by have := Y1.out.size; simpa using this)
  clear hb1 hb2
  have c0 := HC0.out _ X1.out
  go_wp2_with fail
  go_quiet (fail)
  go_wp2_with fail
  go_quiet (fail)
  go_wp2_with fail
  refine bodyPost_ret (v := .tuple #[repV rep0 repS0, .int .i64 20]) (by simp [results, Try.results28, go_sem, repV, rep0, repS0, *]) rfl ⟨repS0, rfl, repOw0 _ _, ?_⟩
  repeat' (first | with_reducible exact X1.out | with_reducible refine Ext.drewN' ?_ _ | with_reducible refine Ext.drew' ?_ | with_reducible refine Ext.alloc' ?_ _ | with_reducible refine Ext.set' ?_ (by simp <;> omega) _)
theorem rget_short (code addr count : Int) (A1 A2 A3 : Option Addr) (n1 c1 n2 c2 n3 c3 : Nat) (w : World) (A : Option Addr) (N c : Nat) (HC : Hid (∀ W, Ext w W → Calls Try.prog 52 #[.agg #[.int .i64 code, .int .i64 addr, .int .i64 count, .slice A1 n1 c1, .slice A2 n2 c2, .slice A3 n3 c3]] W (RetI W 0)))(x0 : Nat) (bk off : Nat) (hA : A = some ⟨bk, off, none⟩) (hN : 0 < N) (hN0 : ((N : Int) == 0) = false) (hbk : bk < w.heap.size) (hc0 : w.cell? ⟨bk, off, none⟩ = some (.int .u8 (x0 : Int))) (hex : (IntKind.i64.wrap (x0 : Int) == IntKind.i64.wrap (code + 128)) = false) (hexw : (wrap64 (x0 : Int) == wrap64 (code + 128)) = false) (hce : (IntKind.i64.wrap (x0 : Int) != IntKind.i64.wrap code) = false) (hcew : (wrap64 (x0 : Int) != code) = false)(L : Nat) (HL : Hid (∀ W, Ext w W → Calls Try.prog 78 #[.agg #[.int .i64 code, .int .i64 addr, .int .i64 count, .slice A1 n1 c1, .slice A2 n2 c2, .slice A3 n3 c3]] W (RetI W (L : Nat)))) (hs : (N : Int) < (L : Int)) :
    Calls Try.prog 28 #[.agg #[.int .i64 code, .int .i64 addr, .int .i64 count, .slice A1 n1 c1, .slice A2 n2 c2, .slice A3 n3 c3], .slice A N c] w (RetGR w (rep0, 1)) := by
  have HB := Lib.hid (two_boxes w #[.int .i64 code, .int .i64 addr, .int .i64 count, .slice A1 n1 c1, .slice A2 n2 c2, .slice A3 n3 c3] #[.int .i64 0, .slice none 0 0, .slice none 0 0, .slice none 0 0] 26 29)
  subst hA
  have HC0 := Lib.hid (fun W (hX : Ext w W) => hX.cell hbk hc0)
  clear hc0
  go_enter Try.func28, Try.ntmps28
  go_wp2_with fail
  refine (HC.out _ (ext_pair _ _ _)).mono ?_
  rintro e w1 ⟨rfl, hx1⟩
  have Y1 := Lib.hid hx1
  clear hx1
  obtain ⟨hb1, hb2⟩ := HB.out _ Y1.out
  obtain ⟨d0, d1, d2, d3, d4, d5⟩ := cells6 hb1
  obtain ⟨p0, p1, p2, p3⟩ := cells4 hb2
  have k0 := frozen_of_row _ _ 0 _ _ hb2
  have k1 := frozen_of_row _ _ 1 _ _ hb2
  have k2 := frozen_of_row _ _ 2 _ _ hb2
  have k3 := frozen_of_row _ _ 3 _ _ hb2
  have X1 := Lib.hid ((ext_pair _ _ _).trans Y1.out)
  have HS := Lib.hid (show w.heap.size + 2 ≤ _ from by have := Y1.out.size; simpa using this)
  clear hb1 hb2
  have c0 := HC0.out _ X1.out
  go_wp2_with fail
  go_quiet (fail)
  go_wp2_with fail
  go_quiet (fail)
  go_wp2_with fail
  refine (HL.out _ (Ext.drewN' X1.out _)).mono ?_
  rintro e wl1 ⟨rfl, hx⟩
  replace Y1 := Lib.hid ((Ext.drewN' Y1.out _).trans hx)
  clear hx X1 d0 d1 d2 d3 d4 d5 p0 p1 p2 p3 k0 k1 k2 k3 c0
  obtain ⟨hb1, hb2⟩ := HB.out _ Y1.out
  obtain ⟨d0, d1, d2, d3, d4, d5⟩ := cells6 hb1
  obtain ⟨p0, p1, p2, p3⟩ := cells4 hb2
  have k0 := frozen_of_row _ _ 0 _ _ hb2
  have k1 := frozen_of_row _ _ 1 _ _ hb2
  have k2 := frozen_of_row _ _ 2 _ _ hb2
  have k3 := frozen_of_row _ _ 3 _ _ hb2
  have X1 := Lib.hid ((ext_pair _ _ _).trans Y1.out)
  have HS := Lib.hid (show w.heap.size + 2 ≤ _ from by have := Y1.out.size; simpa using this)
  clear hb1 hb2
  have c0 := HC0.out _ X1.out
  go_wp2_with fail
  refine bodyPost_ret (v := .tuple #[repV rep0 repS0, .int .i64 1]) (by simp [results, Try.results28, go_sem, repV, rep0, repS0, *]) rfl ⟨repS0, rfl, repOw0 _ _, ?_⟩
  repeat' (first | with_reducible exact X1.out | with_reducible refine Ext.drewN' ?_ _ | with_reducible refine Ext.drew' ?_ | with_reducible refine Ext.alloc' ?_ _ | with_reducible refine Ext.set' ?_ (by simp <;> omega) _)
theorem rget_long (code addr count : Int) (A1 A2 A3 : Option Addr) (n1 c1 n2 c2 n3 c3 : Nat) (w : World) (A : Option Addr) (N c : Nat) (HC : Hid (∀ W, Ext w W → Calls Try.prog 52 #[.agg #[.int .i64 code, .int .i64 addr, .int .i64 count, .slice A1 n1 c1, .slice A2 n2 c2, .slice A3 n3 c3]] W (RetI W 0)))(x0 : Nat) (bk off : Nat) (hA : A = some ⟨bk, off, none⟩) (hN : 0 < N) (hN0 : ((N : Int) == 0) = false) (hbk : bk < w.heap.size) (hc0 : w.cell? ⟨bk, off, none⟩ = some (.int .u8 (x0 : Int))) (hex : (IntKind.i64.wrap (x0 : Int) == IntKind.i64.wrap (code + 128)) = false) (hexw : (wrap64 (x0 : Int) == wrap64 (code + 128)) = false) (hce : (IntKind.i64.wrap (x0 : Int) != IntKind.i64.wrap code) = false) (hcew : (wrap64 (x0 : Int) != code) = false)(L : Nat) (HL : Hid (∀ W, Ext w W → Calls Try.prog 78 #[.agg #[.int .i64 code, .int .i64 addr, .int .i64 count, .slice A1 n1 c1, .slice A2 n2 c2, .slice A3 n3 c3]] W (RetI W (L : Nat)))) (hs : (L : Int) < (N : Int)) :
    Calls Try.prog 28 #[.agg #[.int .i64 code, .int .i64 addr, .int .i64 count, .slice A1 n1 c1, .slice A2 n2 c2, .slice A3 n3 c3], .slice A N c] w (RetGR w (rep0, 2)) := by
  have HB := Lib.hid (two_boxes w #[.int .i64 code, .int .i64 addr, .int .i64 count, .slice A1 n1 c1, .slice A2 n2 c2, .slice A3 n3 c3] #[.int .i64 0, .slice none 0 0, .slice none 0 0, .slice none 0 0] 26 29)
  subst hA
  have HC0 := Lib.hid (fun W (hX : Ext w W) => hX.cell hbk hc0)
  clear hc0
  go_enter Try.func28, Try.ntmps28
  go_wp2_with fail
  refine (HC.out _ (ext_pair _ _ _)).mono ?_
  rintro e w1 ⟨rfl, hx1⟩
  have Y1 := Lib.hid hx1
  clear hx1
  obtain ⟨hb1, hb2⟩ := HB.out _ Y1.out
  obtain ⟨d0, d1, d2, d3, d4, d5⟩ := cells6 hb1
  obtain ⟨p0, p1, p2, p3⟩ := cells4 hb2
  have k0 := frozen_of_row _ _ 0 _ _ hb2
  have k1 := frozen_of_row _ _ 1 _ _ hb2
  have k2 := frozen_of_row _ _ 2 _ _ hb2
  have k3 := frozen_of_row _ _ 3 _ _ hb2
  have X1 := Lib.hid ((ext_pair _ _ _).trans Y1.out)
  have HS := Lib.hid (show w.heap.size + 2 ≤ _ from by have := Y1.out.size; simpa using this)
  clear hb1 hb2
  have c0 := HC0.out _ X1.out
  go_wp2_with fail
  go_quiet (fail)
  go_wp2_with fail
  go_quiet (fail)
  go_wp2_with fail
  refine (HL.out _ (Ext.drewN' X1.out _)).mono ?_
  rintro e wl1 ⟨rfl, hx⟩
  replace Y1 := Lib.hid ((Ext.drewN' Y1.out _).trans hx)
  clear hx X1 d0 d1 d2 d3 d4 d5 p0 p1 p2 p3 k0 k1 k2 k3 c0
  obtain ⟨hb1, hb2⟩ := HB.out _ Y1.out
  obtain ⟨d0, d1, d2, d3, d4, d5⟩ := cells6 hb1
  obtain ⟨p0, p1, p2, p3⟩ := cells4 hb2
  have k0 := frozen_of_row _ _ 0 _ _ hb2
  have k1 := frozen_of_row _ _ 1 _ _ hb2
  have k2 := frozen_of_row _ _ 2 _ _ hb2
  have k3 := frozen_of_row _ _ 3 _ _ hb2
  have X1 := Lib.hid ((ext_pair _ _ _).trans Y1.out)
  have HS := Lib.hid (show w.heap.size + 2 ≤ _ from by have := Y1.out.size; simpa using this)
  clear hb1 hb2
  have c0 := HC0.out _ X1.out
  go_wp2_with fail
  refine (HL.out _ X1.out).mono ?_
  rintro e wl2 ⟨rfl, hx⟩
  replace Y1 := Lib.hid (Y1.out.trans hx)
  clear hx X1 d0 d1 d2 d3 d4 d5 p0 p1 p2 p3 k0 k1 k2 k3 c0
  obtain ⟨hb1, hb2⟩ := HB.out _ Y1.out
  obtain ⟨d0, d1, d2, d3, d4, d5⟩ := cells6 hb1
  obtain ⟨p0, p1, p2, p3⟩ := cells4 hb2
  have k0 := frozen_of_row _ _ 0 _ _ hb2
  have k1 := frozen_of_row _ _ 1 _ _ hb2
  have k2 := frozen_of_row _ _ 2 _ _ hb2
  have k3 := frozen_of_row _ _ 3 _ _ hb2
  have X1 := Lib.hid ((ext_pair _ _ _).trans Y1.out)
  have HS := Lib.hid (show w.heap.size + 2 ≤ _ from by have := Y1.out.size; simpa using this)
  clear hb1 hb2
  go_wp2_with fail
  refine bodyPost_ret (v := .tuple #[repV rep0 repS0, .int .i64 2]) (by simp [results, Try.results28, go_sem, repV, rep0, repS0, *]) rfl ⟨repS0, rfl, repOw0 _ _, ?_⟩
  repeat' (first | with_reducible exact X1.out | with_reducible refine Ext.drewN' ?_ _ | with_reducible refine Ext.drew' ?_ | with_reducible refine Ext.alloc' ?_ _ | with_reducible refine Ext.set' ?_ (by simp <;> omega) _)
theorem rget_form (code addr count : Int) (A1 A2 A3 : Option Addr) (n1 c1 n2 c2 n3 c3 : Nat) (w : World) (A : Option Addr) (N c : Nat) (HC : Hid (∀ W, Ext w W → Calls Try.prog 52 #[.agg #[.int .i64 code, .int .i64 addr, .int .i64 count, .slice A1 n1 c1, .slice A2 n2 c2, .slice A3 n3 c3]] W (RetI W 0)))(x0 : Nat) (bk off : Nat) (hA : A = some ⟨bk, off, none⟩) (hN : 0 < N) (hN0 : ((N : Int) == 0) = false) (hbk : bk < w.heap.size) (hc0 : w.cell? ⟨bk, off, none⟩ = some (.int .u8 (x0 : Int))) (hex : (IntKind.i64.wrap (x0 : Int) == IntKind.i64.wrap (code + 128)) = false) (hexw : (wrap64 (x0 : Int) == wrap64 (code + 128)) = false) (hce : (IntKind.i64.wrap (x0 : Int) != IntKind.i64.wrap code) = false) (hcew : (wrap64 (x0 : Int) != code) = false)(L : Nat) (HL : Hid (∀ W, Ext w W → Calls Try.prog 78 #[.agg #[.int .i64 code, .int .i64 addr, .int .i64 count, .slice A1 n1 c1, .slice A2 n2 c2, .slice A3 n3 c3]] W (RetI W (L : Nat)))) (hs : L = N) (HR : Hid (∀ W, Ext w W → Calls Try.prog 79 #[.agg #[.int .i64 code, .int .i64 addr, .int .i64 count, .slice A1 n1 c1, .slice A2 n2 c2, .slice A3 n3 c3], .slice A N c] W (RetRR W none))) :
    Calls Try.prog 28 #[.agg #[.int .i64 code, .int .i64 addr, .int .i64 count, .slice A1 n1 c1, .slice A2 n2 c2, .slice A3 n3 c3], .slice A N c] w (RetGR w (rep0, 4)) := by
  subst hs
  have HB := Lib.hid (two_boxes w #[.int .i64 code, .int .i64 addr, .int .i64 count, .slice A1 n1 c1, .slice A2 n2 c2, .slice A3 n3 c3] #[.int .i64 0, .slice none 0 0, .slice none 0 0, .slice none 0 0] 26 29)
  subst hA
  have HC0 := Lib.hid (fun W (hX : Ext w W) => hX.cell hbk hc0)
  clear hc0
  go_enter Try.func28, Try.ntmps28
  go_wp2_with fail
  refine (HC.out _ (ext_pair _ _ _)).mono ?_
  rintro e w1 ⟨rfl, hx1⟩
  have Y1 := Lib.hid hx1
  clear hx1
  obtain ⟨hb1, hb2⟩ := HB.out _ Y1.out
  obtain ⟨d0, d1, d2, d3, d4, d5⟩ := cells6 hb1
  obtain ⟨p0, p1, p2, p3⟩ := cells4 hb2
  have k0 := frozen_of_row _ _ 0 _ _ hb2
  have k1 := frozen_of_row _ _ 1 _ _ hb2
  have k2 := frozen_of_row _ _ 2 _ _ hb2
  have k3 := frozen_of_row _ _ 3 _ _ hb2
  have X1 := Lib.hid ((ext_pair _ _ _).trans Y1.out)
  have HS := Lib.hid (show w.heap.size + 2 ≤ _ from by have := Y1.out.size; simpa using this)
  clear hb1 hb2
  have c0 := HC0.out _ X1.out
  go_wp2_with fail
  go_quiet (fail)
  go_wp2_with fail
  go_quiet (fail)
  go_wp2_with fail
  refine (HL.out _ (Ext.drewN' X1.out _)).mono ?_
  rintro e wl1 ⟨rfl, hx⟩
  replace Y1 := Lib.hid ((Ext.drewN' Y1.out _).trans hx)
  clear hx X1 d0 d1 d2 d3 d4 d5 p0 p1 p2 p3 k0 k1 k2 k3 c0
  obtain ⟨hb1, hb2⟩ := HB.out _ Y1.out
  obtain ⟨d0, d1, d2, d3, d4, d5⟩ := cells6 hb1
  obtain ⟨p0, p1, p2, p3⟩ := cells4 hb2
  have k0 := frozen_of_row _ _ 0 _ _ hb2
  have k1 := frozen_of_row _ _ 1 _ _ hb2
  have k2 := frozen_of_row _ _ 2 _ _ hb2
  have k3 := frozen_of_row _ _ 3 _ _ hb2
  have X1 := Lib.hid ((ext_pair _ _ _).trans Y1.out)
  have HS := Lib.hid (show w.heap.size + 2 ≤ _ from by have := Y1.out.size; simpa using this)
  clear hb1 hb2
  have c0 := HC0.out _ X1.out
  go_wp2_with fail
  refine (HL.out _ X1.out).mono ?_
  rintro e wl2 ⟨rfl, hx⟩
  replace Y1 := Lib.hid (Y1.out.trans hx)
  clear hx X1 d0 d1 d2 d3 d4 d5 p0 p1 p2 p3 k0 k1 k2 k3 c0
  obtain ⟨hb1, hb2⟩ := HB.out _ Y1.out
  obtain ⟨d0, d1, d2, d3, d4, d5⟩ := cells6 hb1
  obtain ⟨p0, p1, p2, p3⟩ := cells4 hb2
  have k0 := frozen_of_row _ _ 0 _ _ hb2
  have k1 := frozen_of_row _ _ 1 _ _ hb2
  have k2 := frozen_of_row _ _ 2 _ _ hb2
  have k3 := frozen_of_row _ _ 3 _ _ hb2
  have X1 := Lib.hid ((ext_pair _ _ _).trans Y1.out)
  have HS := Lib.hid (show w.heap.size + 2 ≤ _ from by have := Y1.out.size; simpa using this)
  clear hb1 hb2
  go_wp2_with fail
  refine (HR.out _ X1.out).mono ?_
  rintro e w2 ⟨hx2, x, t, rfl⟩
  replace Y1 := Lib.hid (Y1.out.trans hx2)
  clear hx2 X1 d0 d1 d2 d3 d4 d5 p0 p1 p2 p3 k0 k1 k2 k3
  obtain ⟨hb1, hb2⟩ := HB.out _ Y1.out
  obtain ⟨d0, d1, d2, d3, d4, d5⟩ := cells6 hb1
  obtain ⟨p0, p1, p2, p3⟩ := cells4 hb2
  have k0 := frozen_of_row _ _ 0 _ _ hb2
  have k1 := frozen_of_row _ _ 1 _ _ hb2
  have k2 := frozen_of_row _ _ 2 _ _ hb2
  have k3 := frozen_of_row _ _ 3 _ _ hb2
  have X1 := Lib.hid ((ext_pair _ _ _).trans Y1.out)
  have HS := Lib.hid (show w.heap.size + 2 ≤ _ from by have := Y1.out.size; simpa using this)
  have pa0 := fun o : Obj => (cells4 ((Ext.alloc w2 o).block hb2)).1
  have pa1 := fun o : Obj => (cells4 ((Ext.alloc w2 o).block hb2)).2.1
  have pa2 := fun o : Obj => (cells4 ((Ext.alloc w2 o).block hb2)).2.2.1
  have pa3 := fun o : Obj => (cells4 ((Ext.alloc w2 o).block hb2)).2.2.2
  have ka0 := fun o : Obj => frozen_of_row (w2.alloc o) _ 0 _ _ ((Ext.alloc w2 o).block hb2)
  have ka1 := fun o : Obj => frozen_of_row (w2.alloc o) _ 1 _ _ ((Ext.alloc w2 o).block hb2)
  have ka2 := fun o : Obj => frozen_of_row (w2.alloc o) _ 2 _ _ ((Ext.alloc w2 o).block hb2)
  have ka3 := fun o : Obj => frozen_of_row (w2.alloc o) _ 3 _ _ ((Ext.alloc w2 o).block hb2)
  clear hb1 hb2
  go_wp2_with fail
  refine bodyPost_ret (v := .tuple #[repV rep0 repS0, .int .i64 4]) (by simp [results, Try.results28, go_sem, repV, rep0, repS0, *]) rfl ⟨repS0, rfl, repOw0 _ _, ?_⟩
  repeat' (first | with_reducible exact X1.out | with_reducible refine Ext.drewN' ?_ _ | with_reducible refine Ext.drew' ?_ | with_reducible refine Ext.alloc' ?_ _ | with_reducible refine Ext.set' ?_ (by simp <;> omega) _)
theorem rget_ok (code addr count : Int) (A1 A2 A3 : Option Addr) (n1 c1 n2 c2 n3 c3 : Nat) (w : World) (A : Option Addr) (N c : Nat) (HC : Hid (∀ W, Ext w W → Calls Try.prog 52 #[.agg #[.int .i64 code, .int .i64 addr, .int .i64 count, .slice A1 n1 c1, .slice A2 n2 c2, .slice A3 n3 c3]] W (RetI W 0)))(x0 : Nat) (bk off : Nat) (hA : A = some ⟨bk, off, none⟩) (hN : 0 < N) (hN0 : ((N : Int) == 0) = false) (hbk : bk < w.heap.size) (hc0 : w.cell? ⟨bk, off, none⟩ = some (.int .u8 (x0 : Int))) (hex : (IntKind.i64.wrap (x0 : Int) == IntKind.i64.wrap (code + 128)) = false) (hexw : (wrap64 (x0 : Int) == wrap64 (code + 128)) = false) (hce : (IntKind.i64.wrap (x0 : Int) != IntKind.i64.wrap code) = false) (hcew : (wrap64 (x0 : Int) != code) = false)(L : Nat) (HL : Hid (∀ W, Ext w W → Calls Try.prog 78 #[.agg #[.int .i64 code, .int .i64 addr, .int .i64 count, .slice A1 n1 c1, .slice A2 n2 c2, .slice A3 n3 c3]] W (RetI W (L : Nat)))) (hs : L = N) (r1 : RepD) (HR : Hid (∀ W, Ext w W → Calls Try.prog 79 #[.agg #[.int .i64 code, .int .i64 addr, .int .i64 count, .slice A1 n1 c1, .slice A2 n2 c2, .slice A3 n3 c3], .slice A N c] W (RetRR W (some r1)))) :
    Calls Try.prog 28 #[.agg #[.int .i64 code, .int .i64 addr, .int .i64 count, .slice A1 n1 c1, .slice A2 n2 c2, .slice A3 n3 c3], .slice A N c] w (RetGR w (r1, 0)) := by
  subst hs
  have HB := Lib.hid (two_boxes w #[.int .i64 code, .int .i64 addr, .int .i64 count, .slice A1 n1 c1, .slice A2 n2 c2, .slice A3 n3 c3] #[.int .i64 0, .slice none 0 0, .slice none 0 0, .slice none 0 0] 26 29)
  subst hA
  have HC0 := Lib.hid (fun W (hX : Ext w W) => hX.cell hbk hc0)
  clear hc0
  go_enter Try.func28, Try.ntmps28
  go_wp2_with fail
  refine (HC.out _ (ext_pair _ _ _)).mono ?_
  rintro e w1 ⟨rfl, hx1⟩
  have Y1 := Lib.hid hx1
  clear hx1
  obtain ⟨hb1, hb2⟩ := HB.out _ Y1.out
  obtain ⟨d0, d1, d2, d3, d4, d5⟩ := cells6 hb1
  obtain ⟨p0, p1, p2, p3⟩ := cells4 hb2
  have k0 := frozen_of_row _ _ 0 _ _ hb2
  have k1 := frozen_of_row _ _ 1 _ _ hb2
  have k2 := frozen_of_row _ _ 2 _ _ hb2
  have k3 := frozen_of_row _ _ 3 _ _ hb2
  have X1 := Lib.hid ((ext_pair _ _ _).trans Y1.out)
  have HS := Lib.hid (show w.heap.size + 2 ≤ _ from by have := Y1.out.size; simpa using this)
  clear hb1 hb2
  have c0 := HC0.out _ X1.out
  go_wp2_with fail
  go_quiet (fail)
  go_wp2_with fail
  go_quiet (fail)
  go_wp2_with fail
  refine (HL.out _ (Ext.drewN' X1.out _)).mono ?_
  rintro e wl1 ⟨rfl, hx⟩
  replace Y1 := Lib.hid ((Ext.drewN' Y1.out _).trans hx)
  clear hx X1 d0 d1 d2 d3 d4 d5 p0 p1 p2 p3 k0 k1 k2 k3 c0
  obtain ⟨hb1, hb2⟩ := HB.out _ Y1.out
  obtain ⟨d0, d1, d2, d3, d4, d5⟩ := cells6 hb1
  obtain ⟨p0, p1, p2, p3⟩ := cells4 hb2
  have k0 := frozen_of_row _ _ 0 _ _ hb2
  have k1 := frozen_of_row _ _ 1 _ _ hb2
  have k2 := frozen_of_row _ _ 2 _ _ hb2
  have k3 := frozen_of_row _ _ 3 _ _ hb2
  have X1 := Lib.hid ((ext_pair _ _ _).trans Y1.out)
  have HS := Lib.hid (show w.heap.size + 2 ≤ _ from by have := Y1.out.size; simpa using this)
  clear hb1 hb2
  have c0 := HC0.out _ X1.out
  go_wp2_with fail
  refine (HL.out _ X1.out).mono ?_
  rintro e wl2 ⟨rfl, hx⟩
  replace Y1 := Lib.hid (Y1.out.trans hx)
  clear hx X1 d0 d1 d2 d3 d4 d5 p0 p1 p2 p3 k0 k1 k2 k3 c0
  obtain ⟨hb1, hb2⟩ := HB.out _ Y1.out
  obtain ⟨d0, d1, d2, d3, d4, d5⟩ := cells6 hb1
  obtain ⟨p0, p1, p2, p3⟩ := cells4 hb2
  have k0 := frozen_of_row _ _ 0 _ _ hb2
  have k1 := frozen_of_row _ _ 1 _ _ hb2
  have k2 := frozen_of_row _ _ 2 _ _ hb2
  have k3 := frozen_of_row _ _ 3 _ _ hb2
  have X1 := Lib.hid ((ext_pair _ _ _).trans Y1.out)
  have HS := Lib.hid (show w.heap.size + 2 ≤ _ from by have := Y1.out.size; simpa using this)
  clear hb1 hb2
  go_wp2_with fail
  refine (HR.out _ X1.out).mono ?_
  rintro e w2 ⟨hx2, t, rfl, how⟩
  replace Y1 := Lib.hid (Y1.out.trans hx2)
  have HO := Lib.hid (how.mono (show w.heap.size + 2 ≤ _ from HS.out))
  clear how hx2 X1 d0 d1 d2 d3 d4 d5 p0 p1 p2 p3 k0 k1 k2 k3
  obtain ⟨hb1, hb2⟩ := HB.out _ Y1.out
  obtain ⟨d0, d1, d2, d3, d4, d5⟩ := cells6 hb1
  obtain ⟨p0, p1, p2, p3⟩ := cells4 hb2
  have k0 := frozen_of_row _ _ 0 _ _ hb2
  have k1 := frozen_of_row _ _ 1 _ _ hb2
  have k2 := frozen_of_row _ _ 2 _ _ hb2
  have k3 := frozen_of_row _ _ 3 _ _ hb2
  have X1 := Lib.hid ((ext_pair _ _ _).trans Y1.out)
  have HS := Lib.hid (show w.heap.size + 2 ≤ _ from by have := Y1.out.size; simpa using this)
  have pa0 := fun o : Obj => (cells4 ((Ext.alloc w2 o).block hb2)).1
  have pa1 := fun o : Obj => (cells4 ((Ext.alloc w2 o).block hb2)).2.1
  have pa2 := fun o : Obj => (cells4 ((Ext.alloc w2 o).block hb2)).2.2.1
  have pa3 := fun o : Obj => (cells4 ((Ext.alloc w2 o).block hb2)).2.2.2
  have ka0 := fun o : Obj => frozen_of_row (w2.alloc o) _ 0 _ _ ((Ext.alloc w2 o).block hb2)
  have ka1 := fun o : Obj => frozen_of_row (w2.alloc o) _ 1 _ _ ((Ext.alloc w2 o).block hb2)
  have ka2 := fun o : Obj => frozen_of_row (w2.alloc o) _ 2 _ _ ((Ext.alloc w2 o).block hb2)
  have ka3 := fun o : Obj => frozen_of_row (w2.alloc o) _ 3 _ _ ((Ext.alloc w2 o).block hb2)
  clear hb1 hb2
  simp only [repV]
  go_wp2_with fail
  refine bodyPost_ret (v := .tuple #[repV r1 t, .int .i64 0]) (by simp [results, Try.results28, go_sem, repV, rep0, repS0, *]) rfl ⟨t, rfl, ?_, ?_⟩
  · refine RepOw.mono (base := w.heap.size + 2) ?_ (by omega)
    repeat' (first | with_reducible exact HO.out | with_reducible exact HO.out.ext (Ext.alloc _ _) | with_reducible refine RepOw.set_below ?_ (by simp) _)
  · repeat' (first | with_reducible exact X1.out | with_reducible refine Ext.drewN' ?_ _ | with_reducible refine Ext.drew' ?_ | with_reducible refine Ext.alloc' ?_ _ | with_reducible refine Ext.set' ?_ (by simp <;> omega) _)
end Go.Proofs.Ytpjmhckdeeonbaa
