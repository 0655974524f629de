/- The statements' ends (chapter 03): each number at its ends. (genasken.py prints this.) -/
import Derived.Test.YtjmddiffeffgnaaAskN
import Derived.Test.YtjmddiffeffgnaaAskL
import Derived.Test.YtjmddiffeffgnaaKitL
namespace Go.Proofs.Ytjmddiffeffgnaa
set_option linter.unusedVariables false
set_option linter.unusedSimpArgs false
set_option maxRecDepth 100000
set_option maxHeartbeats 4000000
open Go Go.RowKit Go.Out

theorem is_any (a : AskD) (s : AskS) (e : Int) (w : World) (hr : AskRd w a s) (h : checkF a = e) : Calls Try.prog 106 #[askV a s, .int .i64 e] w (RetQ w true) := by
  have HC := Lib.hid (fun W (hX : Ext w W) => check_any a s W (hr.ext hX))
  rw [h] at HC
  clear hr h
  obtain ⟨code, addr, count, on, set, parts⟩ := a
  obtain ⟨A1, n1, c1, A2, n2, c2, A3, n3, c3⟩ := s
  have he : (e == e) = true := by simp
  simp only [askV] at HC ⊢
  go_enter Try.func106, Try.ntmps106
  go_wp2_with fail
  refine (HC.out _ (Ext.alloc _ _)).mono ?_
  rintro e w1 ⟨rfl, hx1⟩
  go_wp2_with fail
  go_ret
  exact ⟨rfl, (Ext.alloc _ _).trans hx1⟩

theorem rdl_heap {W : World} {g : Nat} {cur : Array Value} {t : TypeId} {l : List PartD} {n : Nat} (hh : W.heap[g]? = some (.cells cur t (0, 0))) (hc : cur.toList = cellsP l) (hn : l.length = n) (hp : ∀ p ∈ l, i64P p.file ∧ i64P p.record ∧ i64P p.len) : RdL partK W (some ⟨g, 0, none⟩) n l :=
  ⟨hn, fun _ => ⟨g, 0, rfl, lt_of_heap hh, fun i x hi => by
    obtain ⟨hlt, rfl⟩ := List.getElem?_eq_some_iff.1 hi
    obtain ⟨q0, q1, q2⟩ := cellsP_at l i hlt
    refine ⟨partCells l[i], rfl, fun j u hu => ?_, rfl, hp _ (List.getElem_mem hlt)⟩
    rw [cell_of_row _ _ _ _ _ _ hh, ← Array.getElem?_toList, hc, Nat.zero_add]
    show (cellsP l)[i * 3 + j]? = some u
    match j, hu with
    | 0, hu => rw [← hu]; exact q0
    | 1, hu => rw [← hu]; exact q1
    | 2, hu => rw [← hu]; exact q2⟩⟩
theorem askRdOn (w : World) (c A n : Int) (l : List Bool) (g m : Nat) (h1 : i64P c) (h2 : i64P A) (h3 : i64P n) (hm : m ≤ 9223372036854775807) (h : Rd w (some ⟨g, 0, none⟩) m (l.map cL)) : AskRd w ⟨c, A, n, l, [], []⟩ ⟨some ⟨g, 0, none⟩, m, m, none, 0, 0, none, 0, 0⟩ :=
  ⟨h, Rd.nil_ _, RdL.nil_ _ _ _, h1, h2, h3, ⟨Nat.le_refl _, hm⟩, ⟨Nat.le_refl _, Nat.zero_le 9223372036854775807⟩, ⟨Nat.le_refl _, Nat.zero_le 9223372036854775807⟩⟩
theorem askRdSet (w : World) (c A n : Int) (l : List UInt16) (g m : Nat) (h1 : i64P c) (h2 : i64P A) (h3 : i64P n) (hm : m ≤ 9223372036854775807) (h : Rd w (some ⟨g, 0, none⟩) m (l.map cW)) : AskRd w ⟨c, A, n, [], l, []⟩ ⟨none, 0, 0, some ⟨g, 0, none⟩, m, m, none, 0, 0⟩ :=
  ⟨Rd.nil_ _, h, RdL.nil_ _ _ _, h1, h2, h3, ⟨Nat.le_refl _, Nat.zero_le 9223372036854775807⟩, ⟨Nat.le_refl _, hm⟩, ⟨Nat.le_refl _, Nat.zero_le 9223372036854775807⟩⟩
theorem askRdParts (w : World) (c A n : Int) (l : List PartD) (g m : Nat) (h1 : i64P c) (h2 : i64P A) (h3 : i64P n) (hm : m ≤ 9223372036854775807) (h : RdL partK w (some ⟨g, 0, none⟩) m l) : AskRd w ⟨c, A, n, [], [], l⟩ ⟨none, 0, 0, none, 0, 0, some ⟨g, 0, none⟩, m, m⟩ :=
  ⟨Rd.nil_ _, Rd.nil_ _, h, h1, h2, h3, ⟨Nat.le_refl _, Nat.zero_le 9223372036854775807⟩, ⟨Nat.le_refl _, Nat.zero_le 9223372036854775807⟩, ⟨Nat.le_refl _, hm⟩⟩

theorem part_any (f r n : Int) (w : World) : Calls Try.prog 107 #[.int .i64 f, .int .i64 r, .int .i64 n] w fun e w' => ∃ g, e = .returned (askV ⟨20, 0, 0, [], [], [⟨f, r, n⟩]⟩ ⟨none, 0, 0, none, 0, 0, some ⟨g, 0, none⟩, 1, 1⟩) ∧ w'.heap[g]? = some (.cells #[.int .i64 f, .int .i64 r, .int .i64 n] 60 (0, 0)) ∧ Ext w w' := by
  go_enter Try.func107, Try.ntmps107
  go_wp2_with fail
  refine bodyPost_ret (v := askV ⟨20, 0, 0, [], [], [⟨f, r, n⟩]⟩ ⟨none, 0, 0, none, 0, 0, some ⟨w.heap.size + 1, 0, none⟩, 1, 1⟩) (by simp [results, Try.results107, go_sem, askV, *]) rfl ⟨_, rfl, heap_at _ _ _ (by simp), (Ext.alloc _ _).trans (Ext.alloc _ _)⟩
theorem rdl1 {W : World} {g : Nat} {f r n : Int} {t : TypeId} (hh : W.heap[g]? = some (.cells #[.int .i64 f, .int .i64 r, .int .i64 n] t (0, 0))) (h1 : i64P f) (h2 : i64P r) (h3 : i64P n) : RdL partK W (some ⟨g, 0, none⟩) 1 [⟨f, r, n⟩] :=
  rdl_heap hh rfl rfl (by intro p hp; simp at hp; subst hp; exact ⟨h1, h2, h3⟩)
def zB (n : Nat) : Array Value := Array.replicate n (.bool false)
def zW (n : Nat) : Array Value := Array.replicate n (.int .u16 0)
theorem rd_zB (w : World) (n : Nat) : Rd (w.alloc (.cells (zB n) 4)) (some ⟨w.heap.size, 0, none⟩) n ((List.replicate n false).map cL) :=
  Rd.of_heap (ys := []) (heap_alloc_new w _) (by unfold zB; rw [Array.toList_replicate, List.map_replicate, List.append_nil]; rfl) (by simp)
theorem rd_zW (w : World) (n : Nat) : Rd (w.alloc (.cells (zW n) 58)) (some ⟨w.heap.size, 0, none⟩) n ((List.replicate n (0 : UInt16)).map cW) :=
  Rd.of_heap (ys := []) (heap_alloc_new w _) (by unfold zW; rw [Array.toList_replicate, List.map_replicate, List.append_nil]; rfl) (by simp)
theorem make_zB (n : Nat) (h : n ≤ 3000) : ∀ W : World, (Instr.makeSlice 22 (.int .i64 (n : Int)) (.int .i64 (n : Int))).run Try.prog W = .ok (.slice (some ⟨W.heap.size, 0, none⟩) n n) (W.alloc (.cells (zB n) 4)) :=
  fun W => run_make1 (P := Try.prog) 22 4 (.bool false) 1 Try.underlying22 info_bo rfl n (by omega) (by omega) W
theorem make_zW (n : Nat) (h : n ≤ 3000) : ∀ W : World, (Instr.makeSlice 23 (.int .i64 (n : Int)) (.int .i64 (n : Int))).run Try.prog W = .ok (.slice (some ⟨W.heap.size, 0, none⟩) n n) (W.alloc (.cells (zW n) 58)) :=
  fun W => run_make1 (P := Try.prog) 23 58 (.int .u16 0) 2 Try.underlying23 info_u16 rfl n (by omega) (by omega) W

theorem ends_any (w : World) : Calls Try.prog 39 #[] w (RetQ w true) := by
  have hI : ∀ x : Int, -70000 ≤ x ∧ x ≤ 70000 → i64P x := fun x hx => by unfold i64P; omega
  have HI := Lib.hid hI
  have hz : i64P 0 := hI 0 (by omega)
  clear hI
  have hmzB1968 : ∀ W : World, (Instr.makeSlice 22 (.int .i64 1968) (.int .i64 1968)).run Try.prog W = .ok (.slice (some ⟨W.heap.size, 0, none⟩) 1968 1968) (W.alloc (.cells (zB 1968) 4)) := make_zB 1968 (by omega)
  have hmzB1969 : ∀ W : World, (Instr.makeSlice 22 (.int .i64 1969) (.int .i64 1969)).run Try.prog W = .ok (.slice (some ⟨W.heap.size, 0, none⟩) 1969 1969) (W.alloc (.cells (zB 1969) 4)) := make_zB 1969 (by omega)
  have hmzB2 : ∀ W : World, (Instr.makeSlice 22 (.int .i64 2) (.int .i64 2)).run Try.prog W = .ok (.slice (some ⟨W.heap.size, 0, none⟩) 2 2) (W.alloc (.cells (zB 2) 4)) := make_zB 2 (by omega)
  have hmzW123 : ∀ W : World, (Instr.makeSlice 23 (.int .i64 123) (.int .i64 123)).run Try.prog W = .ok (.slice (some ⟨W.heap.size, 0, none⟩) 123 123) (W.alloc (.cells (zW 123) 58)) := make_zW 123 (by omega)
  have hmzW124 : ∀ W : World, (Instr.makeSlice 23 (.int .i64 124) (.int .i64 124)).run Try.prog W = .ok (.slice (some ⟨W.heap.size, 0, none⟩) 124 124) (W.alloc (.cells (zW 124) 58)) := make_zW 124 (by omega)
  have hmzW2 : ∀ W : World, (Instr.makeSlice 23 (.int .i64 2) (.int .i64 2)).run Try.prog W = .ok (.slice (some ⟨W.heap.size, 0, none⟩) 2 2) (W.alloc (.cells (zW 2) 58)) := make_zW 2 (by omega)
  have hmp : ∀ W : World, (Instr.makeSlice 24 (.int .i64 36) (.int .i64 36)).run Try.prog W = .ok (.slice (some ⟨W.heap.size, 0, none⟩) 36 36) (W.alloc (.cells (Array.replicate 108 (.int .i64 0)) 60)) := fun W => by
    have h := make_parts 31 (by omega) W
    simpa using h
  go_enter Try.func39, Try.ntmps39
  go_wp2_with fail
  refine (is_any ⟨1, 0, 2000, [], [], []⟩ askS0 0 _ (askRd0 _ _ _ _ (HI.out _ (by omega)) (HI.out _ (by omega)) (HI.out _ (by omega))) (by decide +kernel)).mono ?_
  rintro e w1 ⟨rfl, hx⟩
  have X1 := Lib.hid ((Ext.refl w).trans (hx))
  clear hx
  go_wp2_with fail
  refine (is_any ⟨2, 0, 2001, [], [], []⟩ askS0 22 _ (askRd0 _ _ _ _ (HI.out _ (by omega)) (HI.out _ (by omega)) (HI.out _ (by omega))) (by decide +kernel)).mono ?_
  rintro e w2 ⟨rfl, hx⟩
  have X2 := Lib.hid (X1.out.trans (hx))
  clear hx
  go_wp2_with fail
  refine (is_any ⟨3, 0, 125, [], [], []⟩ askS0 0 _ (askRd0 _ _ _ _ (HI.out _ (by omega)) (HI.out _ (by omega)) (HI.out _ (by omega))) (by decide +kernel)).mono ?_
  rintro e w3 ⟨rfl, hx⟩
  have X3 := Lib.hid (X2.out.trans (hx))
  clear hx
  go_wp2_with fail
  refine (is_any ⟨4, 0, 126, [], [], []⟩ askS0 22 _ (askRd0 _ _ _ _ (HI.out _ (by omega)) (HI.out _ (by omega)) (HI.out _ (by omega))) (by decide +kernel)).mono ?_
  rintro e w4 ⟨rfl, hx⟩
  have X4 := Lib.hid (X3.out.trans (hx))
  clear hx
  go_wp2_with fail
  refine (is_any ⟨4, 0, -1, [], [], []⟩ askS0 22 _ (askRd0 _ _ _ _ (HI.out _ (by omega)) (HI.out _ (by omega)) (HI.out _ (by omega))) (by decide +kernel)).mono ?_
  rintro e w5 ⟨rfl, hx⟩
  have X5 := Lib.hid (X4.out.trans (hx))
  clear hx
  go_wp2_with fail
  refine (is_any ⟨3, 65535, 1, [], [], []⟩ askS0 0 _ (askRd0 _ _ _ _ (HI.out _ (by omega)) (HI.out _ (by omega)) (HI.out _ (by omega))) (by decide +kernel)).mono ?_
  rintro e w6 ⟨rfl, hx⟩
  have X6 := Lib.hid (X5.out.trans (hx))
  clear hx
  go_wp2_with fail
  refine (is_any ⟨3, 65536, 1, [], [], []⟩ askS0 21 _ (askRd0 _ _ _ _ (HI.out _ (by omega)) (HI.out _ (by omega)) (HI.out _ (by omega))) (by decide +kernel)).mono ?_
  rintro e w7 ⟨rfl, hx⟩
  have X7 := Lib.hid (X6.out.trans (hx))
  clear hx
  go_wp2_with fail
  refine (is_any ⟨3, -1, 1, [], [], []⟩ askS0 21 _ (askRd0 _ _ _ _ (HI.out _ (by omega)) (HI.out _ (by omega)) (HI.out _ (by omega))) (by decide +kernel)).mono ?_
  rintro e w8 ⟨rfl, hx⟩
  have X8 := Lib.hid (X7.out.trans (hx))
  clear hx
  go_wp2_with fail
  refine (is_any ⟨15, 0, 0, List.replicate 1968 false, [], []⟩ ⟨some ⟨_, 0, none⟩, 1968, 1968, none, 0, 0, none, 0, 0⟩ 0 _ (askRdOn _ _ _ _ _ _ 1968 (HI.out _ (by omega)) (HI.out _ (by omega)) (HI.out _ (by omega)) (by omega) (rd_zB _ 1968)) (by decide +kernel)).mono ?_
  rintro e w9 ⟨rfl, hx⟩
  have X9 := Lib.hid (X8.out.trans ((Ext.alloc _ _).trans (hx)))
  clear hx
  go_wp2_with fail
  refine (is_any ⟨15, 0, 0, List.replicate 1969 false, [], []⟩ ⟨some ⟨_, 0, none⟩, 1969, 1969, none, 0, 0, none, 0, 0⟩ 22 _ (askRdOn _ _ _ _ _ _ 1969 (HI.out _ (by omega)) (HI.out _ (by omega)) (HI.out _ (by omega)) (by omega) (rd_zB _ 1969)) (by decide +kernel)).mono ?_
  rintro e w10 ⟨rfl, hx⟩
  have X10 := Lib.hid (X9.out.trans ((Ext.alloc _ _).trans (hx)))
  clear hx
  go_wp2_with fail
  refine (is_any ⟨16, 0, 0, [], List.replicate 123 0, []⟩ ⟨none, 0, 0, some ⟨_, 0, none⟩, 123, 123, none, 0, 0⟩ 0 _ (askRdSet _ _ _ _ _ _ 123 (HI.out _ (by omega)) (HI.out _ (by omega)) (HI.out _ (by omega)) (by omega) (rd_zW _ 123)) (by decide +kernel)).mono ?_
  rintro e w11 ⟨rfl, hx⟩
  have X11 := Lib.hid (X10.out.trans ((Ext.alloc _ _).trans (hx)))
  clear hx
  go_wp2_with fail
  refine (is_any ⟨16, 0, 0, [], List.replicate 124 0, []⟩ ⟨none, 0, 0, some ⟨_, 0, none⟩, 124, 124, none, 0, 0⟩ 22 _ (askRdSet _ _ _ _ _ _ 124 (HI.out _ (by omega)) (HI.out _ (by omega)) (HI.out _ (by omega)) (by omega) (rd_zW _ 124)) (by decide +kernel)).mono ?_
  rintro e w12 ⟨rfl, hx⟩
  have X12 := Lib.hid (X11.out.trans ((Ext.alloc _ _).trans (hx)))
  clear hx
  go_wp2_with fail
  refine (is_any ⟨5, 0, 0, List.replicate 2 false, [], []⟩ ⟨some ⟨_, 0, none⟩, 2, 2, none, 0, 0, none, 0, 0⟩ 22 _ (askRdOn _ _ _ _ _ _ 2 (HI.out _ (by omega)) (HI.out _ (by omega)) (HI.out _ (by omega)) (by omega) (rd_zB _ 2)) (by decide +kernel)).mono ?_
  rintro e w13 ⟨rfl, hx⟩
  have X13 := Lib.hid (X12.out.trans ((Ext.alloc _ _).trans (hx)))
  clear hx
  go_wp2_with fail
  refine (is_any ⟨6, 0, 0, [], [], []⟩ askS0 22 _ (askRd0 _ _ _ _ (HI.out _ (by omega)) (HI.out _ (by omega)) (HI.out _ (by omega))) (by decide +kernel)).mono ?_
  rintro e w14 ⟨rfl, hx⟩
  have X14 := Lib.hid (X13.out.trans (hx))
  clear hx
  go_wp2_with fail
  refine (is_any ⟨16, 65535, 0, [], List.replicate 2 0, []⟩ ⟨none, 0, 0, some ⟨_, 0, none⟩, 2, 2, none, 0, 0⟩ 21 _ (askRdSet _ _ _ _ _ _ 2 (HI.out _ (by omega)) (HI.out _ (by omega)) (HI.out _ (by omega)) (by omega) (rd_zW _ 2)) (by decide +kernel)).mono ?_
  rintro e w15 ⟨rfl, hx⟩
  have X15 := Lib.hid (X14.out.trans ((Ext.alloc _ _).trans (hx)))
  clear hx
  go_wp2_with fail
  refine (is_any ⟨1, 0, 1, [], [5], []⟩ ⟨none, 0, 0, some ⟨_, 0, none⟩, 1, 1, none, 0, 0⟩ 23 _ (askRdSet _ _ _ _ _ _ 1 (HI.out _ (by omega)) (HI.out _ (by omega)) (HI.out _ (by omega)) (by omega) (Rd.lit _ (([5] : List UInt16).map cW) _ _ 1 _ rfl (by simp))) (by decide +kernel)).mono ?_
  rintro e w16 ⟨rfl, hx⟩
  have X16 := Lib.hid (X15.out.trans ((Ext.alloc _ _).trans (hx)))
  clear hx
  go_wp2_with fail
  refine (is_any ⟨6, 0, 1, [], [5], []⟩ ⟨none, 0, 0, some ⟨_, 0, none⟩, 1, 1, none, 0, 0⟩ 23 _ (askRdSet _ _ _ _ _ _ 1 (HI.out _ (by omega)) (HI.out _ (by omega)) (HI.out _ (by omega)) (by omega) (Rd.lit _ (([5] : List UInt16).map cW) _ _ 1 _ rfl (by simp))) (by decide +kernel)).mono ?_
  rintro e w17 ⟨rfl, hx⟩
  have X17 := Lib.hid (X16.out.trans ((Ext.alloc _ _).trans (hx)))
  clear hx
  go_wp2_with fail
  refine (is_any ⟨20, 1, 0, [], [], []⟩ askS0 23 _ (askRd0 _ _ _ _ (HI.out _ (by omega)) (HI.out _ (by omega)) (HI.out _ (by omega))) (by decide +kernel)).mono ?_
  rintro e w18 ⟨rfl, hx⟩
  have X18 := Lib.hid (X17.out.trans (hx))
  clear hx
  go_wp2_with fail
  refine (is_any ⟨0, 0, 0, [], [], []⟩ askS0 20 _ (askRd0 _ _ _ _ (HI.out _ (by omega)) (HI.out _ (by omega)) (HI.out _ (by omega))) (by decide +kernel)).mono ?_
  rintro e w19 ⟨rfl, hx⟩
  have X19 := Lib.hid (X18.out.trans (hx))
  clear hx
  go_wp2_with fail
  refine (is_any ⟨17, 0, 0, [], [], []⟩ askS0 20 _ (askRd0 _ _ _ _ (HI.out _ (by omega)) (HI.out _ (by omega)) (HI.out _ (by omega))) (by decide +kernel)).mono ?_
  rintro e w20 ⟨rfl, hx⟩
  have X20 := Lib.hid (X19.out.trans (hx))
  clear hx
  go_wp2_with fail
  refine (is_any ⟨-1, 0, 0, [], [], []⟩ askS0 20 _ (askRd0 _ _ _ _ (HI.out _ (by omega)) (HI.out _ (by omega)) (HI.out _ (by omega))) (by decide +kernel)).mono ?_
  rintro e w21 ⟨rfl, hx⟩
  have X21 := Lib.hid (X20.out.trans (hx))
  clear hx
  go_wp2_with fail
  refine (part_any 1 0 1 _).mono ?_
  rintro e w22 ⟨g22, rfl, hh, hx⟩
  have H22 := Lib.hid hh; have X22 := Lib.hid (X21.out.trans hx)
  clear hh hx
  simp only [askV]
  go_wp2_with fail
  refine (is_any ⟨20, 0, 0, [], [], [⟨1, 0, 1⟩]⟩ ⟨none, 0, 0, none, 0, 0, some ⟨g22, 0, none⟩, 1, 1⟩ 0 _ (askRdParts _ _ _ _ _ _ 1 (HI.out _ (by omega)) (HI.out _ (by omega)) (HI.out _ (by omega)) (by omega) (rdl1 H22.out (HI.out _ (by omega)) (HI.out _ (by omega)) (HI.out _ (by omega)))) (by decide +kernel)).mono ?_
  rintro e w23 ⟨rfl, hx⟩
  have X23 := Lib.hid (X22.out.trans (hx))
  clear hx
  go_wp2_with fail
  refine (part_any 0 0 1 _).mono ?_
  rintro e w24 ⟨g24, rfl, hh, hx⟩
  have H24 := Lib.hid hh; have X24 := Lib.hid (X23.out.trans hx)
  clear hh hx
  simp only [askV]
  go_wp2_with fail
  refine (is_any ⟨20, 0, 0, [], [], [⟨0, 0, 1⟩]⟩ ⟨none, 0, 0, none, 0, 0, some ⟨g24, 0, none⟩, 1, 1⟩ 3 _ (askRdParts _ _ _ _ _ _ 1 (HI.out _ (by omega)) (HI.out _ (by omega)) (HI.out _ (by omega)) (by omega) (rdl1 H24.out (HI.out _ (by omega)) (HI.out _ (by omega)) (HI.out _ (by omega)))) (by decide +kernel)).mono ?_
  rintro e w25 ⟨rfl, hx⟩
  have X25 := Lib.hid (X24.out.trans (hx))
  clear hx
  go_wp2_with fail
  refine (part_any 65535 9999 1 _).mono ?_
  rintro e w26 ⟨g26, rfl, hh, hx⟩
  have H26 := Lib.hid hh; have X26 := Lib.hid (X25.out.trans hx)
  clear hh hx
  simp only [askV]
  go_wp2_with fail
  refine (is_any ⟨20, 0, 0, [], [], [⟨65535, 9999, 1⟩]⟩ ⟨none, 0, 0, none, 0, 0, some ⟨g26, 0, none⟩, 1, 1⟩ 0 _ (askRdParts _ _ _ _ _ _ 1 (HI.out _ (by omega)) (HI.out _ (by omega)) (HI.out _ (by omega)) (by omega) (rdl1 H26.out (HI.out _ (by omega)) (HI.out _ (by omega)) (HI.out _ (by omega)))) (by decide +kernel)).mono ?_
  rintro e w27 ⟨rfl, hx⟩
  have X27 := Lib.hid (X26.out.trans (hx))
  clear hx
  go_wp2_with fail
  refine (part_any 65536 0 1 _).mono ?_
  rintro e w28 ⟨g28, rfl, hh, hx⟩
  have H28 := Lib.hid hh; have X28 := Lib.hid (X27.out.trans hx)
  clear hh hx
  simp only [askV]
  go_wp2_with fail
  refine (is_any ⟨20, 0, 0, [], [], [⟨65536, 0, 1⟩]⟩ ⟨none, 0, 0, none, 0, 0, some ⟨g28, 0, none⟩, 1, 1⟩ 3 _ (askRdParts _ _ _ _ _ _ 1 (HI.out _ (by omega)) (HI.out _ (by omega)) (HI.out _ (by omega)) (by omega) (rdl1 H28.out (HI.out _ (by omega)) (HI.out _ (by omega)) (HI.out _ (by omega)))) (by decide +kernel)).mono ?_
  rintro e w29 ⟨rfl, hx⟩
  have X29 := Lib.hid (X28.out.trans (hx))
  clear hx
  go_wp2_with fail
  refine (part_any 1 10000 1 _).mono ?_
  rintro e w30 ⟨g30, rfl, hh, hx⟩
  have H30 := Lib.hid hh; have X30 := Lib.hid (X29.out.trans hx)
  clear hh hx
  simp only [askV]
  go_wp2_with fail
  refine (is_any ⟨20, 0, 0, [], [], [⟨1, 10000, 1⟩]⟩ ⟨none, 0, 0, none, 0, 0, some ⟨g30, 0, none⟩, 1, 1⟩ 3 _ (askRdParts _ _ _ _ _ _ 1 (HI.out _ (by omega)) (HI.out _ (by omega)) (HI.out _ (by omega)) (by omega) (rdl1 H30.out (HI.out _ (by omega)) (HI.out _ (by omega)) (HI.out _ (by omega)))) (by decide +kernel)).mono ?_
  rintro e w31 ⟨rfl, hx⟩
  have X31 := Lib.hid (X30.out.trans (hx))
  clear hx
  go_wp2_with fail
  refine (part_any 1 9999 2 _).mono ?_
  rintro e w32 ⟨g32, rfl, hh, hx⟩
  have H32 := Lib.hid hh; have X32 := Lib.hid (X31.out.trans hx)
  clear hh hx
  simp only [askV]
  go_wp2_with fail
  refine (is_any ⟨20, 0, 0, [], [], [⟨1, 9999, 2⟩]⟩ ⟨none, 0, 0, none, 0, 0, some ⟨g32, 0, none⟩, 1, 1⟩ 3 _ (askRdParts _ _ _ _ _ _ 1 (HI.out _ (by omega)) (HI.out _ (by omega)) (HI.out _ (by omega)) (by omega) (rdl1 H32.out (HI.out _ (by omega)) (HI.out _ (by omega)) (HI.out _ (by omega)))) (by decide +kernel)).mono ?_
  rintro e w33 ⟨rfl, hx⟩
  have X33 := Lib.hid (X32.out.trans (hx))
  clear hx
  go_wp2_with fail
  refine (part_any 1 0 0 _).mono ?_
  rintro e w34 ⟨g34, rfl, hh, hx⟩
  have H34 := Lib.hid hh; have X34 := Lib.hid (X33.out.trans hx)
  clear hh hx
  simp only [askV]
  go_wp2_with fail
  refine (is_any ⟨20, 0, 0, [], [], [⟨1, 0, 0⟩]⟩ ⟨none, 0, 0, none, 0, 0, some ⟨g34, 0, none⟩, 1, 1⟩ 3 _ (askRdParts _ _ _ _ _ _ 1 (HI.out _ (by omega)) (HI.out _ (by omega)) (HI.out _ (by omega)) (by omega) (rdl1 H34.out (HI.out _ (by omega)) (HI.out _ (by omega)) (HI.out _ (by omega)))) (by decide +kernel)).mono ?_
  rintro e w35 ⟨rfl, hx⟩
  have X35 := Lib.hid (X34.out.trans (hx))
  clear hx
  go_wp2_with fail
  refine (part_any 1 0 121 _).mono ?_
  rintro e w36 ⟨g36, rfl, hh, hx⟩
  have H36 := Lib.hid hh; have X36 := Lib.hid (X35.out.trans hx)
  clear hh hx
  simp only [askV]
  go_wp2_with fail
  refine (is_any ⟨20, 0, 0, [], [], [⟨1, 0, 121⟩]⟩ ⟨none, 0, 0, none, 0, 0, some ⟨g36, 0, none⟩, 1, 1⟩ 0 _ (askRdParts _ _ _ _ _ _ 1 (HI.out _ (by omega)) (HI.out _ (by omega)) (HI.out _ (by omega)) (by omega) (rdl1 H36.out (HI.out _ (by omega)) (HI.out _ (by omega)) (HI.out _ (by omega)))) (by decide +kernel)).mono ?_
  rintro e w37 ⟨rfl, hx⟩
  have X37 := Lib.hid (X36.out.trans (hx))
  clear hx
  go_wp2_with fail
  refine (part_any 1 0 122 _).mono ?_
  rintro e w38 ⟨g38, rfl, hh, hx⟩
  have H38 := Lib.hid hh; have X38 := Lib.hid (X37.out.trans hx)
  clear hh hx
  simp only [askV]
  go_wp2_with fail
  refine (is_any ⟨20, 0, 0, [], [], [⟨1, 0, 122⟩]⟩ ⟨none, 0, 0, none, 0, 0, some ⟨g38, 0, none⟩, 1, 1⟩ 2 _ (askRdParts _ _ _ _ _ _ 1 (HI.out _ (by omega)) (HI.out _ (by omega)) (HI.out _ (by omega)) (by omega) (rdl1 H38.out (HI.out _ (by omega)) (HI.out _ (by omega)) (HI.out _ (by omega)))) (by decide +kernel)).mono ?_
  rintro e w39 ⟨rfl, hx⟩
  have X39 := Lib.hid (X38.out.trans (hx))
  clear hx
  go_wp2_with fail
  refine (is_any ⟨20, 0, 0, [], [], []⟩ askS0 22 _ (askRd0 _ _ _ _ (HI.out _ (by omega)) (HI.out _ (by omega)) (HI.out _ (by omega))) (by decide +kernel)).mono ?_
  rintro e w40 ⟨rfl, hx⟩
  have X40 := Lib.hid (X39.out.trans (hx))
  clear hx
  go_wp2_with fail
  refine (is_any ⟨20, 0, 0, [], [], List.replicate 36 ⟨0, 0, 0⟩⟩ ⟨none, 0, 0, none, 0, 0, some ⟨_, 0, none⟩, 36, 36⟩ 22 _ (askRdParts _ _ _ _ _ _ 36 (HI.out _ (by omega)) (HI.out _ (by omega)) (HI.out _ (by omega)) (by omega) (rdl_heap (heap_alloc_new _ _) (by kernel_rfl) rfl (by intro p hp; obtain ⟨-, rfl⟩ := List.mem_replicate.1 hp; exact ⟨hz, hz, hz⟩))) (by decide +kernel)).mono ?_
  rintro e w41 ⟨rfl, hx⟩
  have X41 := Lib.hid (X40.out.trans ((Ext.alloc _ _).trans (hx)))
  clear hx
  go_wp2_with fail
  go_ret
  exact ⟨rfl, X41.out⟩
end Go.Proofs.Ytjmddiffeffgnaa
