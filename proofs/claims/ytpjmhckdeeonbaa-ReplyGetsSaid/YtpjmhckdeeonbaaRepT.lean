/- The plain law of the reference's Get, and its contract (chapter 04). (genrept.py prints this.) -/
import Derived.Test.YtpjmhckdeeonbaaRepS2
import Derived.Test.YtpjmhckdeeonbaaRepFo
import Derived.BigQuiet
import Derived.Deep.QuietTactic
namespace Go.Out
open Go Go.RowKit
set_option linter.unusedVariables false
theorem rows_sized : ∀ (ps : List PartD) (r : List UInt8), ps.any (fun p => decide (badP p)) = false → sumP ps ≤ (r.length : Int) → sizedB (rowsOf ps r) ps = true
  | [], _, _, _ => rfl
  | p :: ps, r, hb, hl => by
    simp only [List.any_cons, Bool.or_eq_false_iff, decide_eq_false_iff_not] at hb
    have hb1 := hb.1
    unfold badP at hb1
    have hn := sumP_nonneg hb.2
    simp only [sumP] at hl
    unfold rowsOf
    rw [sizedB_cons]
    refine ⟨?_, rows_sized ps _ hb.2 (by rw [List.length_drop]; omega)⟩
    rw [bw_length, List.length_take, List.length_drop]
    omega
theorem rows_of_some : ∀ (ps : List PartD) (r : List UInt8) (l : List (List UInt16)), filesOf ps r = some l → l = rowsOf ps r
  | [], _, l, h => by unfold filesOf at h; injection h with h; exact h.symm
  | p :: ps, [], l, h => by simp [filesOf] at h
  | p :: ps, [x], l, h => by simp [filesOf] at h
  | p :: ps, x :: y :: r, l, h => by
    unfold filesOf at h
    split at h
    · cases hq : filesOf ps (r.drop (2 * p.len.toNat)) with
      | none => rw [hq] at h; simp at h
      | some l' =>
        rw [hq] at h
        simp only [Option.map_some, Option.some.injEq] at h
        subst h
        have e : (x :: y :: r).drop (2 + 2 * p.len.toNat) = r.drop (2 * p.len.toNat) := by rw [Nat.add_comm]; rfl
        show bw (r.take (2 * p.len.toNat)) :: l' = bw (r.take (2 * p.len.toNat)) :: rowsOf ps ((x :: y :: r).drop (2 + 2 * p.len.toNat))
        rw [e, rows_of_some ps _ l' hq]
    · simp at h
theorem shape_exc (a : AskD) (b : List UInt8) : (shapeR a b).exc = 0 := by
  unfold shapeR
  repeat' split
  all_goals rfl
theorem shape_check {a : AskD} {b : List UInt8} (hK : checkF a = 0) (hl : b.length = lenR a) : checkR a (shapeR a b) = 0 := by
  have hc := codeP_cases (checkF_parts a hK).1
  by_cases h1 : a.code = 1 ∨ a.code = 2
  · have hcnt : 1 ≤ a.count := by
      have h3 : manyF a = a.count := by unfold manyF; rw [if_pos (by unfold isCnt; omega)]
      have := (checkF_parts a hK).2.2.2.2.1; omega
    unfold shapeR
    rw [if_pos h1]
    refine check_plain hK rfl ?_ ?_
    · unfold foreignB; rw [if_pos h1]; simp
    · unfold countedB; rw [if_pos h1]; simp; omega
  by_cases h2 : a.code = 3 ∨ a.code = 4
  · have hm := many_of3 hK h2
    rw [lenR3 h2] at hl
    unfold shapeR
    rw [if_neg h1, if_pos h2]
    refine check_plain hK rfl ?_ ?_
    · unfold foreignB; rw [if_neg h1, if_pos h2]; simp
    · unfold countedB; rw [if_neg h1, if_pos h2]
      simp only [bw_length, List.length_drop, decide_eq_true_eq]
      omega
  by_cases h3 : a.code = 20
  · obtain ⟨p1, p2⟩ := partsF_zero (checkF_parts a hK).2.2.2.2.2.2.2
    have p3 := sumP_nonneg p1
    rw [lenR20 h3] at hl
    unfold shapeR
    rw [if_neg h1, if_neg h2, if_pos h3]
    refine check_plain hK rfl ?_ ?_
    · unfold foreignB; rw [if_neg h1, if_neg h2, if_pos h3]; simp
    · unfold countedB; rw [if_neg h1, if_neg h2]; exact rows_sized _ _ p1 (by rw [List.length_drop]; omega)
  · unfold shapeR
    rw [if_neg h1, if_neg h2, if_neg h3]
    exact check_rep0 hK (by unfold plainC; omega)
end Go.Out
namespace Go.Proofs.Ytpjmhckdeeonbaa
set_option linter.unusedVariables false
set_option linter.unusedSimpArgs false
set_option maxRecDepth 100000
set_option maxHeartbeats 2000000
open Go Go.RowKit Go.Out

theorem read_some {a : AskD} {b : List UInt8} {r : RepD} (hK : checkF a = 0) (hl : b.length = lenR a) (h : readR a b = some r) : r = shapeR a b := by
  by_cases hp : plainC a.code
  · by_cases hbad : ((b.getD 1 0).toNat : Int) = (b.length : Int) - 2
    · rcases plainC_cases hp with hc | hc | hc
      · have hcnt : 1 ≤ a.count := by
          have h3 : manyF a = a.count := by unfold manyF; rw [if_pos (by unfold isCnt; omega)]
          have := (checkF_parts a hK).2.2.2.2.1; omega
        rw [readR1 hc hbad] at h
        rw [lenR1 hc] at hl
        obtain ⟨n, hn⟩ := Int.eq_ofNat_of_zero_le (show 0 ≤ a.count by omega)
        have hu := unbits_mid (b.drop 2) n (by rw [List.length_drop]; have : a.count.toNat = n := by omega
                                               rw [this] at hl; omega)
        rw [hn] at h
        split at h
        · rename_i hz
          injection h with h
          subst h
          unfold shapeR
          rw [if_pos hc, hn]
          cases hsp : spare (b.drop 2) n with
          | true => rw [hu, hsp] at hz; simp at hz
          | false => rw [hu, hsp]; rfl
        · simp at h
      · rw [readR3 hc hbad] at h
        injection h with h
        unfold shapeR
        rw [if_neg (by omega), if_pos hc]; exact h.symm
      · rw [readR20 hc hbad] at h
        cases hf : filesOf a.parts (b.drop 2) with
        | none => rw [hf] at h; simp at h
        | some l =>
          rw [hf] at h
          simp only [Option.map_some, Option.some.injEq] at h
          unfold shapeR
          rw [if_neg (by omega), if_neg (by omega), if_pos hc, ← rows_of_some _ _ _ hf]; exact h.symm
    · rw [readR_bad hp hbad] at h; simp at h
  · rw [readR_echo hp] at h
    split at h
    · injection h with h
      unfold plainC at hp
      unfold shapeR
      rw [if_neg (by omega), if_neg (by omega), if_neg (by omega)]; exact h.symm
    · simp at h
theorem read_shape {a : AskD} {b : List UInt8} (hK : checkF a = 0) (hb : b.length ≠ 0) (h0 : (b0 b : Int) = a.code) (hl : b.length = lenR a) : readR a b = if (putR a (shapeR a b)).1 = b then some (shapeR a b) else none := by
  have hck := shape_check hK hl
  by_cases h : (putR a (shapeR a b)).1 = b
  · rw [if_pos h]
    have := readR_putR hck (shape_exc a b)
    rwa [h] at this
  · rw [if_neg h]
    cases hr : readR a b with
    | none => rfl
    | some r =>
      obtain rfl := read_some hK hl hr
      have hg : getR a b = (shapeR a b, 0) := by
        unfold getR
        rw [if_neg (by simpa using hK), if_neg hb, if_neg (by omega), if_neg (by omega), if_neg (by omega), if_neg (by omega), hr]
      have := (putR_getR (a := a) (b := b) (by rw [hg])).2
      rw [hg] at this
      exact absurd (by rw [this]) h
theorem ref04Shape_any (a : AskD) (b : List UInt8) (s : AskS) (A : Option Addr) (N c : Nat) (w : World) (ha : AskRd w a s) (hb : Rd w A N (b.map cB)) (hcp : N ≤ c ∧ c ≤ 9223372036854775807) (hK : checkF a = 0) (hl : lenR a = N) :
    Calls Try.prog 81 #[askV a s, .slice A N c] w (RetSh w (shapeR a b)) := by
  have hc := codeP_cases (checkF_parts a hK).1
  obtain ⟨m1, m2, m3⟩ := many_parts hK
  have hp := (checkF_parts a hK).2.2.2.2.2.2.2
  have HB := Lib.hid (fun W => bits04_any a s W)
  have HW := Lib.hid (fun W => words04_any a s W)
  have HF := Lib.hid (fun W => files04_any a s W)
  unfold shapeR
  by_cases h1 : a.code = 1 ∨ a.code = 2
  · have hm := m1 h1
    obtain ⟨m, hmc⟩ := Int.eq_ofNat_of_zero_le (show 0 ≤ a.count by omega)
    have hmt : a.count.toNat = m := by omega
    rw [lenR1 h1, hmt] at hl
    rw [if_pos h1, hmt]
    rw [decide_eq_true h1] at HB
    rw [decide_eq_false (by omega)] at HW
    rw [decide_eq_false (by omega)] at HF
    have := need_le (n := m) (by omega)
    exact shape_bits a.code a.addr a.count s.A1 s.A2 s.A3 s.n1 s.c1 s.n2 s.c2 s.n3 s.c3 w m hmc (by omega) A N c b hb (by omega) (by omega) hcp HB HW HF
  rw [if_neg h1]
  rw [decide_eq_false h1] at HB
  by_cases h2 : a.code = 3 ∨ a.code = 4
  · have hm := m2 h2
    rw [lenR3 h2] at hl
    rw [if_pos h2]
    rw [decide_eq_true h2] at HW
    rw [decide_eq_false (by omega)] at HF
    exact shape_words a.code a.addr a.count s.A1 s.A2 s.A3 s.n1 s.c1 s.n2 s.c2 s.n3 s.c3 w A N c b hb (by omega) (by omega) (by omega) hcp HB HW HF
  rw [if_neg h2]
  rw [decide_eq_false h2] at HW
  by_cases h3 : a.code = 20
  · have hm := m3 h3
    rw [lenR20 h3] at hl
    rw [if_pos h3]
    rw [decide_eq_true h3] at HF
    obtain ⟨p1, p2⟩ := partsF_zero hp
    have p3 := sumP_nonneg p1
    have hn := ha.n3
    exact shape_files a.code a.addr a.count s.A1 s.A2 s.A3 s.n1 s.c1 s.n2 s.c2 s.n3 s.c3 w a.parts ha.parts (by omega) A N c b hb (by omega) p1 (by omega) hcp HB HW HF
  · rw [if_neg h3]
    rw [decide_eq_false h3] at HF
    exact shape_write a.code a.addr a.count s.A1 s.A2 s.A3 s.n1 s.c1 s.n2 s.c2 s.n3 s.c3 w HB HW HF A N c

theorem r4g_no (code addr count : Int) (A1 A2 A3 : Option Addr) (n1 c1 n2 c2 n3 c3 : Nat) (w : World) (A : Option Addr) (N c : Nat) (K : Int) (hK : (K != 0) = true) (HC : Hid (∀ W, Ext w W → Calls Try.prog 55 #[.agg #[.int .i64 code, .int .i64 addr, .int .i64 count, .slice A1 n1 c1, .slice A2 n2 c2, .slice A3 n3 c3]] W (RetI W K))) :
    Calls Try.prog 29 #[.agg #[.int .i64 code, .int .i64 addr, .int .i64 count, .slice A1 n1 c1, .slice A2 n2 c2, .slice A3 n3 c3], .slice A N c] w (RetGR w (rep0, K)) := by
  go_enter Try.func29, Try.ntmps29
  go_wp2_with fail
  refine (HC.out _ ((Ext.alloc _ _).trans (Ext.alloc _ _))).mono ?_
  rintro e w1 ⟨rfl, hx⟩
  have Z := Lib.hid (show Ext w w1 from ((Ext.alloc _ _).trans (Ext.alloc _ _)).trans hx)
  have BA := Lib.hid (show w1.heap[w.heap.size]? = some (.cells #[.int .i64 code, .int .i64 addr, .int .i64 count, .slice A1 n1 c1, .slice A2 n2 c2, .slice A3 n3 c3] 26 (0, 0)) from hx.block ((Ext.alloc _ _).block (heap_at _ _ _ (by simp))))
  have BO := Lib.hid (show w1.heap[w.heap.size + 1]? = some (.cells #[.int .i64 0, .slice none 0 0, .slice none 0 0, .slice none 0 0] 29 (0, 0)) from hx.block (heap_at _ _ _ (by simp)))
  have X := Lib.hid Z.out
  clear hx Z
  obtain ⟨d0, d1, d2, d3, d4, d5⟩ := cells6 BA.out
  obtain ⟨f0, f1, f2, f3⟩ := cells4 BO.out
  have fz0 := frozen_of_row _ _ 0 _ _ BO.out
  have fz1 := frozen_of_row _ _ 1 _ _ BO.out
  have fz2 := frozen_of_row _ _ 2 _ _ BO.out
  have fz3 := frozen_of_row _ _ 3 _ _ BO.out
  go_wp2_with fail
  refine bodyPost_ret (v := .tuple #[repV rep0 repS0, .int .i64 K]) (by simp [results, Try.results29, go_sem, repV, rep0, repS0, *]) rfl ⟨repS0, rfl, repOw0 _ _, ?_⟩
  repeat' (first | with_reducible exact X.out | with_reducible refine Ext.drewN' ?_ _ | with_reducible refine Ext.drew' ?_ | with_reducible refine Ext.alloc' ?_ _ | with_reducible refine Ext.set' ?_ (by simp <;> omega) _)
theorem r4g_nil (code addr count : Int) (A1 A2 A3 : Option Addr) (n1 c1 n2 c2 n3 c3 : Nat) (w : World) (A : Option Addr) (N c : Nat) (HC : Hid (∀ W, Ext w W → Calls Try.prog 55 #[.agg #[.int .i64 code, .int .i64 addr, .int .i64 count, .slice A1 n1 c1, .slice A2 n2 c2, .slice A3 n3 c3]] W (RetI W 0))) (hN : N = 0) :
    Calls Try.prog 29 #[.agg #[.int .i64 code, .int .i64 addr, .int .i64 count, .slice A1 n1 c1, .slice A2 n2 c2, .slice A3 n3 c3], .slice A N c] w (RetGR w (rep0, 1)) := by
  subst hN
  go_enter Try.func29, Try.ntmps29
  go_wp2_with fail
  refine (HC.out _ ((Ext.alloc _ _).trans (Ext.alloc _ _))).mono ?_
  rintro e w1 ⟨rfl, hx⟩
  have Z := Lib.hid (show Ext w w1 from ((Ext.alloc _ _).trans (Ext.alloc _ _)).trans hx)
  have BA := Lib.hid (show w1.heap[w.heap.size]? = some (.cells #[.int .i64 code, .int .i64 addr, .int .i64 count, .slice A1 n1 c1, .slice A2 n2 c2, .slice A3 n3 c3] 26 (0, 0)) from hx.block ((Ext.alloc _ _).block (heap_at _ _ _ (by simp))))
  have BO := Lib.hid (show w1.heap[w.heap.size + 1]? = some (.cells #[.int .i64 0, .slice none 0 0, .slice none 0 0, .slice none 0 0] 29 (0, 0)) from hx.block (heap_at _ _ _ (by simp)))
  have X := Lib.hid Z.out
  clear hx Z
  obtain ⟨d0, d1, d2, d3, d4, d5⟩ := cells6 BA.out
  obtain ⟨f0, f1, f2, f3⟩ := cells4 BO.out
  have fz0 := frozen_of_row _ _ 0 _ _ BO.out
  have fz1 := frozen_of_row _ _ 1 _ _ BO.out
  have fz2 := frozen_of_row _ _ 2 _ _ BO.out
  have fz3 := frozen_of_row _ _ 3 _ _ BO.out
  go_wp2_with fail
  refine bodyPost_ret (v := .tuple #[repV rep0 repS0, .int .i64 1]) (by simp [results, Try.results29, go_sem, repV, rep0, repS0, *]) rfl ⟨repS0, rfl, repOw0 _ _, ?_⟩
  repeat' (first | with_reducible exact X.out | with_reducible refine Ext.drewN' ?_ _ | with_reducible refine Ext.drew' ?_ | with_reducible refine Ext.alloc' ?_ _ | with_reducible refine Ext.set' ?_ (by simp <;> omega) _)
theorem r4g_ex1 (code addr count : Int) (A1 A2 A3 : Option Addr) (n1 c1 n2 c2 n3 c3 : Nat) (w : World) (A : Option Addr) (N c : Nat) (HC : Hid (∀ W, Ext w W → Calls Try.prog 55 #[.agg #[.int .i64 code, .int .i64 addr, .int .i64 count, .slice A1 n1 c1, .slice A2 n2 c2, .slice A3 n3 c3]] W (RetI W 0)))(x0 : Nat) (bk off : Nat) (hA : A = some ⟨bk, off, none⟩) (hN : 0 < N) (hN0 : ((N : Int) == 0) = false) (hbk : bk < w.heap.size) (hc0 : w.cell? ⟨bk, off, none⟩ = some (.int .u8 (x0 : Int))) (hex : (IntKind.i64.wrap (x0 : Int) == IntKind.i64.wrap (code + 128)) = true) (hexw : (wrap64 (x0 : Int) == wrap64 (code + 128)) = true) (h1 : N = 1) :
    Calls Try.prog 29 #[.agg #[.int .i64 code, .int .i64 addr, .int .i64 count, .slice A1 n1 c1, .slice A2 n2 c2, .slice A3 n3 c3], .slice A N c] w (RetGR w (rep0, 1)) := by
  subst h1
  subst hA
  have HC0 := Lib.hid (fun W (hX : Ext w W) => hX.cell hbk hc0)
  clear hc0
  go_enter Try.func29, Try.ntmps29
  go_wp2_with fail
  refine (HC.out _ ((Ext.alloc _ _).trans (Ext.alloc _ _))).mono ?_
  rintro e w1 ⟨rfl, hx⟩
  have Z := Lib.hid (show Ext w w1 from ((Ext.alloc _ _).trans (Ext.alloc _ _)).trans hx)
  have BA := Lib.hid (show w1.heap[w.heap.size]? = some (.cells #[.int .i64 code, .int .i64 addr, .int .i64 count, .slice A1 n1 c1, .slice A2 n2 c2, .slice A3 n3 c3] 26 (0, 0)) from hx.block ((Ext.alloc _ _).block (heap_at _ _ _ (by simp))))
  have BO := Lib.hid (show w1.heap[w.heap.size + 1]? = some (.cells #[.int .i64 0, .slice none 0 0, .slice none 0 0, .slice none 0 0] 29 (0, 0)) from hx.block (heap_at _ _ _ (by simp)))
  have X := Lib.hid Z.out
  clear hx Z
  obtain ⟨d0, d1, d2, d3, d4, d5⟩ := cells6 BA.out
  obtain ⟨f0, f1, f2, f3⟩ := cells4 BO.out
  have fz0 := frozen_of_row _ _ 0 _ _ BO.out
  have fz1 := frozen_of_row _ _ 1 _ _ BO.out
  have fz2 := frozen_of_row _ _ 2 _ _ BO.out
  have fz3 := frozen_of_row _ _ 3 _ _ BO.out
  have e0 := HC0.out _ X.out
  go_wp2_with fail
  go_quiet (fail)
  go_wp2_with fail
  refine bodyPost_ret (v := .tuple #[repV rep0 repS0, .int .i64 1]) (by simp [results, Try.results29, go_sem, repV, rep0, repS0, *]) rfl ⟨repS0, rfl, repOw0 _ _, ?_⟩
  repeat' (first | with_reducible exact X.out | with_reducible refine Ext.drewN' ?_ _ | with_reducible refine Ext.drew' ?_ | with_reducible refine Ext.alloc' ?_ _ | with_reducible refine Ext.set' ?_ (by simp <;> omega) _)
theorem r4g_exl (code addr count : Int) (A1 A2 A3 : Option Addr) (n1 c1 n2 c2 n3 c3 : Nat) (w : World) (A : Option Addr) (N c : Nat) (HC : Hid (∀ W, Ext w W → Calls Try.prog 55 #[.agg #[.int .i64 code, .int .i64 addr, .int .i64 count, .slice A1 n1 c1, .slice A2 n2 c2, .slice A3 n3 c3]] W (RetI W 0)))(x0 : Nat) (bk off : Nat) (hA : A = some ⟨bk, off, none⟩) (hN : 0 < N) (hN0 : ((N : Int) == 0) = false) (hbk : bk < w.heap.size) (hc0 : w.cell? ⟨bk, off, none⟩ = some (.int .u8 (x0 : Int))) (hex : (IntKind.i64.wrap (x0 : Int) == IntKind.i64.wrap (code + 128)) = true) (hexw : (wrap64 (x0 : Int) == wrap64 (code + 128)) = true) (h1 : 2 < N) (h2 : ((N : Int) == 1) = false) :
    Calls Try.prog 29 #[.agg #[.int .i64 code, .int .i64 addr, .int .i64 count, .slice A1 n1 c1, .slice A2 n2 c2, .slice A3 n3 c3], .slice A N c] w (RetGR w (rep0, 2)) := by
  subst hA
  have HC0 := Lib.hid (fun W (hX : Ext w W) => hX.cell hbk hc0)
  clear hc0
  go_enter Try.func29, Try.ntmps29
  go_wp2_with fail
  refine (HC.out _ ((Ext.alloc _ _).trans (Ext.alloc _ _))).mono ?_
  rintro e w1 ⟨rfl, hx⟩
  have Z := Lib.hid (show Ext w w1 from ((Ext.alloc _ _).trans (Ext.alloc _ _)).trans hx)
  have BA := Lib.hid (show w1.heap[w.heap.size]? = some (.cells #[.int .i64 code, .int .i64 addr, .int .i64 count, .slice A1 n1 c1, .slice A2 n2 c2, .slice A3 n3 c3] 26 (0, 0)) from hx.block ((Ext.alloc _ _).block (heap_at _ _ _ (by simp))))
  have BO := Lib.hid (show w1.heap[w.heap.size + 1]? = some (.cells #[.int .i64 0, .slice none 0 0, .slice none 0 0, .slice none 0 0] 29 (0, 0)) from hx.block (heap_at _ _ _ (by simp)))
  have X := Lib.hid Z.out
  clear hx Z
  obtain ⟨d0, d1, d2, d3, d4, d5⟩ := cells6 BA.out
  obtain ⟨f0, f1, f2, f3⟩ := cells4 BO.out
  have fz0 := frozen_of_row _ _ 0 _ _ BO.out
  have fz1 := frozen_of_row _ _ 1 _ _ BO.out
  have fz2 := frozen_of_row _ _ 2 _ _ BO.out
  have fz3 := frozen_of_row _ _ 3 _ _ BO.out
  have e0 := HC0.out _ X.out
  go_wp2_with fail
  go_quiet (fail)
  go_wp2_with fail
  refine bodyPost_ret (v := .tuple #[repV rep0 repS0, .int .i64 2]) (by simp [results, Try.results29, go_sem, repV, rep0, repS0, *]) rfl ⟨repS0, rfl, repOw0 _ _, ?_⟩
  repeat' (first | with_reducible exact X.out | with_reducible refine Ext.drewN' ?_ _ | with_reducible refine Ext.drew' ?_ | with_reducible refine Ext.alloc' ?_ _ | with_reducible refine Ext.set' ?_ (by simp <;> omega) _)
theorem r4g_exz (code addr count : Int) (A1 A2 A3 : Option Addr) (n1 c1 n2 c2 n3 c3 : Nat) (w : World) (A : Option Addr) (N c : Nat) (HC : Hid (∀ W, Ext w W → Calls Try.prog 55 #[.agg #[.int .i64 code, .int .i64 addr, .int .i64 count, .slice A1 n1 c1, .slice A2 n2 c2, .slice A3 n3 c3]] W (RetI W 0)))(x0 : Nat) (bk off : Nat) (hA : A = some ⟨bk, off, none⟩) (hN : 0 < N) (hN0 : ((N : Int) == 0) = false) (hbk : bk < w.heap.size) (hc0 : w.cell? ⟨bk, off, none⟩ = some (.int .u8 (x0 : Int))) (hex : (IntKind.i64.wrap (x0 : Int) == IntKind.i64.wrap (code + 128)) = true) (hexw : (wrap64 (x0 : Int) == wrap64 (code + 128)) = true) (x1 : Nat) (hx1 : x1 < 256) (hc1 : w.cell? ⟨bk, off + 1, none⟩ = some (.int .u8 (x1 : Int))) (h2 : N = 2) (h1 : x1 = 0) :
    Calls Try.prog 29 #[.agg #[.int .i64 code, .int .i64 addr, .int .i64 count, .slice A1 n1 c1, .slice A2 n2 c2, .slice A3 n3 c3], .slice A N c] w (RetGR w (rep0, 3)) := by
  subst h2; subst h1
  subst hA
  have HC0 := Lib.hid (fun W (hX : Ext w W) => hX.cell hbk hc0)
  have HC1 := Lib.hid (fun W (hX : Ext w W) => hX.cell hbk hc1)
  clear hc1
  clear hc0
  go_enter Try.func29, Try.ntmps29
  go_wp2_with fail
  refine (HC.out _ ((Ext.alloc _ _).trans (Ext.alloc _ _))).mono ?_
  rintro e w1 ⟨rfl, hx⟩
  have Z := Lib.hid (show Ext w w1 from ((Ext.alloc _ _).trans (Ext.alloc _ _)).trans hx)
  have BA := Lib.hid (show w1.heap[w.heap.size]? = some (.cells #[.int .i64 code, .int .i64 addr, .int .i64 count, .slice A1 n1 c1, .slice A2 n2 c2, .slice A3 n3 c3] 26 (0, 0)) from hx.block ((Ext.alloc _ _).block (heap_at _ _ _ (by simp))))
  have BO := Lib.hid (show w1.heap[w.heap.size + 1]? = some (.cells #[.int .i64 0, .slice none 0 0, .slice none 0 0, .slice none 0 0] 29 (0, 0)) from hx.block (heap_at _ _ _ (by simp)))
  have X := Lib.hid Z.out
  clear hx Z
  obtain ⟨d0, d1, d2, d3, d4, d5⟩ := cells6 BA.out
  obtain ⟨f0, f1, f2, f3⟩ := cells4 BO.out
  have fz0 := frozen_of_row _ _ 0 _ _ BO.out
  have fz1 := frozen_of_row _ _ 1 _ _ BO.out
  have fz2 := frozen_of_row _ _ 2 _ _ BO.out
  have fz3 := frozen_of_row _ _ 3 _ _ BO.out
  have e0 := HC0.out _ X.out
  have e1 := HC1.out _ X.out
  go_wp2_with fail
  go_quiet (fail)
  go_wp2_with fail
  refine bodyPost_ret (v := .tuple #[repV rep0 repS0, .int .i64 3]) (by simp [results, Try.results29, go_sem, repV, rep0, repS0, *]) rfl ⟨repS0, rfl, repOw0 _ _, ?_⟩
  repeat' (first | with_reducible exact X.out | with_reducible refine Ext.drewN' ?_ _ | with_reducible refine Ext.drew' ?_ | with_reducible refine Ext.alloc' ?_ _ | with_reducible refine Ext.set' ?_ (by simp <;> omega) _)
theorem r4g_exh (code addr count : Int) (A1 A2 A3 : Option Addr) (n1 c1 n2 c2 n3 c3 : Nat) (w : World) (A : Option Addr) (N c : Nat) (HC : Hid (∀ W, Ext w W → Calls Try.prog 55 #[.agg #[.int .i64 code, .int .i64 addr, .int .i64 count, .slice A1 n1 c1, .slice A2 n2 c2, .slice A3 n3 c3]] W (RetI W 0)))(x0 : Nat) (bk off : Nat) (hA : A = some ⟨bk, off, none⟩) (hN : 0 < N) (hN0 : ((N : Int) == 0) = false) (hbk : bk < w.heap.size) (hc0 : w.cell? ⟨bk, off, none⟩ = some (.int .u8 (x0 : Int))) (hex : (IntKind.i64.wrap (x0 : Int) == IntKind.i64.wrap (code + 128)) = true) (hexw : (wrap64 (x0 : Int) == wrap64 (code + 128)) = true) (x1 : Nat) (hx1 : x1 < 256) (hc1 : w.cell? ⟨bk, off + 1, none⟩ = some (.int .u8 (x1 : Int))) (h2 : N = 2) (h1 : (127 : Int) < (x1 : Int)) (q0 : ((x1 : Int) == 0) = false) :
    Calls Try.prog 29 #[.agg #[.int .i64 code, .int .i64 addr, .int .i64 count, .slice A1 n1 c1, .slice A2 n2 c2, .slice A3 n3 c3], .slice A N c] w (RetGR w (rep0, 3)) := by
  subst h2
  have n0 : ¬ (x1 : Int) = 0 := by omega
  subst hA
  have HC0 := Lib.hid (fun W (hX : Ext w W) => hX.cell hbk hc0)
  have HC1 := Lib.hid (fun W (hX : Ext w W) => hX.cell hbk hc1)
  clear hc1
  clear hc0
  go_enter Try.func29, Try.ntmps29
  go_wp2_with fail
  refine (HC.out _ ((Ext.alloc _ _).trans (Ext.alloc _ _))).mono ?_
  rintro e w1 ⟨rfl, hx⟩
  have Z := Lib.hid (show Ext w w1 from ((Ext.alloc _ _).trans (Ext.alloc _ _)).trans hx)
  have BA := Lib.hid (show w1.heap[w.heap.size]? = some (.cells #[.int .i64 code, .int .i64 addr, .int .i64 count, .slice A1 n1 c1, .slice A2 n2 c2, .slice A3 n3 c3] 26 (0, 0)) from hx.block ((Ext.alloc _ _).block (heap_at _ _ _ (by simp))))
  have BO := Lib.hid (show w1.heap[w.heap.size + 1]? = some (.cells #[.int .i64 0, .slice none 0 0, .slice none 0 0, .slice none 0 0] 29 (0, 0)) from hx.block (heap_at _ _ _ (by simp)))
  have X := Lib.hid Z.out
  clear hx Z
  obtain ⟨d0, d1, d2, d3, d4, d5⟩ := cells6 BA.out
  obtain ⟨f0, f1, f2, f3⟩ := cells4 BO.out
  have fz0 := frozen_of_row _ _ 0 _ _ BO.out
  have fz1 := frozen_of_row _ _ 1 _ _ BO.out
  have fz2 := frozen_of_row _ _ 2 _ _ BO.out
  have fz3 := frozen_of_row _ _ 3 _ _ BO.out
  have e0 := HC0.out _ X.out
  have e1 := HC1.out _ X.out
  go_wp2_with fail
  go_quiet (fail)
  go_wp2_with fail
  refine bodyPost_ret (v := .tuple #[repV rep0 repS0, .int .i64 3]) (by simp [results, Try.results29, go_sem, repV, rep0, repS0, *]) rfl ⟨repS0, rfl, repOw0 _ _, ?_⟩
  repeat' (first | with_reducible exact X.out | with_reducible refine Ext.drewN' ?_ _ | with_reducible refine Ext.drew' ?_ | with_reducible refine Ext.alloc' ?_ _ | with_reducible refine Ext.set' ?_ (by simp <;> omega) _)
theorem r4g_exo (code addr count : Int) (A1 A2 A3 : Option Addr) (n1 c1 n2 c2 n3 c3 : Nat) (w : World) (A : Option Addr) (N c : Nat) (HC : Hid (∀ W, Ext w W → Calls Try.prog 55 #[.agg #[.int .i64 code, .int .i64 addr, .int .i64 count, .slice A1 n1 c1, .slice A2 n2 c2, .slice A3 n3 c3]] W (RetI W 0)))(x0 : Nat) (bk off : Nat) (hA : A = some ⟨bk, off, none⟩) (hN : 0 < N) (hN0 : ((N : Int) == 0) = false) (hbk : bk < w.heap.size) (hc0 : w.cell? ⟨bk, off, none⟩ = some (.int .u8 (x0 : Int))) (hex : (IntKind.i64.wrap (x0 : Int) == IntKind.i64.wrap (code + 128)) = true) (hexw : (wrap64 (x0 : Int) == wrap64 (code + 128)) = true) (x1 : Nat) (hx1 : x1 < 256) (hc1 : w.cell? ⟨bk, off + 1, none⟩ = some (.int .u8 (x1 : Int))) (h2 : N = 2) (h1 : ¬ (127 : Int) < (x1 : Int)) (q0 : ((x1 : Int) == 0) = false) :
    Calls Try.prog 29 #[.agg #[.int .i64 code, .int .i64 addr, .int .i64 count, .slice A1 n1 c1, .slice A2 n2 c2, .slice A3 n3 c3], .slice A N c] w (RetGR w (⟨(x1 : Int), [], [], []⟩, 0)) := by
  subst h2
  have n0 : ¬ (x1 : Int) = 0 := by simpa using q0
  have v2 : IntKind.i64.wrap (x1 : Int) = (x1 : Int) := IntWalk.i64_in _ (by omega)
  subst hA
  have HC0 := Lib.hid (fun W (hX : Ext w W) => hX.cell hbk hc0)
  have HC1 := Lib.hid (fun W (hX : Ext w W) => hX.cell hbk hc1)
  clear hc1
  clear hc0
  go_enter Try.func29, Try.ntmps29
  go_wp2_with fail
  refine (HC.out _ ((Ext.alloc _ _).trans (Ext.alloc _ _))).mono ?_
  rintro e w1 ⟨rfl, hx⟩
  have Z := Lib.hid (show Ext w w1 from ((Ext.alloc _ _).trans (Ext.alloc _ _)).trans hx)
  have BA := Lib.hid (show w1.heap[w.heap.size]? = some (.cells #[.int .i64 code, .int .i64 addr, .int .i64 count, .slice A1 n1 c1, .slice A2 n2 c2, .slice A3 n3 c3] 26 (0, 0)) from hx.block ((Ext.alloc _ _).block (heap_at _ _ _ (by simp))))
  have BO := Lib.hid (show w1.heap[w.heap.size + 1]? = some (.cells #[.int .i64 0, .slice none 0 0, .slice none 0 0, .slice none 0 0] 29 (0, 0)) from hx.block (heap_at _ _ _ (by simp)))
  have X := Lib.hid Z.out
  clear hx Z
  obtain ⟨d0, d1, d2, d3, d4, d5⟩ := cells6 BA.out
  obtain ⟨f0, f1, f2, f3⟩ := cells4 BO.out
  have fz0 := frozen_of_row _ _ 0 _ _ BO.out
  have fz1 := frozen_of_row _ _ 1 _ _ BO.out
  have fz2 := frozen_of_row _ _ 2 _ _ BO.out
  have fz3 := frozen_of_row _ _ 3 _ _ BO.out
  have e0 := HC0.out _ X.out
  have e1 := HC1.out _ X.out
  go_wp2_with fail
  go_quiet (fail)
  go_wp2_with fail
  refine bodyPost_ret (v := .tuple #[repV ⟨(x1 : Int), [], [], []⟩ repS0, .int .i64 0]) (by simp [results, Try.results29, go_sem, repV, rep0, repS0, *]) rfl ⟨repS0, rfl, repOwE _ _ _ (by unfold i64P; omega), ?_⟩
  repeat' (first | with_reducible exact X.out | with_reducible refine Ext.drewN' ?_ _ | with_reducible refine Ext.drew' ?_ | with_reducible refine Ext.alloc' ?_ _ | with_reducible refine Ext.set' ?_ (by simp <;> omega) _)
theorem r4g_code (code addr count : Int) (A1 A2 A3 : Option Addr) (n1 c1 n2 c2 n3 c3 : Nat) (w : World) (A : Option Addr) (N c : Nat) (HC : Hid (∀ W, Ext w W → Calls Try.prog 55 #[.agg #[.int .i64 code, .int .i64 addr, .int .i64 count, .slice A1 n1 c1, .slice A2 n2 c2, .slice A3 n3 c3]] W (RetI W 0)))(x0 : Nat) (bk off : Nat) (hA : A = some ⟨bk, off, none⟩) (hN : 0 < N) (hN0 : ((N : Int) == 0) = false) (hbk : bk < w.heap.size) (hc0 : w.cell? ⟨bk, off, none⟩ = some (.int .u8 (x0 : Int))) (hex : (IntKind.i64.wrap (x0 : Int) == IntKind.i64.wrap (code + 128)) = false) (hexw : (wrap64 (x0 : Int) == wrap64 (code + 128)) = false) (hce : (IntKind.i64.wrap (x0 : Int) != IntKind.i64.wrap code) = true) (hcew : (wrap64 (x0 : Int) != code) = true)  :
    Calls Try.prog 29 #[.agg #[.int .i64 code, .int .i64 addr, .int .i64 count, .slice A1 n1 c1, .slice A2 n2 c2, .slice A3 n3 c3], .slice A N c] w (RetGR w (rep0, 20)) := by
  subst hA
  have HC0 := Lib.hid (fun W (hX : Ext w W) => hX.cell hbk hc0)
  clear hc0
  go_enter Try.func29, Try.ntmps29
  go_wp2_with fail
  refine (HC.out _ ((Ext.alloc _ _).trans (Ext.alloc _ _))).mono ?_
  rintro e w1 ⟨rfl, hx⟩
  have Z := Lib.hid (show Ext w w1 from ((Ext.alloc _ _).trans (Ext.alloc _ _)).trans hx)
  have BA := Lib.hid (show w1.heap[w.heap.size]? = some (.cells #[.int .i64 code, .int .i64 addr, .int .i64 count, .slice A1 n1 c1, .slice A2 n2 c2, .slice A3 n3 c3] 26 (0, 0)) from hx.block ((Ext.alloc _ _).block (heap_at _ _ _ (by simp))))
  have BO := Lib.hid (show w1.heap[w.heap.size + 1]? = some (.cells #[.int .i64 0, .slice none 0 0, .slice none 0 0, .slice none 0 0] 29 (0, 0)) from hx.block (heap_at _ _ _ (by simp)))
  have X := Lib.hid Z.out
  clear hx Z
  obtain ⟨d0, d1, d2, d3, d4, d5⟩ := cells6 BA.out
  obtain ⟨f0, f1, f2, f3⟩ := cells4 BO.out
  have fz0 := frozen_of_row _ _ 0 _ _ BO.out
  have fz1 := frozen_of_row _ _ 1 _ _ BO.out
  have fz2 := frozen_of_row _ _ 2 _ _ BO.out
  have fz3 := frozen_of_row _ _ 3 _ _ BO.out
  have e0 := HC0.out _ X.out
  go_wp2_with fail
  go_quiet (fail)
  go_wp2_with fail
  go_quiet (fail)
  go_wp2_with fail
  refine bodyPost_ret (v := .tuple #[repV rep0 repS0, .int .i64 20]) (by simp [results, Try.results29, go_sem, repV, rep0, repS0, *]) rfl ⟨repS0, rfl, repOw0 _ _, ?_⟩
  repeat' (first | with_reducible exact X.out | with_reducible refine Ext.drewN' ?_ _ | with_reducible refine Ext.drew' ?_ | with_reducible refine Ext.alloc' ?_ _ | with_reducible refine Ext.set' ?_ (by simp <;> omega) _)
theorem r4g_short (code addr count : Int) (A1 A2 A3 : Option Addr) (n1 c1 n2 c2 n3 c3 : Nat) (w : World) (A : Option Addr) (N c : Nat) (HC : Hid (∀ W, Ext w W → Calls Try.prog 55 #[.agg #[.int .i64 code, .int .i64 addr, .int .i64 count, .slice A1 n1 c1, .slice A2 n2 c2, .slice A3 n3 c3]] W (RetI W 0)))(x0 : Nat) (bk off : Nat) (hA : A = some ⟨bk, off, none⟩) (hN : 0 < N) (hN0 : ((N : Int) == 0) = false) (hbk : bk < w.heap.size) (hc0 : w.cell? ⟨bk, off, none⟩ = some (.int .u8 (x0 : Int))) (hex : (IntKind.i64.wrap (x0 : Int) == IntKind.i64.wrap (code + 128)) = false) (hexw : (wrap64 (x0 : Int) == wrap64 (code + 128)) = false) (hce : (IntKind.i64.wrap (x0 : Int) != IntKind.i64.wrap code) = false) (hcew : (wrap64 (x0 : Int) != code) = false) (L : Nat) (HL : Hid (∀ W, Ext w W → Calls Try.prog 80 #[.agg #[.int .i64 code, .int .i64 addr, .int .i64 count, .slice A1 n1 c1, .slice A2 n2 c2, .slice A3 n3 c3]] W (RetI W (L : Nat)))) (hs : (N : Int) < (L : Int)) :
    Calls Try.prog 29 #[.agg #[.int .i64 code, .int .i64 addr, .int .i64 count, .slice A1 n1 c1, .slice A2 n2 c2, .slice A3 n3 c3], .slice A N c] w (RetGR w (rep0, 1)) := by
  subst hA
  have HC0 := Lib.hid (fun W (hX : Ext w W) => hX.cell hbk hc0)
  clear hc0
  go_enter Try.func29, Try.ntmps29
  go_wp2_with fail
  refine (HC.out _ ((Ext.alloc _ _).trans (Ext.alloc _ _))).mono ?_
  rintro e w1 ⟨rfl, hx⟩
  have Z := Lib.hid (show Ext w w1 from ((Ext.alloc _ _).trans (Ext.alloc _ _)).trans hx)
  have BA := Lib.hid (show w1.heap[w.heap.size]? = some (.cells #[.int .i64 code, .int .i64 addr, .int .i64 count, .slice A1 n1 c1, .slice A2 n2 c2, .slice A3 n3 c3] 26 (0, 0)) from hx.block ((Ext.alloc _ _).block (heap_at _ _ _ (by simp))))
  have BO := Lib.hid (show w1.heap[w.heap.size + 1]? = some (.cells #[.int .i64 0, .slice none 0 0, .slice none 0 0, .slice none 0 0] 29 (0, 0)) from hx.block (heap_at _ _ _ (by simp)))
  have X := Lib.hid Z.out
  clear hx Z
  obtain ⟨d0, d1, d2, d3, d4, d5⟩ := cells6 BA.out
  obtain ⟨f0, f1, f2, f3⟩ := cells4 BO.out
  have fz0 := frozen_of_row _ _ 0 _ _ BO.out
  have fz1 := frozen_of_row _ _ 1 _ _ BO.out
  have fz2 := frozen_of_row _ _ 2 _ _ BO.out
  have fz3 := frozen_of_row _ _ 3 _ _ BO.out
  have e0 := HC0.out _ X.out
  go_wp2_with fail
  go_quiet (fail)
  go_wp2_with fail
  go_quiet (fail)
  go_wp2_with fail
  refine (HL.out _ (X.out.trans (Ext.draws _ _))).mono ?_
  rintro e w2 ⟨rfl, hx⟩
  have Z := Lib.hid (show Ext w1 w2 from (Ext.draws _ _).trans hx)
  replace BA := Lib.hid (Z.out.block BA.out)
  replace BO := Lib.hid (Z.out.block BO.out)
  replace X := Lib.hid (X.out.trans Z.out)
  clear d0 d1 d2 d3 d4 d5 f0 f1 f2 f3 fz0 fz1 fz2 fz3 e0
  clear hx Z
  obtain ⟨d0, d1, d2, d3, d4, d5⟩ := cells6 BA.out
  obtain ⟨f0, f1, f2, f3⟩ := cells4 BO.out
  have fz0 := frozen_of_row _ _ 0 _ _ BO.out
  have fz1 := frozen_of_row _ _ 1 _ _ BO.out
  have fz2 := frozen_of_row _ _ 2 _ _ BO.out
  have fz3 := frozen_of_row _ _ 3 _ _ BO.out
  go_wp2_with fail
  refine bodyPost_ret (v := .tuple #[repV rep0 repS0, .int .i64 1]) (by simp [results, Try.results29, go_sem, repV, rep0, repS0, *]) rfl ⟨repS0, rfl, repOw0 _ _, ?_⟩
  repeat' (first | with_reducible exact X.out | with_reducible refine Ext.drewN' ?_ _ | with_reducible refine Ext.drew' ?_ | with_reducible refine Ext.alloc' ?_ _ | with_reducible refine Ext.set' ?_ (by simp <;> omega) _)
theorem r4g_long (code addr count : Int) (A1 A2 A3 : Option Addr) (n1 c1 n2 c2 n3 c3 : Nat) (w : World) (A : Option Addr) (N c : Nat) (HC : Hid (∀ W, Ext w W → Calls Try.prog 55 #[.agg #[.int .i64 code, .int .i64 addr, .int .i64 count, .slice A1 n1 c1, .slice A2 n2 c2, .slice A3 n3 c3]] W (RetI W 0)))(x0 : Nat) (bk off : Nat) (hA : A = some ⟨bk, off, none⟩) (hN : 0 < N) (hN0 : ((N : Int) == 0) = false) (hbk : bk < w.heap.size) (hc0 : w.cell? ⟨bk, off, none⟩ = some (.int .u8 (x0 : Int))) (hex : (IntKind.i64.wrap (x0 : Int) == IntKind.i64.wrap (code + 128)) = false) (hexw : (wrap64 (x0 : Int) == wrap64 (code + 128)) = false) (hce : (IntKind.i64.wrap (x0 : Int) != IntKind.i64.wrap code) = false) (hcew : (wrap64 (x0 : Int) != code) = false) (L : Nat) (HL : Hid (∀ W, Ext w W → Calls Try.prog 80 #[.agg #[.int .i64 code, .int .i64 addr, .int .i64 count, .slice A1 n1 c1, .slice A2 n2 c2, .slice A3 n3 c3]] W (RetI W (L : Nat)))) (hs : (L : Int) < (N : Int)) :
    Calls Try.prog 29 #[.agg #[.int .i64 code, .int .i64 addr, .int .i64 count, .slice A1 n1 c1, .slice A2 n2 c2, .slice A3 n3 c3], .slice A N c] w (RetGR w (rep0, 2)) := by
  subst hA
  have HC0 := Lib.hid (fun W (hX : Ext w W) => hX.cell hbk hc0)
  clear hc0
  go_enter Try.func29, Try.ntmps29
  go_wp2_with fail
  refine (HC.out _ ((Ext.alloc _ _).trans (Ext.alloc _ _))).mono ?_
  rintro e w1 ⟨rfl, hx⟩
  have Z := Lib.hid (show Ext w w1 from ((Ext.alloc _ _).trans (Ext.alloc _ _)).trans hx)
  have BA := Lib.hid (show w1.heap[w.heap.size]? = some (.cells #[.int .i64 code, .int .i64 addr, .int .i64 count, .slice A1 n1 c1, .slice A2 n2 c2, .slice A3 n3 c3] 26 (0, 0)) from hx.block ((Ext.alloc _ _).block (heap_at _ _ _ (by simp))))
  have BO := Lib.hid (show w1.heap[w.heap.size + 1]? = some (.cells #[.int .i64 0, .slice none 0 0, .slice none 0 0, .slice none 0 0] 29 (0, 0)) from hx.block (heap_at _ _ _ (by simp)))
  have X := Lib.hid Z.out
  clear hx Z
  obtain ⟨d0, d1, d2, d3, d4, d5⟩ := cells6 BA.out
  obtain ⟨f0, f1, f2, f3⟩ := cells4 BO.out
  have fz0 := frozen_of_row _ _ 0 _ _ BO.out
  have fz1 := frozen_of_row _ _ 1 _ _ BO.out
  have fz2 := frozen_of_row _ _ 2 _ _ BO.out
  have fz3 := frozen_of_row _ _ 3 _ _ BO.out
  have e0 := HC0.out _ X.out
  go_wp2_with fail
  go_quiet (fail)
  go_wp2_with fail
  go_quiet (fail)
  go_wp2_with fail
  refine (HL.out _ (X.out.trans (Ext.draws _ _))).mono ?_
  rintro e w2 ⟨rfl, hx⟩
  have Z := Lib.hid (show Ext w1 w2 from (Ext.draws _ _).trans hx)
  replace BA := Lib.hid (Z.out.block BA.out)
  replace BO := Lib.hid (Z.out.block BO.out)
  replace X := Lib.hid (X.out.trans Z.out)
  clear d0 d1 d2 d3 d4 d5 f0 f1 f2 f3 fz0 fz1 fz2 fz3 e0
  clear hx Z
  obtain ⟨d0, d1, d2, d3, d4, d5⟩ := cells6 BA.out
  obtain ⟨f0, f1, f2, f3⟩ := cells4 BO.out
  have fz0 := frozen_of_row _ _ 0 _ _ BO.out
  have fz1 := frozen_of_row _ _ 1 _ _ BO.out
  have fz2 := frozen_of_row _ _ 2 _ _ BO.out
  have fz3 := frozen_of_row _ _ 3 _ _ BO.out
  go_wp2_with fail
  refine (HL.out _ X.out).mono ?_
  rintro e w3 ⟨rfl, hx⟩
  have Z := Lib.hid (show Ext w2 w3 from hx)
  replace BA := Lib.hid (Z.out.block BA.out)
  replace BO := Lib.hid (Z.out.block BO.out)
  replace X := Lib.hid (X.out.trans Z.out)
  clear d0 d1 d2 d3 d4 d5 f0 f1 f2 f3 fz0 fz1 fz2 fz3
  clear hx Z
  obtain ⟨d0, d1, d2, d3, d4, d5⟩ := cells6 BA.out
  obtain ⟨f0, f1, f2, f3⟩ := cells4 BO.out
  have fz0 := frozen_of_row _ _ 0 _ _ BO.out
  have fz1 := frozen_of_row _ _ 1 _ _ BO.out
  have fz2 := frozen_of_row _ _ 2 _ _ BO.out
  have fz3 := frozen_of_row _ _ 3 _ _ BO.out
  go_wp2_with fail
  refine bodyPost_ret (v := .tuple #[repV rep0 repS0, .int .i64 2]) (by simp [results, Try.results29, go_sem, repV, rep0, repS0, *]) rfl ⟨repS0, rfl, repOw0 _ _, ?_⟩
  repeat' (first | with_reducible exact X.out | with_reducible refine Ext.drewN' ?_ _ | with_reducible refine Ext.drew' ?_ | with_reducible refine Ext.alloc' ?_ _ | with_reducible refine Ext.set' ?_ (by simp <;> omega) _)
theorem r4g_ok (code addr count : Int) (A1 A2 A3 : Option Addr) (n1 c1 n2 c2 n3 c3 : Nat) (w : World) (A : Option Addr) (N c : Nat) (HC : Hid (∀ W, Ext w W → Calls Try.prog 55 #[.agg #[.int .i64 code, .int .i64 addr, .int .i64 count, .slice A1 n1 c1, .slice A2 n2 c2, .slice A3 n3 c3]] W (RetI W 0)))(x0 : Nat) (bk off : Nat) (hA : A = some ⟨bk, off, none⟩) (hN : 0 < N) (hN0 : ((N : Int) == 0) = false) (hbk : bk < w.heap.size) (hc0 : w.cell? ⟨bk, off, none⟩ = some (.int .u8 (x0 : Int))) (hex : (IntKind.i64.wrap (x0 : Int) == IntKind.i64.wrap (code + 128)) = false) (hexw : (wrap64 (x0 : Int) == wrap64 (code + 128)) = false) (hce : (IntKind.i64.wrap (x0 : Int) != IntKind.i64.wrap code) = false) (hcew : (wrap64 (x0 : Int) != code) = false) (L : Nat) (HL : Hid (∀ W, Ext w W → Calls Try.prog 80 #[.agg #[.int .i64 code, .int .i64 addr, .int .i64 count, .slice A1 n1 c1, .slice A2 n2 c2, .slice A3 n3 c3]] W (RetI W (L : Nat)))) (hs : L = N) (r1 : RepD) (he : r1.exc = 0) (xs : List UInt8) (b : List UInt8) (hb : Rd w A N (b.map cB)) (hNN : N ≤ 300) (HSH : Hid (∀ W, Ext w W → Calls Try.prog 81 #[.agg #[.int .i64 code, .int .i64 addr, .int .i64 count, .slice A1 n1 c1, .slice A2 n2 c2, .slice A3 n3 c3], .slice A N c] W (RetSh W r1)))(HPT : Hid (∀ W t, Ext w W → RepRd W r1 t → Calls Try.prog 21 #[.agg #[.int .i64 code, .int .i64 addr, .int .i64 count, .slice A1 n1 c1, .slice A2 n2 c2, .slice A3 n3 c3], repV r1 t] W (RetU W xs 0)))(hxe : xs = b) :
    Calls Try.prog 29 #[.agg #[.int .i64 code, .int .i64 addr, .int .i64 count, .slice A1 n1 c1, .slice A2 n2 c2, .slice A3 n3 c3], .slice A N c] w (RetGR w (r1, 0)) := by
  subst hs
  have HBB := Lib.hid hb
  obtain ⟨exc, ron, rset, files⟩ := r1
  simp only at he
  subst he
  simp only [repV] at HPT
  clear hb
  subst hxe
  have hxl : xs.length ≤ 300 := by have := HBB.out.length; omega
  subst hA
  have HC0 := Lib.hid (fun W (hX : Ext w W) => hX.cell hbk hc0)
  clear hc0
  go_enter Try.func29, Try.ntmps29
  go_wp2_with fail
  refine (HC.out _ ((Ext.alloc _ _).trans (Ext.alloc _ _))).mono ?_
  rintro e w1 ⟨rfl, hx⟩
  have Z := Lib.hid (show Ext w w1 from ((Ext.alloc _ _).trans (Ext.alloc _ _)).trans hx)
  have BA := Lib.hid (show w1.heap[w.heap.size]? = some (.cells #[.int .i64 code, .int .i64 addr, .int .i64 count, .slice A1 n1 c1, .slice A2 n2 c2, .slice A3 n3 c3] 26 (0, 0)) from hx.block ((Ext.alloc _ _).block (heap_at _ _ _ (by simp))))
  have BO := Lib.hid (show w1.heap[w.heap.size + 1]? = some (.cells #[.int .i64 0, .slice none 0 0, .slice none 0 0, .slice none 0 0] 29 (0, 0)) from hx.block (heap_at _ _ _ (by simp)))
  have X := Lib.hid Z.out
  clear hx Z
  obtain ⟨d0, d1, d2, d3, d4, d5⟩ := cells6 BA.out
  obtain ⟨f0, f1, f2, f3⟩ := cells4 BO.out
  have fz0 := frozen_of_row _ _ 0 _ _ BO.out
  have fz1 := frozen_of_row _ _ 1 _ _ BO.out
  have fz2 := frozen_of_row _ _ 2 _ _ BO.out
  have fz3 := frozen_of_row _ _ 3 _ _ BO.out
  have e0 := HC0.out _ X.out
  go_wp2_with fail
  go_quiet (fail)
  go_wp2_with fail
  go_quiet (fail)
  go_wp2_with fail
  refine (HL.out _ (X.out.trans (Ext.draws _ _))).mono ?_
  rintro e w2 ⟨rfl, hx⟩
  have Z := Lib.hid (show Ext w1 w2 from (Ext.draws _ _).trans hx)
  replace BA := Lib.hid (Z.out.block BA.out)
  replace BO := Lib.hid (Z.out.block BO.out)
  replace X := Lib.hid (X.out.trans Z.out)
  clear d0 d1 d2 d3 d4 d5 f0 f1 f2 f3 fz0 fz1 fz2 fz3 e0
  clear hx Z
  obtain ⟨d0, d1, d2, d3, d4, d5⟩ := cells6 BA.out
  obtain ⟨f0, f1, f2, f3⟩ := cells4 BO.out
  have fz0 := frozen_of_row _ _ 0 _ _ BO.out
  have fz1 := frozen_of_row _ _ 1 _ _ BO.out
  have fz2 := frozen_of_row _ _ 2 _ _ BO.out
  have fz3 := frozen_of_row _ _ 3 _ _ BO.out
  go_wp2_with fail
  refine (HL.out _ X.out).mono ?_
  rintro e w3 ⟨rfl, hx⟩
  have Z := Lib.hid (show Ext w2 w3 from hx)
  replace BA := Lib.hid (Z.out.block BA.out)
  replace BO := Lib.hid (Z.out.block BO.out)
  replace X := Lib.hid (X.out.trans Z.out)
  clear d0 d1 d2 d3 d4 d5 f0 f1 f2 f3 fz0 fz1 fz2 fz3
  clear hx Z
  obtain ⟨d0, d1, d2, d3, d4, d5⟩ := cells6 BA.out
  obtain ⟨f0, f1, f2, f3⟩ := cells4 BO.out
  have fz0 := frozen_of_row _ _ 0 _ _ BO.out
  have fz1 := frozen_of_row _ _ 1 _ _ BO.out
  have fz2 := frozen_of_row _ _ 2 _ _ BO.out
  have fz3 := frozen_of_row _ _ 3 _ _ BO.out
  go_wp2_with fail
  have BOO := BO
  refine (HSH.out _ X.out).mono ?_
  rintro e w4 ⟨t, rfl, how, hx⟩
  have Z := Lib.hid (show Ext w3 w4 from hx)
  replace BA := Lib.hid (Z.out.block BA.out)
  replace BO := Lib.hid (Z.out.block BO.out)
  replace X := Lib.hid (X.out.trans Z.out)
  have HW := Lib.hid (how.mono (show w.heap.size + 2 ≤ _ from by have := lt_of_heap BOO.out; omega))
  clear how
  obtain ⟨B1, m1, k1, B2, m2, k2, B3, m3, k3⟩ := t
  simp only [repV]
  clear d0 d1 d2 d3 d4 d5 f0 f1 f2 f3 fz0 fz1 fz2 fz3
  clear hx Z
  obtain ⟨d0, d1, d2, d3, d4, d5⟩ := cells6 BA.out
  have da0 := fun o : Obj => (cells6 ((Ext.alloc _ o).block BA.out)).1
  have da1 := fun o : Obj => (cells6 ((Ext.alloc _ o).block BA.out)).2.1
  have da2 := fun o : Obj => (cells6 ((Ext.alloc _ o).block BA.out)).2.2.1
  have da3 := fun o : Obj => (cells6 ((Ext.alloc _ o).block BA.out)).2.2.2.1
  have da4 := fun o : Obj => (cells6 ((Ext.alloc _ o).block BA.out)).2.2.2.2.1
  have da5 := fun o : Obj => (cells6 ((Ext.alloc _ o).block BA.out)).2.2.2.2.2
  obtain ⟨f0, f1, f2, f3⟩ := cells4 BO.out
  have fa0 := fun o : Obj => (cells4 ((Ext.alloc _ o).block BO.out)).1
  have fa1 := fun o : Obj => (cells4 ((Ext.alloc _ o).block BO.out)).2.1
  have fa2 := fun o : Obj => (cells4 ((Ext.alloc _ o).block BO.out)).2.2.1
  have fa3 := fun o : Obj => (cells4 ((Ext.alloc _ o).block BO.out)).2.2.2
  have fz0 := frozen_of_row _ _ 0 _ _ BO.out
  have fz1 := frozen_of_row _ _ 1 _ _ BO.out
  have fz2 := frozen_of_row _ _ 2 _ _ BO.out
  have fz3 := frozen_of_row _ _ 3 _ _ BO.out
  go_wp2_with fail
  refine (HPT.out _ ⟨B1, m1, k1, B2, m2, k2, B3, m3, k3⟩ (X.out.trans (Ext.alloc _ _)) (HW.out.ext (Ext.alloc _ _)).rd).mono ?_
  rintro e w5 ⟨A5, n5, c5, rfl, ho5, hx⟩
  have Z := Lib.hid (show Ext w4 w5 from (Ext.alloc _ _).trans hx)
  replace BA := Lib.hid (Z.out.block BA.out)
  replace BO := Lib.hid (Z.out.block BO.out)
  have BX := Lib.hid (show w5.heap[w4.heap.size]? = some (.cells #[.int .i64 0, .slice B1 m1 k1, .slice B2 m2 k2, .slice B3 m3 k3] 29 (0, 0)) from hx.block (heap_at _ _ _ (by simp)))
  replace X := Lib.hid (X.out.trans Z.out)
  replace HW := Lib.hid (HW.out.ext Z.out)
  obtain rfl : xs.length = n5 := by have := ho5.len; simpa using this
  have HO := Lib.hid ho5.rd
  clear ho5
  clear d0 d1 d2 d3 d4 d5 da0 da1 da2 da3 da4 da5 f0 f1 f2 f3 fa0 fa1 fa2 fa3 fz0 fz1 fz2 fz3
  clear hx Z
  obtain ⟨d0, d1, d2, d3, d4, d5⟩ := cells6 BA.out
  obtain ⟨f0, f1, f2, f3⟩ := cells4 BO.out
  have fz0 := frozen_of_row _ _ 0 _ _ BO.out
  have fz1 := frozen_of_row _ _ 1 _ _ BO.out
  have fz2 := frozen_of_row _ _ 2 _ _ BO.out
  have fz3 := frozen_of_row _ _ 3 _ _ BO.out
  obtain ⟨g0, g1, g2, g3⟩ := cells4 BX.out
  go_wp2_with fail
  refine (same_any xs xs _ _ _ _ _ _ _ HO.out (HBB.out.ext X.out) (by unfold maxLen; omega)).mono ?_
  rintro e w6 ⟨rfl, hx⟩
  have Z := Lib.hid (show Ext w5 w6 from (Ext.of hx))
  replace BA := Lib.hid (Z.out.block BA.out)
  replace BO := Lib.hid (Z.out.block BO.out)
  replace BX := Lib.hid (Z.out.block BX.out)
  replace X := Lib.hid (X.out.trans Z.out)
  replace HW := Lib.hid (HW.out.ext Z.out)
  replace HO := Lib.hid (HO.out.ext Z.out)
  rw [decide_eq_true rfl]
  clear d0 d1 d2 d3 d4 d5 f0 f1 f2 f3 fz0 fz1 fz2 fz3 g0 g1 g2 g3
  clear hx Z
  obtain ⟨d0, d1, d2, d3, d4, d5⟩ := cells6 BA.out
  have da0 := fun o : Obj => (cells6 ((Ext.alloc _ o).block BA.out)).1
  have da1 := fun o : Obj => (cells6 ((Ext.alloc _ o).block BA.out)).2.1
  have da2 := fun o : Obj => (cells6 ((Ext.alloc _ o).block BA.out)).2.2.1
  have da3 := fun o : Obj => (cells6 ((Ext.alloc _ o).block BA.out)).2.2.2.1
  have da4 := fun o : Obj => (cells6 ((Ext.alloc _ o).block BA.out)).2.2.2.2.1
  have da5 := fun o : Obj => (cells6 ((Ext.alloc _ o).block BA.out)).2.2.2.2.2
  obtain ⟨f0, f1, f2, f3⟩ := cells4 BO.out
  have fa0 := fun o : Obj => (cells4 ((Ext.alloc _ o).block BO.out)).1
  have fa1 := fun o : Obj => (cells4 ((Ext.alloc _ o).block BO.out)).2.1
  have fa2 := fun o : Obj => (cells4 ((Ext.alloc _ o).block BO.out)).2.2.1
  have fa3 := fun o : Obj => (cells4 ((Ext.alloc _ o).block BO.out)).2.2.2
  have fz0 := frozen_of_row _ _ 0 _ _ BO.out
  have fz1 := frozen_of_row _ _ 1 _ _ BO.out
  have fz2 := frozen_of_row _ _ 2 _ _ BO.out
  have fz3 := frozen_of_row _ _ 3 _ _ BO.out
  obtain ⟨g0, g1, g2, g3⟩ := cells4 BX.out
  have ga0 := fun o : Obj => (cells4 ((Ext.alloc _ o).block BX.out)).1
  have ga1 := fun o : Obj => (cells4 ((Ext.alloc _ o).block BX.out)).2.1
  have ga2 := fun o : Obj => (cells4 ((Ext.alloc _ o).block BX.out)).2.2.1
  have ga3 := fun o : Obj => (cells4 ((Ext.alloc _ o).block BX.out)).2.2.2
  go_wp2_with fail
  refine bodyPost_ret (v := .tuple #[repV ⟨0, ron, rset, files⟩ ⟨B1, m1, k1, B2, m2, k2, B3, m3, k3⟩, .int .i64 0]) (by simp [results, Try.results29, go_sem, repV, rep0, repS0, *]) rfl ⟨_, rfl, ?_, ?_⟩
  · refine RepOw.mono (base := w.heap.size + 2) ?_ (by omega)
    repeat' (first | with_reducible exact HW.out | with_reducible refine RepOw.set_below ?_ (by simp) _)
  · repeat' (first | with_reducible exact X.out | with_reducible refine Ext.drewN' ?_ _ | with_reducible refine Ext.drew' ?_ | with_reducible refine Ext.alloc' ?_ _ | with_reducible refine Ext.set' ?_ (by simp <;> omega) _)
theorem r4g_form (code addr count : Int) (A1 A2 A3 : Option Addr) (n1 c1 n2 c2 n3 c3 : Nat) (w : World) (A : Option Addr) (N c : Nat) (HC : Hid (∀ W, Ext w W → Calls Try.prog 55 #[.agg #[.int .i64 code, .int .i64 addr, .int .i64 count, .slice A1 n1 c1, .slice A2 n2 c2, .slice A3 n3 c3]] W (RetI W 0)))(x0 : Nat) (bk off : Nat) (hA : A = some ⟨bk, off, none⟩) (hN : 0 < N) (hN0 : ((N : Int) == 0) = false) (hbk : bk < w.heap.size) (hc0 : w.cell? ⟨bk, off, none⟩ = some (.int .u8 (x0 : Int))) (hex : (IntKind.i64.wrap (x0 : Int) == IntKind.i64.wrap (code + 128)) = false) (hexw : (wrap64 (x0 : Int) == wrap64 (code + 128)) = false) (hce : (IntKind.i64.wrap (x0 : Int) != IntKind.i64.wrap code) = false) (hcew : (wrap64 (x0 : Int) != code) = false) (L : Nat) (HL : Hid (∀ W, Ext w W → Calls Try.prog 80 #[.agg #[.int .i64 code, .int .i64 addr, .int .i64 count, .slice A1 n1 c1, .slice A2 n2 c2, .slice A3 n3 c3]] W (RetI W (L : Nat)))) (hs : L = N) (r1 : RepD) (he : r1.exc = 0) (xs : List UInt8) (b : List UInt8) (hb : Rd w A N (b.map cB)) (hNN : N ≤ 300) (HSH : Hid (∀ W, Ext w W → Calls Try.prog 81 #[.agg #[.int .i64 code, .int .i64 addr, .int .i64 count, .slice A1 n1 c1, .slice A2 n2 c2, .slice A3 n3 c3], .slice A N c] W (RetSh W r1)))(HPT : Hid (∀ W t, Ext w W → RepRd W r1 t → Calls Try.prog 21 #[.agg #[.int .i64 code, .int .i64 addr, .int .i64 count, .slice A1 n1 c1, .slice A2 n2 c2, .slice A3 n3 c3], repV r1 t] W (RetU W xs 0)))(hxe : xs ≠ b) (hxl : xs.length ≤ 300) :
    Calls Try.prog 29 #[.agg #[.int .i64 code, .int .i64 addr, .int .i64 count, .slice A1 n1 c1, .slice A2 n2 c2, .slice A3 n3 c3], .slice A N c] w (RetGR w (rep0, 4)) := by
  subst hs
  have HBB := Lib.hid hb
  obtain ⟨exc, ron, rset, files⟩ := r1
  simp only at he
  subst he
  simp only [repV] at HPT
  clear hb
  subst hA
  have HC0 := Lib.hid (fun W (hX : Ext w W) => hX.cell hbk hc0)
  clear hc0
  go_enter Try.func29, Try.ntmps29
  go_wp2_with fail
  refine (HC.out _ ((Ext.alloc _ _).trans (Ext.alloc _ _))).mono ?_
  rintro e w1 ⟨rfl, hx⟩
  have Z := Lib.hid (show Ext w w1 from ((Ext.alloc _ _).trans (Ext.alloc _ _)).trans hx)
  have BA := Lib.hid (show w1.heap[w.heap.size]? = some (.cells #[.int .i64 code, .int .i64 addr, .int .i64 count, .slice A1 n1 c1, .slice A2 n2 c2, .slice A3 n3 c3] 26 (0, 0)) from hx.block ((Ext.alloc _ _).block (heap_at _ _ _ (by simp))))
  have BO := Lib.hid (show w1.heap[w.heap.size + 1]? = some (.cells #[.int .i64 0, .slice none 0 0, .slice none 0 0, .slice none 0 0] 29 (0, 0)) from hx.block (heap_at _ _ _ (by simp)))
  have X := Lib.hid Z.out
  clear hx Z
  obtain ⟨d0, d1, d2, d3, d4, d5⟩ := cells6 BA.out
  obtain ⟨f0, f1, f2, f3⟩ := cells4 BO.out
  have fz0 := frozen_of_row _ _ 0 _ _ BO.out
  have fz1 := frozen_of_row _ _ 1 _ _ BO.out
  have fz2 := frozen_of_row _ _ 2 _ _ BO.out
  have fz3 := frozen_of_row _ _ 3 _ _ BO.out
  have e0 := HC0.out _ X.out
  go_wp2_with fail
  go_quiet (fail)
  go_wp2_with fail
  go_quiet (fail)
  go_wp2_with fail
  refine (HL.out _ (X.out.trans (Ext.draws _ _))).mono ?_
  rintro e w2 ⟨rfl, hx⟩
  have Z := Lib.hid (show Ext w1 w2 from (Ext.draws _ _).trans hx)
  replace BA := Lib.hid (Z.out.block BA.out)
  replace BO := Lib.hid (Z.out.block BO.out)
  replace X := Lib.hid (X.out.trans Z.out)
  clear d0 d1 d2 d3 d4 d5 f0 f1 f2 f3 fz0 fz1 fz2 fz3 e0
  clear hx Z
  obtain ⟨d0, d1, d2, d3, d4, d5⟩ := cells6 BA.out
  obtain ⟨f0, f1, f2, f3⟩ := cells4 BO.out
  have fz0 := frozen_of_row _ _ 0 _ _ BO.out
  have fz1 := frozen_of_row _ _ 1 _ _ BO.out
  have fz2 := frozen_of_row _ _ 2 _ _ BO.out
  have fz3 := frozen_of_row _ _ 3 _ _ BO.out
  go_wp2_with fail
  refine (HL.out _ X.out).mono ?_
  rintro e w3 ⟨rfl, hx⟩
  have Z := Lib.hid (show Ext w2 w3 from hx)
  replace BA := Lib.hid (Z.out.block BA.out)
  replace BO := Lib.hid (Z.out.block BO.out)
  replace X := Lib.hid (X.out.trans Z.out)
  clear d0 d1 d2 d3 d4 d5 f0 f1 f2 f3 fz0 fz1 fz2 fz3
  clear hx Z
  obtain ⟨d0, d1, d2, d3, d4, d5⟩ := cells6 BA.out
  obtain ⟨f0, f1, f2, f3⟩ := cells4 BO.out
  have fz0 := frozen_of_row _ _ 0 _ _ BO.out
  have fz1 := frozen_of_row _ _ 1 _ _ BO.out
  have fz2 := frozen_of_row _ _ 2 _ _ BO.out
  have fz3 := frozen_of_row _ _ 3 _ _ BO.out
  go_wp2_with fail
  have BOO := BO
  refine (HSH.out _ X.out).mono ?_
  rintro e w4 ⟨t, rfl, how, hx⟩
  have Z := Lib.hid (show Ext w3 w4 from hx)
  replace BA := Lib.hid (Z.out.block BA.out)
  replace BO := Lib.hid (Z.out.block BO.out)
  replace X := Lib.hid (X.out.trans Z.out)
  have HW := Lib.hid (how.mono (show w.heap.size + 2 ≤ _ from by have := lt_of_heap BOO.out; omega))
  clear how
  obtain ⟨B1, m1, k1, B2, m2, k2, B3, m3, k3⟩ := t
  simp only [repV]
  clear d0 d1 d2 d3 d4 d5 f0 f1 f2 f3 fz0 fz1 fz2 fz3
  clear hx Z
  obtain ⟨d0, d1, d2, d3, d4, d5⟩ := cells6 BA.out
  have da0 := fun o : Obj => (cells6 ((Ext.alloc _ o).block BA.out)).1
  have da1 := fun o : Obj => (cells6 ((Ext.alloc _ o).block BA.out)).2.1
  have da2 := fun o : Obj => (cells6 ((Ext.alloc _ o).block BA.out)).2.2.1
  have da3 := fun o : Obj => (cells6 ((Ext.alloc _ o).block BA.out)).2.2.2.1
  have da4 := fun o : Obj => (cells6 ((Ext.alloc _ o).block BA.out)).2.2.2.2.1
  have da5 := fun o : Obj => (cells6 ((Ext.alloc _ o).block BA.out)).2.2.2.2.2
  obtain ⟨f0, f1, f2, f3⟩ := cells4 BO.out
  have fa0 := fun o : Obj => (cells4 ((Ext.alloc _ o).block BO.out)).1
  have fa1 := fun o : Obj => (cells4 ((Ext.alloc _ o).block BO.out)).2.1
  have fa2 := fun o : Obj => (cells4 ((Ext.alloc _ o).block BO.out)).2.2.1
  have fa3 := fun o : Obj => (cells4 ((Ext.alloc _ o).block BO.out)).2.2.2
  have fz0 := frozen_of_row _ _ 0 _ _ BO.out
  have fz1 := frozen_of_row _ _ 1 _ _ BO.out
  have fz2 := frozen_of_row _ _ 2 _ _ BO.out
  have fz3 := frozen_of_row _ _ 3 _ _ BO.out
  go_wp2_with fail
  refine (HPT.out _ ⟨B1, m1, k1, B2, m2, k2, B3, m3, k3⟩ (X.out.trans (Ext.alloc _ _)) (HW.out.ext (Ext.alloc _ _)).rd).mono ?_
  rintro e w5 ⟨A5, n5, c5, rfl, ho5, hx⟩
  have Z := Lib.hid (show Ext w4 w5 from (Ext.alloc _ _).trans hx)
  replace BA := Lib.hid (Z.out.block BA.out)
  replace BO := Lib.hid (Z.out.block BO.out)
  have BX := Lib.hid (show w5.heap[w4.heap.size]? = some (.cells #[.int .i64 0, .slice B1 m1 k1, .slice B2 m2 k2, .slice B3 m3 k3] 29 (0, 0)) from hx.block (heap_at _ _ _ (by simp)))
  replace X := Lib.hid (X.out.trans Z.out)
  replace HW := Lib.hid (HW.out.ext Z.out)
  obtain rfl : xs.length = n5 := by have := ho5.len; simpa using this
  have HO := Lib.hid ho5.rd
  clear ho5
  clear d0 d1 d2 d3 d4 d5 da0 da1 da2 da3 da4 da5 f0 f1 f2 f3 fa0 fa1 fa2 fa3 fz0 fz1 fz2 fz3
  clear hx Z
  obtain ⟨d0, d1, d2, d3, d4, d5⟩ := cells6 BA.out
  obtain ⟨f0, f1, f2, f3⟩ := cells4 BO.out
  have fz0 := frozen_of_row _ _ 0 _ _ BO.out
  have fz1 := frozen_of_row _ _ 1 _ _ BO.out
  have fz2 := frozen_of_row _ _ 2 _ _ BO.out
  have fz3 := frozen_of_row _ _ 3 _ _ BO.out
  obtain ⟨g0, g1, g2, g3⟩ := cells4 BX.out
  go_wp2_with fail
  refine (same_any xs b _ _ _ _ _ _ _ HO.out (HBB.out.ext X.out) (by unfold maxLen; omega)).mono ?_
  rintro e w6 ⟨rfl, hx⟩
  have Z := Lib.hid (show Ext w5 w6 from (Ext.of hx))
  replace BA := Lib.hid (Z.out.block BA.out)
  replace BO := Lib.hid (Z.out.block BO.out)
  replace BX := Lib.hid (Z.out.block BX.out)
  replace X := Lib.hid (X.out.trans Z.out)
  replace HW := Lib.hid (HW.out.ext Z.out)
  replace HO := Lib.hid (HO.out.ext Z.out)
  rw [decide_eq_false hxe]
  clear d0 d1 d2 d3 d4 d5 f0 f1 f2 f3 fz0 fz1 fz2 fz3 g0 g1 g2 g3
  clear hx Z
  obtain ⟨d0, d1, d2, d3, d4, d5⟩ := cells6 BA.out
  have da0 := fun o : Obj => (cells6 ((Ext.alloc _ o).block BA.out)).1
  have da1 := fun o : Obj => (cells6 ((Ext.alloc _ o).block BA.out)).2.1
  have da2 := fun o : Obj => (cells6 ((Ext.alloc _ o).block BA.out)).2.2.1
  have da3 := fun o : Obj => (cells6 ((Ext.alloc _ o).block BA.out)).2.2.2.1
  have da4 := fun o : Obj => (cells6 ((Ext.alloc _ o).block BA.out)).2.2.2.2.1
  have da5 := fun o : Obj => (cells6 ((Ext.alloc _ o).block BA.out)).2.2.2.2.2
  obtain ⟨f0, f1, f2, f3⟩ := cells4 BO.out
  have fa0 := fun o : Obj => (cells4 ((Ext.alloc _ o).block BO.out)).1
  have fa1 := fun o : Obj => (cells4 ((Ext.alloc _ o).block BO.out)).2.1
  have fa2 := fun o : Obj => (cells4 ((Ext.alloc _ o).block BO.out)).2.2.1
  have fa3 := fun o : Obj => (cells4 ((Ext.alloc _ o).block BO.out)).2.2.2
  have fz0 := frozen_of_row _ _ 0 _ _ BO.out
  have fz1 := frozen_of_row _ _ 1 _ _ BO.out
  have fz2 := frozen_of_row _ _ 2 _ _ BO.out
  have fz3 := frozen_of_row _ _ 3 _ _ BO.out
  obtain ⟨g0, g1, g2, g3⟩ := cells4 BX.out
  have ga0 := fun o : Obj => (cells4 ((Ext.alloc _ o).block BX.out)).1
  have ga1 := fun o : Obj => (cells4 ((Ext.alloc _ o).block BX.out)).2.1
  have ga2 := fun o : Obj => (cells4 ((Ext.alloc _ o).block BX.out)).2.2.1
  have ga3 := fun o : Obj => (cells4 ((Ext.alloc _ o).block BX.out)).2.2.2
  go_wp2_with fail
  refine bodyPost_ret (v := .tuple #[repV rep0 repS0, .int .i64 4]) (by simp [results, Try.results29, go_sem, repV, rep0, repS0, *]) rfl ⟨repS0, rfl, repOw0 _ _, ?_⟩
  repeat' (first | with_reducible exact X.out | with_reducible refine Ext.drewN' ?_ _ | with_reducible refine Ext.drew' ?_ | with_reducible refine Ext.alloc' ?_ _ | with_reducible refine Ext.set' ?_ (by simp <;> omega) _)

theorem ref04Get_any (a : AskD) (b : List UInt8) (s : AskS) (A : Option Addr) (N c : Nat) (w : World) (ha : AskRd w a s) (hb : Rd w A N (b.map cB)) (hcp : N ≤ c ∧ c ≤ 9223372036854775807) (hN : N ≤ 140737488355328) :
    Calls Try.prog 29 #[askV a s, .slice A N c] w (RetGR w (getR a b)) := by
  have hbl := hb.length
  have HC := Lib.hid (fun W (hX : Ext w W) => refCheck_any a s W (ha.ext hX))
  by_cases hK : checkF a = 0
  · have HL := Lib.hid (fun W (hX : Ext w W) => ref04Length_any a s W (ha.ext hX) hK)
    have HSH := fun (h : lenR a = N) => Lib.hid (fun W (hX : Ext w W) => ref04Shape_any a b s A N c W (ha.ext hX) (hb.ext hX) hcp hK h)
    have HPT := fun (h : b.length = lenR a) => (by
      have h1 := (putR_shape (shape_check hK h) (shape_exc a b)).1
      have h2 := Lib.hid (fun W t (hX : Ext w W) (h : RepRd W (shapeR a b) t) => ref04Put_any a (shapeR a b) s t W (ha.ext hX) h)
      rwa [h1] at h2 : Hid (∀ W t, Ext w W → RepRd W (shapeR a b) t → Calls Try.prog 21 #[askV a s, repV (shapeR a b) t] W (RetU W (putR a (shapeR a b)).1 0)))
    have hcl := code_lt hK
    rw [hK] at HC
    by_cases h0 : N = 0
    · have hg : getR a b = (rep0, 1) := by unfold getR; rw [if_neg (by simpa using hK), if_pos (by omega)]
      rw [hg]
      exact r4g_nil a.code a.addr a.count s.A1 s.A2 s.A3 s.n1 s.c1 s.n2 s.c2 s.n3 s.c3 w A N c HC h0
    · obtain ⟨bk, off, hA, hbk, hcl0⟩ := hb.2 (by omega)
      obtain ⟨x0, r, hbe, hb0⟩ := b0_ne (b := b) (by omega)
      have hc0 : w.cell? ⟨bk, off, none⟩ = some (.int .u8 (x0.toNat : Int)) := by have := hcl0 0 (cB x0) (by rw [hbe]; rfl); rwa [Nat.add_zero] at this
      have hx0 := x0.toNat_lt
      have hN0 : ((N : Int) == 0) = false := by simp; omega
      have w1 : IntKind.i64.wrap (x0.toNat : Int) = (x0.toNat : Int) := IntWalk.i64_in _ (by omega)
      have w2 : IntKind.i64.wrap (a.code + 128) = a.code + 128 := IntWalk.i64_in _ (by omega)
      have w3 : IntKind.i64.wrap a.code = a.code := IntWalk.i64_in _ (by omega)
      have w4 : wrap64 (x0.toNat : Int) = (x0.toNat : Int) := IntWalk.wrap64_in _ (by omega)
      have w5 : wrap64 (a.code + 128) = a.code + 128 := IntWalk.wrap64_in _ (by omega)
      by_cases h1 : (x0.toNat : Int) = a.code + 128
      · have hg : getR a b = exR b := by unfold getR; rw [if_neg (by simpa using hK), if_neg (by omega), if_pos (by rw [hb0]; exact h1)]
        rw [hg]
        have e1 : (IntKind.i64.wrap (x0.toNat : Int) == IntKind.i64.wrap (a.code + 128)) = true := by rw [w1, w2]; simpa using h1
        have e2 : (wrap64 (x0.toNat : Int) == wrap64 (a.code + 128)) = true := by rw [w4, w5]; simpa using h1
        clear w1 w2 w3 w4 w5
        unfold exR
        by_cases h2 : N = 1
        · rw [if_pos (by omega)]
          exact r4g_ex1 a.code a.addr a.count s.A1 s.A2 s.A3 s.n1 s.c1 s.n2 s.c2 s.n3 s.c3 w A N c HC x0.toNat bk off hA (by omega) hN0 hbk hc0 e1 e2 h2
        · rw [if_neg (by omega)]
          by_cases h3 : 2 < N
          · rw [if_pos (by omega)]
            exact r4g_exl a.code a.addr a.count s.A1 s.A2 s.A3 s.n1 s.c1 s.n2 s.c2 s.n3 s.c3 w A N c HC x0.toNat bk off hA (by omega) hN0 hbk hc0 e1 e2 h3 (by simp; omega)
          · rw [if_neg (by omega)]
            obtain ⟨y0, x1, r2, hbe2⟩ := len2 (b := b) (by omega)
            have hc1 : w.cell? ⟨bk, off + 1, none⟩ = some (.int .u8 (x1.toNat : Int)) := hcl0 1 (cB x1) (by rw [hbe2]; rfl)
            have hg1 : b.getD 1 0 = x1 := by rw [hbe2]; rfl
            have hx1 := x1.toNat_lt
            have hz : x1 = 0 ↔ x1.toNat = 0 := ⟨fun h => by rw [h]; rfl, fun h => UInt8.toNat.inj (by rw [h]; rfl)⟩
            rw [hg1]
            by_cases h4 : x1 = 0 ∨ 127 < x1.toNat
            · rw [if_pos h4]
              rw [hz] at h4
              rcases Nat.eq_zero_or_pos x1.toNat with h5 | h5
              · exact r4g_exz a.code a.addr a.count s.A1 s.A2 s.A3 s.n1 s.c1 s.n2 s.c2 s.n3 s.c3 w A N c HC x0.toNat bk off hA (by omega) hN0 hbk hc0 e1 e2 x1.toNat hx1 hc1 (by omega) h5
              · exact r4g_exh a.code a.addr a.count s.A1 s.A2 s.A3 s.n1 s.c1 s.n2 s.c2 s.n3 s.c3 w A N c HC x0.toNat bk off hA (by omega) hN0 hbk hc0 e1 e2 x1.toNat hx1 hc1 (by omega) (by omega) (by simp; omega)
            · rw [if_neg h4]
              rw [hz] at h4
              exact r4g_exo a.code a.addr a.count s.A1 s.A2 s.A3 s.n1 s.c1 s.n2 s.c2 s.n3 s.c3 w A N c HC x0.toNat bk off hA (by omega) hN0 hbk hc0 e1 e2 x1.toNat hx1 hc1 (by omega) (by omega) (by simp; omega)
      · have e1 : (IntKind.i64.wrap (x0.toNat : Int) == IntKind.i64.wrap (a.code + 128)) = false := by rw [w1, w2]; simpa using h1
        have e2 : (wrap64 (x0.toNat : Int) == wrap64 (a.code + 128)) = false := by rw [w4, w5]; simpa using h1
        unfold getR
        rw [if_neg (by simpa using hK), if_neg (by omega), if_neg (by rw [hb0]; exact h1), hb0]
        by_cases h2 : (x0.toNat : Int) ≠ a.code
        · rw [if_pos h2]
          have e3 : (IntKind.i64.wrap (x0.toNat : Int) != IntKind.i64.wrap a.code) = true := by rw [w1, w3]; simpa using h2
          have e4 : (wrap64 (x0.toNat : Int) != a.code) = true := by rw [w4]; simpa using h2
          clear w1 w2 w3 w4 w5
          exact r4g_code a.code a.addr a.count s.A1 s.A2 s.A3 s.n1 s.c1 s.n2 s.c2 s.n3 s.c3 w A N c HC x0.toNat bk off hA (by omega) hN0 hbk hc0 e1 e2 e3 e4
        · rw [if_neg h2]
          have e3 : (IntKind.i64.wrap (x0.toNat : Int) != IntKind.i64.wrap a.code) = false := by rw [w1, w3]; simpa using h2
          have e4 : (wrap64 (x0.toNat : Int) != a.code) = false := by rw [w4]; simpa using h2
          clear w1 w2 w3 w4 w5
          by_cases h3 : b.length < lenR a
          · rw [if_pos h3]
            exact r4g_short a.code a.addr a.count s.A1 s.A2 s.A3 s.n1 s.c1 s.n2 s.c2 s.n3 s.c3 w A N c HC x0.toNat bk off hA (by omega) hN0 hbk hc0 e1 e2 e3 e4 _ HL (by omega)
          · rw [if_neg h3]
            by_cases h4 : lenR a < b.length
            · rw [if_pos h4]
              exact r4g_long a.code a.addr a.count s.A1 s.A2 s.A3 s.n1 s.c1 s.n2 s.c2 s.n3 s.c3 w A N c HC x0.toNat bk off hA (by omega) hN0 hbk hc0 e1 e2 e3 e4 _ HL (by omega)
            · rw [if_neg h4]
              have hlN : lenR a = N := by omega
              have hsh := putR_shape (shape_check (b := b) hK (by omega)) (shape_exc a b)
              rw [read_shape hK (by omega) (by rw [hb0]; exact Classical.not_not.1 h2) (by omega)]
              by_cases h5 : (putR a (shapeR a b)).1 = b
              · rw [if_pos h5]
                exact r4g_ok a.code a.addr a.count s.A1 s.A2 s.A3 s.n1 s.c1 s.n2 s.c2 s.n3 s.c3 w A N c HC x0.toNat bk off hA (by omega) hN0 hbk hc0 e1 e2 e3 e4 _ HL hlN (shapeR a b) (shape_exc a b) _ b hb (by omega) (HSH hlN) (HPT (by omega)) h5
              · rw [if_neg h5]
                exact r4g_form a.code a.addr a.count s.A1 s.A2 s.A3 s.n1 s.c1 s.n2 s.c2 s.n3 s.c3 w A N c HC x0.toNat bk off hA (by omega) hN0 hbk hc0 e1 e2 e3 e4 _ HL hlN (shapeR a b) (shape_exc a b) _ b hb (by omega) (HSH hlN) (HPT (by omega)) h5 (by omega)
  · have hg : getR a b = (rep0, checkF a) := by unfold getR; rw [if_pos hK]
    rw [hg]
    exact r4g_no a.code a.addr a.count s.A1 s.A2 s.A3 s.n1 s.c1 s.n2 s.c2 s.n3 s.c3 w A N c _ (by simpa using hK) HC
end Go.Proofs.Ytpjmhckdeeonbaa
