/- Contract of reply.read: words. (genrepr.py prints this.) -/
import Derived.Test.YtpjmhckdeeonbaaRepR
namespace Go.Proofs.Ytpjmhckdeeonbaa
set_option linter.unusedVariables false
set_option linter.unusedSimpArgs false
set_option maxRecDepth 100000
set_option maxHeartbeats 2000000
open Go Go.RowKit Go.Out

/-- The closure that takes bytes, in a world that is known by its blocks. -/
theorem take_at (b : List UInt8) (A : Option Addr) (N c q : Nat) (w V : World) (hr : Rd w A N (b.map cB)) (hX : Ext w V) (hq : w.heap.size ≤ q) (hc : N ≤ c ∧ c ≤ 9223372036854775807) (hN : N ≤ 1000000) (n at_ : Nat) (hn : at_ + n ≤ N)
    (hA : V.heap[q + 1 + 1 + 1]? = some (.cells #[.int .i64 (at_ : Int)] 3 (0, 0))) (hB : V.heap[q + 1]? = some (.cells #[.slice A N c] 36 (0, 0))) :
    Calls Try.prog 108 #[.int .i64 (n : Int), .pointer (some ⟨q + 1 + 1 + 1, 0, none⟩), .pointer (some ⟨q + 1, 0, none⟩)] V fun e w' => ∃ A', e = .returned (.slice A' n (c - at_)) ∧ Rd w A' n (((b.drop at_).take n).map cB) ∧ w' = V.setCell ⟨q + 1 + 1 + 1, 0, none⟩ (.int .i64 ((at_ + n : Nat) : Int)) := by
  refine (take_any (b.map cB) n at_ (q + 1 + 1 + 1) (q + 1) N c A V (hr.ext hX) hc hA hB hn hN).mono ?_
  rintro e w' ⟨A', rfl, h, rfl⟩
  exact ⟨A', rfl, by rw [List.map_take, List.map_drop]; exact h w hr, rfl⟩
theorem set_other {V : World} {g b : Nat} {o : Obj} (h : V.heap[g]? = some o) (hne : g ≠ b) (u : Value) : (V.setCell ⟨b, 0, none⟩ u).heap[g]? = some o := (Below.heap_setCell V ⟨b, 0, none⟩ u g hne).trans h
theorem start5 (w : World) (o0 o1 o2 o3 o4 : Obj) : ∃ V, (((((w.alloc o0).alloc o1).alloc o2).alloc o3).alloc o4) = V ∧ Ext w V ∧ V.heap.size = w.heap.size + 5 ∧ V.heap[w.heap.size]? = some o0 ∧ V.heap[w.heap.size + 1]? = some o1 ∧ V.heap[w.heap.size + 1 + 1]? = some o2 ∧ V.heap[w.heap.size + 1 + 1 + 1]? = some o3 ∧ V.heap[w.heap.size + 1 + 1 + 1 + 1]? = some o4 :=
  ⟨_, rfl, ext5 w o0 o1 o2 o3 o4, by simp, boxes5 w o0 o1 o2 o3 o4 _ (Ext.refl _)⟩

theorem read_words (a : AskD) (b : List UInt8) (s : AskS) (A : Option Addr) (N c : Nat) (w : World) (hb : Rd w A N (b.map cB)) (hcp : N ≤ c ∧ c ≤ 9223372036854775807) (hc : a.code = 3 ∨ a.code = 4) (hN : 4 ≤ N) (hN2 : N ≤ 253) (hev : N % 2 = 0) :
    Calls Try.prog 79 #[askV a s, .slice A N c] w (RetRR w (readR a b)) := by
  have hl := hb.length
  obtain ⟨x0, x1, r, rfl⟩ := len2 (b := b) (by omega)
  have HT := Lib.hid (fun V (hX : Ext w V) => take_at (x0 :: x1 :: r) A N c w.heap.size w V hb hX (Nat.le_refl _) hcp (by omega))
  have HR := Lib.hid hb
  have hrl : r.length = N - 2 := by simp at hl; omega
  have hbt : ((x0 :: x1 :: r).getD 1 0).toNat = x1.toNat := rfl
  have hwf : wordsF r = (bw r, 0) := by unfold wordsF; rw [if_neg (by omega)]
  obtain ⟨code, addr, count, on, set, parts⟩ := a
  obtain ⟨A1, n1, c1, A2, n2, c2, A3, n3, c3⟩ := s
  simp only at hc
  have hmf : ∀ (fn : Fn) (first cap : Array Value) (w : World), (Instr.makeFunc fn first cap).run Try.prog w = .ok (.func fn first cap) w := fun _ _ _ _ => rfl
  by_cases hbad : (x1.toNat : Int) = (N : Int) - 2
  · rw [readR3 (by simpa using hc) (by rw [hbt, hl]; exact hbad)]
    simp only [askV]
    have hne : (IntKind.i64.wrap (x1.toNat : Int) != IntKind.i64.wrap ((N : Int) - 2)) = false := by rw [IntWalk.i64_in _ (by have := x1.toNat_lt; omega), IntWalk.i64_in _ (by omega)]; simpa using hbad
    have hX0 := x1.toNat_lt
    have hq : ((N - 2 : Nat) : Int) = (N : Int) - 2 := by omega
    have htk : (List.take (N - 2) (List.drop 2 (x0 :: x1 :: r))) = r := List.take_of_length_le (by simp [hrl])
    have HCALL := Lib.hid (fun W A' c' (hr : Rd W A' (N - 2) (r.map cB)) => words_any r A' (N - 2) c' W hr (by omega))
    rw [hwf] at HCALL
    clear hb hl hwf hbt
    rcases hc with rfl | rfl
    · skip
      obtain ⟨V, hV, hX0, hVs, q0, q1, q2, q3, q4⟩ := start5 w (.cells #[.int .i64 3, .int .i64 addr, .int .i64 count, .slice A1 n1 c1, .slice A2 n2 c2, .slice A3 n3 c3] 26) (.cells #[.slice A N c] 36) (.cells #[.int .i64 0, .slice none 0 0, .slice none 0 0, .slice none 0 0] 29) (.cells #[.int .i64 1] 3) (.cells #[.int .i64 0, .slice none 0 0, .slice none 0 0, .slice none 0 0] 29)
      have X0 := Lib.hid hX0
      obtain ⟨p0, p1, p2, p3⟩ := cells4 q2
      obtain ⟨g0, g1, g2, g3⟩ := cells4 q4
      obtain ⟨d0, -, d2, -⟩ := cells6 q0
      have d1 : V.cell? ⟨w.heap.size + 1, 0, none⟩ = some (.slice A N c) := cell_of_row _ _ _ _ _ _ q1
      have k0 := frozen_of_row _ _ 0 _ _ q2
      have m0 := frozen_of_row _ _ 0 _ _ q4
      have k1 := frozen_of_row _ _ 1 _ _ q2
      have m1 := frozen_of_row _ _ 1 _ _ q4
      have k2 := frozen_of_row _ _ 2 _ _ q2
      have m2 := frozen_of_row _ _ 2 _ _ q4
      have k3 := frozen_of_row _ _ 3 _ _ q2
      have m3 := frozen_of_row _ _ 3 _ _ q4
      have HT1 := Lib.hid (show Calls Try.prog 108 #[.int .i64 1, .pointer (some ⟨w.heap.size + 1 + 1 + 1, 0, none⟩), .pointer (some ⟨w.heap.size + 1, 0, none⟩)] V.drew fun e w' => ∃ A', e = .returned (.slice A' 1 (c - 1)) ∧ Rd w A' 1 [.int .u8 (x1.toNat : Int)] ∧ w' = V.drew.setCell ⟨w.heap.size + 1 + 1 + 1, 0, none⟩ (.int .i64 2) from HT.out V.drew (Ext.drew' X0.out) 1 1 (by omega) q3 q1)
      have hA2 : (V.setCell ⟨w.heap.size + 1 + 1 + 1, 0, none⟩ (.int .i64 2)).drew.heap[w.heap.size + 1 + 1 + 1]? = some (.cells #[.int .i64 2] 3 (0, 0)) := heap_setCell_same _ _ _ _ _ _ q3
      have hB2 := set_other (b := w.heap.size + 1 + 1 + 1) q1 (by omega) (.int .i64 2)
      have hX2 : Ext w (V.setCell ⟨w.heap.size + 1 + 1 + 1, 0, none⟩ (.int .i64 2)).drew := Ext.drew' (Ext.set' X0.out (by simp; omega) _)
      have HT2 := Lib.hid (show Calls Try.prog 108 #[.int .i64 ((N : Int) - 2), .pointer (some ⟨w.heap.size + 1 + 1 + 1, 0, none⟩), .pointer (some ⟨w.heap.size + 1, 0, none⟩)] (V.setCell ⟨w.heap.size + 1 + 1 + 1, 0, none⟩ (.int .i64 2)).drew fun e w' => ∃ A', e = .returned (.slice A' (N - 2) (c - 2)) ∧ Rd w A' (N - 2) (r.map cB) ∧ w' = ((V.setCell ⟨w.heap.size + 1 + 1 + 1, 0, none⟩ (.int .i64 2)).drew.setCell ⟨w.heap.size + 1 + 1 + 1, 0, none⟩ (.int .i64 (N : Int))) from by have h := HT.out _ hX2 (N - 2) 2 (by omega) hA2 hB2; rw [htk, hq, show 2 + (N - 2) = N by omega] at h; exact h)
      have Q2 := Lib.hid (show ((V.setCell ⟨w.heap.size + 1 + 1 + 1, 0, none⟩ (.int .i64 2)).drew.setCell ⟨w.heap.size + 1 + 1 + 1, 0, none⟩ (.int .i64 (N : Int))).heap[w.heap.size + 1 + 1]? = _ from set_other (set_other q2 (by omega) _) (by omega) _)
      have Q4 := Lib.hid (show ((V.setCell ⟨w.heap.size + 1 + 1 + 1, 0, none⟩ (.int .i64 2)).drew.setCell ⟨w.heap.size + 1 + 1 + 1, 0, none⟩ (.int .i64 (N : Int))).heap[w.heap.size + 1 + 1 + 1 + 1]? = _ from set_other (set_other q4 (by omega) _) (by omega) _)
      have X3 := Lib.hid (show Ext w ((V.setCell ⟨w.heap.size + 1 + 1 + 1, 0, none⟩ (.int .i64 2)).drew.setCell ⟨w.heap.size + 1 + 1 + 1, 0, none⟩ (.int .i64 (N : Int))) from Ext.set' hX2 (by simp; omega) _)
      have HSZ := Lib.hid (show w.heap.size + 5 ≤ (((V.setCell ⟨w.heap.size + 1 + 1 + 1, 0, none⟩ (.int .i64 2)).drew.setCell ⟨w.heap.size + 1 + 1 + 1, 0, none⟩ (.int .i64 (N : Int)))).heap.size by simp; omega)
      clear q0 q1 q2 q3 q4 hX0 hA2 hB2 hX2
      go_enter Try.func79, Try.ntmps79
      go_wp2_with fail
      clear hV
      go_region_with ((first
        | (go_at_call 108
           refine HT1.out.mono ?_
           rintro e w2 ⟨A5, rfl, hrd, rfl⟩
           obtain ⟨bk, off, rfl, hbk, hcl⟩ := hrd.2 (by omega)
           have c0 : V.cell? ⟨bk, off, none⟩ = some (.int .u8 (x1.toNat : Int)) := X0.out.cell hbk (hcl 0 _ rfl))
        | fail))
      all_goals
        go_wp2_with fail
      all_goals first
        | (refine HT2.out.mono ?_
           rintro e w2 ⟨A6, rfl, hrd, rfl⟩
           go_wp2_with fail
           refine (HCALL.out _ A6 _ (hrd.ext X3.out)).mono ?_
           rintro e w3 ⟨A7, n7, c7, rfl, ho7, hx7⟩
           obtain ⟨p0, p1, p2, p3⟩ := cells4 (Ext.block hx7 Q2.out)
           obtain ⟨g0, g1, g2, g3⟩ := cells4 (Ext.block hx7 Q4.out)
           have k0 := frozen_of_row _ _ 0 _ _ (Ext.block hx7 Q2.out)
           have k1 := frozen_of_row _ _ 1 _ _ (Ext.block hx7 Q2.out)
           have k2 := frozen_of_row _ _ 2 _ _ (Ext.block hx7 Q2.out)
           have k3 := frozen_of_row _ _ 3 _ _ (Ext.block hx7 Q2.out)
           have m1 := frozen_of_row _ _ 1 _ _ (Ext.block hx7 Q4.out)
           have m2 := frozen_of_row _ _ 2 _ _ (Ext.block hx7 Q4.out)
           have m3 := frozen_of_row _ _ 3 _ _ (Ext.block hx7 Q4.out)
           have X7 := Lib.hid (X3.out.trans hx7)
           obtain rfl : (bw r).length = n7 := by have := ho7.len; simpa using this
           have HO7 := Lib.hid (Own.mono (base' := w.heap.size + 5) ho7 HSZ.out)
           clear ho7 hx7
           go_wp2_with fail
           refine bodyPost_ret (v := .tuple #[repV ⟨0, [], bw r, []⟩ ⟨none, 0, 0, A7, (bw r).length, c7, none, 0, 0⟩, .bool true]) (by simp [results, Try.results79, go_sem, repV, *]) rfl ⟨?_, _, rfl, ⟨Own.nil_ _ _ _ _, ?_, OwL.nil_ _ _ _ _, rfl, by simp, by unfold i64P; simp⟩⟩
           · repeat' (first | with_reducible exact X7.out | with_reducible refine Ext.drew' ?_ | with_reducible refine Ext.set' ?_ (by simp; omega) _)
           · refine Own.mono (base := w.heap.size + 5) ?_ (by omega)
             show Own _ _ _ _ A7 (bw r).length c7 ((bw r).map cW)
             repeat' (first | with_reducible exact HO7.out | with_reducible refine Own.set_below ?_ (by simp) _))
    · skip
      obtain ⟨V, hV, hX0, hVs, q0, q1, q2, q3, q4⟩ := start5 w (.cells #[.int .i64 4, .int .i64 addr, .int .i64 count, .slice A1 n1 c1, .slice A2 n2 c2, .slice A3 n3 c3] 26) (.cells #[.slice A N c] 36) (.cells #[.int .i64 0, .slice none 0 0, .slice none 0 0, .slice none 0 0] 29) (.cells #[.int .i64 1] 3) (.cells #[.int .i64 0, .slice none 0 0, .slice none 0 0, .slice none 0 0] 29)
      have X0 := Lib.hid hX0
      obtain ⟨p0, p1, p2, p3⟩ := cells4 q2
      obtain ⟨g0, g1, g2, g3⟩ := cells4 q4
      obtain ⟨d0, -, d2, -⟩ := cells6 q0
      have d1 : V.cell? ⟨w.heap.size + 1, 0, none⟩ = some (.slice A N c) := cell_of_row _ _ _ _ _ _ q1
      have k0 := frozen_of_row _ _ 0 _ _ q2
      have m0 := frozen_of_row _ _ 0 _ _ q4
      have k1 := frozen_of_row _ _ 1 _ _ q2
      have m1 := frozen_of_row _ _ 1 _ _ q4
      have k2 := frozen_of_row _ _ 2 _ _ q2
      have m2 := frozen_of_row _ _ 2 _ _ q4
      have k3 := frozen_of_row _ _ 3 _ _ q2
      have m3 := frozen_of_row _ _ 3 _ _ q4
      have HT1 := Lib.hid (show Calls Try.prog 108 #[.int .i64 1, .pointer (some ⟨w.heap.size + 1 + 1 + 1, 0, none⟩), .pointer (some ⟨w.heap.size + 1, 0, none⟩)] V.drew fun e w' => ∃ A', e = .returned (.slice A' 1 (c - 1)) ∧ Rd w A' 1 [.int .u8 (x1.toNat : Int)] ∧ w' = V.drew.setCell ⟨w.heap.size + 1 + 1 + 1, 0, none⟩ (.int .i64 2) from HT.out V.drew (Ext.drew' X0.out) 1 1 (by omega) q3 q1)
      have hA2 : (V.setCell ⟨w.heap.size + 1 + 1 + 1, 0, none⟩ (.int .i64 2)).drew.heap[w.heap.size + 1 + 1 + 1]? = some (.cells #[.int .i64 2] 3 (0, 0)) := heap_setCell_same _ _ _ _ _ _ q3
      have hB2 := set_other (b := w.heap.size + 1 + 1 + 1) q1 (by omega) (.int .i64 2)
      have hX2 : Ext w (V.setCell ⟨w.heap.size + 1 + 1 + 1, 0, none⟩ (.int .i64 2)).drew := Ext.drew' (Ext.set' X0.out (by simp; omega) _)
      have HT2 := Lib.hid (show Calls Try.prog 108 #[.int .i64 ((N : Int) - 2), .pointer (some ⟨w.heap.size + 1 + 1 + 1, 0, none⟩), .pointer (some ⟨w.heap.size + 1, 0, none⟩)] (V.setCell ⟨w.heap.size + 1 + 1 + 1, 0, none⟩ (.int .i64 2)).drew fun e w' => ∃ A', e = .returned (.slice A' (N - 2) (c - 2)) ∧ Rd w A' (N - 2) (r.map cB) ∧ w' = ((V.setCell ⟨w.heap.size + 1 + 1 + 1, 0, none⟩ (.int .i64 2)).drew.setCell ⟨w.heap.size + 1 + 1 + 1, 0, none⟩ (.int .i64 (N : Int))) from by have h := HT.out _ hX2 (N - 2) 2 (by omega) hA2 hB2; rw [htk, hq, show 2 + (N - 2) = N by omega] at h; exact h)
      have Q2 := Lib.hid (show ((V.setCell ⟨w.heap.size + 1 + 1 + 1, 0, none⟩ (.int .i64 2)).drew.setCell ⟨w.heap.size + 1 + 1 + 1, 0, none⟩ (.int .i64 (N : Int))).heap[w.heap.size + 1 + 1]? = _ from set_other (set_other q2 (by omega) _) (by omega) _)
      have Q4 := Lib.hid (show ((V.setCell ⟨w.heap.size + 1 + 1 + 1, 0, none⟩ (.int .i64 2)).drew.setCell ⟨w.heap.size + 1 + 1 + 1, 0, none⟩ (.int .i64 (N : Int))).heap[w.heap.size + 1 + 1 + 1 + 1]? = _ from set_other (set_other q4 (by omega) _) (by omega) _)
      have X3 := Lib.hid (show Ext w ((V.setCell ⟨w.heap.size + 1 + 1 + 1, 0, none⟩ (.int .i64 2)).drew.setCell ⟨w.heap.size + 1 + 1 + 1, 0, none⟩ (.int .i64 (N : Int))) from Ext.set' hX2 (by simp; omega) _)
      have HSZ := Lib.hid (show w.heap.size + 5 ≤ (((V.setCell ⟨w.heap.size + 1 + 1 + 1, 0, none⟩ (.int .i64 2)).drew.setCell ⟨w.heap.size + 1 + 1 + 1, 0, none⟩ (.int .i64 (N : Int)))).heap.size by simp; omega)
      clear q0 q1 q2 q3 q4 hX0 hA2 hB2 hX2
      go_enter Try.func79, Try.ntmps79
      go_wp2_with fail
      clear hV
      go_region_with ((first
        | (go_at_call 108
           refine HT1.out.mono ?_
           rintro e w2 ⟨A5, rfl, hrd, rfl⟩
           obtain ⟨bk, off, rfl, hbk, hcl⟩ := hrd.2 (by omega)
           have c0 : V.cell? ⟨bk, off, none⟩ = some (.int .u8 (x1.toNat : Int)) := X0.out.cell hbk (hcl 0 _ rfl))
        | fail))
      all_goals
        go_wp2_with fail
      all_goals first
        | (refine HT2.out.mono ?_
           rintro e w2 ⟨A6, rfl, hrd, rfl⟩
           go_wp2_with fail
           refine (HCALL.out _ A6 _ (hrd.ext X3.out)).mono ?_
           rintro e w3 ⟨A7, n7, c7, rfl, ho7, hx7⟩
           obtain ⟨p0, p1, p2, p3⟩ := cells4 (Ext.block hx7 Q2.out)
           obtain ⟨g0, g1, g2, g3⟩ := cells4 (Ext.block hx7 Q4.out)
           have k0 := frozen_of_row _ _ 0 _ _ (Ext.block hx7 Q2.out)
           have k1 := frozen_of_row _ _ 1 _ _ (Ext.block hx7 Q2.out)
           have k2 := frozen_of_row _ _ 2 _ _ (Ext.block hx7 Q2.out)
           have k3 := frozen_of_row _ _ 3 _ _ (Ext.block hx7 Q2.out)
           have m1 := frozen_of_row _ _ 1 _ _ (Ext.block hx7 Q4.out)
           have m2 := frozen_of_row _ _ 2 _ _ (Ext.block hx7 Q4.out)
           have m3 := frozen_of_row _ _ 3 _ _ (Ext.block hx7 Q4.out)
           have X7 := Lib.hid (X3.out.trans hx7)
           obtain rfl : (bw r).length = n7 := by have := ho7.len; simpa using this
           have HO7 := Lib.hid (Own.mono (base' := w.heap.size + 5) ho7 HSZ.out)
           clear ho7 hx7
           go_wp2_with fail
           refine bodyPost_ret (v := .tuple #[repV ⟨0, [], bw r, []⟩ ⟨none, 0, 0, A7, (bw r).length, c7, none, 0, 0⟩, .bool true]) (by simp [results, Try.results79, go_sem, repV, *]) rfl ⟨?_, _, rfl, ⟨Own.nil_ _ _ _ _, ?_, OwL.nil_ _ _ _ _, rfl, by simp, by unfold i64P; simp⟩⟩
           · repeat' (first | with_reducible exact X7.out | with_reducible refine Ext.drew' ?_ | with_reducible refine Ext.set' ?_ (by simp; omega) _)
           · refine Own.mono (base := w.heap.size + 5) ?_ (by omega)
             show Own _ _ _ _ A7 (bw r).length c7 ((bw r).map cW)
             repeat' (first | with_reducible exact HO7.out | with_reducible refine Own.set_below ?_ (by simp) _))
  · rw [readR_bad (by unfold plainC; simp only; omega) (by rw [hbt, hl]; exact hbad)]
    simp only [askV]
    have hne : (IntKind.i64.wrap (x1.toNat : Int) != IntKind.i64.wrap ((N : Int) - 2)) = true := by rw [IntWalk.i64_in _ (by have := x1.toNat_lt; omega), IntWalk.i64_in _ (by omega)]; simpa using hbad
    have hX0 := x1.toNat_lt
    clear hb hl hwf hbt
    rcases hc with rfl | rfl
    · skip
      obtain ⟨V, hV, hX0, hVs, q0, q1, q2, q3, q4⟩ := start5 w (.cells #[.int .i64 3, .int .i64 addr, .int .i64 count, .slice A1 n1 c1, .slice A2 n2 c2, .slice A3 n3 c3] 26) (.cells #[.slice A N c] 36) (.cells #[.int .i64 0, .slice none 0 0, .slice none 0 0, .slice none 0 0] 29) (.cells #[.int .i64 1] 3) (.cells #[.int .i64 0, .slice none 0 0, .slice none 0 0, .slice none 0 0] 29)
      have X0 := Lib.hid hX0
      obtain ⟨p0, p1, p2, p3⟩ := cells4 q2
      obtain ⟨g0, g1, g2, g3⟩ := cells4 q4
      obtain ⟨d0, -, d2, -⟩ := cells6 q0
      have d1 : V.cell? ⟨w.heap.size + 1, 0, none⟩ = some (.slice A N c) := cell_of_row _ _ _ _ _ _ q1
      have k0 := frozen_of_row _ _ 0 _ _ q2
      have m0 := frozen_of_row _ _ 0 _ _ q4
      have k1 := frozen_of_row _ _ 1 _ _ q2
      have m1 := frozen_of_row _ _ 1 _ _ q4
      have k2 := frozen_of_row _ _ 2 _ _ q2
      have m2 := frozen_of_row _ _ 2 _ _ q4
      have k3 := frozen_of_row _ _ 3 _ _ q2
      have m3 := frozen_of_row _ _ 3 _ _ q4
      have HT1 := Lib.hid (show Calls Try.prog 108 #[.int .i64 1, .pointer (some ⟨w.heap.size + 1 + 1 + 1, 0, none⟩), .pointer (some ⟨w.heap.size + 1, 0, none⟩)] V.drew fun e w' => ∃ A', e = .returned (.slice A' 1 (c - 1)) ∧ Rd w A' 1 [.int .u8 (x1.toNat : Int)] ∧ w' = V.drew.setCell ⟨w.heap.size + 1 + 1 + 1, 0, none⟩ (.int .i64 2) from HT.out V.drew (Ext.drew' X0.out) 1 1 (by omega) q3 q1)
      clear q0 q1 q2 q3 q4 hX0
      go_enter Try.func79, Try.ntmps79
      go_wp2_with fail
      clear hV
      go_region_with ((first
        | (go_at_call 108
           refine HT1.out.mono ?_
           rintro e w2 ⟨A5, rfl, hrd, rfl⟩
           obtain ⟨bk, off, rfl, hbk, hcl⟩ := hrd.2 (by omega)
           have c0 : V.cell? ⟨bk, off, none⟩ = some (.int .u8 (x1.toNat : Int)) := X0.out.cell hbk (hcl 0 _ rfl))
        | fail))
      all_goals
        go_wp2_with fail
        refine bodyPost_ret (v := .tuple #[.agg #[.int .i64 0, .slice none 0 0, .slice none 0 0, .slice none 0 0], .bool false]) (by simp [results, Try.results79, go_sem, repV, *]) rfl ⟨?_, 0, repS0, rfl⟩
        repeat' (first | with_reducible exact X0.out | with_reducible refine Ext.drew' ?_ | with_reducible refine Ext.set' ?_ (by simp; omega) _)
    · skip
      obtain ⟨V, hV, hX0, hVs, q0, q1, q2, q3, q4⟩ := start5 w (.cells #[.int .i64 4, .int .i64 addr, .int .i64 count, .slice A1 n1 c1, .slice A2 n2 c2, .slice A3 n3 c3] 26) (.cells #[.slice A N c] 36) (.cells #[.int .i64 0, .slice none 0 0, .slice none 0 0, .slice none 0 0] 29) (.cells #[.int .i64 1] 3) (.cells #[.int .i64 0, .slice none 0 0, .slice none 0 0, .slice none 0 0] 29)
      have X0 := Lib.hid hX0
      obtain ⟨p0, p1, p2, p3⟩ := cells4 q2
      obtain ⟨g0, g1, g2, g3⟩ := cells4 q4
      obtain ⟨d0, -, d2, -⟩ := cells6 q0
      have d1 : V.cell? ⟨w.heap.size + 1, 0, none⟩ = some (.slice A N c) := cell_of_row _ _ _ _ _ _ q1
      have k0 := frozen_of_row _ _ 0 _ _ q2
      have m0 := frozen_of_row _ _ 0 _ _ q4
      have k1 := frozen_of_row _ _ 1 _ _ q2
      have m1 := frozen_of_row _ _ 1 _ _ q4
      have k2 := frozen_of_row _ _ 2 _ _ q2
      have m2 := frozen_of_row _ _ 2 _ _ q4
      have k3 := frozen_of_row _ _ 3 _ _ q2
      have m3 := frozen_of_row _ _ 3 _ _ q4
      have HT1 := Lib.hid (show Calls Try.prog 108 #[.int .i64 1, .pointer (some ⟨w.heap.size + 1 + 1 + 1, 0, none⟩), .pointer (some ⟨w.heap.size + 1, 0, none⟩)] V.drew fun e w' => ∃ A', e = .returned (.slice A' 1 (c - 1)) ∧ Rd w A' 1 [.int .u8 (x1.toNat : Int)] ∧ w' = V.drew.setCell ⟨w.heap.size + 1 + 1 + 1, 0, none⟩ (.int .i64 2) from HT.out V.drew (Ext.drew' X0.out) 1 1 (by omega) q3 q1)
      clear q0 q1 q2 q3 q4 hX0
      go_enter Try.func79, Try.ntmps79
      go_wp2_with fail
      clear hV
      go_region_with ((first
        | (go_at_call 108
           refine HT1.out.mono ?_
           rintro e w2 ⟨A5, rfl, hrd, rfl⟩
           obtain ⟨bk, off, rfl, hbk, hcl⟩ := hrd.2 (by omega)
           have c0 : V.cell? ⟨bk, off, none⟩ = some (.int .u8 (x1.toNat : Int)) := X0.out.cell hbk (hcl 0 _ rfl))
        | fail))
      all_goals
        go_wp2_with fail
        refine bodyPost_ret (v := .tuple #[.agg #[.int .i64 0, .slice none 0 0, .slice none 0 0, .slice none 0 0], .bool false]) (by simp [results, Try.results79, go_sem, repV, *]) rfl ⟨?_, 0, repS0, rfl⟩
        repeat' (first | with_reducible exact X0.out | with_reducible refine Ext.drew' ?_ | with_reducible refine Ext.set' ?_ (by simp; omega) _)
end Go.Proofs.Ytpjmhckdeeonbaa
