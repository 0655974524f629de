/- Contract of reply.read: words. (genrepr.py prints this.) -/
import Derived.Test.YtomcipkmohhpjaaGreatRepR
import Derived.Deep.RegionHeld3
import Derived.Test.YtomcipkmohhpjaaGreatG09
import Derived.BigQuiet
import Derived.Deep.QuietTactic
namespace Go.Proofs.YtomcipkmohhpjaaGreat
set_option linter.unusedVariables false
set_option linter.unusedSimpArgs false
set_option maxRecDepth 100000
set_option maxHeartbeats 2000000
open Go Go.RowKit Go.Out

/-- The closure that takes bytes, in a world that is known by its blocks. -/
theorem take_at (b : List UInt8) (A : Option Addr) (N c q : Nat) (w V : World) (hr : Rd w A N (b.map cB)) (hX : Ext w V) (hq : w.heap.size ≤ q) (hc : N ≤ c ∧ c ≤ 9223372036854775807) (hN : N ≤ 1000000) (n at_ : Nat) (hn : at_ + n ≤ N)
    (hA : V.heap[q + 1 + 1 + 1]? = some (.cells #[.int .i64 (at_ : Int)] 3 (0, 0))) (hB : V.heap[q + 1]? = some (.cells #[.slice A N c] 41 (0, 0))) :
    Calls Tryz.prog 117 #[.int .i64 (n : Int), .pointer (some ⟨q + 1 + 1 + 1, 0, none⟩), .pointer (some ⟨q + 1, 0, none⟩)] V fun e w' => ∃ A', e = .returned (.slice A' n (c - at_)) ∧ Rd w A' n (((b.drop at_).take n).map cB) ∧ w' = V.setCell ⟨q + 1 + 1 + 1, 0, none⟩ (.int .i64 ((at_ + n : Nat) : Int)) := by
  refine (take_any (b.map cB) n at_ (q + 1 + 1 + 1) (q + 1) N c A V (hr.ext hX) hc hA hB hn hN).mono ?_
  rintro e w' ⟨A', rfl, h, rfl⟩
  exact ⟨A', rfl, by rw [List.map_take, List.map_drop]; exact h w hr, rfl⟩
theorem set_other {V : World} {g b : Nat} {o : Obj} (h : V.heap[g]? = some o) (hne : g ≠ b) (u : Value) : (V.setCell ⟨b, 0, none⟩ u).heap[g]? = some o := (Below.heap_setCell V ⟨b, 0, none⟩ u g hne).trans h
theorem start5 (w : World) (o0 o1 o2 o3 o4 : Obj) : ∃ V, (((((w.alloc o0).alloc o1).alloc o2).alloc o3).alloc o4) = V ∧ Ext w V ∧ V.heap.size = w.heap.size + 5 ∧ V.heap[w.heap.size]? = some o0 ∧ V.heap[w.heap.size + 1]? = some o1 ∧ V.heap[w.heap.size + 1 + 1]? = some o2 ∧ V.heap[w.heap.size + 1 + 1 + 1]? = some o3 ∧ V.heap[w.heap.size + 1 + 1 + 1 + 1]? = some o4 :=
  ⟨_, rfl, ext5 w o0 o1 o2 o3 o4, by simp, boxes5 w o0 o1 o2 o3 o4 _ (Ext.refl _)⟩

theorem read_words (a : AskD) (b : List UInt8) (s : AskS) (A : Option Addr) (N c : Nat) (w : World) (hb : Rd w A N (b.map cB)) (hcp : N ≤ c ∧ c ≤ 9223372036854775807) (hc : a.code = 3 ∨ a.code = 4) (hN : 4 ≤ N) (hN2 : N ≤ 253) (hev : N % 2 = 0) :
    Calls Tryz.prog 104 #[askV a s, .slice A N c] w (RetRR w (readR a b)) := by
  have hl := hb.length
  obtain ⟨x0, x1, r, rfl⟩ := len2 (b := b) (by omega)
  have HT := Lib.hid (fun V (hX : Ext w V) => take_at (x0 :: x1 :: r) A N c w.heap.size w V hb hX (Nat.le_refl _) hcp (by omega))
  have HR := Lib.hid hb
  have hrl : r.length = N - 2 := by simp at hl; omega
  have hbt : ((x0 :: x1 :: r).getD 1 0).toNat = x1.toNat := rfl
  have hwf : wordsF r = (bw r, 0) := by unfold wordsF; rw [if_neg (by omega)]
  obtain ⟨code, addr, count, on, set, parts⟩ := a
  obtain ⟨A1, n1, c1, A2, n2, c2, A3, n3, c3⟩ := s
  simp only at hc
  have hmf : ∀ (fn : Fn) (first cap : Array Value) (w : World), (Instr.makeFunc fn first cap).run Tryz.prog w = .ok (.func fn first cap) w := fun _ _ _ _ => rfl
  by_cases hbad : (x1.toNat : Int) = (N : Int) - 2
  · rw [readR3 (by simpa using hc) (by rw [hbt, hl]; exact hbad)]
    simp only [askV]
    have hne : (IntKind.i64.wrap (x1.toNat : Int) != IntKind.i64.wrap ((N : Int) - 2)) = false := by rw [IntWalk.i64_in _ (by have := x1.toNat_lt; omega), IntWalk.i64_in _ (by omega)]; simpa using hbad
    have hX0 := x1.toNat_lt
    have hq : ((N - 2 : Nat) : Int) = (N : Int) - 2 := by omega
    have htk : (List.take (N - 2) (List.drop 2 (x0 :: x1 :: r))) = r := List.take_of_length_le (by simp [hrl])
    have HCALL := Lib.hid (fun W A' c' (hr : Rd W A' (N - 2) (r.map cB)) => words_any r A' (N - 2) c' W hr (by omega))
    rw [hwf] at HCALL
    clear hb hl hwf hbt
    rcases hc with rfl | rfl
    · skip
      obtain ⟨V, hV, hX0, hVs, q0, q1, q2, q3, q4⟩ := start5 w (.cells #[.int .i64 3, .int .i64 addr, .int .i64 count, .slice A1 n1 c1, .slice A2 n2 c2, .slice A3 n3 c3] 37) (.cells #[.slice A N c] 41) (.cells #[.int .i64 0, .slice none 0 0, .slice none 0 0, .slice none 0 0] 40) (.cells #[.int .i64 1] 3) (.cells #[.int .i64 0, .slice none 0 0, .slice none 0 0, .slice none 0 0] 40)
      have X0 := Lib.hid hX0
      obtain ⟨p0, p1, p2, p3⟩ := cells4 q2
      obtain ⟨g0, g1, g2, g3⟩ := cells4 q4
      obtain ⟨d0, -, d2, -⟩ := cells6 q0
      have d1 : V.cell? ⟨w.heap.size + 1, 0, none⟩ = some (.slice A N c) := cell_of_row _ _ _ _ _ _ q1
      have k0 := frozen_of_row _ _ 0 _ _ q2
      have m0 := frozen_of_row _ _ 0 _ _ q4
      have k1 := frozen_of_row _ _ 1 _ _ q2
      have m1 := frozen_of_row _ _ 1 _ _ q4
      have k2 := frozen_of_row _ _ 2 _ _ q2
      have m2 := frozen_of_row _ _ 2 _ _ q4
      have k3 := frozen_of_row _ _ 3 _ _ q2
      have m3 := frozen_of_row _ _ 3 _ _ q4
      have HT1 := Lib.hid (show Calls Tryz.prog 117 #[.int .i64 1, .pointer (some ⟨w.heap.size + 1 + 1 + 1, 0, none⟩), .pointer (some ⟨w.heap.size + 1, 0, none⟩)] V.drew fun e w' => ∃ A', e = .returned (.slice A' 1 (c - 1)) ∧ Rd w A' 1 [.int .u8 (x1.toNat : Int)] ∧ w' = V.drew.setCell ⟨w.heap.size + 1 + 1 + 1, 0, none⟩ (.int .i64 2) from HT.out V.drew (Ext.drew' X0.out) 1 1 (by omega) q3 q1)
      have hA2 : (V.setCell ⟨w.heap.size + 1 + 1 + 1, 0, none⟩ (.int .i64 2)).drew.heap[w.heap.size + 1 + 1 + 1]? = some (.cells #[.int .i64 2] 3 (0, 0)) := heap_setCell_same _ _ _ _ _ _ q3
      have hB2 := set_other (b := w.heap.size + 1 + 1 + 1) q1 (by omega) (.int .i64 2)
      have hX2 : Ext w (V.setCell ⟨w.heap.size + 1 + 1 + 1, 0, none⟩ (.int .i64 2)).drew := Ext.drew' (Ext.set' X0.out (by simp; omega) _)
      have HT2 := Lib.hid (show Calls Tryz.prog 117 #[.int .i64 ((N : Int) - 2), .pointer (some ⟨w.heap.size + 1 + 1 + 1, 0, none⟩), .pointer (some ⟨w.heap.size + 1, 0, none⟩)] (V.setCell ⟨w.heap.size + 1 + 1 + 1, 0, none⟩ (.int .i64 2)).drew fun e w' => ∃ A', e = .returned (.slice A' (N - 2) (c - 2)) ∧ Rd w A' (N - 2) (r.map cB) ∧ w' = ((V.setCell ⟨w.heap.size + 1 + 1 + 1, 0, none⟩ (.int .i64 2)).drew.setCell ⟨w.heap.size + 1 + 1 + 1, 0, none⟩ (.int .i64 (N : Int))) from by have h := HT.out _ hX2 (N - 2) 2 (by omega) hA2 hB2; rw [htk, hq, show 2 + (N - 2) = N by omega] at h; exact h)
      have Q2 := Lib.hid (show ((V.setCell ⟨w.heap.size + 1 + 1 + 1, 0, none⟩ (.int .i64 2)).drew.setCell ⟨w.heap.size + 1 + 1 + 1, 0, none⟩ (.int .i64 (N : Int))).heap[w.heap.size + 1 + 1]? = _ from set_other (set_other q2 (by omega) _) (by omega) _)
      have Q4 := Lib.hid (show ((V.setCell ⟨w.heap.size + 1 + 1 + 1, 0, none⟩ (.int .i64 2)).drew.setCell ⟨w.heap.size + 1 + 1 + 1, 0, none⟩ (.int .i64 (N : Int))).heap[w.heap.size + 1 + 1 + 1 + 1]? = _ from set_other (set_other q4 (by omega) _) (by omega) _)
      have X3 := Lib.hid (show Ext w ((V.setCell ⟨w.heap.size + 1 + 1 + 1, 0, none⟩ (.int .i64 2)).drew.setCell ⟨w.heap.size + 1 + 1 + 1, 0, none⟩ (.int .i64 (N : Int))) from Ext.set' hX2 (by simp; omega) _)
      have HSZ := Lib.hid (show w.heap.size + 5 ≤ (((V.setCell ⟨w.heap.size + 1 + 1 + 1, 0, none⟩ (.int .i64 2)).drew.setCell ⟨w.heap.size + 1 + 1 + 1, 0, none⟩ (.int .i64 (N : Int)))).heap.size by simp; omega)
      clear q0 q1 q2 q3 q4 hX0 hA2 hB2 hX2
      go_enter Tryz.func104, Tryz.ntmps104
      go_wp2_with fail
      clear hV
      go_region_with ((first
        | (go_at_call 117
           refine HT1.out.mono ?_
           rintro e w2 ⟨A5, rfl, hrd, rfl⟩
           obtain ⟨bk, off, rfl, hbk, hcl⟩ := hrd.2 (by omega)
           have c0 : V.cell? ⟨bk, off, none⟩ = some (.int .u8 (x1.toNat : Int)) := X0.out.cell hbk (hcl 0 _ rfl))
        | fail))
      all_goals
        go_wp2_with fail
      all_goals first
        | (refine HT2.out.mono ?_
           rintro e w2 ⟨A6, rfl, hrd, rfl⟩
           go_wp2_with fail
           refine (HCALL.out _ A6 _ (hrd.ext X3.out)).mono ?_
           rintro e w3 ⟨A7, n7, c7, rfl, ho7, hx7⟩
           obtain ⟨p0, p1, p2, p3⟩ := cells4 (Ext.block hx7 Q2.out)
           obtain ⟨g0, g1, g2, g3⟩ := cells4 (Ext.block hx7 Q4.out)
           have k0 := frozen_of_row _ _ 0 _ _ (Ext.block hx7 Q2.out)
           have k1 := frozen_of_row _ _ 1 _ _ (Ext.block hx7 Q2.out)
           have k2 := frozen_of_row _ _ 2 _ _ (Ext.block hx7 Q2.out)
           have k3 := frozen_of_row _ _ 3 _ _ (Ext.block hx7 Q2.out)
           have m1 := frozen_of_row _ _ 1 _ _ (Ext.block hx7 Q4.out)
           have m2 := frozen_of_row _ _ 2 _ _ (Ext.block hx7 Q4.out)
           have m3 := frozen_of_row _ _ 3 _ _ (Ext.block hx7 Q4.out)
           have X7 := Lib.hid (X3.out.trans hx7)
           obtain rfl : (bw r).length = n7 := by have := ho7.len; simpa using this
           have HO7 := Lib.hid (Own.mono (base' := w.heap.size + 5) ho7 HSZ.out)
           clear ho7 hx7
           go_wp2_with fail
           refine bodyPost_ret (v := .tuple #[repV ⟨0, [], bw r, []⟩ ⟨none, 0, 0, A7, (bw r).length, c7, none, 0, 0⟩, .bool true]) (by simp [results, Tryz.results104, go_sem, repV, *]) rfl ⟨?_, _, rfl, ⟨Own.nil_ _ _ _ _, ?_, OwL.nil_ _ _ _ _, rfl, by simp, by unfold i64P; simp⟩⟩
           · repeat' (first | with_reducible exact X7.out | with_reducible refine Ext.drew' ?_ | with_reducible refine Ext.set' ?_ (by simp; omega) _)
           · refine Own.mono (base := w.heap.size + 5) ?_ (by omega)
             show Own _ _ _ _ A7 (bw r).length c7 ((bw r).map cW)
             repeat' (first | with_reducible exact HO7.out | with_reducible refine Own.set_below ?_ (by simp) _))
    · skip
      obtain ⟨V, hV, hX0, hVs, q0, q1, q2, q3, q4⟩ := start5 w (.cells #[.int .i64 4, .int .i64 addr, .int .i64 count, .slice A1 n1 c1, .slice A2 n2 c2, .slice A3 n3 c3] 37) (.cells #[.slice A N c] 41) (.cells #[.int .i64 0, .slice none 0 0, .slice none 0 0, .slice none 0 0] 40) (.cells #[.int .i64 1] 3) (.cells #[.int .i64 0, .slice none 0 0, .slice none 0 0, .slice none 0 0] 40)
      have X0 := Lib.hid hX0
      obtain ⟨p0, p1, p2, p3⟩ := cells4 q2
      obtain ⟨g0, g1, g2, g3⟩ := cells4 q4
      obtain ⟨d0, -, d2, -⟩ := cells6 q0
      have d1 : V.cell? ⟨w.heap.size + 1, 0, none⟩ = some (.slice A N c) := cell_of_row _ _ _ _ _ _ q1
      have k0 := frozen_of_row _ _ 0 _ _ q2
      have m0 := frozen_of_row _ _ 0 _ _ q4
      have k1 := frozen_of_row _ _ 1 _ _ q2
      have m1 := frozen_of_row _ _ 1 _ _ q4
      have k2 := frozen_of_row _ _ 2 _ _ q2
      have m2 := frozen_of_row _ _ 2 _ _ q4
      have k3 := frozen_of_row _ _ 3 _ _ q2
      have m3 := frozen_of_row _ _ 3 _ _ q4
      have HT1 := Lib.hid (show Calls Tryz.prog 117 #[.int .i64 1, .pointer (some ⟨w.heap.size + 1 + 1 + 1, 0, none⟩), .pointer (some ⟨w.heap.size + 1, 0, none⟩)] V.drew fun e w' => ∃ A', e = .returned (.slice A' 1 (c - 1)) ∧ Rd w A' 1 [.int .u8 (x1.toNat : Int)] ∧ w' = V.drew.setCell ⟨w.heap.size + 1 + 1 + 1, 0, none⟩ (.int .i64 2) from HT.out V.drew (Ext.drew' X0.out) 1 1 (by omega) q3 q1)
      have hA2 : (V.setCell ⟨w.heap.size + 1 + 1 + 1, 0, none⟩ (.int .i64 2)).drew.heap[w.heap.size + 1 + 1 + 1]? = some (.cells #[.int .i64 2] 3 (0, 0)) := heap_setCell_same _ _ _ _ _ _ q3
      have hB2 := set_other (b := w.heap.size + 1 + 1 + 1) q1 (by omega) (.int .i64 2)
      have hX2 : Ext w (V.setCell ⟨w.heap.size + 1 + 1 + 1, 0, none⟩ (.int .i64 2)).drew := Ext.drew' (Ext.set' X0.out (by simp; omega) _)
      have HT2 := Lib.hid (show Calls Tryz.prog 117 #[.int .i64 ((N : Int) - 2), .pointer (some ⟨w.heap.size + 1 + 1 + 1, 0, none⟩), .pointer (some ⟨w.heap.size + 1, 0, none⟩)] (V.setCell ⟨w.heap.size + 1 + 1 + 1, 0, none⟩ (.int .i64 2)).drew fun e w' => ∃ A', e = .returned (.slice A' (N - 2) (c - 2)) ∧ Rd w A' (N - 2) (r.map cB) ∧ w' = ((V.setCell ⟨w.heap.size + 1 + 1 + 1, 0, none⟩ (.int .i64 2)).drew.setCell ⟨w.heap.size + 1 + 1 + 1, 0, none⟩ (.int .i64 (N : Int))) from by have h := HT.out _ hX2 (N - 2) 2 (by omega) hA2 hB2; rw [htk, hq, show 2 + (N - 2) = N by omega] at h; exact h)
      have Q2 := Lib.hid (show ((V.setCell ⟨w.heap.size + 1 + 1 + 1, 0, none⟩ (.int .i64 2)).drew.setCell ⟨w.heap.size + 1 + 1 + 1, 0, none⟩ (.int .i64 (N : Int))).heap[w.heap.size + 1 + 1]? = _ from set_other (set_other q2 (by omega) _) (by omega) _)
      have Q4 := Lib.hid (show ((V.setCell ⟨w.heap.size + 1 + 1 + 1, 0, none⟩ (.int .i64 2)).drew.setCell ⟨w.heap.size + 1 + 1 + 1, 0, none⟩ (.int .i64 (N : Int))).heap[w.heap.size + 1 + 1 + 1 + 1]? = _ from set_other (set_other q4 (by omega) _) (by omega) _)
      have X3 := Lib.hid (show Ext w ((V.setCell ⟨w.heap.size + 1 + 1 + 1, 0, none⟩ (.int .i64 2)).drew.setCell ⟨w.heap.size + 1 + 1 + 1, 0, none⟩ (.int .i64 (N : Int))) from Ext.set' hX2 (by simp; omega) _)
      have HSZ := Lib.hid (show w.heap.size + 5 ≤ (((V.setCell ⟨w.heap.size + 1 + 1 + 1, 0, none⟩ (.int .i64 2)).drew.setCell ⟨w.heap.size + 1 + 1 + 1, 0, none⟩ (.int .i64 (N : Int)))).heap.size by simp; omega)
      clear q0 q1 q2 q3 q4 hX0 hA2 hB2 hX2
      go_enter Tryz.func104, Tryz.ntmps104
      go_wp2_with fail
      clear hV
      go_region_with ((first
        | (go_at_call 117
           refine HT1.out.mono ?_
           rintro e w2 ⟨A5, rfl, hrd, rfl⟩
           obtain ⟨bk, off, rfl, hbk, hcl⟩ := hrd.2 (by omega)
           have c0 : V.cell? ⟨bk, off, none⟩ = some (.int .u8 (x1.toNat : Int)) := X0.out.cell hbk (hcl 0 _ rfl))
        | fail))
      all_goals
        go_wp2_with fail
      all_goals first
        | (refine HT2.out.mono ?_
           rintro e w2 ⟨A6, rfl, hrd, rfl⟩
           go_wp2_with fail
           refine (HCALL.out _ A6 _ (hrd.ext X3.out)).mono ?_
           rintro e w3 ⟨A7, n7, c7, rfl, ho7, hx7⟩
           obtain ⟨p0, p1, p2, p3⟩ := cells4 (Ext.block hx7 Q2.out)
           obtain ⟨g0, g1, g2, g3⟩ := cells4 (Ext.block hx7 Q4.out)
           have k0 := frozen_of_row _ _ 0 _ _ (Ext.block hx7 Q2.out)
           have k1 := frozen_of_row _ _ 1 _ _ (Ext.block hx7 Q2.out)
           have k2 := frozen_of_row _ _ 2 _ _ (Ext.block hx7 Q2.out)
           have k3 := frozen_of_row _ _ 3 _ _ (Ext.block hx7 Q2.out)
           have m1 := frozen_of_row _ _ 1 _ _ (Ext.block hx7 Q4.out)
           have m2 := frozen_of_row _ _ 2 _ _ (Ext.block hx7 Q4.out)
           have m3 := frozen_of_row _ _ 3 _ _ (Ext.block hx7 Q4.out)
           have X7 := Lib.hid (X3.out.trans hx7)
           obtain rfl : (bw r).length = n7 := by have := ho7.len; simpa using this
           have HO7 := Lib.hid (Own.mono (base' := w.heap.size + 5) ho7 HSZ.out)
           clear ho7 hx7
           go_wp2_with fail
           refine bodyPost_ret (v := .tuple #[repV ⟨0, [], bw r, []⟩ ⟨none, 0, 0, A7, (bw r).length, c7, none, 0, 0⟩, .bool true]) (by simp [results, Tryz.results104, go_sem, repV, *]) rfl ⟨?_, _, rfl, ⟨Own.nil_ _ _ _ _, ?_, OwL.nil_ _ _ _ _, rfl, by simp, by unfold i64P; simp⟩⟩
           · repeat' (first | with_reducible exact X7.out | with_reducible refine Ext.drew' ?_ | with_reducible refine Ext.set' ?_ (by simp; omega) _)
           · refine Own.mono (base := w.heap.size + 5) ?_ (by omega)
             show Own _ _ _ _ A7 (bw r).length c7 ((bw r).map cW)
             repeat' (first | with_reducible exact HO7.out | with_reducible refine Own.set_below ?_ (by simp) _))
  · rw [readR_bad (by unfold plainC; simp only; omega) (by rw [hbt, hl]; exact hbad)]
    simp only [askV]
    have hne : (IntKind.i64.wrap (x1.toNat : Int) != IntKind.i64.wrap ((N : Int) - 2)) = true := by rw [IntWalk.i64_in _ (by have := x1.toNat_lt; omega), IntWalk.i64_in _ (by omega)]; simpa using hbad
    have hX0 := x1.toNat_lt
    clear hb hl hwf hbt
    rcases hc with rfl | rfl
    · skip
      obtain ⟨V, hV, hX0, hVs, q0, q1, q2, q3, q4⟩ := start5 w (.cells #[.int .i64 3, .int .i64 addr, .int .i64 count, .slice A1 n1 c1, .slice A2 n2 c2, .slice A3 n3 c3] 37) (.cells #[.slice A N c] 41) (.cells #[.int .i64 0, .slice none 0 0, .slice none 0 0, .slice none 0 0] 40) (.cells #[.int .i64 1] 3) (.cells #[.int .i64 0, .slice none 0 0, .slice none 0 0, .slice none 0 0] 40)
      have X0 := Lib.hid hX0
      obtain ⟨p0, p1, p2, p3⟩ := cells4 q2
      obtain ⟨g0, g1, g2, g3⟩ := cells4 q4
      obtain ⟨d0, -, d2, -⟩ := cells6 q0
      have d1 : V.cell? ⟨w.heap.size + 1, 0, none⟩ = some (.slice A N c) := cell_of_row _ _ _ _ _ _ q1
      have k0 := frozen_of_row _ _ 0 _ _ q2
      have m0 := frozen_of_row _ _ 0 _ _ q4
      have k1 := frozen_of_row _ _ 1 _ _ q2
      have m1 := frozen_of_row _ _ 1 _ _ q4
      have k2 := frozen_of_row _ _ 2 _ _ q2
      have m2 := frozen_of_row _ _ 2 _ _ q4
      have k3 := frozen_of_row _ _ 3 _ _ q2
      have m3 := frozen_of_row _ _ 3 _ _ q4
      have HT1 := Lib.hid (show Calls Tryz.prog 117 #[.int .i64 1, .pointer (some ⟨w.heap.size + 1 + 1 + 1, 0, none⟩), .pointer (some ⟨w.heap.size + 1, 0, none⟩)] V.drew fun e w' => ∃ A', e = .returned (.slice A' 1 (c - 1)) ∧ Rd w A' 1 [.int .u8 (x1.toNat : Int)] ∧ w' = V.drew.setCell ⟨w.heap.size + 1 + 1 + 1, 0, none⟩ (.int .i64 2) from HT.out V.drew (Ext.drew' X0.out) 1 1 (by omega) q3 q1)
      clear q0 q1 q2 q3 q4 hX0
      go_enter Tryz.func104, Tryz.ntmps104
      go_wp2_with fail
      clear hV
      go_region_with ((first
        | (go_at_call 117
           refine HT1.out.mono ?_
           rintro e w2 ⟨A5, rfl, hrd, rfl⟩
           obtain ⟨bk, off, rfl, hbk, hcl⟩ := hrd.2 (by omega)
           have c0 : V.cell? ⟨bk, off, none⟩ = some (.int .u8 (x1.toNat : Int)) := X0.out.cell hbk (hcl 0 _ rfl))
        | fail))
      all_goals
        go_wp2_with fail
        refine bodyPost_ret (v := .tuple #[.agg #[.int .i64 0, .slice none 0 0, .slice none 0 0, .slice none 0 0], .bool false]) (by simp [results, Tryz.results104, go_sem, repV, *]) rfl ⟨?_, 0, repS0, rfl⟩
        repeat' (first | with_reducible exact X0.out | with_reducible refine Ext.drew' ?_ | with_reducible refine Ext.set' ?_ (by simp; omega) _)
    · skip
      obtain ⟨V, hV, hX0, hVs, q0, q1, q2, q3, q4⟩ := start5 w (.cells #[.int .i64 4, .int .i64 addr, .int .i64 count, .slice A1 n1 c1, .slice A2 n2 c2, .slice A3 n3 c3] 37) (.cells #[.slice A N c] 41) (.cells #[.int .i64 0, .slice none 0 0, .slice none 0 0, .slice none 0 0] 40) (.cells #[.int .i64 1] 3) (.cells #[.int .i64 0, .slice none 0 0, .slice none 0 0, .slice none 0 0] 40)
      have X0 := Lib.hid hX0
      obtain ⟨p0, p1, p2, p3⟩ := cells4 q2
      obtain ⟨g0, g1, g2, g3⟩ := cells4 q4
      obtain ⟨d0, -, d2, -⟩ := cells6 q0
      have d1 : V.cell? ⟨w.heap.size + 1, 0, none⟩ = some (.slice A N c) := cell_of_row _ _ _ _ _ _ q1
      have k0 := frozen_of_row _ _ 0 _ _ q2
      have m0 := frozen_of_row _ _ 0 _ _ q4
      have k1 := frozen_of_row _ _ 1 _ _ q2
      have m1 := frozen_of_row _ _ 1 _ _ q4
      have k2 := frozen_of_row _ _ 2 _ _ q2
      have m2 := frozen_of_row _ _ 2 _ _ q4
      have k3 := frozen_of_row _ _ 3 _ _ q2
      have m3 := frozen_of_row _ _ 3 _ _ q4
      have HT1 := Lib.hid (show Calls Tryz.prog 117 #[.int .i64 1, .pointer (some ⟨w.heap.size + 1 + 1 + 1, 0, none⟩), .pointer (some ⟨w.heap.size + 1, 0, none⟩)] V.drew fun e w' => ∃ A', e = .returned (.slice A' 1 (c - 1)) ∧ Rd w A' 1 [.int .u8 (x1.toNat : Int)] ∧ w' = V.drew.setCell ⟨w.heap.size + 1 + 1 + 1, 0, none⟩ (.int .i64 2) from HT.out V.drew (Ext.drew' X0.out) 1 1 (by omega) q3 q1)
      clear q0 q1 q2 q3 q4 hX0
      go_enter Tryz.func104, Tryz.ntmps104
      go_wp2_with fail
      clear hV
      go_region_with ((first
        | (go_at_call 117
           refine HT1.out.mono ?_
           rintro e w2 ⟨A5, rfl, hrd, rfl⟩
           obtain ⟨bk, off, rfl, hbk, hcl⟩ := hrd.2 (by omega)
           have c0 : V.cell? ⟨bk, off, none⟩ = some (.int .u8 (x1.toNat : Int)) := X0.out.cell hbk (hcl 0 _ rfl))
        | fail))
      all_goals
        go_wp2_with fail
        refine bodyPost_ret (v := .tuple #[.agg #[.int .i64 0, .slice none 0 0, .slice none 0 0, .slice none 0 0], .bool false]) (by simp [results, Tryz.results104, go_sem, repV, *]) rfl ⟨?_, 0, repS0, rfl⟩
        repeat' (first | with_reducible exact X0.out | with_reducible refine Ext.drew' ?_ | with_reducible refine Ext.set' ?_ (by simp; omega) _)
end Go.Proofs.YtomcipkmohhpjaaGreat

namespace Go.Proofs.YtomcipkmohhpjaaGreat
set_option linter.unusedVariables false
set_option linter.unusedSimpArgs false
set_option maxRecDepth 100000
set_option maxHeartbeats 2000000
open Go Go.RowKit Go.Out


theorem rbit_ok1 (addr count : Int) (A1 A2 A3 : Option Addr) (n1 c1 n2 c2 n3 c3 : Nat) (x0 x1 : UInt8) (r : List UInt8) (A : Option Addr) (N c : Nat) (w : World) (hb : Rd w A N ((x0 :: x1 :: r).map cB)) (hcp : N ≤ c ∧ c ≤ 9223372036854775807) (hN : 3 ≤ N) (hN2 : N ≤ 253) (hct : count ≤ 2000)
    (hbad : (x1.toNat : Int) = (N : Int) - 2) (L : List Bool) (HCALL : Hid (∀ W A' c', Rd W A' (N - 2) (r.map cB) → Calls Tryz.prog 110 #[.slice A' (N - 2) c', .int .i64 count] W (RetB W 4 L 0))) :
    Calls Tryz.prog 104 #[.agg #[.int .i64 1, .int .i64 addr, .int .i64 count, .slice A1 n1 c1, .slice A2 n2 c2, .slice A3 n3 c3], .slice A N c] w (RetRR w (some ⟨0, L, [], []⟩)) := by
  have hl := hb.length
  have HT := Lib.hid (fun V (hX : Ext w V) => take_at (x0 :: x1 :: r) A N c w.heap.size w V hb hX (Nat.le_refl _) hcp (by omega))
  have HR := Lib.hid hb
  have hrl : r.length = N - 2 := by simp at hl; omega
  have hmf : ∀ (fn : Fn) (first cap : Array Value) (w : World), (Instr.makeFunc fn first cap).run Tryz.prog w = .ok (.func fn first cap) w := fun _ _ _ _ => rfl
  have hne : (IntKind.i64.wrap (x1.toNat : Int) != IntKind.i64.wrap ((N : Int) - 2)) = false := by rw [IntWalk.i64_in _ (by have := x1.toNat_lt; omega), IntWalk.i64_in _ (by omega)]; simpa using hbad
  have hX0 := x1.toNat_lt
  have hq : ((N - 2 : Nat) : Int) = (N : Int) - 2 := by omega
  have htk : (List.take (N - 2) (List.drop 2 (x0 :: x1 :: r))) = r := List.take_of_length_le (by simp [hrl])
  clear hb hl
  obtain ⟨V, hV, hX0, hVs, q0, q1, q2, q3, q4⟩ := start5 w (.cells #[.int .i64 1, .int .i64 addr, .int .i64 count, .slice A1 n1 c1, .slice A2 n2 c2, .slice A3 n3 c3] 37) (.cells #[.slice A N c] 41) (.cells #[.int .i64 0, .slice none 0 0, .slice none 0 0, .slice none 0 0] 40) (.cells #[.int .i64 1] 3) (.cells #[.int .i64 0, .slice none 0 0, .slice none 0 0, .slice none 0 0] 40)
  have X0 := Lib.hid hX0
  obtain ⟨p0, p1, p2, p3⟩ := cells4 q2
  obtain ⟨g0, g1, g2, g3⟩ := cells4 q4
  obtain ⟨d0, -, d2, -⟩ := cells6 q0
  have d1 : V.cell? ⟨w.heap.size + 1, 0, none⟩ = some (.slice A N c) := cell_of_row _ _ _ _ _ _ q1
  have k0 := frozen_of_row _ _ 0 _ _ q2
  have m0 := frozen_of_row _ _ 0 _ _ q4
  have k1 := frozen_of_row _ _ 1 _ _ q2
  have m1 := frozen_of_row _ _ 1 _ _ q4
  have k2 := frozen_of_row _ _ 2 _ _ q2
  have m2 := frozen_of_row _ _ 2 _ _ q4
  have k3 := frozen_of_row _ _ 3 _ _ q2
  have m3 := frozen_of_row _ _ 3 _ _ q4
  have HT1 := Lib.hid (show Calls Tryz.prog 117 #[.int .i64 1, .pointer (some ⟨w.heap.size + 1 + 1 + 1, 0, none⟩), .pointer (some ⟨w.heap.size + 1, 0, none⟩)] V.drew fun e w' => ∃ A', e = .returned (.slice A' 1 (c - 1)) ∧ Rd w A' 1 [.int .u8 (x1.toNat : Int)] ∧ w' = V.drew.setCell ⟨w.heap.size + 1 + 1 + 1, 0, none⟩ (.int .i64 2) from HT.out V.drew (Ext.drew' X0.out) 1 1 (by omega) q3 q1)
  have hA2 : (V.setCell ⟨w.heap.size + 1 + 1 + 1, 0, none⟩ (.int .i64 2)).drew.heap[w.heap.size + 1 + 1 + 1]? = some (.cells #[.int .i64 2] 3 (0, 0)) := heap_setCell_same _ _ _ _ _ _ q3
  have hB2 := set_other (b := w.heap.size + 1 + 1 + 1) q1 (by omega) (.int .i64 2)
  have hX2 : Ext w (V.setCell ⟨w.heap.size + 1 + 1 + 1, 0, none⟩ (.int .i64 2)).drew.drew := Ext.drew' (Ext.drew' (Ext.set' X0.out (by simp; omega) _))
  have HT2 := Lib.hid (show Calls Tryz.prog 117 #[.int .i64 ((N : Int) - 2), .pointer (some ⟨w.heap.size + 1 + 1 + 1, 0, none⟩), .pointer (some ⟨w.heap.size + 1, 0, none⟩)] (V.setCell ⟨w.heap.size + 1 + 1 + 1, 0, none⟩ (.int .i64 2)).drew.drew fun e w' => ∃ A', e = .returned (.slice A' (N - 2) (c - 2)) ∧ Rd w A' (N - 2) (r.map cB) ∧ w' = ((V.setCell ⟨w.heap.size + 1 + 1 + 1, 0, none⟩ (.int .i64 2)).drew.drew.setCell ⟨w.heap.size + 1 + 1 + 1, 0, none⟩ (.int .i64 (N : Int))) from by have h := HT.out _ hX2 (N - 2) 2 (by omega) hA2 hB2; rw [htk, hq, show 2 + (N - 2) = N by omega] at h; exact h)
  have Q2 := Lib.hid (show ((V.setCell ⟨w.heap.size + 1 + 1 + 1, 0, none⟩ (.int .i64 2)).drew.drew.setCell ⟨w.heap.size + 1 + 1 + 1, 0, none⟩ (.int .i64 (N : Int))).heap[w.heap.size + 1 + 1]? = _ from set_other (set_other q2 (by omega) _) (by omega) _)
  have Q4 := Lib.hid (show ((V.setCell ⟨w.heap.size + 1 + 1 + 1, 0, none⟩ (.int .i64 2)).drew.drew.setCell ⟨w.heap.size + 1 + 1 + 1, 0, none⟩ (.int .i64 (N : Int))).heap[w.heap.size + 1 + 1 + 1 + 1]? = _ from set_other (set_other q4 (by omega) _) (by omega) _)
  have X3 := Lib.hid (show Ext w ((V.setCell ⟨w.heap.size + 1 + 1 + 1, 0, none⟩ (.int .i64 2)).drew.drew.setCell ⟨w.heap.size + 1 + 1 + 1, 0, none⟩ (.int .i64 (N : Int))) from Ext.set' hX2 (by simp; omega) _)
  have HS0 : (V.setCell ⟨w.heap.size + 1 + 1 + 1, 0, none⟩ (.int .i64 2)).drew.drew.cell? ⟨w.heap.size + 1, 0, none⟩ = some (.slice A N c) ∧ (V.setCell ⟨w.heap.size + 1 + 1 + 1, 0, none⟩ (.int .i64 2)).drew.drew.cell? ⟨w.heap.size, 2, none⟩ = some (.int .i64 count) := ⟨cell_of_row _ _ _ _ _ _ (set_other (V := V) q1 (by omega) _), (cells6 (set_other (V := V) q0 (by omega) _)).2.2.1⟩
  have HSS := Lib.hid (fun (W : World) (hX : Ext ((V.setCell ⟨w.heap.size + 1 + 1 + 1, 0, none⟩ (.int .i64 2)).drew.drew.setCell ⟨w.heap.size + 1 + 1 + 1, 0, none⟩ (.int .i64 (N : Int))) W) => (show W.cell? ⟨w.heap.size + 1, 0, none⟩ = some (.slice A N c) ∧ W.cell? ⟨w.heap.size, 2, none⟩ = some (.int .i64 count) from ⟨cell_of_row _ _ _ _ _ _ (Ext.block hX (set_other (set_other q1 (by omega) _) (by omega) _)), (cells6 (Ext.block hX (set_other (set_other q0 (by omega) _) (by omega) _))).2.2.1⟩))
  have HSZ := Lib.hid (show w.heap.size + 5 ≤ (((V.setCell ⟨w.heap.size + 1 + 1 + 1, 0, none⟩ (.int .i64 2)).drew.drew.setCell ⟨w.heap.size + 1 + 1 + 1, 0, none⟩ (.int .i64 (N : Int)))).heap.size by simp; omega)
  clear q0 q1 q2 q3 q4 hX0 hA2 hB2 hX2
  go_enter Tryz.func104, Tryz.ntmps104
  go_wp2_with fail
  clear hV
  go_region_with ((first
    | (go_at_call 117
       refine HT1.out.mono ?_
       rintro e w2 ⟨A5, rfl, hrd, rfl⟩
       obtain ⟨bk, off, rfl, hbk, hcl⟩ := hrd.2 (by omega)
       have c0 : V.cell? ⟨bk, off, none⟩ = some (.int .u8 (x1.toNat : Int)) := X0.out.cell hbk (hcl 0 _ rfl))
    | fail))
  all_goals
    go_wp2_with fail
    have hw : IntKind.i64.wrap ((N : Int) - 2) = (N : Int) - 2 := IntWalk.i64_in _ (by omega)
  all_goals
    go_region_held3 (fun W => W.cell? ⟨w.heap.size + 1, 0, none⟩ = some (.slice A N c) ∧ W.cell? ⟨w.heap.size, 2, none⟩ = some (.int .i64 count)) (first | with_reducible exact HSS.out _ (Ext.of hx7) | with_reducible exact HS0 | with_reducible exact HSS.out _ (Ext.refl _) | exact ⟨(World.cell?_setCell_far _ _ _ _ (by simp <;> omega)).trans s1, (World.cell?_setCell_far _ _ _ _ (by simp <;> omega)).trans s2⟩ | go_keep) ((first
      | (go_at_call 117
         refine HT2.out.mono ?_
         rintro e w2 ⟨A6, rfl, hrd, rfl⟩)
      | (go_at_call 110
         refine (HCALL.out _ A6 _ (hrd.ext X3.out)).mono ?_
         rintro e w3 ⟨A7, n7, c7, rfl, ho7, hx7⟩
         obtain ⟨p0, p1, p2, p3⟩ := cells4 (Ext.block hx7 Q2.out)
         obtain ⟨g0, g1, g2, g3⟩ := cells4 (Ext.block hx7 Q4.out)
         have k0 := frozen_of_row _ _ 0 _ _ (Ext.block hx7 Q2.out)
         have k1 := frozen_of_row _ _ 1 _ _ (Ext.block hx7 Q2.out)
         have k2 := frozen_of_row _ _ 2 _ _ (Ext.block hx7 Q2.out)
         have k3 := frozen_of_row _ _ 3 _ _ (Ext.block hx7 Q2.out)
         have m1 := frozen_of_row _ _ 1 _ _ (Ext.block hx7 Q4.out)
         have m2 := frozen_of_row _ _ 2 _ _ (Ext.block hx7 Q4.out)
         have m3 := frozen_of_row _ _ 3 _ _ (Ext.block hx7 Q4.out)
         have X7 := Lib.hid (X3.out.trans hx7)
         have hn7 : L.length = n7 := by have := ho7.len; simpa using this
         subst hn7
         have HO7 := Lib.hid (Own.mono (base' := w.heap.size + 5) ho7 HSZ.out)
         obtain ⟨s1, s2⟩ := HSS.out _ (Ext.of hx7)
         clear ho7)
      | fail))
  all_goals
    go_wp2_with fail
    refine bodyPost_ret (v := .tuple #[repV ⟨0, L, [], []⟩ ⟨A7, L.length, c7, none, 0, 0, none, 0, 0⟩, .bool true]) (by simp [results, Tryz.results104, go_sem, repV, *]) rfl ⟨?_, _, rfl, ⟨?_, Own.nil_ _ _ _ _, OwL.nil_ _ _ _ _, rfl, by simp, by unfold i64P; simp⟩⟩
    · repeat' (first | with_reducible exact X7.out | with_reducible refine Ext.drew' ?_ | with_reducible refine Ext.set' ?_ (by simp; omega) _)
    · refine Own.mono (base := w.heap.size + 5) ?_ (by omega)
      show Own _ _ _ _ A7 L.length c7 (L.map cL)
      repeat' (first | with_reducible exact HO7.out | with_reducible refine Own.set_below ?_ (by simp) _)
theorem rbit_no1 (addr count : Int) (A1 A2 A3 : Option Addr) (n1 c1 n2 c2 n3 c3 : Nat) (x0 x1 : UInt8) (r : List UInt8) (A : Option Addr) (N c : Nat) (w : World) (hb : Rd w A N ((x0 :: x1 :: r).map cB)) (hcp : N ≤ c ∧ c ≤ 9223372036854775807) (hN : 3 ≤ N) (hN2 : N ≤ 253) (hct : count ≤ 2000)
    (hbad : (x1.toNat : Int) = (N : Int) - 2) (L : List Bool) (E : Int) (hE0 : (E == 0) = false) (HCALL : Hid (∀ W A' c', Rd W A' (N - 2) (r.map cB) → Calls Tryz.prog 110 #[.slice A' (N - 2) c', .int .i64 count] W (RetB W 4 L E))) :
    Calls Tryz.prog 104 #[.agg #[.int .i64 1, .int .i64 addr, .int .i64 count, .slice A1 n1 c1, .slice A2 n2 c2, .slice A3 n3 c3], .slice A N c] w (RetRR w none) := by
  have hl := hb.length
  have HT := Lib.hid (fun V (hX : Ext w V) => take_at (x0 :: x1 :: r) A N c w.heap.size w V hb hX (Nat.le_refl _) hcp (by omega))
  have HR := Lib.hid hb
  have hrl : r.length = N - 2 := by simp at hl; omega
  have hmf : ∀ (fn : Fn) (first cap : Array Value) (w : World), (Instr.makeFunc fn first cap).run Tryz.prog w = .ok (.func fn first cap) w := fun _ _ _ _ => rfl
  have hne : (IntKind.i64.wrap (x1.toNat : Int) != IntKind.i64.wrap ((N : Int) - 2)) = false := by rw [IntWalk.i64_in _ (by have := x1.toNat_lt; omega), IntWalk.i64_in _ (by omega)]; simpa using hbad
  have hX0 := x1.toNat_lt
  have hq : ((N - 2 : Nat) : Int) = (N : Int) - 2 := by omega
  have htk : (List.take (N - 2) (List.drop 2 (x0 :: x1 :: r))) = r := List.take_of_length_le (by simp [hrl])
  clear hb hl
  obtain ⟨V, hV, hX0, hVs, q0, q1, q2, q3, q4⟩ := start5 w (.cells #[.int .i64 1, .int .i64 addr, .int .i64 count, .slice A1 n1 c1, .slice A2 n2 c2, .slice A3 n3 c3] 37) (.cells #[.slice A N c] 41) (.cells #[.int .i64 0, .slice none 0 0, .slice none 0 0, .slice none 0 0] 40) (.cells #[.int .i64 1] 3) (.cells #[.int .i64 0, .slice none 0 0, .slice none 0 0, .slice none 0 0] 40)
  have X0 := Lib.hid hX0
  obtain ⟨p0, p1, p2, p3⟩ := cells4 q2
  obtain ⟨g0, g1, g2, g3⟩ := cells4 q4
  obtain ⟨d0, -, d2, -⟩ := cells6 q0
  have d1 : V.cell? ⟨w.heap.size + 1, 0, none⟩ = some (.slice A N c) := cell_of_row _ _ _ _ _ _ q1
  have k0 := frozen_of_row _ _ 0 _ _ q2
  have m0 := frozen_of_row _ _ 0 _ _ q4
  have k1 := frozen_of_row _ _ 1 _ _ q2
  have m1 := frozen_of_row _ _ 1 _ _ q4
  have k2 := frozen_of_row _ _ 2 _ _ q2
  have m2 := frozen_of_row _ _ 2 _ _ q4
  have k3 := frozen_of_row _ _ 3 _ _ q2
  have m3 := frozen_of_row _ _ 3 _ _ q4
  have HT1 := Lib.hid (show Calls Tryz.prog 117 #[.int .i64 1, .pointer (some ⟨w.heap.size + 1 + 1 + 1, 0, none⟩), .pointer (some ⟨w.heap.size + 1, 0, none⟩)] V.drew fun e w' => ∃ A', e = .returned (.slice A' 1 (c - 1)) ∧ Rd w A' 1 [.int .u8 (x1.toNat : Int)] ∧ w' = V.drew.setCell ⟨w.heap.size + 1 + 1 + 1, 0, none⟩ (.int .i64 2) from HT.out V.drew (Ext.drew' X0.out) 1 1 (by omega) q3 q1)
  have hA2 : (V.setCell ⟨w.heap.size + 1 + 1 + 1, 0, none⟩ (.int .i64 2)).drew.heap[w.heap.size + 1 + 1 + 1]? = some (.cells #[.int .i64 2] 3 (0, 0)) := heap_setCell_same _ _ _ _ _ _ q3
  have hB2 := set_other (b := w.heap.size + 1 + 1 + 1) q1 (by omega) (.int .i64 2)
  have hX2 : Ext w (V.setCell ⟨w.heap.size + 1 + 1 + 1, 0, none⟩ (.int .i64 2)).drew.drew := Ext.drew' (Ext.drew' (Ext.set' X0.out (by simp; omega) _))
  have HT2 := Lib.hid (show Calls Tryz.prog 117 #[.int .i64 ((N : Int) - 2), .pointer (some ⟨w.heap.size + 1 + 1 + 1, 0, none⟩), .pointer (some ⟨w.heap.size + 1, 0, none⟩)] (V.setCell ⟨w.heap.size + 1 + 1 + 1, 0, none⟩ (.int .i64 2)).drew.drew fun e w' => ∃ A', e = .returned (.slice A' (N - 2) (c - 2)) ∧ Rd w A' (N - 2) (r.map cB) ∧ w' = ((V.setCell ⟨w.heap.size + 1 + 1 + 1, 0, none⟩ (.int .i64 2)).drew.drew.setCell ⟨w.heap.size + 1 + 1 + 1, 0, none⟩ (.int .i64 (N : Int))) from by have h := HT.out _ hX2 (N - 2) 2 (by omega) hA2 hB2; rw [htk, hq, show 2 + (N - 2) = N by omega] at h; exact h)
  have Q2 := Lib.hid (show ((V.setCell ⟨w.heap.size + 1 + 1 + 1, 0, none⟩ (.int .i64 2)).drew.drew.setCell ⟨w.heap.size + 1 + 1 + 1, 0, none⟩ (.int .i64 (N : Int))).heap[w.heap.size + 1 + 1]? = _ from set_other (set_other q2 (by omega) _) (by omega) _)
  have Q4 := Lib.hid (show ((V.setCell ⟨w.heap.size + 1 + 1 + 1, 0, none⟩ (.int .i64 2)).drew.drew.setCell ⟨w.heap.size + 1 + 1 + 1, 0, none⟩ (.int .i64 (N : Int))).heap[w.heap.size + 1 + 1 + 1 + 1]? = _ from set_other (set_other q4 (by omega) _) (by omega) _)
  have X3 := Lib.hid (show Ext w ((V.setCell ⟨w.heap.size + 1 + 1 + 1, 0, none⟩ (.int .i64 2)).drew.drew.setCell ⟨w.heap.size + 1 + 1 + 1, 0, none⟩ (.int .i64 (N : Int))) from Ext.set' hX2 (by simp; omega) _)
  have HS0 : (V.setCell ⟨w.heap.size + 1 + 1 + 1, 0, none⟩ (.int .i64 2)).drew.drew.cell? ⟨w.heap.size + 1, 0, none⟩ = some (.slice A N c) ∧ (V.setCell ⟨w.heap.size + 1 + 1 + 1, 0, none⟩ (.int .i64 2)).drew.drew.cell? ⟨w.heap.size, 2, none⟩ = some (.int .i64 count) := ⟨cell_of_row _ _ _ _ _ _ (set_other (V := V) q1 (by omega) _), (cells6 (set_other (V := V) q0 (by omega) _)).2.2.1⟩
  have HSS := Lib.hid (fun (W : World) (hX : Ext ((V.setCell ⟨w.heap.size + 1 + 1 + 1, 0, none⟩ (.int .i64 2)).drew.drew.setCell ⟨w.heap.size + 1 + 1 + 1, 0, none⟩ (.int .i64 (N : Int))) W) => (show W.cell? ⟨w.heap.size + 1, 0, none⟩ = some (.slice A N c) ∧ W.cell? ⟨w.heap.size, 2, none⟩ = some (.int .i64 count) from ⟨cell_of_row _ _ _ _ _ _ (Ext.block hX (set_other (set_other q1 (by omega) _) (by omega) _)), (cells6 (Ext.block hX (set_other (set_other q0 (by omega) _) (by omega) _))).2.2.1⟩))
  have HSZ := Lib.hid (show w.heap.size + 5 ≤ (((V.setCell ⟨w.heap.size + 1 + 1 + 1, 0, none⟩ (.int .i64 2)).drew.drew.setCell ⟨w.heap.size + 1 + 1 + 1, 0, none⟩ (.int .i64 (N : Int)))).heap.size by simp; omega)
  clear q0 q1 q2 q3 q4 hX0 hA2 hB2 hX2
  go_enter Tryz.func104, Tryz.ntmps104
  go_wp2_with fail
  clear hV
  go_region_with ((first
    | (go_at_call 117
       refine HT1.out.mono ?_
       rintro e w2 ⟨A5, rfl, hrd, rfl⟩
       obtain ⟨bk, off, rfl, hbk, hcl⟩ := hrd.2 (by omega)
       have c0 : V.cell? ⟨bk, off, none⟩ = some (.int .u8 (x1.toNat : Int)) := X0.out.cell hbk (hcl 0 _ rfl))
    | fail))
  all_goals
    go_wp2_with fail
    have hw : IntKind.i64.wrap ((N : Int) - 2) = (N : Int) - 2 := IntWalk.i64_in _ (by omega)
  all_goals
    go_region_held3 (fun W => W.cell? ⟨w.heap.size + 1, 0, none⟩ = some (.slice A N c) ∧ W.cell? ⟨w.heap.size, 2, none⟩ = some (.int .i64 count)) (first | with_reducible exact HSS.out _ (Ext.of hx7) | with_reducible exact HS0 | with_reducible exact HSS.out _ (Ext.refl _) | exact ⟨(World.cell?_setCell_far _ _ _ _ (by simp <;> omega)).trans s1, (World.cell?_setCell_far _ _ _ _ (by simp <;> omega)).trans s2⟩ | go_keep) ((first
      | (go_at_call 117
         refine HT2.out.mono ?_
         rintro e w2 ⟨A6, rfl, hrd, rfl⟩)
      | (go_at_call 110
         refine (HCALL.out _ A6 _ (hrd.ext X3.out)).mono ?_
         rintro e w3 ⟨A7, n7, c7, rfl, ho7, hx7⟩
         obtain ⟨p0, p1, p2, p3⟩ := cells4 (Ext.block hx7 Q2.out)
         obtain ⟨g0, g1, g2, g3⟩ := cells4 (Ext.block hx7 Q4.out)
         have k0 := frozen_of_row _ _ 0 _ _ (Ext.block hx7 Q2.out)
         have k1 := frozen_of_row _ _ 1 _ _ (Ext.block hx7 Q2.out)
         have k2 := frozen_of_row _ _ 2 _ _ (Ext.block hx7 Q2.out)
         have k3 := frozen_of_row _ _ 3 _ _ (Ext.block hx7 Q2.out)
         have m1 := frozen_of_row _ _ 1 _ _ (Ext.block hx7 Q4.out)
         have m2 := frozen_of_row _ _ 2 _ _ (Ext.block hx7 Q4.out)
         have m3 := frozen_of_row _ _ 3 _ _ (Ext.block hx7 Q4.out)
         have X7 := Lib.hid (X3.out.trans hx7)
         have hn7 : L.length = n7 := by have := ho7.len; simpa using this
         subst hn7
         have HO7 := Lib.hid (Own.mono (base' := w.heap.size + 5) ho7 HSZ.out)
         obtain ⟨s1, s2⟩ := HSS.out _ (Ext.of hx7)
         clear ho7)
      | fail))
  all_goals
    go_wp2_with fail
    refine bodyPost_ret (v := .tuple #[.agg #[.int .i64 0, .slice A7 L.length c7, .slice none 0 0, .slice none 0 0], .bool false]) (by simp [results, Tryz.results104, go_sem, repV, *]) rfl ⟨?_, 0, ⟨A7, L.length, c7, none, 0, 0, none, 0, 0⟩, rfl⟩
    repeat' (first | with_reducible exact X7.out | with_reducible refine Ext.drew' ?_ | with_reducible refine Ext.set' ?_ (by simp; omega) _)
theorem rbit_ok2 (addr count : Int) (A1 A2 A3 : Option Addr) (n1 c1 n2 c2 n3 c3 : Nat) (x0 x1 : UInt8) (r : List UInt8) (A : Option Addr) (N c : Nat) (w : World) (hb : Rd w A N ((x0 :: x1 :: r).map cB)) (hcp : N ≤ c ∧ c ≤ 9223372036854775807) (hN : 3 ≤ N) (hN2 : N ≤ 253) (hct : count ≤ 2000)
    (hbad : (x1.toNat : Int) = (N : Int) - 2) (L : List Bool) (HCALL : Hid (∀ W A' c', Rd W A' (N - 2) (r.map cB) → Calls Tryz.prog 110 #[.slice A' (N - 2) c', .int .i64 count] W (RetB W 4 L 0))) :
    Calls Tryz.prog 104 #[.agg #[.int .i64 2, .int .i64 addr, .int .i64 count, .slice A1 n1 c1, .slice A2 n2 c2, .slice A3 n3 c3], .slice A N c] w (RetRR w (some ⟨0, L, [], []⟩)) := by
  have hl := hb.length
  have HT := Lib.hid (fun V (hX : Ext w V) => take_at (x0 :: x1 :: r) A N c w.heap.size w V hb hX (Nat.le_refl _) hcp (by omega))
  have HR := Lib.hid hb
  have hrl : r.length = N - 2 := by simp at hl; omega
  have hmf : ∀ (fn : Fn) (first cap : Array Value) (w : World), (Instr.makeFunc fn first cap).run Tryz.prog w = .ok (.func fn first cap) w := fun _ _ _ _ => rfl
  have hne : (IntKind.i64.wrap (x1.toNat : Int) != IntKind.i64.wrap ((N : Int) - 2)) = false := by rw [IntWalk.i64_in _ (by have := x1.toNat_lt; omega), IntWalk.i64_in _ (by omega)]; simpa using hbad
  have hX0 := x1.toNat_lt
  have hq : ((N - 2 : Nat) : Int) = (N : Int) - 2 := by omega
  have htk : (List.take (N - 2) (List.drop 2 (x0 :: x1 :: r))) = r := List.take_of_length_le (by simp [hrl])
  clear hb hl
  obtain ⟨V, hV, hX0, hVs, q0, q1, q2, q3, q4⟩ := start5 w (.cells #[.int .i64 2, .int .i64 addr, .int .i64 count, .slice A1 n1 c1, .slice A2 n2 c2, .slice A3 n3 c3] 37) (.cells #[.slice A N c] 41) (.cells #[.int .i64 0, .slice none 0 0, .slice none 0 0, .slice none 0 0] 40) (.cells #[.int .i64 1] 3) (.cells #[.int .i64 0, .slice none 0 0, .slice none 0 0, .slice none 0 0] 40)
  have X0 := Lib.hid hX0
  obtain ⟨p0, p1, p2, p3⟩ := cells4 q2
  obtain ⟨g0, g1, g2, g3⟩ := cells4 q4
  obtain ⟨d0, -, d2, -⟩ := cells6 q0
  have d1 : V.cell? ⟨w.heap.size + 1, 0, none⟩ = some (.slice A N c) := cell_of_row _ _ _ _ _ _ q1
  have k0 := frozen_of_row _ _ 0 _ _ q2
  have m0 := frozen_of_row _ _ 0 _ _ q4
  have k1 := frozen_of_row _ _ 1 _ _ q2
  have m1 := frozen_of_row _ _ 1 _ _ q4
  have k2 := frozen_of_row _ _ 2 _ _ q2
  have m2 := frozen_of_row _ _ 2 _ _ q4
  have k3 := frozen_of_row _ _ 3 _ _ q2
  have m3 := frozen_of_row _ _ 3 _ _ q4
  have HT1 := Lib.hid (show Calls Tryz.prog 117 #[.int .i64 1, .pointer (some ⟨w.heap.size + 1 + 1 + 1, 0, none⟩), .pointer (some ⟨w.heap.size + 1, 0, none⟩)] V.drew fun e w' => ∃ A', e = .returned (.slice A' 1 (c - 1)) ∧ Rd w A' 1 [.int .u8 (x1.toNat : Int)] ∧ w' = V.drew.setCell ⟨w.heap.size + 1 + 1 + 1, 0, none⟩ (.int .i64 2) from HT.out V.drew (Ext.drew' X0.out) 1 1 (by omega) q3 q1)
  have hA2 : (V.setCell ⟨w.heap.size + 1 + 1 + 1, 0, none⟩ (.int .i64 2)).drew.heap[w.heap.size + 1 + 1 + 1]? = some (.cells #[.int .i64 2] 3 (0, 0)) := heap_setCell_same _ _ _ _ _ _ q3
  have hB2 := set_other (b := w.heap.size + 1 + 1 + 1) q1 (by omega) (.int .i64 2)
  have hX2 : Ext w (V.setCell ⟨w.heap.size + 1 + 1 + 1, 0, none⟩ (.int .i64 2)).drew.drew := Ext.drew' (Ext.drew' (Ext.set' X0.out (by simp; omega) _))
  have HT2 := Lib.hid (show Calls Tryz.prog 117 #[.int .i64 ((N : Int) - 2), .pointer (some ⟨w.heap.size + 1 + 1 + 1, 0, none⟩), .pointer (some ⟨w.heap.size + 1, 0, none⟩)] (V.setCell ⟨w.heap.size + 1 + 1 + 1, 0, none⟩ (.int .i64 2)).drew.drew fun e w' => ∃ A', e = .returned (.slice A' (N - 2) (c - 2)) ∧ Rd w A' (N - 2) (r.map cB) ∧ w' = ((V.setCell ⟨w.heap.size + 1 + 1 + 1, 0, none⟩ (.int .i64 2)).drew.drew.setCell ⟨w.heap.size + 1 + 1 + 1, 0, none⟩ (.int .i64 (N : Int))) from by have h := HT.out _ hX2 (N - 2) 2 (by omega) hA2 hB2; rw [htk, hq, show 2 + (N - 2) = N by omega] at h; exact h)
  have Q2 := Lib.hid (show ((V.setCell ⟨w.heap.size + 1 + 1 + 1, 0, none⟩ (.int .i64 2)).drew.drew.setCell ⟨w.heap.size + 1 + 1 + 1, 0, none⟩ (.int .i64 (N : Int))).heap[w.heap.size + 1 + 1]? = _ from set_other (set_other q2 (by omega) _) (by omega) _)
  have Q4 := Lib.hid (show ((V.setCell ⟨w.heap.size + 1 + 1 + 1, 0, none⟩ (.int .i64 2)).drew.drew.setCell ⟨w.heap.size + 1 + 1 + 1, 0, none⟩ (.int .i64 (N : Int))).heap[w.heap.size + 1 + 1 + 1 + 1]? = _ from set_other (set_other q4 (by omega) _) (by omega) _)
  have X3 := Lib.hid (show Ext w ((V.setCell ⟨w.heap.size + 1 + 1 + 1, 0, none⟩ (.int .i64 2)).drew.drew.setCell ⟨w.heap.size + 1 + 1 + 1, 0, none⟩ (.int .i64 (N : Int))) from Ext.set' hX2 (by simp; omega) _)
  have HS0 : (V.setCell ⟨w.heap.size + 1 + 1 + 1, 0, none⟩ (.int .i64 2)).drew.drew.cell? ⟨w.heap.size + 1, 0, none⟩ = some (.slice A N c) ∧ (V.setCell ⟨w.heap.size + 1 + 1 + 1, 0, none⟩ (.int .i64 2)).drew.drew.cell? ⟨w.heap.size, 2, none⟩ = some (.int .i64 count) := ⟨cell_of_row _ _ _ _ _ _ (set_other (V := V) q1 (by omega) _), (cells6 (set_other (V := V) q0 (by omega) _)).2.2.1⟩
  have HSS := Lib.hid (fun (W : World) (hX : Ext ((V.setCell ⟨w.heap.size + 1 + 1 + 1, 0, none⟩ (.int .i64 2)).drew.drew.setCell ⟨w.heap.size + 1 + 1 + 1, 0, none⟩ (.int .i64 (N : Int))) W) => (show W.cell? ⟨w.heap.size + 1, 0, none⟩ = some (.slice A N c) ∧ W.cell? ⟨w.heap.size, 2, none⟩ = some (.int .i64 count) from ⟨cell_of_row _ _ _ _ _ _ (Ext.block hX (set_other (set_other q1 (by omega) _) (by omega) _)), (cells6 (Ext.block hX (set_other (set_other q0 (by omega) _) (by omega) _))).2.2.1⟩))
  have HSZ := Lib.hid (show w.heap.size + 5 ≤ (((V.setCell ⟨w.heap.size + 1 + 1 + 1, 0, none⟩ (.int .i64 2)).drew.drew.setCell ⟨w.heap.size + 1 + 1 + 1, 0, none⟩ (.int .i64 (N : Int)))).heap.size by simp; omega)
  clear q0 q1 q2 q3 q4 hX0 hA2 hB2 hX2
  go_enter Tryz.func104, Tryz.ntmps104
  go_wp2_with fail
  clear hV
  go_region_with ((first
    | (go_at_call 117
       refine HT1.out.mono ?_
       rintro e w2 ⟨A5, rfl, hrd, rfl⟩
       obtain ⟨bk, off, rfl, hbk, hcl⟩ := hrd.2 (by omega)
       have c0 : V.cell? ⟨bk, off, none⟩ = some (.int .u8 (x1.toNat : Int)) := X0.out.cell hbk (hcl 0 _ rfl))
    | fail))
  all_goals
    go_wp2_with fail
    have hw : IntKind.i64.wrap ((N : Int) - 2) = (N : Int) - 2 := IntWalk.i64_in _ (by omega)
  all_goals
    go_region_held3 (fun W => W.cell? ⟨w.heap.size + 1, 0, none⟩ = some (.slice A N c) ∧ W.cell? ⟨w.heap.size, 2, none⟩ = some (.int .i64 count)) (first | with_reducible exact HSS.out _ (Ext.of hx7) | with_reducible exact HS0 | with_reducible exact HSS.out _ (Ext.refl _) | exact ⟨(World.cell?_setCell_far _ _ _ _ (by simp <;> omega)).trans s1, (World.cell?_setCell_far _ _ _ _ (by simp <;> omega)).trans s2⟩ | go_keep) ((first
      | (go_at_call 117
         refine HT2.out.mono ?_
         rintro e w2 ⟨A6, rfl, hrd, rfl⟩)
      | (go_at_call 110
         refine (HCALL.out _ A6 _ (hrd.ext X3.out)).mono ?_
         rintro e w3 ⟨A7, n7, c7, rfl, ho7, hx7⟩
         obtain ⟨p0, p1, p2, p3⟩ := cells4 (Ext.block hx7 Q2.out)
         obtain ⟨g0, g1, g2, g3⟩ := cells4 (Ext.block hx7 Q4.out)
         have k0 := frozen_of_row _ _ 0 _ _ (Ext.block hx7 Q2.out)
         have k1 := frozen_of_row _ _ 1 _ _ (Ext.block hx7 Q2.out)
         have k2 := frozen_of_row _ _ 2 _ _ (Ext.block hx7 Q2.out)
         have k3 := frozen_of_row _ _ 3 _ _ (Ext.block hx7 Q2.out)
         have m1 := frozen_of_row _ _ 1 _ _ (Ext.block hx7 Q4.out)
         have m2 := frozen_of_row _ _ 2 _ _ (Ext.block hx7 Q4.out)
         have m3 := frozen_of_row _ _ 3 _ _ (Ext.block hx7 Q4.out)
         have X7 := Lib.hid (X3.out.trans hx7)
         have hn7 : L.length = n7 := by have := ho7.len; simpa using this
         subst hn7
         have HO7 := Lib.hid (Own.mono (base' := w.heap.size + 5) ho7 HSZ.out)
         obtain ⟨s1, s2⟩ := HSS.out _ (Ext.of hx7)
         clear ho7)
      | fail))
  all_goals
    go_wp2_with fail
    refine bodyPost_ret (v := .tuple #[repV ⟨0, L, [], []⟩ ⟨A7, L.length, c7, none, 0, 0, none, 0, 0⟩, .bool true]) (by simp [results, Tryz.results104, go_sem, repV, *]) rfl ⟨?_, _, rfl, ⟨?_, Own.nil_ _ _ _ _, OwL.nil_ _ _ _ _, rfl, by simp, by unfold i64P; simp⟩⟩
    · repeat' (first | with_reducible exact X7.out | with_reducible refine Ext.drew' ?_ | with_reducible refine Ext.set' ?_ (by simp; omega) _)
    · refine Own.mono (base := w.heap.size + 5) ?_ (by omega)
      show Own _ _ _ _ A7 L.length c7 (L.map cL)
      repeat' (first | with_reducible exact HO7.out | with_reducible refine Own.set_below ?_ (by simp) _)
theorem rbit_no2 (addr count : Int) (A1 A2 A3 : Option Addr) (n1 c1 n2 c2 n3 c3 : Nat) (x0 x1 : UInt8) (r : List UInt8) (A : Option Addr) (N c : Nat) (w : World) (hb : Rd w A N ((x0 :: x1 :: r).map cB)) (hcp : N ≤ c ∧ c ≤ 9223372036854775807) (hN : 3 ≤ N) (hN2 : N ≤ 253) (hct : count ≤ 2000)
    (hbad : (x1.toNat : Int) = (N : Int) - 2) (L : List Bool) (E : Int) (hE0 : (E == 0) = false) (HCALL : Hid (∀ W A' c', Rd W A' (N - 2) (r.map cB) → Calls Tryz.prog 110 #[.slice A' (N - 2) c', .int .i64 count] W (RetB W 4 L E))) :
    Calls Tryz.prog 104 #[.agg #[.int .i64 2, .int .i64 addr, .int .i64 count, .slice A1 n1 c1, .slice A2 n2 c2, .slice A3 n3 c3], .slice A N c] w (RetRR w none) := by
  have hl := hb.length
  have HT := Lib.hid (fun V (hX : Ext w V) => take_at (x0 :: x1 :: r) A N c w.heap.size w V hb hX (Nat.le_refl _) hcp (by omega))
  have HR := Lib.hid hb
  have hrl : r.length = N - 2 := by simp at hl; omega
  have hmf : ∀ (fn : Fn) (first cap : Array Value) (w : World), (Instr.makeFunc fn first cap).run Tryz.prog w = .ok (.func fn first cap) w := fun _ _ _ _ => rfl
  have hne : (IntKind.i64.wrap (x1.toNat : Int) != IntKind.i64.wrap ((N : Int) - 2)) = false := by rw [IntWalk.i64_in _ (by have := x1.toNat_lt; omega), IntWalk.i64_in _ (by omega)]; simpa using hbad
  have hX0 := x1.toNat_lt
  have hq : ((N - 2 : Nat) : Int) = (N : Int) - 2 := by omega
  have htk : (List.take (N - 2) (List.drop 2 (x0 :: x1 :: r))) = r := List.take_of_length_le (by simp [hrl])
  clear hb hl
  obtain ⟨V, hV, hX0, hVs, q0, q1, q2, q3, q4⟩ := start5 w (.cells #[.int .i64 2, .int .i64 addr, .int .i64 count, .slice A1 n1 c1, .slice A2 n2 c2, .slice A3 n3 c3] 37) (.cells #[.slice A N c] 41) (.cells #[.int .i64 0, .slice none 0 0, .slice none 0 0, .slice none 0 0] 40) (.cells #[.int .i64 1] 3) (.cells #[.int .i64 0, .slice none 0 0, .slice none 0 0, .slice none 0 0] 40)
  have X0 := Lib.hid hX0
  obtain ⟨p0, p1, p2, p3⟩ := cells4 q2
  obtain ⟨g0, g1, g2, g3⟩ := cells4 q4
  obtain ⟨d0, -, d2, -⟩ := cells6 q0
  have d1 : V.cell? ⟨w.heap.size + 1, 0, none⟩ = some (.slice A N c) := cell_of_row _ _ _ _ _ _ q1
  have k0 := frozen_of_row _ _ 0 _ _ q2
  have m0 := frozen_of_row _ _ 0 _ _ q4
  have k1 := frozen_of_row _ _ 1 _ _ q2
  have m1 := frozen_of_row _ _ 1 _ _ q4
  have k2 := frozen_of_row _ _ 2 _ _ q2
  have m2 := frozen_of_row _ _ 2 _ _ q4
  have k3 := frozen_of_row _ _ 3 _ _ q2
  have m3 := frozen_of_row _ _ 3 _ _ q4
  have HT1 := Lib.hid (show Calls Tryz.prog 117 #[.int .i64 1, .pointer (some ⟨w.heap.size + 1 + 1 + 1, 0, none⟩), .pointer (some ⟨w.heap.size + 1, 0, none⟩)] V.drew fun e w' => ∃ A', e = .returned (.slice A' 1 (c - 1)) ∧ Rd w A' 1 [.int .u8 (x1.toNat : Int)] ∧ w' = V.drew.setCell ⟨w.heap.size + 1 + 1 + 1, 0, none⟩ (.int .i64 2) from HT.out V.drew (Ext.drew' X0.out) 1 1 (by omega) q3 q1)
  have hA2 : (V.setCell ⟨w.heap.size + 1 + 1 + 1, 0, none⟩ (.int .i64 2)).drew.heap[w.heap.size + 1 + 1 + 1]? = some (.cells #[.int .i64 2] 3 (0, 0)) := heap_setCell_same _ _ _ _ _ _ q3
  have hB2 := set_other (b := w.heap.size + 1 + 1 + 1) q1 (by omega) (.int .i64 2)
  have hX2 : Ext w (V.setCell ⟨w.heap.size + 1 + 1 + 1, 0, none⟩ (.int .i64 2)).drew.drew := Ext.drew' (Ext.drew' (Ext.set' X0.out (by simp; omega) _))
  have HT2 := Lib.hid (show Calls Tryz.prog 117 #[.int .i64 ((N : Int) - 2), .pointer (some ⟨w.heap.size + 1 + 1 + 1, 0, none⟩), .pointer (some ⟨w.heap.size + 1, 0, none⟩)] (V.setCell ⟨w.heap.size + 1 + 1 + 1, 0, none⟩ (.int .i64 2)).drew.drew fun e w' => ∃ A', e = .returned (.slice A' (N - 2) (c - 2)) ∧ Rd w A' (N - 2) (r.map cB) ∧ w' = ((V.setCell ⟨w.heap.size + 1 + 1 + 1, 0, none⟩ (.int .i64 2)).drew.drew.setCell ⟨w.heap.size + 1 + 1 + 1, 0, none⟩ (.int .i64 (N : Int))) from by have h := HT.out _ hX2 (N - 2) 2 (by omega) hA2 hB2; rw [htk, hq, show 2 + (N - 2) = N by omega] at h; exact h)
  have Q2 := Lib.hid (show ((V.setCell ⟨w.heap.size + 1 + 1 + 1, 0, none⟩ (.int .i64 2)).drew.drew.setCell ⟨w.heap.size + 1 + 1 + 1, 0, none⟩ (.int .i64 (N : Int))).heap[w.heap.size + 1 + 1]? = _ from set_other (set_other q2 (by omega) _) (by omega) _)
  have Q4 := Lib.hid (show ((V.setCell ⟨w.heap.size + 1 + 1 + 1, 0, none⟩ (.int .i64 2)).drew.drew.setCell ⟨w.heap.size + 1 + 1 + 1, 0, none⟩ (.int .i64 (N : Int))).heap[w.heap.size + 1 + 1 + 1 + 1]? = _ from set_other (set_other q4 (by omega) _) (by omega) _)
  have X3 := Lib.hid (show Ext w ((V.setCell ⟨w.heap.size + 1 + 1 + 1, 0, none⟩ (.int .i64 2)).drew.drew.setCell ⟨w.heap.size + 1 + 1 + 1, 0, none⟩ (.int .i64 (N : Int))) from Ext.set' hX2 (by simp; omega) _)
  have HS0 : (V.setCell ⟨w.heap.size + 1 + 1 + 1, 0, none⟩ (.int .i64 2)).drew.drew.cell? ⟨w.heap.size + 1, 0, none⟩ = some (.slice A N c) ∧ (V.setCell ⟨w.heap.size + 1 + 1 + 1, 0, none⟩ (.int .i64 2)).drew.drew.cell? ⟨w.heap.size, 2, none⟩ = some (.int .i64 count) := ⟨cell_of_row _ _ _ _ _ _ (set_other (V := V) q1 (by omega) _), (cells6 (set_other (V := V) q0 (by omega) _)).2.2.1⟩
  have HSS := Lib.hid (fun (W : World) (hX : Ext ((V.setCell ⟨w.heap.size + 1 + 1 + 1, 0, none⟩ (.int .i64 2)).drew.drew.setCell ⟨w.heap.size + 1 + 1 + 1, 0, none⟩ (.int .i64 (N : Int))) W) => (show W.cell? ⟨w.heap.size + 1, 0, none⟩ = some (.slice A N c) ∧ W.cell? ⟨w.heap.size, 2, none⟩ = some (.int .i64 count) from ⟨cell_of_row _ _ _ _ _ _ (Ext.block hX (set_other (set_other q1 (by omega) _) (by omega) _)), (cells6 (Ext.block hX (set_other (set_other q0 (by omega) _) (by omega) _))).2.2.1⟩))
  have HSZ := Lib.hid (show w.heap.size + 5 ≤ (((V.setCell ⟨w.heap.size + 1 + 1 + 1, 0, none⟩ (.int .i64 2)).drew.drew.setCell ⟨w.heap.size + 1 + 1 + 1, 0, none⟩ (.int .i64 (N : Int)))).heap.size by simp; omega)
  clear q0 q1 q2 q3 q4 hX0 hA2 hB2 hX2
  go_enter Tryz.func104, Tryz.ntmps104
  go_wp2_with fail
  clear hV
  go_region_with ((first
    | (go_at_call 117
       refine HT1.out.mono ?_
       rintro e w2 ⟨A5, rfl, hrd, rfl⟩
       obtain ⟨bk, off, rfl, hbk, hcl⟩ := hrd.2 (by omega)
       have c0 : V.cell? ⟨bk, off, none⟩ = some (.int .u8 (x1.toNat : Int)) := X0.out.cell hbk (hcl 0 _ rfl))
    | fail))
  all_goals
    go_wp2_with fail
    have hw : IntKind.i64.wrap ((N : Int) - 2) = (N : Int) - 2 := IntWalk.i64_in _ (by omega)
  all_goals
    go_region_held3 (fun W => W.cell? ⟨w.heap.size + 1, 0, none⟩ = some (.slice A N c) ∧ W.cell? ⟨w.heap.size, 2, none⟩ = some (.int .i64 count)) (first | with_reducible exact HSS.out _ (Ext.of hx7) | with_reducible exact HS0 | with_reducible exact HSS.out _ (Ext.refl _) | exact ⟨(World.cell?_setCell_far _ _ _ _ (by simp <;> omega)).trans s1, (World.cell?_setCell_far _ _ _ _ (by simp <;> omega)).trans s2⟩ | go_keep) ((first
      | (go_at_call 117
         refine HT2.out.mono ?_
         rintro e w2 ⟨A6, rfl, hrd, rfl⟩)
      | (go_at_call 110
         refine (HCALL.out _ A6 _ (hrd.ext X3.out)).mono ?_
         rintro e w3 ⟨A7, n7, c7, rfl, ho7, hx7⟩
         obtain ⟨p0, p1, p2, p3⟩ := cells4 (Ext.block hx7 Q2.out)
         obtain ⟨g0, g1, g2, g3⟩ := cells4 (Ext.block hx7 Q4.out)
         have k0 := frozen_of_row _ _ 0 _ _ (Ext.block hx7 Q2.out)
         have k1 := frozen_of_row _ _ 1 _ _ (Ext.block hx7 Q2.out)
         have k2 := frozen_of_row _ _ 2 _ _ (Ext.block hx7 Q2.out)
         have k3 := frozen_of_row _ _ 3 _ _ (Ext.block hx7 Q2.out)
         have m1 := frozen_of_row _ _ 1 _ _ (Ext.block hx7 Q4.out)
         have m2 := frozen_of_row _ _ 2 _ _ (Ext.block hx7 Q4.out)
         have m3 := frozen_of_row _ _ 3 _ _ (Ext.block hx7 Q4.out)
         have X7 := Lib.hid (X3.out.trans hx7)
         have hn7 : L.length = n7 := by have := ho7.len; simpa using this
         subst hn7
         have HO7 := Lib.hid (Own.mono (base' := w.heap.size + 5) ho7 HSZ.out)
         obtain ⟨s1, s2⟩ := HSS.out _ (Ext.of hx7)
         clear ho7)
      | fail))
  all_goals
    go_wp2_with fail
    refine bodyPost_ret (v := .tuple #[.agg #[.int .i64 0, .slice A7 L.length c7, .slice none 0 0, .slice none 0 0], .bool false]) (by simp [results, Tryz.results104, go_sem, repV, *]) rfl ⟨?_, 0, ⟨A7, L.length, c7, none, 0, 0, none, 0, 0⟩, rfl⟩
    repeat' (first | with_reducible exact X7.out | with_reducible refine Ext.drew' ?_ | with_reducible refine Ext.set' ?_ (by simp; omega) _)
theorem read_bits (a : AskD) (b : List UInt8) (s : AskS) (A : Option Addr) (N c : Nat) (w : World) (hb : Rd w A N (b.map cB)) (hcp : N ≤ c ∧ c ≤ 9223372036854775807) (hc : a.code = 1 ∨ a.code = 2) (hN : 3 ≤ N) (hN2 : N ≤ 253) (hct : a.count ≤ 2000) :
    Calls Tryz.prog 104 #[askV a s, .slice A N c] w (RetRR w (readR a b)) := by
  have hl := hb.length
  obtain ⟨x0, x1, r, rfl⟩ := len2 (b := b) (by omega)
  have HT := Lib.hid (fun V (hX : Ext w V) => take_at (x0 :: x1 :: r) A N c w.heap.size w V hb hX (Nat.le_refl _) hcp (by omega))
  have HR := Lib.hid hb
  have hrl : r.length = N - 2 := by simp at hl; omega
  have hbt : ((x0 :: x1 :: r).getD 1 0).toNat = x1.toNat := rfl
  obtain ⟨code, addr, count, on, set, parts⟩ := a
  obtain ⟨A1, n1, c1, A2, n2, c2, A3, n3, c3⟩ := s
  simp only at hc hct
  have hmf : ∀ (fn : Fn) (first cap : Array Value) (w : World), (Instr.makeFunc fn first cap).run Tryz.prog w = .ok (.func fn first cap) w := fun _ _ _ _ => rfl
  by_cases hbad : (x1.toNat : Int) = (N : Int) - 2
  · rw [readR1 (by simpa using hc) (by rw [hbt, hl]; exact hbad)]
    rw [show List.drop 2 (x0 :: x1 :: r) = r from rfl]
    simp only [askV]
    have HCALL := Lib.hid (fun W A' c' (hr : Rd W A' (N - 2) (r.map cB)) => unbits_any r A' (N - 2) c' count W hr (by omega) (by omega))
    generalize unbitsF r count = U at *
    obtain ⟨L, E⟩ := U
    simp only at HCALL ⊢
    by_cases hE : E = 0
    · subst hE
      rw [if_pos rfl]
      rcases hc with rfl | rfl
      · exact rbit_ok1 addr count A1 A2 A3 n1 c1 n2 c2 n3 c3 x0 x1 r A N c w hb hcp hN hN2 hct hbad L HCALL
      · exact rbit_ok2 addr count A1 A2 A3 n1 c1 n2 c2 n3 c3 x0 x1 r A N c w hb hcp hN hN2 hct hbad L HCALL
    · rw [if_neg hE]
      rcases hc with rfl | rfl
      · exact rbit_no1 addr count A1 A2 A3 n1 c1 n2 c2 n3 c3 x0 x1 r A N c w hb hcp hN hN2 hct hbad L E (by simpa using hE) HCALL
      · exact rbit_no2 addr count A1 A2 A3 n1 c1 n2 c2 n3 c3 x0 x1 r A N c w hb hcp hN hN2 hct hbad L E (by simpa using hE) HCALL
  · rw [readR_bad (by unfold plainC; simp only; omega) (by rw [hbt, hl]; exact hbad)]
    simp only [askV]
    have hne : (IntKind.i64.wrap (x1.toNat : Int) != IntKind.i64.wrap ((N : Int) - 2)) = true := by rw [IntWalk.i64_in _ (by have := x1.toNat_lt; omega), IntWalk.i64_in _ (by omega)]; simpa using hbad
    have hX0 := x1.toNat_lt
    clear hb hl hbt
    rcases hc with rfl | rfl
    · skip
      obtain ⟨V, hV, hX0, hVs, q0, q1, q2, q3, q4⟩ := start5 w (.cells #[.int .i64 1, .int .i64 addr, .int .i64 count, .slice A1 n1 c1, .slice A2 n2 c2, .slice A3 n3 c3] 37) (.cells #[.slice A N c] 41) (.cells #[.int .i64 0, .slice none 0 0, .slice none 0 0, .slice none 0 0] 40) (.cells #[.int .i64 1] 3) (.cells #[.int .i64 0, .slice none 0 0, .slice none 0 0, .slice none 0 0] 40)
      have X0 := Lib.hid hX0
      obtain ⟨p0, p1, p2, p3⟩ := cells4 q2
      obtain ⟨g0, g1, g2, g3⟩ := cells4 q4
      obtain ⟨d0, -, d2, -⟩ := cells6 q0
      have d1 : V.cell? ⟨w.heap.size + 1, 0, none⟩ = some (.slice A N c) := cell_of_row _ _ _ _ _ _ q1
      have k0 := frozen_of_row _ _ 0 _ _ q2
      have m0 := frozen_of_row _ _ 0 _ _ q4
      have k1 := frozen_of_row _ _ 1 _ _ q2
      have m1 := frozen_of_row _ _ 1 _ _ q4
      have k2 := frozen_of_row _ _ 2 _ _ q2
      have m2 := frozen_of_row _ _ 2 _ _ q4
      have k3 := frozen_of_row _ _ 3 _ _ q2
      have m3 := frozen_of_row _ _ 3 _ _ q4
      have HT1 := Lib.hid (show Calls Tryz.prog 117 #[.int .i64 1, .pointer (some ⟨w.heap.size + 1 + 1 + 1, 0, none⟩), .pointer (some ⟨w.heap.size + 1, 0, none⟩)] V.drew fun e w' => ∃ A', e = .returned (.slice A' 1 (c - 1)) ∧ Rd w A' 1 [.int .u8 (x1.toNat : Int)] ∧ w' = V.drew.setCell ⟨w.heap.size + 1 + 1 + 1, 0, none⟩ (.int .i64 2) from HT.out V.drew (Ext.drew' X0.out) 1 1 (by omega) q3 q1)
      clear q0 q1 q2 q3 q4 hX0
      go_enter Tryz.func104, Tryz.ntmps104
      go_wp2_with fail
      clear hV
      go_region_with ((first
        | (go_at_call 117
           refine HT1.out.mono ?_
           rintro e w2 ⟨A5, rfl, hrd, rfl⟩
           obtain ⟨bk, off, rfl, hbk, hcl⟩ := hrd.2 (by omega)
           have c0 : V.cell? ⟨bk, off, none⟩ = some (.int .u8 (x1.toNat : Int)) := X0.out.cell hbk (hcl 0 _ rfl))
        | fail))
      all_goals
        go_wp2_with fail
        refine bodyPost_ret (v := .tuple #[.agg #[.int .i64 0, .slice none 0 0, .slice none 0 0, .slice none 0 0], .bool false]) (by simp [results, Tryz.results104, go_sem, repV, *]) rfl ⟨?_, 0, repS0, rfl⟩
        repeat' (first | with_reducible exact X0.out | with_reducible refine Ext.drew' ?_ | with_reducible refine Ext.set' ?_ (by simp; omega) _)
    · skip
      obtain ⟨V, hV, hX0, hVs, q0, q1, q2, q3, q4⟩ := start5 w (.cells #[.int .i64 2, .int .i64 addr, .int .i64 count, .slice A1 n1 c1, .slice A2 n2 c2, .slice A3 n3 c3] 37) (.cells #[.slice A N c] 41) (.cells #[.int .i64 0, .slice none 0 0, .slice none 0 0, .slice none 0 0] 40) (.cells #[.int .i64 1] 3) (.cells #[.int .i64 0, .slice none 0 0, .slice none 0 0, .slice none 0 0] 40)
      have X0 := Lib.hid hX0
      obtain ⟨p0, p1, p2, p3⟩ := cells4 q2
      obtain ⟨g0, g1, g2, g3⟩ := cells4 q4
      obtain ⟨d0, -, d2, -⟩ := cells6 q0
      have d1 : V.cell? ⟨w.heap.size + 1, 0, none⟩ = some (.slice A N c) := cell_of_row _ _ _ _ _ _ q1
      have k0 := frozen_of_row _ _ 0 _ _ q2
      have m0 := frozen_of_row _ _ 0 _ _ q4
      have k1 := frozen_of_row _ _ 1 _ _ q2
      have m1 := frozen_of_row _ _ 1 _ _ q4
      have k2 := frozen_of_row _ _ 2 _ _ q2
      have m2 := frozen_of_row _ _ 2 _ _ q4
      have k3 := frozen_of_row _ _ 3 _ _ q2
      have m3 := frozen_of_row _ _ 3 _ _ q4
      have HT1 := Lib.hid (show Calls Tryz.prog 117 #[.int .i64 1, .pointer (some ⟨w.heap.size + 1 + 1 + 1, 0, none⟩), .pointer (some ⟨w.heap.size + 1, 0, none⟩)] V.drew fun e w' => ∃ A', e = .returned (.slice A' 1 (c - 1)) ∧ Rd w A' 1 [.int .u8 (x1.toNat : Int)] ∧ w' = V.drew.setCell ⟨w.heap.size + 1 + 1 + 1, 0, none⟩ (.int .i64 2) from HT.out V.drew (Ext.drew' X0.out) 1 1 (by omega) q3 q1)
      clear q0 q1 q2 q3 q4 hX0
      go_enter Tryz.func104, Tryz.ntmps104
      go_wp2_with fail
      clear hV
      go_region_with ((first
        | (go_at_call 117
           refine HT1.out.mono ?_
           rintro e w2 ⟨A5, rfl, hrd, rfl⟩
           obtain ⟨bk, off, rfl, hbk, hcl⟩ := hrd.2 (by omega)
           have c0 : V.cell? ⟨bk, off, none⟩ = some (.int .u8 (x1.toNat : Int)) := X0.out.cell hbk (hcl 0 _ rfl))
        | fail))
      all_goals
        go_wp2_with fail
        refine bodyPost_ret (v := .tuple #[.agg #[.int .i64 0, .slice none 0 0, .slice none 0 0, .slice none 0 0], .bool false]) (by simp [results, Tryz.results104, go_sem, repV, *]) rfl ⟨?_, 0, repS0, rfl⟩
        repeat' (first | with_reducible exact X0.out | with_reducible refine Ext.drew' ?_ | with_reducible refine Ext.set' ?_ (by simp; omega) _)
end Go.Proofs.YtomcipkmohhpjaaGreat

namespace Go.Out
open Go Go.RowKit
set_option linter.unusedVariables false
theorem sumP_split : ∀ (l : List PartD) (k : Nat), sumP l = sumP (l.take k) + sumP (l.drop k)
  | [], k => by simp [sumP]
  | p :: l, 0 => by simp [sumP]
  | p :: l, k + 1 => by
    simp only [List.take_succ_cons, List.drop_succ_cons, sumP]
    rw [sumP_split l k]
    omega
theorem any_drop {l : List PartD} {k : Nat} (h : l.any (fun p => decide (badP p)) = false) : (l.drop k).any (fun p => decide (badP p)) = false := by
  rw [List.any_eq_false] at h ⊢
  exact fun x hx => h x (List.mem_of_mem_drop hx)
theorem sumP_nn {l : List PartD} {k : Nat} (h : l.any (fun p => decide (badP p)) = false) : 0 ≤ sumP (l.drop k) := by
  have := sumP_nonneg (any_drop (k := k) h); omega
theorem sumP_tn {l : List PartD} {k : Nat} (h : l.any (fun p => decide (badP p)) = false) : 0 ≤ sumP (l.take k) := by
  have h2 : (l.take k).any (fun p => decide (badP p)) = false := by
    rw [List.any_eq_false] at h ⊢
    exact fun x hx => h x (List.mem_of_mem_take hx)
  have := sumP_nonneg h2; omega
theorem filesOf_step {p : PartD} {ps : List PartD} {x y : UInt8} {r : List UInt8} {L : Nat} (hL : p.len = (L : Int)) :
    filesOf (p :: ps) (x :: y :: r) = if (x.toNat : Int) = 1 + 2 * (L : Int) ∧ y.toNat = 6 then (filesOf ps (r.drop (2 * L))).map (bw (r.take (2 * L)) :: ·) else none := by
  have e : p.len.toNat = L := by omega
  have hyb : y = 6 ↔ y.toNat = 6 := ⟨fun h => by rw [h]; rfl, fun h => UInt8.toNat.inj (by rw [h]; rfl)⟩
  conv => lhs; unfold filesOf
  rw [e, hL]
  by_cases h : (x.toNat : Int) = 1 + 2 * (L : Int) ∧ y = 6
  · rw [if_pos h, if_pos ⟨h.1, hyb.1 h.2⟩]
  · rw [if_neg h, if_neg (fun q => h ⟨q.1, hyb.2 q.2⟩)]
theorem map_app {o : Option (List (List UInt16))} {d : List (List UInt16)} {f : List UInt16} : (o.map (f :: ·)).map (d ++ ·) = o.map ((d ++ [f]) ++ ·) := by
  cases o <;> simp
end Go.Out
namespace Go.Proofs.YtomcipkmohhpjaaGreat
set_option linter.unusedVariables false
set_option linter.unusedSimpArgs false
set_option maxRecDepth 100000
set_option maxHeartbeats 2000000
open Go Go.RowKit Go.Out

/-- The closure that takes bytes: what is known behind it. -/
theorem take_ab (b : List UInt8) (A : Option Addr) (N c q : Nat) (w V : World) (hr : Rd w A N (b.map cB)) (hX : Ext w V) (hq : w.heap.size ≤ q) (hc : N ≤ c ∧ c ≤ 9223372036854775807) (hN : N ≤ 1000000) (n at_ : Nat) (m : Int) (hm : m = (n : Int)) (hn : at_ + n ≤ N)
    (hA : V.heap[q + 1 + 1 + 1]? = some (.cells #[.int .i64 (at_ : Int)] 3 (0, 0))) (hB : V.heap[q + 1]? = some (.cells #[.slice A N c] 41 (0, 0))) :
    Calls Tryz.prog 117 #[.int .i64 m, .pointer (some ⟨q + 1 + 1 + 1, 0, none⟩), .pointer (some ⟨q + 1, 0, none⟩)] V fun e w' => ∃ A', e = .returned (.slice A' n (c - at_)) ∧ Rd w A' n (((b.drop at_).take n).map cB) ∧ Ext w w' ∧ V.heap.size = w'.heap.size ∧
      w'.heap[q + 1 + 1 + 1]? = some (.cells #[.int .i64 ((at_ + n : Nat) : Int)] 3 (0, 0)) ∧ ∀ g, g ≠ q + 1 + 1 + 1 → w'.heap[g]? = V.heap[g]? := by
  subst hm
  refine (take_at b A N c q w V hr hX hq hc hN n at_ hn hA hB).mono ?_
  rintro e w' ⟨A', rfl, h, rfl⟩
  exact ⟨A', rfl, h, hX.set' (by simp; omega) _, by simp, heap_setCell_same _ _ _ _ _ _ hA, fun g hg => Below.heap_setCell V ⟨q + 1 + 1 + 1, 0, none⟩ _ g hg⟩

theorem owl_keep {w w' : World} {base : Nat} {e : TypeId} {v : Value} {l : List (List UInt16)} (h : OwL (fileO base) w base e v l) (hk : ∀ g, base ≤ g → g < w.heap.size → w'.heap[g]? = w.heap[g]?) : OwL (fileO base) w' base e v l := by
  obtain ⟨xs, h1, h2⟩ := h
  refine ⟨xs, ?_, h2.mono fun cs x ⟨A, n, c, e1, e2, e3⟩ => ⟨A, n, c, e1, e2.kept fun g hg => hk g (e2.lt g hg).1 (e2.lt g hg).2, e3⟩⟩
  obtain ⟨h3, h4⟩ := h1
  refine ⟨h3, ?_⟩
  rcases h4 with h4 | ⟨g, cap, cur, hv, hb, hg, r⟩
  · exact .inl h4
  · exact .inr ⟨g, cap, cur, hv, hb, (hk g hb (lt_of_heap hg)).trans hg, r⟩

/-- What reply.parts hands back; of the blocks that were there, one alone has turned. -/
def RetPt (w V : World) (gA : Nat) (o : Option (List (List UInt16))) (e : Ending) (w' : World) : Prop :=
  Ext w w' ∧ V.heap.size ≤ w'.heap.size ∧ (∀ g, g < V.heap.size → g ≠ gA → w'.heap[g]? = V.heap[g]?) ∧ match o with
    | none => e = .returned (.tuple #[.slice none 0 0, .bool false])
    | some l => ∃ v, e = .returned (.tuple #[v, .bool true]) ∧ OwL (fileO V.heap.size) w' V.heap.size 34 v l

theorem parts_any (l : List PartD) (code addr count : Int) (A1 A2 A3 : Option Addr) (n1 c1 n2 c2 n3 c3 : Nat) (b : List UInt8) (A : Option Addr) (N c q : Nat) (w V : World)
    (hp : RdL partK w A3 n3 l) (hn3 : n3 ≤ 35) (hr : Rd w A N (b.map cB)) (hX : Ext w V) (hq : w.heap.size ≤ q) (hqV : q + 3 < V.heap.size) (hc : N ≤ c ∧ c ≤ 9223372036854775807) (hN : N ≤ 253)
    (hA : V.heap[q + 1 + 1 + 1]? = some (.cells #[.int .i64 2] 3 (0, 0))) (hB : V.heap[q + 1]? = some (.cells #[.slice A N c] 41 (0, 0)))
    (hg : l.any (fun p => decide (badP p)) = false) (hs : 2 + sumP l = (N : Int)) :
    Calls Tryz.prog 119 #[.agg #[.int .i64 code, .int .i64 addr, .int .i64 count, .slice A1 n1 c1, .slice A2 n2 c2, .slice A3 n3 c3], .func (.func 117) #[] #[.pointer (some ⟨q + 1 + 1 + 1, 0, none⟩), .pointer (some ⟨q + 1, 0, none⟩)]] V (RetPt w V (q + 1 + 1 + 1) (filesOf l (b.drop 2))) := by
  have hl3 : l.length = n3 := hp.length
  have hbl : b.length = N := hr.length
  have HT := Lib.hid (fun W hX => take_ab b A N c q w W hr hX hq hc (by omega))
  have HP := Lib.hid hp; have HG := Lib.hid hg; have HS := Lib.hid hs; have HL3 := Lib.hid hl3; have HBL := Lib.hid hbl
  have HA := Lib.hid hA; have HB := Lib.hid hB; have XV := Lib.hid hX
  obtain ⟨R, hR⟩ : ∃ R, filesOf l (b.drop 2) = R := ⟨_, rfl⟩
  rw [hR]
  have HR0 := Lib.hid hR
  clear hp hr hX hA hB hg hs hl3 hbl hR hc
  go_enter Tryz.func119, Tryz.ntmps119
  go_wp2_with fail
  go_loopw [6, 8, 9, 10, 11, 15] (fun f _ _ _ _ i wr => ∃ (k at_ : Nat) (done : List (List UInt16)), k ≤ n3 ∧ i = .int .i64 (k : Int) ∧ Hid ((at_ : Int) = 2 + sumP (l.take k)) ∧ Hid (OwL (fileO V.heap.size) wr V.heap.size 34 f done) ∧ Hid (done.length = k) ∧ Hid (R = (filesOf (l.drop k) (b.drop at_)).map (done ++ ·)) ∧
    Hid (wr.heap[q + 1 + 1 + 1]? = some (.cells #[.int .i64 (at_ : Int)] 3 (0, 0))) ∧ Hid (∀ g, g < V.heap.size → g ≠ q + 1 + 1 + 1 → wr.heap[g]? = V.heap[g]?) ∧ Hid (Ext w wr) ∧ Hid (V.heap.size ≤ wr.heap.size)) (fun _ _ _ _ _ i _ => n3 - (intOf i).toNat)
  case atStart =>
    refine ⟨0, 2, [], Nat.zero_le _, rfl, Lib.hid (by simp [sumP]), Lib.hid (OwL.nil_ _ _ _ _), Lib.hid rfl, Lib.hid ?_, Lib.hid ((Ext.alloc _ _).block HA.out), Lib.hid fun g hg _ => (Ext.alloc V _).below.block g hg, Lib.hid (XV.out.trans (Ext.alloc _ _)), Lib.hid (Ext.alloc _ _).size⟩
    rw [List.drop_zero, HR0.out]
    cases R <;> rfl
  case round =>
    obtain ⟨k, at_, done, hk, rfl, Hat, HOL, Hdl, Hfo, HA1, HK1, HX1, HZ1⟩ := hrel
    rcases Nat.lt_or_ge k n3 with hlt | hge
    · obtain ⟨b1, o1, p, hpk, rfl, hb1, e0, e1, e2, -⟩ := part_cells (HP.out.ext HX1.out) hlt
      obtain ⟨hkl, hpe⟩ := List.getElem?_eq_some_iff.1 hpk
      have hdk : l.drop k = p :: l.drop (k + 1) := by rw [List.drop_eq_getElem_cons hkl, hpe]
      have hbad : ¬ badP p := by
        have h1 := (List.any_eq_false.1 HG.out) p (hpe ▸ List.getElem_mem hkl)
        simpa using h1
      unfold badP at hbad
      obtain ⟨L, hL⟩ : ∃ L : Nat, p.len = (L : Int) := ⟨p.len.toNat, by omega⟩
      have hs2 := sumP_split l k
      have hs3 := sumP_nn (k := k + 1) HG.out
      have hs4 := sumP_tn (k := k) HG.out
      rw [hdk] at hs2
      simp only [sumP] at hs2
      have hat := Hat.out
      have hN2 := HS.out
      have hbound : at_ + 2 + 2 * L ≤ N := by omega
      have hnext : ((at_ + 2 + 2 * L : Nat) : Int) = 2 + sumP (l.take (k + 1)) := by
        have h5 := sumP_split l (k + 1)
        omega
      obtain ⟨x, y, rest, hbd⟩ := len2 (b := b.drop at_) (by rw [List.length_drop]; have := HBL.out; omega)
      have hd2 : b.drop (at_ + 2) = rest := by rw [← List.drop_drop, hbd]; rfl
      have hd3 : b.drop (at_ + 2 + 2 * L) = rest.drop (2 * L) := by rw [← List.drop_drop, hd2]
      have hrl : 2 * L ≤ rest.length := by rw [← hd2, List.length_drop]; have := HBL.out; omega
      have hfo := Hfo.out
      rw [hdk, hbd, filesOf_step hL] at hfo
      have hT1 : ((b.drop at_).take 2).map cB = [.int .u8 (x.toNat : Int), .int .u8 (y.toNat : Int)] := by rw [hbd]; rfl
      have hT2 : (b.drop (at_ + 2)).take (2 * L) = rest.take (2 * L) := by rw [hd2]
      have hwf : wordsF (rest.take (2 * L)) = (bw (rest.take (2 * L)), 0) := by unfold wordsF; rw [if_neg (by rw [List.length_take]; omega)]
      have hbwl : (bw (rest.take (2 * L))).length = L := by rw [bw_length, List.length_take]; omega
      rw [hL] at e2
      have Hfo2 := Lib.hid hfo; have HT1 := Lib.hid hT1; have HT2 := Lib.hid hT2; have Hnx := Lib.hid hnext; have Hd3 := Lib.hid hd3
      have HCALL := Lib.hid (fun W A' c' (hr : Rd W A' (2 * L) ((rest.take (2 * L)).map cB)) => words_any (rest.take (2 * L)) A' (2 * L) c' W hr (by omega))
      rw [hwf] at HCALL
      simp only at HCALL
      have HBW := Lib.hid hbwl
      generalize bw (rest.take (2 * L)) = F at *
      have hX0 := x.toNat_lt; have hY0 := y.toNat_lt
      generalize x.toNat = X at *
      generalize y.toNat = Y at *
      generalize p.file = PF at *
      generalize p.record = PR at *
      have hLs : L ≤ 125 := by omega
      have hats : at_ ≤ 253 := by omega
      have HBND := Lib.hid hbound
      clear hpk hkl hpe hdk hbad hL hs2 hs3 hs4 hat hN2 hbound hnext hbd hd2 hd3 hrl hfo hT1 hT2 hwf hbwl
      have hne := (show q + 1 + 1 + 1 < wr.heap.size from by have := HZ1.out; omega)
      have HAL := Lib.hid (show (wr.alloc (.cells #[.int .i64 PF, .int .i64 PR, .int .i64 (L : Int)] 107)).heap[wr.heap.size]? = _ from heap_alloc_new wr _)
      have HAA := Lib.hid ((Ext.alloc wr (.cells #[.int .i64 PF, .int .i64 PR, .int .i64 (L : Int)] 107)).block HA1.out)
      have HAB := Lib.hid ((Ext.alloc wr (.cells #[.int .i64 PF, .int .i64 PR, .int .i64 (L : Int)] 107)).block ((HK1.out (q + 1) (by omega) (by omega)).trans HB.out))
      go_wp2_with fail
      refine (HT.out _ (HX1.out.trans (Ext.alloc _ _)) 2 at_ 2 rfl (by have := HBND.out; omega) HAA.out HAB.out).mono ?_
      rintro e w2 ⟨A5, rfl, hrd5, hx2, hz2, hA2, hk2⟩
      rw [HT1.out] at hrd5
      obtain ⟨b5, o5, rfl, hb5, hc5⟩ := hrd5.2 (by omega)
      have g0 := hc5 0 _ rfl
      have g1 := hc5 1 _ rfl
      have hP2 : w2.heap[wr.heap.size]? = some (.cells #[.int .i64 PF, .int .i64 PR, .int .i64 (L : Int)] 107 (0, 0)) := (hk2 _ (by omega)).trans HAL.out
      have f2 : w2.cell? ⟨wr.heap.size, 2, none⟩ = some (.int .i64 (L : Int)) := cell_of_row _ _ _ _ _ _ hP2
      have G0 := Lib.hid g0; have G1 := Lib.hid g1; have HP2 := Lib.hid hP2; have HX2 := Lib.hid hx2; have HA2 := Lib.hid hA2
      have HK2 := Lib.hid (fun g (h1 : g < wr.heap.size) (h2 : g ≠ q + 1 + 1 + 1) => (hk2 g h2).trans ((Ext.alloc wr _).below.block g h1))
      have HB2 := Lib.hid ((hk2 (q + 1) (by omega)).trans HAB.out)
      have HZ2 := Lib.hid (show wr.heap.size + 1 = w2.heap.size from by simpa using hz2)
      clear g0 g1 hP2 hx2 hA2 hk2 hrd5 hc5 hz2 e0 e1 e2
      go_wp2_with fail
      refine (HT.out w2 HX2.out (2 * L) (at_ + 2) (2 * (L : Int)) (by omega) (by have := HBND.out; omega) HA2.out HB2.out).mono ?_
      rintro e w3 ⟨A6, rfl, hrd6, hx3, hz3, hA3, hk3⟩
      rw [HT2.out] at hrd6
      have HRD6 := Lib.hid hrd6; have HX3 := Lib.hid hx3; have HA3 := Lib.hid hA3
      have HP3 := Lib.hid ((hk3 wr.heap.size (by omega)).trans HP2.out)
      have HK3 := Lib.hid (fun g (h1 : g < wr.heap.size) (h2 : g ≠ q + 1 + 1 + 1) => (hk3 g h2).trans (HK2.out g h1 h2))
      have HZ3 := Lib.hid (show wr.heap.size + 1 = w3.heap.size from HZ2.out.trans hz3)
      clear hrd6 hx3 hA3 hk3 hz3 f2
      go_wp2_with fail
      refine (HCALL.out w3 A6 _ (HRD6.out.ext HX3.out)).mono ?_
      rintro e w4 ⟨A7, n7, c7, rfl, ho7, hb7⟩
      have hX4 : Ext w3 w4 := Ext.of hb7
      have hn7 : L = n7 := by have h1 := ho7.len; have h2 := HBW.out; simp at h1; omega
      subst hn7
      have c0 : w4.cell? ⟨b5, o5, none⟩ = some (.int .u8 (X : Int)) := (HX3.out.trans hX4).cell hb5 G0.out
      have c1 : w4.cell? ⟨b5, o5 + 1, none⟩ = some (.int .u8 (Y : Int)) := (HX3.out.trans hX4).cell hb5 G1.out
      have f2 : w4.cell? ⟨wr.heap.size, 2, none⟩ = some (.int .i64 (L : Int)) := cell_of_row _ _ _ _ _ _ (hX4.block HP3.out)
      have HX4 := Lib.hid (HX3.out.trans hX4)
      have HA4 := Lib.hid (show w4.heap[q + 1 + 1 + 1]? = some (.cells #[.int .i64 ((at_ + 2 + 2 * L : Nat) : Int)] 3 (0, 0)) from hX4.block HA3.out)
      have HK4 := Lib.hid (fun g (h1 : g < wr.heap.size) (h2 : g ≠ q + 1 + 1 + 1) => (hX4.below.block g (by have := HZ3.out; omega)).trans (HK3.out g h1 h2))
      have HKV := Lib.hid (fun g (h1 : g < V.heap.size) (h2 : g ≠ q + 1 + 1 + 1) => (HK4.out g (Nat.lt_of_lt_of_le h1 HZ1.out) h2).trans (HK1.out g h1 h2))
      have HZ4 := Lib.hid (show wr.heap.size + 1 ≤ w4.heap.size from by have := HZ3.out; have := hX4.size; omega)
      have HO7 := Lib.hid (show Own w4 V.heap.size 48 IsU16 A7 L c7 (F.map cW) from ho7.mono (by have := HZ3.out; have := HZ1.out; omega))
      have HOL4 := Lib.hid (owl_keep (w' := w4) HOL.out fun g h1 h2 => HK4.out g h2 (by omega))
      have v1 : IntKind.i64.wrap (2 * (L : Int)) = 2 * (L : Int) := IntWalk.i64_in _ (by omega)
      have v2 : IntKind.i64.wrap (1 + 2 * (L : Int)) = 1 + 2 * (L : Int) := IntWalk.i64_in _ (by omega)
      have v3 : IntKind.i64.wrap (X : Int) = (X : Int) := IntWalk.i64_in _ (by omega)
      clear hX4 ho7 hb7 HA3 HK3 HP3 HP2 HK2 HA2 HB2
      by_cases h1 : (X : Int) = 1 + 2 * (L : Int)
      · by_cases h2 : Y = 6
        · have hfo := Hfo2.out
          rw [if_pos ⟨h1, h2⟩, map_app] at hfo
          have Hfo3 := Lib.hid hfo
          clear hfo
          have t1 : ((X : Int) != 1 + 2 * (L : Int)) = false := by simpa using h1
          have t2 : ((Y : Int) != 6) = false := by simp; omega
          go_wp2_with fail
          go_quiet (fail)
          go_wp2_with (at_builtin; go_loud (refine app_file _ rfl (.tmp 45) (.tmp 47) rfl rfl (HOL4.out.ext ((Ext.draws _ _).trans (Ext.alloc _ _))) rfl (heap_alloc_new _ _) (HO7.out.ext ((Ext.draws _ _).trans (Ext.alloc _ _))) (by omega) (by have := Hdl.out; omega) (by simp; have := HZ4.out; have := HZ1.out; omega) ?_); intro v5 w5 hol hg hlo)
          have HX5 := Lib.hid ((HX4.out.trans ((Ext.draws _ _).trans (Ext.alloc _ _))).grown' hg (fun g e => by have := hlo g e; have := XV.out.size; omega))
          have HK5 := Lib.hid (fun g (h1 : g < V.heap.size) (h2 : g ≠ q + 1 + 1 + 1) => (hg.block g (by simp; have := HZ4.out; have := HZ1.out; omega) (fun e => by have := hlo g e.symm; omega)).trans (((Ext.draws _ _).trans (Ext.alloc _ _)).below.block g (by have := HZ4.out; have := HZ1.out; omega) |>.trans (HKV.out g h1 h2)))
          have HA5 := Lib.hid ((hg.block (q + 1 + 1 + 1) (by simp; have := HZ4.out; have := HZ1.out; omega) (fun e => by have := hlo _ e.symm; omega)).trans (((Ext.draws _ _).trans (Ext.alloc _ _)).block HA4.out))
          have HZ5 := Lib.hid (Nat.le_trans (Nat.le_trans HZ1.out (show wr.heap.size ≤ w4.heap.size from by have := HZ4.out; omega)) (Nat.le_trans ((Ext.draws _ _).trans (Ext.alloc _ _)).size hg.size))
          have HOL5 := Lib.hid hol
          clear hol hg hlo
          go_roundw
          case rel => exact ⟨k + 1, at_ + 2 + 2 * L, done ++ [F], by omega, by go_num, Hnx, HOL5, Lib.hid (by have := Hdl.out; simp; omega), Lib.hid (by rw [Hd3.out]; exact Hfo3.out), HA5, HK5, HX5, HZ5⟩
          case measure => simp [intOf]; omega
        · have hfo := Hfo2.out
          rw [if_neg (fun h => h2 h.2)] at hfo
          have Hfo3 := Lib.hid hfo
          clear hfo
          have t1 : ((X : Int) != 1 + 2 * (L : Int)) = false := by simpa using h1
          have t2 : ((Y : Int) != 6) = true := by simp; omega
          go_wp2_with fail
          go_quiet (fail)
          go_wp2_with fail
          go_ret2
          rw [Hfo3.out]
          exact ⟨HX4.out.trans (Ext.draws _ _), Nat.le_trans (Nat.le_trans HZ1.out (by have := HZ4.out; omega)) (Ext.draws _ _).size, HKV.out, rfl⟩
      · have hfo := Hfo2.out
        rw [if_neg (fun h => h1 h.1)] at hfo
        have Hfo3 := Lib.hid hfo
        clear hfo
        have t1 : ((X : Int) != 1 + 2 * (L : Int)) = true := by simpa using h1
        go_wp2_with fail
        go_quiet (fail)
        go_wp2_with fail
        go_ret2
        rw [Hfo3.out]
        exact ⟨HX4.out.trans (Ext.draws _ _), Nat.le_trans (Nat.le_trans HZ1.out (by have := HZ4.out; omega)) (Ext.draws _ _).size, HKV.out, rfl⟩
    · obtain rfl : k = n3 := by omega
      have hfo := Hfo.out
      have hat := Hat.out
      have hN2 := HS.out
      have hl3 := HL3.out
      rw [List.take_of_length_le (by omega)] at hat
      rw [List.drop_of_length_le (by omega), List.drop_of_length_le (by have := HBL.out; omega)] at hfo
      have hfo2 : R = some (done ++ []) := hfo
      rw [List.append_nil] at hfo2
      subst hfo2
      clear hfo hat hN2 hl3
      go_wp2_with fail
      go_ret2
      exact ⟨HX1.out, HZ1.out, HK1.out, _, rfl, HOL.out⟩
end Go.Proofs.YtomcipkmohhpjaaGreat

namespace Go.Proofs.YtomcipkmohhpjaaGreat
set_option linter.unusedVariables false
set_option linter.unusedSimpArgs false
set_option maxRecDepth 100000
set_option maxHeartbeats 2000000
open Go Go.RowKit Go.Out


theorem rfil_ok (addr count : Int) (A1 A2 A3 : Option Addr) (n1 c1 n2 c2 n3 c3 : Nat) (parts : List PartD) (x0 x1 : UInt8) (r : List UInt8) (A : Option Addr) (N c : Nat) (w : World) (hpr : RdL partK w A3 n3 parts) (hn3 : n3 ≤ 35) (hb : Rd w A N ((x0 :: x1 :: r).map cB)) (hcp : N ≤ c ∧ c ≤ 9223372036854775807) (hN : 3 ≤ N) (hN2 : N ≤ 253)
    (hgood : parts.any (fun p => decide (badP p)) = false) (hsum : 2 + sumP parts = (N : Int)) (hbad : (x1.toNat : Int) = (N : Int) - 2) (l : List (List UInt16)) (ho : filesOf parts ((x0 :: x1 :: r).drop 2) = some l) :
    Calls Tryz.prog 104 #[.agg #[.int .i64 20, .int .i64 addr, .int .i64 count, .slice A1 n1 c1, .slice A2 n2 c2, .slice A3 n3 c3], .slice A N c] w (RetRR w (some ⟨0, [], [], l⟩)) := by
  have hl := hb.length
  have HT := Lib.hid (fun V (hX : Ext w V) => take_at (x0 :: x1 :: r) A N c w.heap.size w V hb hX (Nat.le_refl _) hcp (by omega))
  have hmf : ∀ (fn : Fn) (first cap : Array Value) (w : World), (Instr.makeFunc fn first cap).run Tryz.prog w = .ok (.func fn first cap) w := fun _ _ _ _ => rfl
  have hne : (IntKind.i64.wrap (x1.toNat : Int) != IntKind.i64.wrap ((N : Int) - 2)) = false := by rw [IntWalk.i64_in _ (by have := x1.toNat_lt; omega), IntWalk.i64_in _ (by omega)]; simpa using hbad
  have hX0 := x1.toNat_lt
  clear hl
  obtain ⟨V, hV, hX0, hVs, q0, q1, q2, q3, q4⟩ := start5 w (.cells #[.int .i64 20, .int .i64 addr, .int .i64 count, .slice A1 n1 c1, .slice A2 n2 c2, .slice A3 n3 c3] 37) (.cells #[.slice A N c] 41) (.cells #[.int .i64 0, .slice none 0 0, .slice none 0 0, .slice none 0 0] 40) (.cells #[.int .i64 1] 3) (.cells #[.int .i64 0, .slice none 0 0, .slice none 0 0, .slice none 0 0] 40)
  have X0 := Lib.hid hX0
  obtain ⟨p0, p1, p2, p3⟩ := cells4 q2
  obtain ⟨g0, g1, g2, g3⟩ := cells4 q4
  obtain ⟨d0, -, d2, -⟩ := cells6 q0
  have d1 : V.cell? ⟨w.heap.size + 1, 0, none⟩ = some (.slice A N c) := cell_of_row _ _ _ _ _ _ q1
  have k0 := frozen_of_row _ _ 0 _ _ q2
  have m0 := frozen_of_row _ _ 0 _ _ q4
  have k1 := frozen_of_row _ _ 1 _ _ q2
  have m1 := frozen_of_row _ _ 1 _ _ q4
  have k2 := frozen_of_row _ _ 2 _ _ q2
  have m2 := frozen_of_row _ _ 2 _ _ q4
  have k3 := frozen_of_row _ _ 3 _ _ q2
  have m3 := frozen_of_row _ _ 3 _ _ q4
  have HT1 := Lib.hid (show Calls Tryz.prog 117 #[.int .i64 1, .pointer (some ⟨w.heap.size + 1 + 1 + 1, 0, none⟩), .pointer (some ⟨w.heap.size + 1, 0, none⟩)] V.drew fun e w' => ∃ A', e = .returned (.slice A' 1 (c - 1)) ∧ Rd w A' 1 [.int .u8 (x1.toNat : Int)] ∧ w' = V.drew.setCell ⟨w.heap.size + 1 + 1 + 1, 0, none⟩ (.int .i64 2) from HT.out V.drew (Ext.drew' X0.out) 1 1 (by omega) q3 q1)
  have hA2 : (V.setCell ⟨w.heap.size + 1 + 1 + 1, 0, none⟩ (.int .i64 2)).drew.heap[w.heap.size + 1 + 1 + 1]? = some (.cells #[.int .i64 2] 3 (0, 0)) := heap_setCell_same _ _ _ _ _ _ q3
  have hB2 := set_other (b := w.heap.size + 1 + 1 + 1) q1 (by omega) (.int .i64 2)
  have hX2 : Ext w (V.setCell ⟨w.heap.size + 1 + 1 + 1, 0, none⟩ (.int .i64 2)).drew := Ext.drew' (Ext.set' X0.out (by simp; omega) _)
  have HPT := Lib.hid (parts_any parts 20 addr count A1 A2 A3 n1 c1 n2 c2 n3 c3 (x0 :: x1 :: r) A N c w.heap.size w (V.setCell ⟨w.heap.size + 1 + 1 + 1, 0, none⟩ (.int .i64 2)).drew hpr hn3 hb hX2 (Nat.le_refl _) (by simp; omega) hcp hN2 hA2 hB2 hgood hsum)
  rw [ho] at HPT
  have Q2 := Lib.hid (show (V.setCell ⟨w.heap.size + 1 + 1 + 1, 0, none⟩ (.int .i64 2)).drew.heap[w.heap.size + 1 + 1]? = _ from set_other q2 (by omega) _)
  have Q4 := Lib.hid (show (V.setCell ⟨w.heap.size + 1 + 1 + 1, 0, none⟩ (.int .i64 2)).drew.heap[w.heap.size + 1 + 1 + 1 + 1]? = _ from set_other q4 (by omega) _)
  have HSZ := Lib.hid (show w.heap.size + 5 ≤ (V.setCell ⟨w.heap.size + 1 + 1 + 1, 0, none⟩ (.int .i64 2)).drew.heap.size by simp; omega)
  obtain ⟨d0, d1', d2, d3, d4, d5⟩ := cells6 q0
  have D := fun k v (h : V.cell? ⟨w.heap.size, k, none⟩ = some v) => (show (V.setCell ⟨w.heap.size + 1 + 1 + 1, 0, none⟩ (.int .i64 2)).drew.cell? ⟨w.heap.size, k, none⟩ = some v from (World.cell?_setCell_far _ _ _ _ (by simp <;> omega)).trans h)
  have e0 := D _ _ d0; have e1 := D _ _ d1'; have e2 := D _ _ d2; have e3 := D _ _ d3; have e4 := D _ _ d4; have e5 := D _ _ d5
  clear hA2 hB2 hX2 hpr hgood hsum ho D hb
  clear q0 q1 q2 q3 q4 hX0
  go_enter Tryz.func104, Tryz.ntmps104
  go_wp2_with fail
  clear hV
  go_region_with ((first
    | (go_at_call 117
       refine HT1.out.mono ?_
       rintro e w2 ⟨A5, rfl, hrd, rfl⟩
       obtain ⟨bk, off, rfl, hbk, hcl⟩ := hrd.2 (by omega)
       have c0 : V.cell? ⟨bk, off, none⟩ = some (.int .u8 (x1.toNat : Int)) := X0.out.cell hbk (hcl 0 _ rfl))
    | fail))
  all_goals
    go_wp2_with fail
    refine HPT.out.mono ?_
    rintro e w3 ⟨hx3, hz3, hk3, hres⟩
    obtain ⟨v, rfl, hol⟩ := hres
    obtain ⟨A9, c9, rfl, h91, h92, -, -⟩ := hol.form
    have HOR := Lib.hid (show RepOw w3 (w.heap.size + 5) ⟨0, [], [], l⟩ ⟨none, 0, 0, none, 0, 0, A9, l.length, c9⟩ from ⟨Own.nil_ _ _ _ _, Own.nil_ _ _ _ _, OwL.monoO hol HSZ.out, rfl, ⟨h91, h92⟩, by unfold i64P; simp⟩)
    clear hol h91 h92
    have Q2' := (hk3 (w.heap.size + 1 + 1) (by have := HSZ.out; omega) (by omega)).trans Q2.out
    have Q4' := (hk3 (w.heap.size + 1 + 1 + 1 + 1) (by have := HSZ.out; omega) (by omega)).trans Q4.out
    obtain ⟨p0, p1, p2, p3⟩ := cells4 Q2'
    obtain ⟨g0, g1, g2, g3⟩ := cells4 Q4'
    have k0 := frozen_of_row _ _ 0 _ _ Q2'
    have m0 := frozen_of_row _ _ 0 _ _ Q4'
    have k1 := frozen_of_row _ _ 1 _ _ Q2'
    have m1 := frozen_of_row _ _ 1 _ _ Q4'
    have k2 := frozen_of_row _ _ 2 _ _ Q2'
    have m2 := frozen_of_row _ _ 2 _ _ Q4'
    have k3 := frozen_of_row _ _ 3 _ _ Q2'
    have m3 := frozen_of_row _ _ 3 _ _ Q4'
    have X7 := Lib.hid hx3
    clear Q2' Q4' hx3 hz3 hk3
    go_wp2_with fail
    refine bodyPost_ret (v := .tuple #[repV ⟨0, [], [], l⟩ ⟨none, 0, 0, none, 0, 0, A9, l.length, c9⟩, .bool true]) (by simp [results, Tryz.results104, go_sem, repV, *]) rfl ⟨?_, _, rfl, ?_⟩
    · repeat' (first | with_reducible exact X7.out | with_reducible refine Ext.drew' ?_ | with_reducible refine Ext.set' ?_ (by simp; omega) _)
    · refine RepOw.mono (base := w.heap.size + 5) ?_ (by omega)
      repeat' (first | with_reducible exact HOR.out | with_reducible refine RepOw.set_below ?_ (by simp) _)
theorem rfil_no (addr count : Int) (A1 A2 A3 : Option Addr) (n1 c1 n2 c2 n3 c3 : Nat) (parts : List PartD) (x0 x1 : UInt8) (r : List UInt8) (A : Option Addr) (N c : Nat) (w : World) (hpr : RdL partK w A3 n3 parts) (hn3 : n3 ≤ 35) (hb : Rd w A N ((x0 :: x1 :: r).map cB)) (hcp : N ≤ c ∧ c ≤ 9223372036854775807) (hN : 3 ≤ N) (hN2 : N ≤ 253)
    (hgood : parts.any (fun p => decide (badP p)) = false) (hsum : 2 + sumP parts = (N : Int)) (hbad : (x1.toNat : Int) = (N : Int) - 2) (ho : filesOf parts ((x0 :: x1 :: r).drop 2) = none) :
    Calls Tryz.prog 104 #[.agg #[.int .i64 20, .int .i64 addr, .int .i64 count, .slice A1 n1 c1, .slice A2 n2 c2, .slice A3 n3 c3], .slice A N c] w (RetRR w none) := by
  have hl := hb.length
  have HT := Lib.hid (fun V (hX : Ext w V) => take_at (x0 :: x1 :: r) A N c w.heap.size w V hb hX (Nat.le_refl _) hcp (by omega))
  have hmf : ∀ (fn : Fn) (first cap : Array Value) (w : World), (Instr.makeFunc fn first cap).run Tryz.prog w = .ok (.func fn first cap) w := fun _ _ _ _ => rfl
  have hne : (IntKind.i64.wrap (x1.toNat : Int) != IntKind.i64.wrap ((N : Int) - 2)) = false := by rw [IntWalk.i64_in _ (by have := x1.toNat_lt; omega), IntWalk.i64_in _ (by omega)]; simpa using hbad
  have hX0 := x1.toNat_lt
  clear hl
  obtain ⟨V, hV, hX0, hVs, q0, q1, q2, q3, q4⟩ := start5 w (.cells #[.int .i64 20, .int .i64 addr, .int .i64 count, .slice A1 n1 c1, .slice A2 n2 c2, .slice A3 n3 c3] 37) (.cells #[.slice A N c] 41) (.cells #[.int .i64 0, .slice none 0 0, .slice none 0 0, .slice none 0 0] 40) (.cells #[.int .i64 1] 3) (.cells #[.int .i64 0, .slice none 0 0, .slice none 0 0, .slice none 0 0] 40)
  have X0 := Lib.hid hX0
  obtain ⟨p0, p1, p2, p3⟩ := cells4 q2
  obtain ⟨g0, g1, g2, g3⟩ := cells4 q4
  obtain ⟨d0, -, d2, -⟩ := cells6 q0
  have d1 : V.cell? ⟨w.heap.size + 1, 0, none⟩ = some (.slice A N c) := cell_of_row _ _ _ _ _ _ q1
  have k0 := frozen_of_row _ _ 0 _ _ q2
  have m0 := frozen_of_row _ _ 0 _ _ q4
  have k1 := frozen_of_row _ _ 1 _ _ q2
  have m1 := frozen_of_row _ _ 1 _ _ q4
  have k2 := frozen_of_row _ _ 2 _ _ q2
  have m2 := frozen_of_row _ _ 2 _ _ q4
  have k3 := frozen_of_row _ _ 3 _ _ q2
  have m3 := frozen_of_row _ _ 3 _ _ q4
  have HT1 := Lib.hid (show Calls Tryz.prog 117 #[.int .i64 1, .pointer (some ⟨w.heap.size + 1 + 1 + 1, 0, none⟩), .pointer (some ⟨w.heap.size + 1, 0, none⟩)] V.drew fun e w' => ∃ A', e = .returned (.slice A' 1 (c - 1)) ∧ Rd w A' 1 [.int .u8 (x1.toNat : Int)] ∧ w' = V.drew.setCell ⟨w.heap.size + 1 + 1 + 1, 0, none⟩ (.int .i64 2) from HT.out V.drew (Ext.drew' X0.out) 1 1 (by omega) q3 q1)
  have hA2 : (V.setCell ⟨w.heap.size + 1 + 1 + 1, 0, none⟩ (.int .i64 2)).drew.heap[w.heap.size + 1 + 1 + 1]? = some (.cells #[.int .i64 2] 3 (0, 0)) := heap_setCell_same _ _ _ _ _ _ q3
  have hB2 := set_other (b := w.heap.size + 1 + 1 + 1) q1 (by omega) (.int .i64 2)
  have hX2 : Ext w (V.setCell ⟨w.heap.size + 1 + 1 + 1, 0, none⟩ (.int .i64 2)).drew := Ext.drew' (Ext.set' X0.out (by simp; omega) _)
  have HPT := Lib.hid (parts_any parts 20 addr count A1 A2 A3 n1 c1 n2 c2 n3 c3 (x0 :: x1 :: r) A N c w.heap.size w (V.setCell ⟨w.heap.size + 1 + 1 + 1, 0, none⟩ (.int .i64 2)).drew hpr hn3 hb hX2 (Nat.le_refl _) (by simp; omega) hcp hN2 hA2 hB2 hgood hsum)
  rw [ho] at HPT
  have Q2 := Lib.hid (show (V.setCell ⟨w.heap.size + 1 + 1 + 1, 0, none⟩ (.int .i64 2)).drew.heap[w.heap.size + 1 + 1]? = _ from set_other q2 (by omega) _)
  have Q4 := Lib.hid (show (V.setCell ⟨w.heap.size + 1 + 1 + 1, 0, none⟩ (.int .i64 2)).drew.heap[w.heap.size + 1 + 1 + 1 + 1]? = _ from set_other q4 (by omega) _)
  have HSZ := Lib.hid (show w.heap.size + 5 ≤ (V.setCell ⟨w.heap.size + 1 + 1 + 1, 0, none⟩ (.int .i64 2)).drew.heap.size by simp; omega)
  obtain ⟨d0, d1', d2, d3, d4, d5⟩ := cells6 q0
  have D := fun k v (h : V.cell? ⟨w.heap.size, k, none⟩ = some v) => (show (V.setCell ⟨w.heap.size + 1 + 1 + 1, 0, none⟩ (.int .i64 2)).drew.cell? ⟨w.heap.size, k, none⟩ = some v from (World.cell?_setCell_far _ _ _ _ (by simp <;> omega)).trans h)
  have e0 := D _ _ d0; have e1 := D _ _ d1'; have e2 := D _ _ d2; have e3 := D _ _ d3; have e4 := D _ _ d4; have e5 := D _ _ d5
  clear hA2 hB2 hX2 hpr hgood hsum ho D hb
  clear q0 q1 q2 q3 q4 hX0
  go_enter Tryz.func104, Tryz.ntmps104
  go_wp2_with fail
  clear hV
  go_region_with ((first
    | (go_at_call 117
       refine HT1.out.mono ?_
       rintro e w2 ⟨A5, rfl, hrd, rfl⟩
       obtain ⟨bk, off, rfl, hbk, hcl⟩ := hrd.2 (by omega)
       have c0 : V.cell? ⟨bk, off, none⟩ = some (.int .u8 (x1.toNat : Int)) := X0.out.cell hbk (hcl 0 _ rfl))
    | fail))
  all_goals
    go_wp2_with fail
    refine HPT.out.mono ?_
    rintro e w3 ⟨hx3, hz3, hk3, hres⟩
    obtain rfl := hres
    have Q2' := (hk3 (w.heap.size + 1 + 1) (by have := HSZ.out; omega) (by omega)).trans Q2.out
    have Q4' := (hk3 (w.heap.size + 1 + 1 + 1 + 1) (by have := HSZ.out; omega) (by omega)).trans Q4.out
    obtain ⟨p0, p1, p2, p3⟩ := cells4 Q2'
    obtain ⟨g0, g1, g2, g3⟩ := cells4 Q4'
    have k0 := frozen_of_row _ _ 0 _ _ Q2'
    have m0 := frozen_of_row _ _ 0 _ _ Q4'
    have k1 := frozen_of_row _ _ 1 _ _ Q2'
    have m1 := frozen_of_row _ _ 1 _ _ Q4'
    have k2 := frozen_of_row _ _ 2 _ _ Q2'
    have m2 := frozen_of_row _ _ 2 _ _ Q4'
    have k3 := frozen_of_row _ _ 3 _ _ Q2'
    have m3 := frozen_of_row _ _ 3 _ _ Q4'
    have X7 := Lib.hid hx3
    clear Q2' Q4' hx3 hz3 hk3
    go_wp2_with fail
    refine bodyPost_ret (v := .tuple #[.agg #[.int .i64 0, .slice none 0 0, .slice none 0 0, .slice none 0 0], .bool false]) (by simp [results, Tryz.results104, go_sem, repV, *]) rfl ⟨?_, 0, repS0, rfl⟩
    repeat' (first | with_reducible exact X7.out | with_reducible refine Ext.drew' ?_ | with_reducible refine Ext.set' ?_ (by simp; omega) _)
theorem rfil_bad (addr count : Int) (A1 A2 A3 : Option Addr) (n1 c1 n2 c2 n3 c3 : Nat) (x0 x1 : UInt8) (r : List UInt8) (A : Option Addr) (N c : Nat) (w : World) (hb : Rd w A N ((x0 :: x1 :: r).map cB)) (hcp : N ≤ c ∧ c ≤ 9223372036854775807) (hN : 3 ≤ N) (hN2 : N ≤ 253)
    (hbad : ¬ (x1.toNat : Int) = (N : Int) - 2) :
    Calls Tryz.prog 104 #[.agg #[.int .i64 20, .int .i64 addr, .int .i64 count, .slice A1 n1 c1, .slice A2 n2 c2, .slice A3 n3 c3], .slice A N c] w (RetRR w none) := by
  have HT := Lib.hid (fun V (hX : Ext w V) => take_at (x0 :: x1 :: r) A N c w.heap.size w V hb hX (Nat.le_refl _) hcp (by omega))
  have hmf : ∀ (fn : Fn) (first cap : Array Value) (w : World), (Instr.makeFunc fn first cap).run Tryz.prog w = .ok (.func fn first cap) w := fun _ _ _ _ => rfl
  have hne : (IntKind.i64.wrap (x1.toNat : Int) != IntKind.i64.wrap ((N : Int) - 2)) = true := by rw [IntWalk.i64_in _ (by have := x1.toNat_lt; omega), IntWalk.i64_in _ (by omega)]; simpa using hbad
  have hX0 := x1.toNat_lt
  clear hb
  obtain ⟨V, hV, hX0, hVs, q0, q1, q2, q3, q4⟩ := start5 w (.cells #[.int .i64 20, .int .i64 addr, .int .i64 count, .slice A1 n1 c1, .slice A2 n2 c2, .slice A3 n3 c3] 37) (.cells #[.slice A N c] 41) (.cells #[.int .i64 0, .slice none 0 0, .slice none 0 0, .slice none 0 0] 40) (.cells #[.int .i64 1] 3) (.cells #[.int .i64 0, .slice none 0 0, .slice none 0 0, .slice none 0 0] 40)
  have X0 := Lib.hid hX0
  obtain ⟨p0, p1, p2, p3⟩ := cells4 q2
  obtain ⟨g0, g1, g2, g3⟩ := cells4 q4
  obtain ⟨d0, -, d2, -⟩ := cells6 q0
  have d1 : V.cell? ⟨w.heap.size + 1, 0, none⟩ = some (.slice A N c) := cell_of_row _ _ _ _ _ _ q1
  have k0 := frozen_of_row _ _ 0 _ _ q2
  have m0 := frozen_of_row _ _ 0 _ _ q4
  have k1 := frozen_of_row _ _ 1 _ _ q2
  have m1 := frozen_of_row _ _ 1 _ _ q4
  have k2 := frozen_of_row _ _ 2 _ _ q2
  have m2 := frozen_of_row _ _ 2 _ _ q4
  have k3 := frozen_of_row _ _ 3 _ _ q2
  have m3 := frozen_of_row _ _ 3 _ _ q4
  have HT1 := Lib.hid (show Calls Tryz.prog 117 #[.int .i64 1, .pointer (some ⟨w.heap.size + 1 + 1 + 1, 0, none⟩), .pointer (some ⟨w.heap.size + 1, 0, none⟩)] V.drew fun e w' => ∃ A', e = .returned (.slice A' 1 (c - 1)) ∧ Rd w A' 1 [.int .u8 (x1.toNat : Int)] ∧ w' = V.drew.setCell ⟨w.heap.size + 1 + 1 + 1, 0, none⟩ (.int .i64 2) from HT.out V.drew (Ext.drew' X0.out) 1 1 (by omega) q3 q1)
  clear q0 q1 q2 q3 q4 hX0
  go_enter Tryz.func104, Tryz.ntmps104
  go_wp2_with fail
  clear hV
  go_region_with ((first
    | (go_at_call 117
       refine HT1.out.mono ?_
       rintro e w2 ⟨A5, rfl, hrd, rfl⟩
       obtain ⟨bk, off, rfl, hbk, hcl⟩ := hrd.2 (by omega)
       have c0 : V.cell? ⟨bk, off, none⟩ = some (.int .u8 (x1.toNat : Int)) := X0.out.cell hbk (hcl 0 _ rfl))
    | fail))
  all_goals
    go_wp2_with fail
    refine bodyPost_ret (v := .tuple #[.agg #[.int .i64 0, .slice none 0 0, .slice none 0 0, .slice none 0 0], .bool false]) (by simp [results, Tryz.results104, go_sem, repV, *]) rfl ⟨?_, 0, repS0, rfl⟩
    repeat' (first | with_reducible exact X0.out | with_reducible refine Ext.drew' ?_ | with_reducible refine Ext.set' ?_ (by simp; omega) _)
theorem read_files (a : AskD) (b : List UInt8) (s : AskS) (A : Option Addr) (N c : Nat) (w : World) (ha : AskRd w a s) (hb : Rd w A N (b.map cB)) (hcp : N ≤ c ∧ c ≤ 9223372036854775807) (hc : a.code = 20) (hK : partsF a.parts = 0) (hn3 : a.parts.length ≤ 35) (hlen : 2 + sumP a.parts = (N : Int)) (hN : 3 ≤ N) (hN2 : N ≤ 253) :
    Calls Tryz.prog 104 #[askV a s, .slice A N c] w (RetRR w (readR a b)) := by
  have hl := hb.length
  obtain ⟨x0, x1, r, rfl⟩ := len2 (b := b) (by omega)
  have hbt : ((x0 :: x1 :: r).getD 1 0).toNat = x1.toNat := rfl
  have hp := ha.parts
  have e3 := ha.n3
  obtain ⟨code, addr, count, on, set, parts⟩ := a
  obtain ⟨A1, n1, c1, A2, n2, c2, A3, n3, c3⟩ := s
  simp only at hc hK hn3 hlen hp e3
  subst hc
  by_cases hbad : (x1.toNat : Int) = (N : Int) - 2
  · rw [readR20 rfl (by rw [hbt, hl]; exact hbad)]
    simp only [askV]
    cases ho : filesOf parts ((x0 :: x1 :: r).drop 2) with
    | none => exact rfil_no addr count A1 A2 A3 n1 c1 n2 c2 n3 c3 parts x0 x1 r A N c w hp (by omega) hb hcp hN hN2 (partsF_zero hK).1 hlen hbad ho
    | some l => exact rfil_ok addr count A1 A2 A3 n1 c1 n2 c2 n3 c3 parts x0 x1 r A N c w hp (by omega) hb hcp hN hN2 (partsF_zero hK).1 hlen hbad l ho
  · rw [readR_bad (by unfold plainC; simp) (by rw [hbt, hl]; exact hbad)]
    simp only [askV]
    exact rfil_bad addr count A1 A2 A3 n1 c1 n2 c2 n3 c3 x0 x1 r A N c w hb hcp hN hN2 hbad
end Go.Proofs.YtomcipkmohhpjaaGreat
