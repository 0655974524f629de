/- The walk of ReplyChecks: for every input true. (genrepl.py prints this.) -/
import Derived.Test.YtpjmhckdeeonbaaRepBk
import Derived.Test.YtpjmhckdeeonbaaRep5
import Derived.Deep.RegionLaw
namespace Go.Proofs.Ytpjmhckdeeonbaa
set_option linter.unusedVariables false
set_option linter.unusedSimpArgs false
set_option maxRecDepth 100000
set_option maxHeartbeats 2000000
open Go Go.RowKit Go.Out

theorem skip_op {o : Oper} {y : Nat → Option Bool} {A B : Prop} (h : Region.wanted o y = false) (hb : B) : if Region.wanted o y = true then A else B := by
  rw [h]; exact hb
theorem checks_long (code addr count exc : Int) (A1 A2 A3 B1 B2 B3 : Option Addr) (n1 c1 n2 c2 n3 c3 m1 k1 m2 k2 m3 k3 : Nat) (w : World) (HL : Hid (∀ W, Ext w W → Calls Try.prog 14 #[.agg #[.int .i64 code, .int .i64 addr, .int .i64 count, .slice A1 n1 c1, .slice A2 n2 c2, .slice A3 n3 c3], .agg #[.int .i64 exc, .slice B1 m1 k1, .slice B2 m2 k2, .slice B3 m3 k3]] W (RetQ W true))) :
    Calls Try.prog 3 #[.agg #[.int .i64 code, .int .i64 addr, .int .i64 count, .slice A1 n1 c1, .slice A2 n2 c2, .slice A3 n3 c3], .agg #[.int .i64 exc, .slice B1 m1 k1, .slice B2 m2 k2, .slice B3 m3 k3]] w (RetQ w true) := by
  have HB := Lib.hid (two_boxes w #[.int .i64 code, .int .i64 addr, .int .i64 count, .slice A1 n1 c1, .slice A2 n2 c2, .slice A3 n3 c3] #[.int .i64 exc, .slice B1 m1 k1, .slice B2 m2 k2, .slice B3 m3 k3] 26 29)
  have HSS := Lib.hid (fun (W : World) (hX : Ext ((w.alloc (.cells #[.int .i64 code, .int .i64 addr, .int .i64 count, .slice A1 n1 c1, .slice A2 n2 c2, .slice A3 n3 c3] 26)).alloc (.cells #[.int .i64 exc, .slice B1 m1 k1, .slice B2 m2 k2, .slice B3 m3 k3] 29)) W) => (show (W.cell? ⟨w.heap.size, 0, none⟩ = some (.int .i64 code) ∧ W.cell? ⟨w.heap.size, 1, none⟩ = some (.int .i64 addr) ∧ W.cell? ⟨w.heap.size, 2, none⟩ = some (.int .i64 count) ∧ W.cell? ⟨w.heap.size, 3, none⟩ = some (.slice A1 n1 c1) ∧ W.cell? ⟨w.heap.size, 4, none⟩ = some (.slice A2 n2 c2) ∧ W.cell? ⟨w.heap.size, 5, none⟩ = some (.slice A3 n3 c3)) ∧ (W.cell? ⟨w.heap.size + 1, 0, none⟩ = some (.int .i64 exc) ∧ W.cell? ⟨w.heap.size + 1, 1, none⟩ = some (.slice B1 m1 k1) ∧ W.cell? ⟨w.heap.size + 1, 2, none⟩ = some (.slice B2 m2 k2) ∧ W.cell? ⟨w.heap.size + 1, 3, none⟩ = some (.slice B3 m3 k3)) from ⟨cells6 (HB.out W hX).1, cells4 (HB.out W hX).2⟩))
  obtain ⟨V, hV⟩ : ∃ V, ((w.alloc (.cells #[.int .i64 code, .int .i64 addr, .int .i64 count, .slice A1 n1 c1, .slice A2 n2 c2, .slice A3 n3 c3] 26)).alloc (.cells #[.int .i64 exc, .slice B1 m1 k1, .slice B2 m2 k2, .slice B3 m3 k3] 29)) = V := ⟨_, rfl⟩
  have XV := Lib.hid (show Ext w V from hV ▸ ext_pair _ _ _)
  rw [hV] at HSS
  have HV := Lib.hid hV
  clear hV HB
  obtain ⟨⟨d0, d1, d2, d3, d4, d5⟩, g0, g1, g2, g3⟩ := HSS.out _ (Ext.refl _)
  go_enter Try.func3, Try.ntmps3
  go_wp2_with fail
  rw [HV.out]
  first | (go_region_law ((first
  | (refine skip_op rfl ?_)
  | (go_simp
     go_at_call 14
     with_reducible refine Calls.mono (HL.out _ (XV.out.trans (Ext.draw _))) ?_
     rintro e v1 ⟨rfl, hx⟩
     have Y1 := Lib.hid ((Ext.draw V).trans hx)
     clear hx)
  | fail))) | fail
  all_goals
    go_wp2_with fail
    go_ret
    exact ⟨rfl, XV.out.trans Y1.out⟩
theorem checks_ok (code addr count exc : Int) (A1 A2 A3 B1 B2 B3 : Option Addr) (n1 c1 n2 c2 n3 c3 m1 k1 m2 k2 m3 k3 : Nat) (w : World) (K : Int) (hee : (K == K) = true) (HL : Hid (∀ W, Ext w W → Calls Try.prog 14 #[.agg #[.int .i64 code, .int .i64 addr, .int .i64 count, .slice A1 n1 c1, .slice A2 n2 c2, .slice A3 n3 c3], .agg #[.int .i64 exc, .slice B1 m1 k1, .slice B2 m2 k2, .slice B3 m3 k3]] W (RetQ W false)))(HCK : Hid (∀ W, Ext w W → Calls Try.prog 15 #[.agg #[.int .i64 code, .int .i64 addr, .int .i64 count, .slice A1 n1 c1, .slice A2 n2 c2, .slice A3 n3 c3], .agg #[.int .i64 exc, .slice B1 m1 k1, .slice B2 m2 k2, .slice B3 m3 k3]] W (RetI W K)))(HC4 : Hid (∀ W, Ext w W → Calls Try.prog 16 #[.agg #[.int .i64 code, .int .i64 addr, .int .i64 count, .slice A1 n1 c1, .slice A2 n2 c2, .slice A3 n3 c3], .agg #[.int .i64 exc, .slice B1 m1 k1, .slice B2 m2 k2, .slice B3 m3 k3]] W (RetI W K))) :
    Calls Try.prog 3 #[.agg #[.int .i64 code, .int .i64 addr, .int .i64 count, .slice A1 n1 c1, .slice A2 n2 c2, .slice A3 n3 c3], .agg #[.int .i64 exc, .slice B1 m1 k1, .slice B2 m2 k2, .slice B3 m3 k3]] w (RetQ w true) := by
  have HB := Lib.hid (two_boxes w #[.int .i64 code, .int .i64 addr, .int .i64 count, .slice A1 n1 c1, .slice A2 n2 c2, .slice A3 n3 c3] #[.int .i64 exc, .slice B1 m1 k1, .slice B2 m2 k2, .slice B3 m3 k3] 26 29)
  have HSS := Lib.hid (fun (W : World) (hX : Ext ((w.alloc (.cells #[.int .i64 code, .int .i64 addr, .int .i64 count, .slice A1 n1 c1, .slice A2 n2 c2, .slice A3 n3 c3] 26)).alloc (.cells #[.int .i64 exc, .slice B1 m1 k1, .slice B2 m2 k2, .slice B3 m3 k3] 29)) W) => (show (W.cell? ⟨w.heap.size, 0, none⟩ = some (.int .i64 code) ∧ W.cell? ⟨w.heap.size, 1, none⟩ = some (.int .i64 addr) ∧ W.cell? ⟨w.heap.size, 2, none⟩ = some (.int .i64 count) ∧ W.cell? ⟨w.heap.size, 3, none⟩ = some (.slice A1 n1 c1) ∧ W.cell? ⟨w.heap.size, 4, none⟩ = some (.slice A2 n2 c2) ∧ W.cell? ⟨w.heap.size, 5, none⟩ = some (.slice A3 n3 c3)) ∧ (W.cell? ⟨w.heap.size + 1, 0, none⟩ = some (.int .i64 exc) ∧ W.cell? ⟨w.heap.size + 1, 1, none⟩ = some (.slice B1 m1 k1) ∧ W.cell? ⟨w.heap.size + 1, 2, none⟩ = some (.slice B2 m2 k2) ∧ W.cell? ⟨w.heap.size + 1, 3, none⟩ = some (.slice B3 m3 k3)) from ⟨cells6 (HB.out W hX).1, cells4 (HB.out W hX).2⟩))
  obtain ⟨V, hV⟩ : ∃ V, ((w.alloc (.cells #[.int .i64 code, .int .i64 addr, .int .i64 count, .slice A1 n1 c1, .slice A2 n2 c2, .slice A3 n3 c3] 26)).alloc (.cells #[.int .i64 exc, .slice B1 m1 k1, .slice B2 m2 k2, .slice B3 m3 k3] 29)) = V := ⟨_, rfl⟩
  have XV := Lib.hid (show Ext w V from hV ▸ ext_pair _ _ _)
  rw [hV] at HSS
  have HV := Lib.hid hV
  clear hV HB
  obtain ⟨⟨d0, d1, d2, d3, d4, d5⟩, g0, g1, g2, g3⟩ := HSS.out _ (Ext.refl _)
  go_enter Try.func3, Try.ntmps3
  go_wp2_with fail
  rw [HV.out]
  go_region_held3 (fun W => (W.cell? ⟨w.heap.size, 0, none⟩ = some (.int .i64 code) ∧ W.cell? ⟨w.heap.size, 1, none⟩ = some (.int .i64 addr) ∧ W.cell? ⟨w.heap.size, 2, none⟩ = some (.int .i64 count) ∧ W.cell? ⟨w.heap.size, 3, none⟩ = some (.slice A1 n1 c1) ∧ W.cell? ⟨w.heap.size, 4, none⟩ = some (.slice A2 n2 c2) ∧ W.cell? ⟨w.heap.size, 5, none⟩ = some (.slice A3 n3 c3)) ∧ (W.cell? ⟨w.heap.size + 1, 0, none⟩ = some (.int .i64 exc) ∧ W.cell? ⟨w.heap.size + 1, 1, none⟩ = some (.slice B1 m1 k1) ∧ W.cell? ⟨w.heap.size + 1, 2, none⟩ = some (.slice B2 m2 k2) ∧ W.cell? ⟨w.heap.size + 1, 3, none⟩ = some (.slice B3 m3 k3))) (first | with_reducible exact HSS.out _ (Ext.draw _) | with_reducible exact HSS.out _ Y4.out | with_reducible exact HSS.out _ Y3.out | with_reducible exact HSS.out _ Y2.out | with_reducible exact HSS.out _ Y1.out | go_keep) ((first
  | (go_at_call 14
     with_reducible refine Calls.mono (HL.out _ (XV.out.trans (Ext.draw _))) ?_
     rintro e v1 ⟨rfl, hx⟩
     have Y1 := Lib.hid ((Ext.draw V).trans hx)
     clear hx)
  | (go_at_call 15
     with_reducible refine Calls.mono (HCK.out _ (XV.out.trans Y1.out)) ?_
     rintro e v2 ⟨rfl, hx⟩
     have Y2 := Lib.hid (Y1.out.trans hx)
     clear hx)
  | (go_at_call 16
     with_reducible refine Calls.mono (HC4.out _ (XV.out.trans Y2.out)) ?_
     rintro e v3 ⟨rfl, hx⟩
     have Y3 := Lib.hid (Y2.out.trans hx)
     clear hx)
  | (go_at_call 17
     with_reducible refine Calls.mono (works04_any _) ?_
     rintro e v4 ⟨rfl, hx⟩
     have Y4 := Lib.hid (Y3.out.trans hx)
     clear hx)
  | fail))
  all_goals
    go_wp2_with fail
    go_ret
    exact ⟨by simp, XV.out.trans Y4.out⟩
theorem lawReplyChecks (a : AskD) (s : AskS) (r : RepD) (t : RepS) (w : World) (ha : AskRd w a s) (hr : RepRd w r t) :
    Calls Try.prog 3 #[askV a s, repV r t] w (RetQ w true) := by
  have HL := Lib.hid (fun W (hX : Ext w W) => long04_any a r s t W (ha.ext hX) (hr.ext hX))
  generalize (decide (70000 < s.n1 ∨ 70000 < s.n2 ∨ 70000 < s.n3) || longR r) = P at HL
  cases P with
  | true => exact checks_long _ _ _ _ _ _ _ _ _ _ _ _ _ _ _ _ _ _ _ _ _ _ w HL
  | false => exact checks_ok _ _ _ _ _ _ _ _ _ _ _ _ _ _ _ _ _ _ _ _ _ _ w (checkR a r) (by simp) HL (Lib.hid fun W hX => replyCheck_any a r s t W (ha.ext hX) (hr.ext hX)) (Lib.hid fun W hX => ref04Check_any a r s t W (ha.ext hX) (hr.ext hX))
end Go.Proofs.Ytpjmhckdeeonbaa
