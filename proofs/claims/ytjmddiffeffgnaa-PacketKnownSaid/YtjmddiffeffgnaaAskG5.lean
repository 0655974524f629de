/- Contract of ask.Get: the request that a PDU is. -/
import Derived.Test.YtjmddiffeffgnaaAskS6
import Derived.Test.YtjmddiffeffgnaaAskX
import Derived.Test.YtjmddiffeffgnaaAskP
namespace Go.Proofs.Ytjmddiffeffgnaa
set_option linter.unusedVariables false
set_option linter.unusedSimpArgs false
set_option maxRecDepth 100000
set_option maxHeartbeats 1000000
open Go Go.RowKit Go.Out

theorem askOw0 (w : World) (base : Nat) : AskOw w base ask0 askS0 := ⟨Own.nil_ _ _ _ _, Own.nil_ _ _ _ _, OwP.nil_ _ _, by unfold i64P ask0; simp, by unfold i64P ask0; simp, by unfold i64P ask0; simp⟩
theorem AskOw.set_below {w : World} {base : Nat} {a : AskD} {s : AskS} (h : AskOw w base a s) {q : Addr} (hq : q.block < base) (u : Value) : AskOw (w.setCell q u) base a s :=
  ⟨h.on.set_below hq u, h.set.set_below hq u, OwP.set_below h.parts hq u, h.code, h.addr, h.count⟩
/-- What ask.Get hands back. -/
def RetGA (w : World) (r : AskD × Int) (e : Ending) (w' : World) : Prop :=
  ∃ s : AskS, e = .returned (.tuple #[askV r.1 s, .int .i64 r.2]) ∧ AskOw w' w.heap.size r.1 s ∧ Ext w w'
theorem getA_code {b : List UInt8} (h0 : b.length ≠ 0) (hp : ¬ codeP (b0 b : Nat)) : getA b = (ask0, 20) := by unfold getA; rw [if_neg h0, if_pos hp]
theorem getA_sized {b : List UInt8} (h0 : b.length ≠ 0) (hp : codeP (b0 b : Nat)) (hs : sizedF b ≠ 0) : getA b = (ask0, sizedF b) := by unfold getA; rw [if_neg h0, if_neg (by simpa using hp), if_pos hs]
theorem getA_said {b : List UInt8} (h0 : b.length ≠ 0) (hp : codeP (b0 b : Nat)) (hs : sizedF b = 0) : getA b = match saidF b with
    | none => (ask0, 4)
    | some a => if checkF a ≠ 0 then (ask0, checkF a) else (a, 0) := by unfold getA; rw [if_neg h0, if_neg (by simpa using hp), if_neg (by simpa using hs)]; rfl

theorem get_none (A : Option Addr) (c : Nat) (w : World) : Calls Try.prog 35 #[.slice A 0 c] w (RetGA w (ask0, 1)) := by
  go_enter Try.func35, Try.ntmps35
  go_wp2_with fail
  refine bodyPost_ret (v := .tuple #[askV ask0 askS0, .int .i64 1]) (by simp [results, Try.results35, go_sem, askV, ask0, askS0, *]) rfl ⟨askS0, rfl, askOw0 _ _, ?_⟩
  repeat' (first | with_reducible exact Ext.alloc _ _ | with_reducible refine Ext.set' ?_ (by simp) _)

theorem get_code (k m c : Nat) (bk off : Nat) (w : World) (hm : 0 < m) (hbk : bk < w.heap.size) (g0 : w.cell? ⟨bk, off, none⟩ = some (.int .u8 (k : Int))) (hk : k < 256) (hp : ¬ codeP (k : Nat)) :
    Calls Try.prog 35 #[.slice (some ⟨bk, off, none⟩) m c] w (RetGA w (ask0, 20)) := by
  have hm0 : ((m : Int) == 0) = false := by simp; omega
  go_enter Try.func35, Try.ntmps35
  go_wp2_with fail
  refine (shapeOf_any k _).mono ?_
  rintro e w1 ⟨rfl, hb⟩
  rw [decide_eq_false hp, shapeV_no hp]
  have f0 : ∀ o : Obj, (w1.alloc o).cell? ⟨w.heap.size, 0, none⟩ = some (.int .i64 0) := fun o => (cell_of_row _ _ _ _ _ _ ((hb.trans (Ext.alloc _ o)).block (heap_alloc_new w _))).trans rfl
  have u_0 : ∀ o : Obj, (w1.alloc o).frozen? ⟨w.heap.size, 0, none⟩ = false := fun o => frozen_of_row _ w.heap.size 0 _ _ ((hb.trans (Ext.alloc _ o)).block (heap_alloc_new w _))
  have f1 : ∀ o : Obj, (w1.alloc o).cell? ⟨w.heap.size, 1, none⟩ = some (.int .i64 0) := fun o => (cell_of_row _ _ _ _ _ _ ((hb.trans (Ext.alloc _ o)).block (heap_alloc_new w _))).trans rfl
  have u_1 : ∀ o : Obj, (w1.alloc o).frozen? ⟨w.heap.size, 1, none⟩ = false := fun o => frozen_of_row _ w.heap.size 1 _ _ ((hb.trans (Ext.alloc _ o)).block (heap_alloc_new w _))
  have f2 : ∀ o : Obj, (w1.alloc o).cell? ⟨w.heap.size, 2, none⟩ = some (.int .i64 0) := fun o => (cell_of_row _ _ _ _ _ _ ((hb.trans (Ext.alloc _ o)).block (heap_alloc_new w _))).trans rfl
  have u_2 : ∀ o : Obj, (w1.alloc o).frozen? ⟨w.heap.size, 2, none⟩ = false := fun o => frozen_of_row _ w.heap.size 2 _ _ ((hb.trans (Ext.alloc _ o)).block (heap_alloc_new w _))
  have f3 : ∀ o : Obj, (w1.alloc o).cell? ⟨w.heap.size, 3, none⟩ = some (.slice none 0 0) := fun o => (cell_of_row _ _ _ _ _ _ ((hb.trans (Ext.alloc _ o)).block (heap_alloc_new w _))).trans rfl
  have u_3 : ∀ o : Obj, (w1.alloc o).frozen? ⟨w.heap.size, 3, none⟩ = false := fun o => frozen_of_row _ w.heap.size 3 _ _ ((hb.trans (Ext.alloc _ o)).block (heap_alloc_new w _))
  have f4 : ∀ o : Obj, (w1.alloc o).cell? ⟨w.heap.size, 4, none⟩ = some (.slice none 0 0) := fun o => (cell_of_row _ _ _ _ _ _ ((hb.trans (Ext.alloc _ o)).block (heap_alloc_new w _))).trans rfl
  have u_4 : ∀ o : Obj, (w1.alloc o).frozen? ⟨w.heap.size, 4, none⟩ = false := fun o => frozen_of_row _ w.heap.size 4 _ _ ((hb.trans (Ext.alloc _ o)).block (heap_alloc_new w _))
  have f5 : ∀ o : Obj, (w1.alloc o).cell? ⟨w.heap.size, 5, none⟩ = some (.slice none 0 0) := fun o => (cell_of_row _ _ _ _ _ _ ((hb.trans (Ext.alloc _ o)).block (heap_alloc_new w _))).trans rfl
  have u_5 : ∀ o : Obj, (w1.alloc o).frozen? ⟨w.heap.size, 5, none⟩ = false := fun o => frozen_of_row _ w.heap.size 5 _ _ ((hb.trans (Ext.alloc _ o)).block (heap_alloc_new w _))
  have HX := Lib.hid (fun o => (Ext.alloc w _).trans (hb.trans (Ext.alloc w1 o)))
  clear hb
  go_wp2_with fail
  refine bodyPost_ret (v := .tuple #[askV ask0 askS0, .int .i64 20]) (by simp [results, Try.results35, go_sem, askV, ask0, askS0, *]) rfl ⟨askS0, rfl, askOw0 _ _, ?_⟩
  repeat' (first | with_reducible exact HX.out _ | with_reducible refine Ext.set' ?_ (by simp) _)

theorem get_sized (b : List UInt8) (m c : Nat) (bk off : Nat) (w : World) (hr : Rd w (some ⟨bk, off, none⟩) m (b.map cB)) (hm0 : m ≠ 0) (hm2 : m ≤ 9223372036854775807) (hbk : bk < w.heap.size) (g0 : w.cell? ⟨bk, off, none⟩ = some (.int .u8 (b0 b : Int))) (hp : codeP (b0 b : Nat)) (hs : sizedF b ≠ 0) :
    Calls Try.prog 35 #[.slice (some ⟨bk, off, none⟩) m c] w (RetGA w (ask0, sizedF b)) := by
  have hm : ((m : Int) == 0) = false := by simp; omega
  have hmp : 0 < m := by omega
  have HC : Hid (∀ W, Ext w W → Calls Try.prog 95 #[.slice (some ⟨bk, off, none⟩) m c] W (RetN W (sizedF b))) := fun W hX => sized_pdu b _ m c W (hr.ext hX) hm0 (by omega) hp
  have hk : b0 b < 256 := by unfold b0; exact UInt8.toNat_lt _
  generalize b0 b = k at *
  have hne : (sizedF b != 0) = true := by simpa using hs
  generalize sizedF b = Er at *
  clear hr hs
  go_enter Try.func35, Try.ntmps35
  go_wp2_with fail
  refine (shapeOf_any k _).mono ?_
  rintro e w1 ⟨rfl, hb⟩
  rw [decide_eq_true hp]
  unfold shapeV
  have f0 : ∀ o : Obj, (w1.alloc o).cell? ⟨w.heap.size, 0, none⟩ = some (.int .i64 0) := fun o => (cell_of_row _ _ _ _ _ _ ((hb.trans (Ext.alloc _ o)).block (heap_alloc_new w _))).trans rfl
  have u_0 : ∀ o : Obj, (w1.alloc o).frozen? ⟨w.heap.size, 0, none⟩ = false := fun o => frozen_of_row _ w.heap.size 0 _ _ ((hb.trans (Ext.alloc _ o)).block (heap_alloc_new w _))
  have f1 : ∀ o : Obj, (w1.alloc o).cell? ⟨w.heap.size, 1, none⟩ = some (.int .i64 0) := fun o => (cell_of_row _ _ _ _ _ _ ((hb.trans (Ext.alloc _ o)).block (heap_alloc_new w _))).trans rfl
  have u_1 : ∀ o : Obj, (w1.alloc o).frozen? ⟨w.heap.size, 1, none⟩ = false := fun o => frozen_of_row _ w.heap.size 1 _ _ ((hb.trans (Ext.alloc _ o)).block (heap_alloc_new w _))
  have f2 : ∀ o : Obj, (w1.alloc o).cell? ⟨w.heap.size, 2, none⟩ = some (.int .i64 0) := fun o => (cell_of_row _ _ _ _ _ _ ((hb.trans (Ext.alloc _ o)).block (heap_alloc_new w _))).trans rfl
  have u_2 : ∀ o : Obj, (w1.alloc o).frozen? ⟨w.heap.size, 2, none⟩ = false := fun o => frozen_of_row _ w.heap.size 2 _ _ ((hb.trans (Ext.alloc _ o)).block (heap_alloc_new w _))
  have f3 : ∀ o : Obj, (w1.alloc o).cell? ⟨w.heap.size, 3, none⟩ = some (.slice none 0 0) := fun o => (cell_of_row _ _ _ _ _ _ ((hb.trans (Ext.alloc _ o)).block (heap_alloc_new w _))).trans rfl
  have u_3 : ∀ o : Obj, (w1.alloc o).frozen? ⟨w.heap.size, 3, none⟩ = false := fun o => frozen_of_row _ w.heap.size 3 _ _ ((hb.trans (Ext.alloc _ o)).block (heap_alloc_new w _))
  have f4 : ∀ o : Obj, (w1.alloc o).cell? ⟨w.heap.size, 4, none⟩ = some (.slice none 0 0) := fun o => (cell_of_row _ _ _ _ _ _ ((hb.trans (Ext.alloc _ o)).block (heap_alloc_new w _))).trans rfl
  have u_4 : ∀ o : Obj, (w1.alloc o).frozen? ⟨w.heap.size, 4, none⟩ = false := fun o => frozen_of_row _ w.heap.size 4 _ _ ((hb.trans (Ext.alloc _ o)).block (heap_alloc_new w _))
  have f5 : ∀ o : Obj, (w1.alloc o).cell? ⟨w.heap.size, 5, none⟩ = some (.slice none 0 0) := fun o => (cell_of_row _ _ _ _ _ _ ((hb.trans (Ext.alloc _ o)).block (heap_alloc_new w _))).trans rfl
  have u_5 : ∀ o : Obj, (w1.alloc o).frozen? ⟨w.heap.size, 5, none⟩ = false := fun o => frozen_of_row _ w.heap.size 5 _ _ ((hb.trans (Ext.alloc _ o)).block (heap_alloc_new w _))
  have HX := Lib.hid (fun o => (Ext.alloc w _).trans (hb.trans (Ext.alloc w1 o)))
  clear hb
  go_wp2_with fail
  refine (HC.out _ (HX.out _)).mono ?_
  rintro e w2 ⟨rfl, rfl⟩
  go_wp2_with fail
  refine bodyPost_ret (v := .tuple #[askV ask0 askS0, .int .i64 Er]) (by simp [results, Try.results35, go_sem, askV, ask0, askS0, *]) rfl ⟨askS0, rfl, askOw0 _ _, ?_⟩
  repeat' (first | with_reducible exact HX.out _ | with_reducible refine Ext.set' ?_ (by simp) _)


end Go.Proofs.Ytjmddiffeffgnaa

namespace Go.Proofs.Ytjmddiffeffgnaa
set_option linter.unusedVariables false
set_option linter.unusedSimpArgs false
set_option maxRecDepth 100000
set_option maxHeartbeats 800000
open Go Go.RowKit Go.Out

theorem get_form (b : List UInt8) (m c : Nat) (bk off : Nat) (w : World) (hr : Rd w (some ⟨bk, off, none⟩) m (b.map cB)) (hc : m ≤ c) (hc63 : c ≤ 9223372036854775807) (hm0 : m ≠ 0) (hm2 : m ≤ 17000000000) (hbk : bk < w.heap.size) (g0 : w.cell? ⟨bk, off, none⟩ = some (.int .u8 (b0 b : Int))) (hp : codeP (b0 b : Nat)) (hs : sizedF b = 0) (hsd : saidF b = none) :
    Calls Try.prog 35 #[.slice (some ⟨bk, off, none⟩) m c] w (RetGA w (ask0, 4)) := by
  have hm : ((m : Int) == 0) = false := by simp; omega
  have hmp : 0 < m := by omega
  have HC : Hid (∀ W, Ext w W → Calls Try.prog 95 #[.slice (some ⟨bk, off, none⟩) m c] W (RetN W (sizedF b))) := fun W hX => sized_pdu b _ m c W (hr.ext hX) hm0 (by omega) hp
  have HR : Hid (∀ W, Ext w W → Calls Try.prog 96 #[.slice (some ⟨bk, off, none⟩) m c] W (RetRead W (saidF b))) := fun W hX => read_any b _ m c W (hr.ext hX) hc hc63 hm2 hp hs
  have hk : b0 b < 256 := by unfold b0; exact UInt8.toNat_lt _
  rw [hs] at HC
  rw [hsd] at HR
  generalize b0 b = k at *
  clear hr hs hsd
  go_enter Try.func35, Try.ntmps35
  go_wp2_with fail
  refine (shapeOf_any k _).mono ?_
  rintro e w1 ⟨rfl, hb⟩
  rw [decide_eq_true hp]
  unfold shapeV
  have HX := Lib.hid (fun o => (Ext.alloc w _).trans (hb.trans (Ext.alloc w1 o)))
  have HB := Lib.hid (fun o => hb.trans (Ext.alloc w1 o))
  clear hb
  go_wp2_with fail
  refine (HC.out _ (HX.out _)).mono ?_
  rintro e w2 ⟨rfl, rfl⟩
  go_wp2_with fail
  refine (HR.out _ (HX.out _)).mono ?_
  rintro e w3 ⟨a, t, rfl, hown, hb3⟩
  have hX3 := Ext.of hb3
  have HB3 := Lib.hid ((HB.out _).trans hX3)
  have HX3 := Lib.hid ((HX.out _).trans hX3)
  clear hown hb3 hX3 HX HB
  obtain ⟨code, addr, count, on, set, parts⟩ := a
  obtain ⟨A1, n1, c1, A2, n2, c2, A3, n3, c3⟩ := t
  simp only [askV, Option.isSome]
  have f0 : ∀ o : Obj, (w3.alloc o).cell? ⟨w.heap.size, 0, none⟩ = some (.int .i64 0) := fun o => (cell_of_row _ _ _ _ _ _ ((HB3.out.trans (Ext.alloc _ o)).block (heap_alloc_new w _))).trans rfl
  have u_0 : ∀ o : Obj, (w3.alloc o).frozen? ⟨w.heap.size, 0, none⟩ = false := fun o => frozen_of_row _ w.heap.size 0 _ _ ((HB3.out.trans (Ext.alloc _ o)).block (heap_alloc_new w _))
  have f1 : ∀ o : Obj, (w3.alloc o).cell? ⟨w.heap.size, 1, none⟩ = some (.int .i64 0) := fun o => (cell_of_row _ _ _ _ _ _ ((HB3.out.trans (Ext.alloc _ o)).block (heap_alloc_new w _))).trans rfl
  have u_1 : ∀ o : Obj, (w3.alloc o).frozen? ⟨w.heap.size, 1, none⟩ = false := fun o => frozen_of_row _ w.heap.size 1 _ _ ((HB3.out.trans (Ext.alloc _ o)).block (heap_alloc_new w _))
  have f2 : ∀ o : Obj, (w3.alloc o).cell? ⟨w.heap.size, 2, none⟩ = some (.int .i64 0) := fun o => (cell_of_row _ _ _ _ _ _ ((HB3.out.trans (Ext.alloc _ o)).block (heap_alloc_new w _))).trans rfl
  have u_2 : ∀ o : Obj, (w3.alloc o).frozen? ⟨w.heap.size, 2, none⟩ = false := fun o => frozen_of_row _ w.heap.size 2 _ _ ((HB3.out.trans (Ext.alloc _ o)).block (heap_alloc_new w _))
  have f3 : ∀ o : Obj, (w3.alloc o).cell? ⟨w.heap.size, 3, none⟩ = some (.slice none 0 0) := fun o => (cell_of_row _ _ _ _ _ _ ((HB3.out.trans (Ext.alloc _ o)).block (heap_alloc_new w _))).trans rfl
  have u_3 : ∀ o : Obj, (w3.alloc o).frozen? ⟨w.heap.size, 3, none⟩ = false := fun o => frozen_of_row _ w.heap.size 3 _ _ ((HB3.out.trans (Ext.alloc _ o)).block (heap_alloc_new w _))
  have f4 : ∀ o : Obj, (w3.alloc o).cell? ⟨w.heap.size, 4, none⟩ = some (.slice none 0 0) := fun o => (cell_of_row _ _ _ _ _ _ ((HB3.out.trans (Ext.alloc _ o)).block (heap_alloc_new w _))).trans rfl
  have u_4 : ∀ o : Obj, (w3.alloc o).frozen? ⟨w.heap.size, 4, none⟩ = false := fun o => frozen_of_row _ w.heap.size 4 _ _ ((HB3.out.trans (Ext.alloc _ o)).block (heap_alloc_new w _))
  have f5 : ∀ o : Obj, (w3.alloc o).cell? ⟨w.heap.size, 5, none⟩ = some (.slice none 0 0) := fun o => (cell_of_row _ _ _ _ _ _ ((HB3.out.trans (Ext.alloc _ o)).block (heap_alloc_new w _))).trans rfl
  have u_5 : ∀ o : Obj, (w3.alloc o).frozen? ⟨w.heap.size, 5, none⟩ = false := fun o => frozen_of_row _ w.heap.size 5 _ _ ((HB3.out.trans (Ext.alloc _ o)).block (heap_alloc_new w _))
  have HX4 := Lib.hid (fun o => HX3.out.trans (Ext.alloc w3 o))
  clear HX3 HB3
  go_wp2_with fail
  refine bodyPost_ret (v := .tuple #[askV ask0 askS0, .int .i64 4]) (by simp [results, Try.results35, go_sem, askV, ask0, askS0, *]) rfl ⟨askS0, rfl, askOw0 _ _, ?_⟩
  repeat' (first | with_reducible exact HX4.out _ | with_reducible refine Ext.set' ?_ (by simp) _)
end Go.Proofs.Ytjmddiffeffgnaa

namespace Go.Proofs.Ytjmddiffeffgnaa
set_option linter.unusedVariables false
set_option linter.unusedSimpArgs false
set_option maxRecDepth 100000
set_option maxHeartbeats 4000000
open Go Go.RowKit Go.Out

theorem askGetOk (b : List UInt8) (m c : Nat) (bk off : Nat) (w : World) (hr : Rd w (some ⟨bk, off, none⟩) m (b.map cB)) (hc : m ≤ c) (hc63 : c ≤ 9223372036854775807) (hm0 : m ≠ 0) (hm2 : m ≤ 17000000000) (hbk : bk < w.heap.size) (g0 : w.cell? ⟨bk, off, none⟩ = some (.int .u8 (b0 b : Int))) (hp : codeP (b0 b : Nat)) (hs : sizedF b = 0) (a0 : AskD) (hsd : saidF b = some a0) (hK : checkF a0 = 0) :
    Calls Try.prog 35 #[.slice (some ⟨bk, off, none⟩) m c] w (RetGA w (a0, 0)) := by
  have hm : ((m : Int) == 0) = false := by simp; omega
  have hmp : 0 < m := by omega
  have HC : Hid (∀ W, Ext w W → Calls Try.prog 95 #[.slice (some ⟨bk, off, none⟩) m c] W (RetN W (sizedF b))) := fun W hX => sized_pdu b _ m c W (hr.ext hX) hm0 (by omega) hp
  have HR : Hid (∀ W, Ext w W → Calls Try.prog 96 #[.slice (some ⟨bk, off, none⟩) m c] W (RetRead W (saidF b))) := fun W hX => read_any b _ m c W (hr.ext hX) hc hc63 hm2 hp hs
  have hk : b0 b < 256 := by unfold b0; exact UInt8.toNat_lt _
  rw [hs] at HC
  rw [hsd] at HR
  generalize b0 b = k at *
  clear hr hs hsd
  go_enter Try.func35, Try.ntmps35
  go_wp2_with fail
  refine (shapeOf_any k _).mono ?_
  rintro e w1 ⟨rfl, hb⟩
  rw [decide_eq_true hp]
  unfold shapeV
  have HX := Lib.hid (fun o => (Ext.alloc w _).trans (hb.trans (Ext.alloc w1 o)))
  have HB := Lib.hid (fun o => hb.trans (Ext.alloc w1 o))
  clear hb
  go_wp2_with fail
  refine (HC.out _ (HX.out _)).mono ?_
  rintro e w2 ⟨rfl, rfl⟩
  go_wp2_with fail
  refine (HR.out _ (HX.out _)).mono ?_
  rintro e w3 ⟨a, t, rfl, hown, hb3⟩
  have hX3 := Ext.of hb3
  have HB3 := Lib.hid ((HB.out _).trans hX3)
  have HX3 := Lib.hid ((HX.out _).trans hX3)
  obtain ⟨rfl, ho⟩ := hown a0 rfl
  have hsz : w.heap.size + 1 ≤ w3.heap.size := by have := HB3.out.size; simpa using this
  have HO := Lib.hid (ho.mono (base' := w.heap.size + 1) (by have := (HB.out (.cells #[.int .i64 0] 3)).size; simp at this ⊢; omega))
  have HCK := Lib.hid (fun (W : World) (hX : Ext w3 W) => check_any a0 t W (ho.rd.ext hX))
  clear hown hb3 hX3 HX HB ho
  rw [hK] at HCK
  clear hK
  obtain ⟨code, addr, count, on, set, parts⟩ := a0
  obtain ⟨A1, n1, c1, A2, n2, c2, A3, n3, c3⟩ := t
  simp only [askV, Option.isSome] at HCK ⊢
  go_wp2_with fail
  refine (HCK.out _ (Ext.alloc _ _)).mono ?_
  rintro e w4 ⟨rfl, hb4⟩
  have hX4 := Ext.of hb4
  have f0 : w4.cell? ⟨w.heap.size, 0, none⟩ = some (.int .i64 0) := (cell_of_row _ _ _ _ _ _ ((HB3.out.trans ((Ext.alloc _ _).trans hX4)).block (heap_alloc_new w _))).trans rfl
  have u_0 := frozen_of_row w4 w.heap.size 0 _ _ ((HB3.out.trans ((Ext.alloc _ _).trans hX4)).block (heap_alloc_new w _))
  have f1 : w4.cell? ⟨w.heap.size, 1, none⟩ = some (.int .i64 0) := (cell_of_row _ _ _ _ _ _ ((HB3.out.trans ((Ext.alloc _ _).trans hX4)).block (heap_alloc_new w _))).trans rfl
  have u_1 := frozen_of_row w4 w.heap.size 1 _ _ ((HB3.out.trans ((Ext.alloc _ _).trans hX4)).block (heap_alloc_new w _))
  have f2 : w4.cell? ⟨w.heap.size, 2, none⟩ = some (.int .i64 0) := (cell_of_row _ _ _ _ _ _ ((HB3.out.trans ((Ext.alloc _ _).trans hX4)).block (heap_alloc_new w _))).trans rfl
  have u_2 := frozen_of_row w4 w.heap.size 2 _ _ ((HB3.out.trans ((Ext.alloc _ _).trans hX4)).block (heap_alloc_new w _))
  have f3 : w4.cell? ⟨w.heap.size, 3, none⟩ = some (.slice none 0 0) := (cell_of_row _ _ _ _ _ _ ((HB3.out.trans ((Ext.alloc _ _).trans hX4)).block (heap_alloc_new w _))).trans rfl
  have u_3 := frozen_of_row w4 w.heap.size 3 _ _ ((HB3.out.trans ((Ext.alloc _ _).trans hX4)).block (heap_alloc_new w _))
  have f4 : w4.cell? ⟨w.heap.size, 4, none⟩ = some (.slice none 0 0) := (cell_of_row _ _ _ _ _ _ ((HB3.out.trans ((Ext.alloc _ _).trans hX4)).block (heap_alloc_new w _))).trans rfl
  have u_4 := frozen_of_row w4 w.heap.size 4 _ _ ((HB3.out.trans ((Ext.alloc _ _).trans hX4)).block (heap_alloc_new w _))
  have f5 : w4.cell? ⟨w.heap.size, 5, none⟩ = some (.slice none 0 0) := (cell_of_row _ _ _ _ _ _ ((HB3.out.trans ((Ext.alloc _ _).trans hX4)).block (heap_alloc_new w _))).trans rfl
  have u_5 := frozen_of_row w4 w.heap.size 5 _ _ ((HB3.out.trans ((Ext.alloc _ _).trans hX4)).block (heap_alloc_new w _))
  obtain ⟨d0, d1, d2, d3, d4, d5⟩ := ask_cells _ hX4
  have HX4 := Lib.hid (HX3.out.trans ((Ext.alloc _ _).trans hX4))
  have HO4 := Lib.hid (HO.out.ext ((Ext.alloc _ _).trans hX4))
  clear hb4 hX4 HB3
  go_wp2_with fail
  refine bodyPost_ret (v := .tuple #[askV ⟨code, addr, count, on, set, parts⟩ ⟨A1, n1, c1, A2, n2, c2, A3, n3, c3⟩, .int .i64 0]) (by simp [results, Try.results35, go_sem, askV, *]) rfl ⟨⟨A1, n1, c1, A2, n2, c2, A3, n3, c3⟩, rfl, ?_, ?_⟩
  · refine AskOw.mono (base := w.heap.size + 1) ?_ (by omega)
    repeat' (first | with_reducible exact HO4.out | with_reducible refine AskOw.set_below ?_ (by simp) _)
  · repeat' (first | with_reducible exact HX4.out | with_reducible refine Ext.set' ?_ (by simp) _)
end Go.Proofs.Ytjmddiffeffgnaa

namespace Go.Proofs.Ytjmddiffeffgnaa
set_option linter.unusedVariables false
set_option linter.unusedSimpArgs false
set_option maxRecDepth 100000
set_option maxHeartbeats 4000000
open Go Go.RowKit Go.Out

theorem get_bad (b : List UInt8) (m c : Nat) (bk off : Nat) (w : World) (hr : Rd w (some ⟨bk, off, none⟩) m (b.map cB)) (hc : m ≤ c) (hc63 : c ≤ 9223372036854775807) (hm0 : m ≠ 0) (hm2 : m ≤ 17000000000) (hbk : bk < w.heap.size) (g0 : w.cell? ⟨bk, off, none⟩ = some (.int .u8 (b0 b : Int))) (hp : codeP (b0 b : Nat)) (hs : sizedF b = 0) (a0 : AskD) (hsd : saidF b = some a0) (K : Int) (hK : checkF a0 = K) (hne : (K != 0) = true) :
    Calls Try.prog 35 #[.slice (some ⟨bk, off, none⟩) m c] w (RetGA w (ask0, K)) := by
  have hm : ((m : Int) == 0) = false := by simp; omega
  have hmp : 0 < m := by omega
  have HC : Hid (∀ W, Ext w W → Calls Try.prog 95 #[.slice (some ⟨bk, off, none⟩) m c] W (RetN W (sizedF b))) := fun W hX => sized_pdu b _ m c W (hr.ext hX) hm0 (by omega) hp
  have HR : Hid (∀ W, Ext w W → Calls Try.prog 96 #[.slice (some ⟨bk, off, none⟩) m c] W (RetRead W (saidF b))) := fun W hX => read_any b _ m c W (hr.ext hX) hc hc63 hm2 hp hs
  have hk : b0 b < 256 := by unfold b0; exact UInt8.toNat_lt _
  rw [hs] at HC
  rw [hsd] at HR
  generalize b0 b = k at *
  clear hr hs hsd
  go_enter Try.func35, Try.ntmps35
  go_wp2_with fail
  refine (shapeOf_any k _).mono ?_
  rintro e w1 ⟨rfl, hb⟩
  rw [decide_eq_true hp]
  unfold shapeV
  have HX := Lib.hid (fun o => (Ext.alloc w _).trans (hb.trans (Ext.alloc w1 o)))
  have HB := Lib.hid (fun o => hb.trans (Ext.alloc w1 o))
  clear hb
  go_wp2_with fail
  refine (HC.out _ (HX.out _)).mono ?_
  rintro e w2 ⟨rfl, rfl⟩
  go_wp2_with fail
  refine (HR.out _ (HX.out _)).mono ?_
  rintro e w3 ⟨a, t, rfl, hown, hb3⟩
  have hX3 := Ext.of hb3
  have HB3 := Lib.hid ((HB.out _).trans hX3)
  have HX3 := Lib.hid ((HX.out _).trans hX3)
  obtain ⟨rfl, ho⟩ := hown a0 rfl
  have hsz : w.heap.size + 1 ≤ w3.heap.size := by have := HB3.out.size; simpa using this
  have HO := Lib.hid (ho.mono (base' := w.heap.size + 1) (by have := (HB.out (.cells #[.int .i64 0] 3)).size; simp at this ⊢; omega))
  have HCK := Lib.hid (fun (W : World) (hX : Ext w3 W) => check_any a0 t W (ho.rd.ext hX))
  clear hown hb3 hX3 HX HB ho
  rw [hK] at HCK
  clear hK
  obtain ⟨code, addr, count, on, set, parts⟩ := a0
  obtain ⟨A1, n1, c1, A2, n2, c2, A3, n3, c3⟩ := t
  simp only [askV, Option.isSome] at HCK ⊢
  go_wp2_with fail
  refine (HCK.out _ (Ext.alloc _ _)).mono ?_
  rintro e w4 ⟨rfl, hb4⟩
  have hX4 := Ext.of hb4
  have f0 : w4.cell? ⟨w.heap.size, 0, none⟩ = some (.int .i64 0) := (cell_of_row _ _ _ _ _ _ ((HB3.out.trans ((Ext.alloc _ _).trans hX4)).block (heap_alloc_new w _))).trans rfl
  have u_0 := frozen_of_row w4 w.heap.size 0 _ _ ((HB3.out.trans ((Ext.alloc _ _).trans hX4)).block (heap_alloc_new w _))
  have f1 : w4.cell? ⟨w.heap.size, 1, none⟩ = some (.int .i64 0) := (cell_of_row _ _ _ _ _ _ ((HB3.out.trans ((Ext.alloc _ _).trans hX4)).block (heap_alloc_new w _))).trans rfl
  have u_1 := frozen_of_row w4 w.heap.size 1 _ _ ((HB3.out.trans ((Ext.alloc _ _).trans hX4)).block (heap_alloc_new w _))
  have f2 : w4.cell? ⟨w.heap.size, 2, none⟩ = some (.int .i64 0) := (cell_of_row _ _ _ _ _ _ ((HB3.out.trans ((Ext.alloc _ _).trans hX4)).block (heap_alloc_new w _))).trans rfl
  have u_2 := frozen_of_row w4 w.heap.size 2 _ _ ((HB3.out.trans ((Ext.alloc _ _).trans hX4)).block (heap_alloc_new w _))
  have f3 : w4.cell? ⟨w.heap.size, 3, none⟩ = some (.slice none 0 0) := (cell_of_row _ _ _ _ _ _ ((HB3.out.trans ((Ext.alloc _ _).trans hX4)).block (heap_alloc_new w _))).trans rfl
  have u_3 := frozen_of_row w4 w.heap.size 3 _ _ ((HB3.out.trans ((Ext.alloc _ _).trans hX4)).block (heap_alloc_new w _))
  have f4 : w4.cell? ⟨w.heap.size, 4, none⟩ = some (.slice none 0 0) := (cell_of_row _ _ _ _ _ _ ((HB3.out.trans ((Ext.alloc _ _).trans hX4)).block (heap_alloc_new w _))).trans rfl
  have u_4 := frozen_of_row w4 w.heap.size 4 _ _ ((HB3.out.trans ((Ext.alloc _ _).trans hX4)).block (heap_alloc_new w _))
  have f5 : w4.cell? ⟨w.heap.size, 5, none⟩ = some (.slice none 0 0) := (cell_of_row _ _ _ _ _ _ ((HB3.out.trans ((Ext.alloc _ _).trans hX4)).block (heap_alloc_new w _))).trans rfl
  have u_5 := frozen_of_row w4 w.heap.size 5 _ _ ((HB3.out.trans ((Ext.alloc _ _).trans hX4)).block (heap_alloc_new w _))
  obtain ⟨d0, d1, d2, d3, d4, d5⟩ := ask_cells _ hX4
  have HX4 := Lib.hid (HX3.out.trans ((Ext.alloc _ _).trans hX4))
  clear hb4 hX4 HB3
  go_wp2_with fail
  refine bodyPost_ret (v := .tuple #[askV ask0 askS0, .int .i64 K]) (by simp [results, Try.results35, go_sem, askV, ask0, askS0, *]) rfl ⟨askS0, rfl, askOw0 _ _, ?_⟩
  repeat' (first | with_reducible exact HX4.out | with_reducible refine Ext.set' ?_ (by simp) _)
end Go.Proofs.Ytjmddiffeffgnaa

namespace Go.Proofs.Ytjmddiffeffgnaa
set_option linter.unusedVariables false
set_option linter.unusedSimpArgs false
set_option maxRecDepth 100000
set_option maxHeartbeats 4000000
open Go Go.RowKit Go.Out

theorem sizeF_le (b : List UInt8) : sizeF b ≤ 261 := by
  have h1 := (b.getD 1 0).toNat_lt; have h5 := (b.getD 5 0).toNat_lt
  unfold sizeF
  split
  · omega
  · split
    · split <;> omega
    · split <;> omega
theorem askGet_any (b : List UInt8) (A : Option Addr) (m c : Nat) (w : World) (hr : Rd w A m (b.map cB)) (hc : m ≤ c) (hc63 : c ≤ 9223372036854775807) (hm2 : m ≤ 9223372036854775807) :
    Calls Try.prog 35 #[.slice A m c] w (RetGA w (getA b)) := by
  have hl := hr.length
  rcases Nat.eq_zero_or_pos m with h0 | h0
  · subst h0
    rw [show getA b = (ask0, 1) by unfold getA; rw [if_pos hl]]
    exact get_none A c w
  · obtain ⟨bk, off, rfl, hbk, hcell⟩ := hr.u8all h0
    have g0 := hcell 0 h0
    rw [Nat.add_zero] at g0
    by_cases hp : codeP (b0 b : Nat)
    · by_cases hs : sizedF b = 0
      · have hm3 : m ≤ 17000000000 := by have h1 := (sizedF_zero.1 hs).2; have h2 := sizeF_le b; omega
        rw [getA_said (by omega) hp hs]
        cases hsd : saidF b with
        | none => exact get_form b m c bk off w hr hc hc63 (by omega) hm3 hbk g0 hp hs hsd
        | some a =>
          by_cases hK : checkF a = 0
          · simp only [ne_eq, hK, not_true_eq_false, ↓reduceIte]
            exact askGetOk b m c bk off w hr hc hc63 (by omega) hm3 hbk g0 hp hs a hsd hK
          · simp only [ne_eq, hK, not_false_eq_true, ↓reduceIte]
            exact get_bad b m c bk off w hr hc hc63 (by omega) hm3 hbk g0 hp hs a hsd _ rfl (by simpa using hK)
      · rw [getA_sized (by omega) hp hs]
        exact get_sized b m c bk off w hr (by omega) hm2 hbk g0 hp hs
    · rw [getA_code (by omega) hp]
      exact get_code (b0 b) m c bk off w h0 hbk g0 (by unfold b0; exact UInt8.toNat_lt _) hp
end Go.Proofs.Ytjmddiffeffgnaa
