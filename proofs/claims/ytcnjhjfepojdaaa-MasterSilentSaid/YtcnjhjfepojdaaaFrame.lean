/- Contracts of the frames on a line: Rtu, and the reference's. -/
import Derived.Test.YtcnjhjfepojdaaaStreamLaw
import Derived.Test.YtcnjhjfepojdaaaSums6
namespace Go.Proofs.Ytcnjhjfepojdaaa
set_option linter.unusedVariables false
open Go Go.RowKit Go.Out

theorem copy_u8 {ops : Array Oper} {rest : List Oper} {o : Oper} {a : Act} {Q : Exit → Act → World → Prop} (w : World) (hgd : o.guard = none) (d s : Operand)
    (ho : o.op = .call { callee := .builtin .copy, args := #[d, s], argTypes := #[34, 34] })
    {g off dLen dCap sLen sCap : Nat} {A : Option Addr} {cur : Array Value} {cs : List UInt8} {t : TypeId} (hd : a.eval d = .slice (some ⟨g, off, none⟩) dLen dCap) (hs : a.eval s = .slice A sLen sCap)
    (hg : w.heap[g]? = some (.cells cur t (0, 0))) (hr : Rd w A sLen (cs.map cB)) (hle : sLen ≤ dLen) (hfit : off + sLen ≤ cur.size)
    (h : ∀ w', w'.heap[g]? = some (.cells (cur.toList.take off ++ cs.map cB ++ cur.toList.drop (off + sLen)).toArray t (0, 0)) → w.grownBy w' (some g) → wpList Try.prog ops Q rest (a.put o.dst (.int .i64 (sLen : Int))) w') :
    wpList Try.prog ops Q (o :: rest) a w :=
  wpList_copy_Rd w hgd d s _ _ ho 5 Try.underlying34 (by kernel_rfl) hd hs hg hr hle hfit (fun v hv => isU8_one (isU8_map v hv)) h

theorem head_copied (m : Nat) (v z : Value) (l : List Value) :
    (List.take 1 ((Array.replicate (1 + m) z).setIfInBounds 0 v).toList ++ l ++ List.drop (1 + m) ((Array.replicate (1 + m) z).setIfInBounds 0 v).toList) = v :: l := by
  rw [Array.toList_setIfInBounds, Array.toList_replicate, Nat.add_comm 1 m, List.replicate_succ, List.set_cons_zero]
  simp
theorem isUnit_any (U : Nat) (w : World) :
    Calls Try.prog 19 #[.int .u8 U] w fun e w' => e = .returned (.bool (decide (1 ≤ U ∧ U ≤ 247))) ∧ w = w' := by
  rcases Nat.lt_or_ge U 1 with h | h
  · rw [show decide (1 ≤ U ∧ U ≤ 247) = false from by simp; omega]
    obtain rfl : U = 0 := by omega
    go_enter Try.func19, Try.ntmps19
    go_wp2_with fail
    go_ret
    exact ⟨rfl, rfl⟩
  · rcases Nat.lt_or_ge 247 U with h2 | h2
    · rw [show decide (1 ≤ U ∧ U ≤ 247) = false from by simp; omega]
      go_enter Try.func19, Try.ntmps19
      go_wp2_with fail
      go_ret
      exact ⟨ret_bool (by simp; omega), rfl⟩
    · rw [show decide (1 ≤ U ∧ U ≤ 247) = true from by simp; omega]
      go_enter Try.func19, Try.ntmps19
      go_wp2_with fail
      go_ret
      exact ⟨ret_bool (by simp; omega), rfl⟩

theorem sized_any (A : Option Addr) (m c : Nat) (w : World) :
    Calls Try.prog 20 #[.slice A m c] w fun e w' => e = .returned (.int .i64 (szF m)) ∧ w = w' := by
  unfold szF
  rcases Nat.eq_zero_or_pos m with h | h
  · subst h
    go_enter Try.func20, Try.ntmps20
    go_wp2_with fail
    go_ret
    exact ⟨rfl, rfl⟩
  · have ht : ((m : Int) == 0) = false := by simp; omega
    rw [if_neg (by omega)]
    have h0 : ¬ m = 0 := by omega
    rcases Nat.lt_or_ge 253 m with h2 | h2
    · rw [if_pos h2]
      go_enter Try.func20, Try.ntmps20
      go_wp2_with fail
      go_ret
      exact ⟨rfl, rfl⟩
    · rw [if_neg (by omega)]
      go_enter Try.func20, Try.ntmps20
      go_wp2_with fail
      go_ret
      exact ⟨rfl, rfl⟩

theorem rtu_any (u : UInt8) (b : List UInt8) (A : Option Addr) (m c : Nat) (w : World) (hr : Rd w A m (b.map cB)) (hm : m ≤ 140737488355200) :
    Calls Try.prog 9 #[.int .u8 (u.toNat : Int), .slice A m c] w (RetS w 5 (rtuF u b)) := by
  have hl := hr.length
  have Hr := Lib.hid hr; clear hr
  have Hu0 := Lib.hid (@rtuF_unit u b); have Hu1 := Lib.hid (@rtuF_size u b); have Hu2 := Lib.hid (@rtuF_ok u b)
  rw [hl] at Hu1 Hu2
  have hcu : cB u = .int .u8 (u.toNat : Int) := rfl
  have hU := u.toNat_lt
  generalize rtuF u b = R at *
  have hs : (sealF 2 (more16 65535) (u :: b)).map cB = (sealF 2 (more16 65535) (u :: b)).map cB := rfl
  generalize hUe : u.toNat = U at *
  have HUe := Lib.hid hUe; have Hcu := Lib.hid hcu; clear hUe hcu hs
  by_cases hun : U < 1 ∨ 247 < U
  · rw [Hu0.out hun]
    clear Hu0 Hu1 Hu2
    rcases hun with h | h
    all_goals
      go_enter Try.func9, Try.ntmps9
      go_wp2_with fail
      refine (isUnit_any _ _).mono ?_
      rintro e w1 ⟨rfl, rfl⟩
      rw [show decide (1 ≤ U ∧ U ≤ 247) = false from by simp; omega]
      go_wp2_with fail
      go_ret2
      exact ⟨_, _, _, rfl, Own.nil_ _ _ _ _, Below.refl _ _⟩
  · have h1 : 1 ≤ U := by omega
    have h1' : ¬ U < 1 := by omega
    have h2 : U ≤ 247 := by omega
    have h2' : ¬ 247 < U := by omega
    by_cases hsz : szF m = 0
    · have hm1 : 1 ≤ m ∧ m ≤ 253 := by unfold szF at hsz; split at hsz; omega; split at hsz <;> omega
      rw [Hu2.out hun hsz]
      clear Hu0 Hu1 Hu2 hun
      have Hl := Lib.hid hl; clear hl
      have hmk : ∀ W : World, (Instr.makeSlice 34 (.int .i64 (1 + (m : Int))) (.int .i64 (1 + (m : Int)))).run Try.prog W = .ok (.slice (some ⟨W.heap.size, 0, none⟩) (1 + m) (1 + m)) (W.alloc (.cells (Array.replicate (1 + m) (.int .u8 0)) 5)) :=
        fun W => by have := run_make1 (P := Try.prog) 34 5 (.int .u8 0) 1 Try.underlying34 info_u8 rfl (1 + m) (by omega) (by omega) W; simpa using this
      have hh0 : (w.alloc (.cells (Array.replicate (1 + m) (Value.int .u8 0)) 5)).heap[w.heap.size]? = _ := heap_alloc_new w _
      obtain ⟨old, hce⟩ := heap_cell (k := 0) hh0 (by simp; omega)
      have hfz := frozen_of_row _ w.heap.size 0 _ _ hh0
      have hb0 : Below w.heap.size w (w.alloc (.cells (Array.replicate (1 + m) (Value.int .u8 0)) 5)) := (Below.refl _ _).alloc (Nat.le_refl _) _
      have hb1 : Below w.heap.size w (w.alloc (.cells ((Array.replicate (1 + m) (Value.int .u8 0)).setIfInBounds 0 (.int .u8 (U : Int))) 5)) := (Below.refl _ _).alloc (Nat.le_refl _) _
      have Hra := Lib.hid (Hr.out.below hb1)
      have Hh0 := Lib.hid hh0; have Hb0 := Lib.hid hb0; have Hb1 := Lib.hid hb1; clear hh0 hb0 hb1
      have htz : ((0 : Int) != 0) = false := rfl
      go_enter Try.func9, Try.ntmps9
      go_wp2_with fail
      refine (isUnit_any _ _).mono ?_
      rintro e w1 ⟨rfl, rfl⟩
      rw [show decide (1 ≤ U ∧ U ≤ 247) = true from by simp; omega]
      go_wp2_with fail
      refine (sized_any _ _ _ _).mono ?_
      rintro e w1 ⟨rfl, rfl⟩
      rw [hsz]
      go_wp2_with (refine copy_u8 _ rfl (.tmp 24) (.tmp 25) rfl rfl rfl (heap_alloc_new _ _) Hra.out (by omega) (by simp) ?_; intro w1 hh1 hg1)
      have hrow : Rd w1 (some ⟨w.heap.size, 0, none⟩) (1 + m) ((u :: b).map cB) := Rd.of_heap hh1 (ys := []) (by rw [List.map_cons, Hcu.out, List.append_nil]; exact head_copied m _ _ _) (by have := Hl.out; simp; omega)
      have hbb : Below w.heap.size w w1 := Hb1.out.grown hg1 (by simp) (by simp)
      have Hrow := Lib.hid hrow; have Hbb := Lib.hid hbb; clear hrow hbb
      have hzz := Hbb.out.size
      refine (seal16_any (u :: b) _ _ _ _ Hrow.out (by omega)).mono ?_
      rintro e w2 ⟨A2, c2, rfl, ho, hb2⟩
      go_wp2_with fail
      go_ret2
      exact ⟨_, _, _, rfl, ho.mono hzz, Hbb.out.trans (hb2.mono hzz)⟩
    · rw [Hu1.out hun hsz]
      clear Hu0 Hu1 Hu2 hun
      have ht : (szF m != 0) = true := by simp [hsz]
      go_enter Try.func9, Try.ntmps9
      go_wp2_with fail
      refine (isUnit_any _ _).mono ?_
      rintro e w1 ⟨rfl, rfl⟩
      rw [show decide (1 ≤ U ∧ U ≤ 247) = true from by simp; omega]
      go_wp2_with fail
      refine (sized_any _ _ _ _).mono ?_
      rintro e w1 ⟨rfl, rfl⟩
      go_wp2_with fail
      go_ret2
      exact ⟨_, _, _, rfl, Own.nil_ _ _ _ _, Below.refl _ _⟩

end Go.Proofs.Ytcnjhjfepojdaaa
