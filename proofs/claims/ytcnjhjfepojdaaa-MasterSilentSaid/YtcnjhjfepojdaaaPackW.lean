/- Contracts of pack.Bytes, pack.Words and of the document's: what each call returns; nothing that was there turns. -/
import Derived.Test.YtcnjhjfepojdaaaPack2
import Derived.Test.YtcnjhjfepojdaaaKitW
import Derived.Test.YtcnjhjfepojdaaaBitBack
namespace Go.Proofs.Ytcnjhjfepojdaaa
set_option linter.unusedVariables false
set_option maxRecDepth 100000
open Go Go.RowKit Go.Out

theorem step_u16 {ops : Array Oper} {o : Oper} {a : Act} {w : World} {K : Act → World → Prop} {Q : Exit → Act → World → Prop} {E : Prop} (hgd : o.guard = none) (s x : Operand)
    (ho : o.op = .call { callee := .builtin .append, args := #[s, x], argTypes := #[23, 23] })
    {base : Nat} {A : Option Addr} {n c : Nat} {xs : List Value} (hs : a.eval s = .slice A n c) (hown : Own w base 67 IsU16 A n c xs)
    {A' : Option Addr} {m c' : Nat} {news : List Value} (hx : a.eval x = .slice A' m c') (hr : Rd w A' m news) (hnp : ∀ u ∈ news, IsU16 u) (hsz : n + m ≤ 70368744177664) (hbase : base ≤ w.heap.size)
    (h : ∀ A1 c1 w1, Own w1 base 67 IsU16 A1 (n + m) c1 (xs ++ news) → w.grownBy w1 (blk A) → (blk A1 = blk A ∨ blk A1 = some w.heap.size) → K (a.put o.dst (.slice A1 (n + m) c1)) w1) :
    if Region.wanted o (yielded ops a.tmps) = true then Oper.wp Try.prog o a w K Q else E :=
  step_append_Own hgd s x _ ho IsU16 base _ (.int .u16 0) 2 Try.underlying23 info_u16 rfl ⟨0, rfl⟩ (fun _ => isU16_one) A n c xs hs hown A' m c' news hx hr hnp (by omega) (by omega) hbase h

theorem bytes_any (l : List UInt16) (A : Option Addr) (m c : Nat) (w : World) (hr : Rd w A m (l.map cW)) (hm : m ≤ 70368744177664) :
    Calls Try.prog 30 #[.slice A m c] w (RetOwn w 5 IsU8 (2 * m) ((wb l).map cB)) := by
  have Hr := Lib.hid hr; clear hr
  have hmk : ∀ W : World, (Instr.makeSlice 34 (.int .i64 0) (.int .i64 (2 * (m : Int)))).run Try.prog W = .ok (.slice (some ⟨W.heap.size, 0, none⟩) 0 (2 * m)) (W.alloc (.cells (Array.replicate (2 * m) (.int .u8 0)) 5)) :=
    fun W => by have := run_make0 (P := Try.prog) 34 5 (.int .u8 0) 1 Try.underlying34 info_u8 rfl (2 * m) (by omega) (by omega) W; simpa using this
  go_enter Try.func30, Try.ntmps30
  go_wp2_with fail
  go_loopw [3, 12] (fun v i wr => ∃ (k c : Nat) (A : Option Addr), k ≤ m ∧ i = .int .i64 k ∧ v = .slice A (2 * k) c ∧ Own wr w.heap.size 5 IsU8 A (2 * k) c ((wb (l.take k)).map cB) ∧ Below w.heap.size w wr) (fun _ i _ => m - (intOf i).toNat)
  case atStart => exact ⟨0, 2 * m, _, Nat.zero_le _, rfl, rfl, Own.made (Nat.le_refl _) (by omega) ⟨0, rfl⟩, (Below.refl _ _).alloc (Nat.le_refl _) _⟩
  case round =>
    obtain ⟨k, c1, A1, hk, rfl, rfl, hown, hbel⟩ := hrel
    by_cases hlt : k < m
    · obtain ⟨b1, o1, rfl, -, hl1, hc1⟩ := ((Hr.out).below hbel).u16at hlt
      have hbs := hbel.size
      go_wp2_with (at_builtin; refine app_u8 _ rfl (.tmp 16) (.tmp 22) rfl rfl (hown.alloc _) rfl (Rd.two _ _ _ _) (by intro u hu; simp at hu; rcases hu with rfl | rfl <;> exact isU8_of (by omega) (by omega)) (by omega) (by simp; omega) ?_; intro A2 c2 w2 hown2 hg2 hb2)
      go_roundw
      case rel => exact ⟨k + 1, c2, A2, by omega, by go_num, by rw [show 2 * (k + 1) = 2 * k + 2 from by omega], by rw [wb_snoc _ _ hl1, List.map_append, show 2 * (k + 1) = 2 * k + 2 from by omega, List.map_cons, List.map_cons, List.map_nil, u8_ofNat, u8_ofNat]; simpa using hown2, below_app hbel hbs hg2 (fun g hg => (hown.lt g hg).1)⟩
      case measure => simp [intOf]; omega
    · obtain rfl : k = m := by omega
      go_wp2
      go_ret
      exact ⟨_, _, rfl, by rw [List.take_of_length_le (by have := Hr.out.length; omega)] at hown; exact hown, hbel⟩

theorem words_ok (b : List UInt8) (A : Option Addr) (m c : Nat) (w : World) (hr : Rd w A m (b.map cB)) (hm : m ≤ 140737488355328) (he : m % 2 = 0) :
    Calls Try.prog 43 #[.slice A m c] w fun e w' => ∃ A' c', e = .returned (.tuple #[.slice A' (m / 2) c', .int .i64 0]) ∧ Own w' w.heap.size 67 IsU16 A' (m / 2) c' ((bw b).map cW) ∧ Below w.heap.size w w' := by
  have Hr := Lib.hid hr; clear hr
  have hmk : ∀ W : World, (Instr.makeSlice 23 (.int .i64 ((m : Int) / 2)) (.int .i64 ((m : Int) / 2))).run Try.prog W = .ok (.slice (some ⟨W.heap.size, 0, none⟩) (m / 2) (m / 2)) (W.alloc (.cells (Array.replicate (m / 2) (.int .u16 0)) 67)) :=
    fun W => by have := run_make1 (P := Try.prog) 23 67 (.int .u16 0) 2 Try.underlying23 info_u16 rfl (m / 2) (by omega) (by omega) W; simpa using this
  have ht : ((m : Int) % 2 != 0) = false := by simp; omega
  go_enter Try.func43, Try.ntmps43
  go_wp2_with fail
  have Hm := Lib.hid he; clear he
  go_loopw [16] (fun i wr => ∃ (k : Nat) (cur : Array Value), k ≤ m / 2 ∧ i = .int .i64 k ∧ wr.heap[w.heap.size]? = some (.cells cur 67 (0, 0)) ∧ Hid (cur.toList = ((bw b).map cW).take k ++ List.replicate (m / 2 - k) (Value.int .u16 0)) ∧ Hid (cur.size = m / 2) ∧ Below w.heap.size w wr) (fun i _ => m / 2 - (intOf i).toNat)
  case atStart => exact ⟨0, _, Nat.zero_le _, rfl, heap_alloc_new w _, by simp [Hid], by simp [Hid], (Below.refl _ _).alloc (Nat.le_refl _) _⟩
  case round =>
    obtain ⟨k, cur, hk, rfl, hh, hcur, Hcs, hbel⟩ := hrel
    by_cases hlt : k < m / 2
    · obtain ⟨b1, o1, rfl, hb1, hl1, hc1⟩ := Hr.out.u8in hbel (k := 2 * k) (by omega)
      obtain ⟨_, _, e2, _, hl2, hc2⟩ := Hr.out.u8in hbel (k := 2 * k + 1) (by omega)
      injection e2 with e2; injection e2 with e2 e3; subst e2; subst e3
      obtain ⟨old, hce⟩ := heap_cell (k := k) hh (by have := Hcs.out; omega)
      have hfz := frozen_of_row wr w.heap.size k cur _ hh
      have Hh := Lib.hid hh; clear hh
      go_wp2_with fail
      have e1 : IntKind.i64.wrap (2 * (k : Int)) = 2 * (k : Int) := IntWalk.i64_in _ (by omega)
      have e2 : IntKind.i64.wrap (2 * (k : Int) + 1) = 2 * (k : Int) + 1 := IntWalk.i64_in _ (by omega)
      have e3 : 0 ≤ 2 * (k : Int) := by omega
      have e4 : 2 * (k : Int) < (m : Int) := by omega
      have e5 : (2 * (k : Int)).toNat = 2 * k := by omega
      have e6 : 0 ≤ 2 * (k : Int) + 1 := by omega
      have e7 : 2 * (k : Int) + 1 < (m : Int) := by omega
      have e8 : (2 * (k : Int) + 1).toNat = 2 * k + 1 := by omega
      have e9 : k < m / 2 := hlt
      go_still_tail 18, (by kernel_rfl)
      clear e1 e2 e3 e4 e5 e6 e7 e8
      go_wp2
      go_roundw
      case rel => exact ⟨k + 1, _, by omega, by go_num, heap_setCell_same _ _ _ _ _ _ Hh.out, fill_step hcur (by simp [bw_length, Hr.out.length]) (by rw [bw_get' b k hl2, word_or]), by have := Hcs.out; simp [Hid]; omega, (hbel.setCell (Nat.le_refl _) _).drew⟩
      case measure => simp [intOf]; omega
    · obtain rfl : k = m / 2 := by omega
      have Hh := Lib.hid hh; clear hh
      go_wp2_with fail
      go_ret2
      have hl : (bw b).length = m / 2 := by rw [bw_length, Hr.out.length]
      exact ⟨_, _, rfl, Own.words (Nat.le_refl _) Hh.out (by rw [hcur.out, Nat.sub_self, List.replicate_zero, List.append_nil, List.take_of_length_le (by simp [hl])]) hl (by unfold maxLen; omega), hbel⟩

theorem words_no (A : Option Addr) (m c : Nat) (w : World) (he : m % 2 = 1) :
    Calls Try.prog 43 #[.slice A m c] w fun e w' => e = .returned (.tuple #[.slice none 0 0, .int .i64 22]) ∧ Below w.heap.size w w' := by
  have ht : ((m : Int) % 2 != 0) = true := by simp; omega
  clear he
  go_enter Try.func43, Try.ntmps43
  go_wp2_with fail
  go_ret2
  exact ⟨rfl, Below.refl _ _⟩

/-- A call that hands back words of its own and an error's number. -/
def RetW (w : World) (t : TypeId) (l : List UInt16) (err : Int) (e : Ending) (w' : World) : Prop :=
  ∃ A n c, e = .returned (.tuple #[.slice A n c, .int .i64 err]) ∧ Own w' w.heap.size t IsU16 A n c (l.map cW) ∧ Below w.heap.size w w'

theorem words_any (b : List UInt8) (A : Option Addr) (m c : Nat) (w : World) (hr : Rd w A m (b.map cB)) (hm : m ≤ 140737488355328) :
    Calls Try.prog 43 #[.slice A m c] w (RetW w 67 (wordsF b).1 (wordsF b).2) := by
  have hl := hr.length
  rcases Nat.mod_two_eq_zero_or_one m with h | h
  · unfold wordsF; rw [if_neg (by omega)]
    refine (words_ok b A m c w hr hm h).mono ?_
    rintro e w' ⟨A', c', rfl, ho, hb⟩
    exact ⟨_, _, _, rfl, ho, hb⟩
  · unfold wordsF; rw [if_pos (by omega)]
    refine (words_no A m c w h).mono ?_
    rintro e w' ⟨rfl, hb⟩
    exact ⟨_, _, _, rfl, Own.nil_ _ _ _ _, hb⟩

end Go.Proofs.Ytcnjhjfepojdaaa
