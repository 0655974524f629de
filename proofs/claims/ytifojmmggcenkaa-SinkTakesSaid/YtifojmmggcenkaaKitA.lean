/- Contracts of functions of the given program, and plain lemmas: what each call returns and what it leaves as it was; used by the claim's last text. -/
import Derived.Test.YtifojmmggcenkaaChecked
import Derived.Test.YtifojmmggcenkaaBase
namespace Go.Proofs.Ytifojmmggcenkaa
set_option linter.unusedVariables false
open Go Go.RowKit Go.Out

theorem info_u8 : (Try.prog.info? 5).map (fun i => (i.zero, i.size, i.bytes)) = some (some (.int .u8 0), 1, 1) := by kernel_rfl

theorem same_any (a b : List UInt8) (A B : Option Addr) (n m ca cb : Nat) (w : World) (ha : Rd w A n (a.map cB)) (hb : Rd w B m (b.map cB)) (hn : n ≤ maxLen) :
    Calls Try.prog 19 #[.slice A n ca, .slice B m cb] w fun e w' => e = .returned (.bool (decide (a = b))) ∧ Below w.heap.size w w' := by
  unfold maxLen at hn
  have hla : a.length = n := by have := ha.1; simpa using this
  have hlb : b.length = m := by have := hb.1; simpa using this
  by_cases hnm : n = m
  · subst hnm
    have Ha := Lib.hid ha; have Hb := Lib.hid hb; have Hla := Lib.hid hla; have Hlb := Lib.hid hlb; clear ha hb hla hlb
    go_enter Try.func19, Try.ntmps19
    go_wp2
    go_loopw [5] (fun i wr => ∃ k : Nat, k ≤ n ∧ i = .int .i64 k ∧ Below w.heap.size w wr ∧ Hid (a.take k = b.take k)) (fun i _ => n - (intOf i).toNat)
    case atStart => exact ⟨0, Nat.zero_le _, rfl, Below.refl _ _, by simp [Hid]⟩
    case round =>
      obtain ⟨k, hk, rfl, hbel, htk⟩ := hrel
      by_cases hlt : k < n
      · obtain ⟨b1, o1, rfl, -, hl1, hc1⟩ := ((Ha.out).below hbel).u8at hlt
        obtain ⟨b2, o2, rfl, -, hl2, hc2⟩ := ((Hb.out).below hbel).u8at hlt
        by_cases heq : a[k] = b[k]
        · have ht : ((a[k].toNat : Int) != (b[k].toNat : Int)) = false := by simp [heq]
          go_wp2
          go_quiet (fail)
          go_wp2
          go_roundw
          case rel => exact ⟨k + 1, by omega, by go_num, below_drewN hbel _, by unfold Hid at htk ⊢; rw [List.take_succ_eq_append_getElem hl1, List.take_succ_eq_append_getElem hl2]; simp [htk, heq]⟩
          case measure => simp [intOf]; omega
        · have ht : ((a[k].toNat : Int) != (b[k].toNat : Int)) = true := by simp; intro h; exact heq (UInt8.toNat.inj (by omega))
          go_wp2
          go_quiet (fail)
          go_wp2
          go_ret
          exact ⟨ret_bool (by symm; rw [decide_eq_false_iff_not]; intro h; subst h; exact heq rfl), below_drewN hbel _⟩
      · go_wp2
        go_ret
        exact ⟨ret_bool (by symm; rw [decide_eq_true_eq]; have h := htk.out; rwa [List.take_of_length_le (by have := Hla.out; omega), List.take_of_length_le (by have := Hlb.out; omega)] at h), hbel⟩
  · have H := Lib.hid hla; clear hla
    have H' := Lib.hid hlb; clear hlb
    have ht : ((n : Int) != (m : Int)) = true := by simp; omega
    go_enter Try.func19, Try.ntmps19
    go_wp2
    go_ret
    exact ⟨by simp; intro h; subst h; exact hnm (H.out.symm.trans H'.out), Below.refl _ _⟩

theorem app_u8 {ops : Array Oper} {rest : List Oper} {o : Oper} {a : Act} {Q : Exit → Act → World → Prop} (w : World) (hgd : o.guard = none) (s x : Operand)
    (ho : o.op = .call { callee := .builtin .append, args := #[s, x], argTypes := #[27, 27] })
    {base : Nat} {A : Option Addr} {n c : Nat} {xs : List Value} (hs : a.eval s = .slice A n c) (hown : Own w base 5 IsU8 A n c xs)
    {A' : Option Addr} {m c' : Nat} {news : List Value} (hx : a.eval x = .slice A' m c') (hr : Rd w A' m news) (hnp : ∀ u ∈ news, IsU8 u) (hsz : n + m ≤ 140737488355328) (hbase : base ≤ w.heap.size)
    (h : ∀ A1 c1 w1, Own w1 base 5 IsU8 A1 (n + m) c1 (xs ++ news) → w.grownBy w1 (blk A) → (blk A1 = blk A ∨ blk A1 = some w.heap.size) → wpList Try.prog ops Q rest (a.put o.dst (.slice A1 (n + m) c1)) w1) : wpList Try.prog ops Q (o :: rest) a w :=
  wpList_append_Own w hgd s x _ ho IsU8 base _ (.int .u8 0) 1 Try.underlying27 info_u8 rfl ⟨0, rfl⟩ (fun _ => isU8_one) A n c xs hs hown A' m c' news hx hr hnp (by omega) (by omega) hbase h

theorem lent_any (l : List UInt8) (A : Option Addr) (n c : Nat) (w : World) (hr : Rd w A n (l.map cB)) (hn : n ≤ 140737488355328) :
    Calls Try.prog 18 #[.slice A n c] w fun e w' => ∃ g cur, e = .returned (.slice (some ⟨g, 0, none⟩) n (n + 5)) ∧ w.heap.size ≤ g ∧ w'.heap[g]? = some (.cells cur 5 (0, 0)) ∧ cur.toList = l.map cB ++ List.replicate 5 (.int .u8 165) ∧ Below w.heap.size w w' := by
  have hl : l.length = n := by have := hr.1; simpa using this
  have Hr := Lib.hid hr; have Hl := Lib.hid hl; clear hr hl
  have hmk : ∀ W : World, (Instr.makeSlice 27 (.int .i64 ((n : Int) + 5)) (.int .i64 ((n : Int) + 5))).run Try.prog W = .ok (.slice (some ⟨W.heap.size, 0, none⟩) (n + 5) (n + 5)) (W.alloc (.cells (Array.replicate (n + 5) (.int .u8 0)) 5)) :=
    fun W => by have := run_make1 (P := Try.prog) 27 5 (.int .u8 0) 1 Try.underlying27 info_u8 rfl (n + 5) (by omega) (by omega) W; simpa using this
  go_enter Try.func18, Try.ntmps18
  go_wp2
  have HT : Hid ((l.map cB ++ List.replicate 5 (Value.int .u8 165)).length = n + 5) := by have := Hl.out; simp [Hid]; omega
  go_loopw [4] (fun i wr => ∃ (k : Nat) (cur : Array Value), k ≤ n ∧ i = .int .i64 k ∧ wr.heap[w.heap.size]? = some (.cells cur 5 (0, 0)) ∧ Hid (cur.toList = (l.map cB ++ List.replicate 5 (Value.int .u8 165)).take k ++ List.replicate (n + 5 - k) (.int .u8 0)) ∧ Hid (cur.size = n + 5) ∧ Below w.heap.size w wr) (fun i _ => n - (intOf i).toNat)
  case atStart => exact ⟨0, Array.replicate (n + 5) (.int .u8 0), Nat.zero_le _, rfl, heap_alloc_new w _, by simp [Hid], by simp [Hid], (Below.refl _ _).alloc (Nat.le_refl _) _⟩
  case round =>
    obtain ⟨k, cur, hk, rfl, hh, hcur, Hcs, hbel⟩ := hrel
    by_cases hlt : k < n
    · obtain ⟨b1, o1, rfl, -, hl1, hc1⟩ := ((Hr.out).below hbel).u8at hlt
      obtain ⟨old, hce⟩ := heap_cell (k := k) hh (by have := Hcs.out; omega)
      have hfz := frozen_of_row wr w.heap.size k cur _ hh
      have Hh := Lib.hid hh; clear hh
      go_wp2
      go_roundw
      case rel => exact ⟨k + 1, cur.setIfInBounds k (.int .u8 (l[k].toNat : Int)), by omega, by go_num, heap_setCell_same _ _ _ _ _ _ Hh.out, fill_step hcur HT.out (by rw [List.getElem?_append_left (by simpa using hl1)]; simp [hl1, cB]), by have := Hcs.out; simp [Hid]; omega, hbel.setCell (Nat.le_refl _) _⟩
      case measure => simp [intOf]; omega
    · obtain rfl : k = n := by omega
      have Hh := Lib.hid hh; clear hh
      go_wp2
      go_loopw [5] (fun i wr => ∃ (j : Nat) (cur : Array Value), k ≤ j ∧ j ≤ k + 5 ∧ i = .int .i64 j ∧ wr.heap[w.heap.size]? = some (.cells cur 5 (0, 0)) ∧ Hid (cur.toList = (l.map cB ++ List.replicate 5 (Value.int .u8 165)).take j ++ List.replicate (k + 5 - j) (.int .u8 0)) ∧ Hid (cur.size = k + 5) ∧ Below w.heap.size w wr) (fun i _ => k + 5 - (intOf i).toNat)
      case atStart => exact ⟨k, cur, Nat.le_refl _, by omega, rfl, Hh.out, hcur, Hcs, hbel⟩
      case round =>
        obtain ⟨j, cur', hj1, hj2, rfl, hh', hcur', Hcs', hbel'⟩ := hrel
        by_cases hlt' : j < k + 5
        · obtain ⟨old, hce⟩ := heap_cell (k := j) hh' (by have := Hcs'.out; omega)
          have hfz := frozen_of_row _ w.heap.size j cur' _ hh'
          have Hh' := Lib.hid hh'; clear hh'
          go_wp2
          go_roundw
          case rel => exact ⟨j + 1, cur'.setIfInBounds j (.int .u8 165), by omega, by omega, by go_num, heap_setCell_same _ _ _ _ _ _ Hh'.out, fill_step hcur' HT.out (by have := Hl.out; rw [List.getElem?_append_right (by simp; omega), List.getElem?_replicate, if_pos (by simp; omega)]), by have := Hcs'.out; simp [Hid]; omega, hbel'.setCell (Nat.le_refl _) _⟩
          case measure => simp [intOf]; omega
        · obtain rfl : j = k + 5 := by omega
          have Hh' := Lib.hid hh'; clear hh'
          go_wp2
          go_ret
          exact ⟨_, cur', rfl, Nat.le_refl _, Hh'.out, by have h := hcur'.out; rwa [Nat.sub_self, List.replicate_zero, List.append_nil, List.take_of_length_le (by rw [HT.out]; exact Nat.le_refl _)] at h, hbel'⟩

theorem kept_any (l : List UInt8) (A : Option Addr) (n c g : Nat) (cur : Array Value) (w : World) (hr : Rd w A n (l.map cB)) (hh : w.heap[g]? = some (.cells cur 5 (0, 0))) (hcur : cur.toList = l.map cB ++ List.replicate 5 (.int .u8 165)) (hn : n ≤ 140737488355328) :
    Calls Try.prog 21 #[.slice (some ⟨g, 0, none⟩) n (n + 5), .slice A n c] w fun e w' => e = .returned (.bool true) ∧ Below w.heap.size w w' := by
  have hl : l.length = n := by have := hr.1; simpa using this
  have hrg : Rd w (some ⟨g, 0, none⟩) n (l.map cB) := ⟨by simpa using hl, fun _ => ⟨g, 0, rfl, lt_of_heap hh, fun j u hu => by
    rw [cell_of_row _ _ _ _ _ _ hh, ← Array.getElem?_toList, hcur, Nat.zero_add, List.getElem?_append_left (by have := (List.getElem?_eq_some_iff.1 hu).1; omega)]; exact hu⟩⟩
  have hcs : cur.size = n + 5 := by rw [← Array.length_toList, hcur]; simp [hl]
  have hsp : ∀ j, n ≤ j → j < n + 5 → w.cell? ⟨g, j, none⟩ = some (.int .u8 165) := fun j h1 h2 => by
    rw [cell_of_row _ _ _ _ _ _ hh, ← Array.getElem?_toList, hcur, List.getElem?_append_right (by simp; omega), List.getElem?_replicate, if_pos (by simp; omega)]
  have hlt := lt_of_heap hh
  have Hr := Lib.hid hr; have Hrg := Lib.hid hrg; have Hsp := Lib.hid hsp; clear hr hrg hsp hl hh hcur hcs
  go_enter Try.func21, Try.ntmps21
  go_wp2_with fail
  refine (same_any l l _ _ _ _ _ _ _ Hrg.out Hr.out (by unfold maxLen; omega)).mono ?_
  rintro e w1 ⟨rfl, hb1⟩
  rw [decide_eq_true rfl]
  go_wp2_with fail
  go_loopw [6] (fun i wr => ∃ (j : Nat), n ≤ j ∧ j ≤ n + 5 ∧ i = .int .i64 j ∧ Below w.heap.size w wr) (fun i _ => n + 5 - (intOf i).toNat)
  case atStart => exact ⟨n, Nat.le_refl _, by omega, rfl, hb1⟩
  case round =>
    obtain ⟨j, hj1, hj2, rfl, hbel⟩ := hrel
    by_cases hlt' : j < n + 5
    · have hc1 : wr.cell? ⟨g, j, none⟩ = some (.int .u8 165) := (hbel.cell (p := ⟨g, j, none⟩) hlt).trans (Hsp.out j hj1 hlt')
      go_wp2
      go_roundw
      case rel => exact ⟨j + 1, by omega, by omega, by go_num, hbel⟩
      case measure => simp [intOf]; omega
    · go_wp2
      go_ret
      exact ⟨rfl, hbel⟩

theorem spoil_any (A : Option Addr) (n c base : Nat) (xs : List Value) (w : World) (ho : Own w base 5 IsU8 A n c xs) :
    Calls Try.prog 22 #[.slice A n c] w fun e w' => e = .returned (.tuple #[]) ∧ (∃ ys, Own w' base 5 IsU8 A n c ys) ∧ w.grownBy w' (blk A) := by
  obtain ⟨h1, h2, h3, h4⟩ := ho
  unfold maxLen at h3
  have H1 := Lib.hid h1; clear h1
  rcases h4 with ⟨rfl, rfl⟩ | ⟨g, off, cur, rfl, hbg, hh, hcs, ht, hp⟩
  · obtain rfl : n = 0 := by omega
    go_enter Try.func22, Try.ntmps22
    go_wp2_with fail
    refine wp_loop_rounds 1 ?_
    rw [rounds_succ]
    go_wp2
    go_end0
    exact ⟨rfl, ⟨[], Own.nil_ _ _ _ _⟩, World.grownBy.refl _ _⟩
  · have Ht := Lib.hid ht; have Hcs := Lib.hid hcs; have Hp := Lib.hid hp; have Hh := Lib.hid hh; clear ht hcs hp hh
    go_enter Try.func22, Try.ntmps22
    go_wp2_with fail
    go_loopw [3] (fun i wr => ∃ (k : Nat) (cur : Array Value), k ≤ c ∧ i = .int .i64 k ∧ wr.heap[g]? = some (.cells cur 5 (0, 0)) ∧ Hid (cur.size = off + c) ∧ Hid (∀ u ∈ cur.toList, IsU8 u) ∧ w.grownBy wr (some g)) (fun i _ => c - (intOf i).toNat)
    case atStart => exact ⟨0, cur, by omega, rfl, Hh.out, Hcs, Hp, World.grownBy.refl _ _⟩
    case round =>
      obtain ⟨k, cur', hk, rfl, hh, Hcs', Hp', hg⟩ := hrel
      by_cases hlt : k < c
      · obtain ⟨old, hce⟩ := heap_cell (k := off + k) hh (by have := Hcs'.out; omega)
        obtain ⟨x, rfl⟩ : IsU8 old := by
          refine Hp'.out _ ?_
          rw [cell_of_row _ _ _ _ _ _ hh] at hce
          exact Array.mem_toList_iff.2 (Array.mem_of_getElem? hce)
        have hfz := frozen_of_row wr g (off + k) cur' _ hh
        have Hh' := Lib.hid hh; clear hh
        go_wp2
        go_roundw
        case rel => exact ⟨k + 1, cur'.setIfInBounds (off + k) _, by omega, by go_num, heap_setCell_same _ _ _ _ _ _ Hh'.out, by have := Hcs'.out; simp [Hid]; omega, all_set Hp'.out (isU8_bits _ _ _), only_setCell hg (.inl rfl) _⟩
        case measure => simp [intOf]; omega
      · obtain rfl : k = c := by omega
        have Hh' := Lib.hid hh; clear hh
        go_wp2
        go_end0
        exact ⟨rfl, ⟨_, Own.of_heap hbg Hh'.out n k h2 Hcs'.out (by unfold maxLen; omega) Hp'.out⟩, hg⟩

def sl (s : Option Addr × Nat × Nat) : Value := .slice s.1 s.2.1 s.2.2

/-- What ApartBytes keeps of its slices while it writes over them. -/
def ApInv (S : List (Option Addr × Nat × Nat)) (g base : Nat) (w wr : World) : Prop :=
  wr.heap[g]? = some (.cells (S.map sl).toArray 27 (0, 0)) ∧ (∀ s ∈ S, ∃ xs, Own wr base 5 IsU8 s.1 s.2.1 s.2.2 xs) ∧ Below base w wr

theorem ApInv.step {S : List (Option Addr × Nat × Nat)} {g base : Nat} {w wr w1 w2 w3 : World} {i : Nat} {A : Option Addr} {n c : Nat} (h : ApInv S g base w wr) (hbase : base ≤ w.heap.size) (hg : ∀ s ∈ S, blk s.1 ≠ some g)
    (hi : i < S.length) (hA : S[i] = (A, n, c)) (hsep : S.Pairwise fun s t => Sep s.1 t.1)
    (h1 : Below wr.heap.size wr w1) (h2 : w1.grownBy w2 (blk A)) (h2' : ∃ ys, Own w2 base 5 IsU8 A n c ys) (h3 : Below w2.heap.size w2 w3) : ApInv S g base w w3 := by
  obtain ⟨hh, ho, hb⟩ := h
  have hz1 := hb.size
  have hz2 := h1.size
  have hz3 := h2.size
  have hlt := lt_of_heap hh
  have hs : (A, n, c) ∈ S := hA ▸ List.getElem_mem _
  refine ⟨?_, ?_, ?_⟩
  · rw [h3.block g (by omega), h2.block g (by omega) (fun e => hg _ hs (by simpa using e.symm)), h1.block g hlt]; exact hh
  · intro s hsS
    obtain ⟨j, hj, rfl⟩ := List.getElem_of_mem hsS
    by_cases he : j = i
    · subst he
      rw [hA]
      obtain ⟨ys, hy⟩ := h2'
      exact ⟨ys, hy.below h3⟩
    · obtain ⟨xs, hx⟩ := ho S[j] hsS
      refine ⟨xs, ((hx.below h1).grown h2 fun g' hg' e => ?_).below h3⟩
      have := sep_index hsep hj hi he g' hg'
      rw [hA] at this
      exact this e.symm
  · have hlt' : ∀ k, blk A = some k → base ≤ k := fun k hk => by
      obtain ⟨xs, hx⟩ := ho _ hs
      exact (hx.lt k hk).1
    exact ((hb.trans (h1.mono (by omega))).grown h2 (by omega) hlt').trans (h3.mono (by omega))

/-- A slice that was lent, as one of the call's own. -/
theorem lent_own {w : World} {base g n : Nat} {cur : Array Value} {l : List UInt8} (hb : base ≤ g) (hh : w.heap[g]? = some (.cells cur 5 (0, 0))) (hcur : cur.toList = l.map cB ++ List.replicate 5 (.int .u8 165)) (hl : l.length = n) (hn : n + 5 ≤ 9223372036854775807) :
    Own w base 5 IsU8 (some ⟨g, 0, none⟩) n (n + 5) (l.map cB) := by
  have hs : cur.size = n + 5 := by rw [← Array.length_toList, hcur]; simp [hl]
  have hp : ∀ u ∈ cur.toList, IsU8 u := by
    rw [hcur]; intro u hu
    rcases List.mem_append.1 hu with hu | hu
    · exact isU8_map u hu
    · have := List.eq_of_mem_replicate hu
      subst this; exact ⟨165, rfl⟩
  have h := Own.of_heap (p := IsU8) hb hh (off := 0) n (n + 5) (by omega) (by omega) (by unfold maxLen; omega) hp
  rw [List.drop_zero, hcur, List.take_append_of_le_length (by simp [hl]), List.take_of_length_le (by simp [hl])] at h
  exact h

end Go.Proofs.Ytifojmmggcenkaa
