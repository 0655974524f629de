/- Contracts of functions of the given program, and plain lemmas: what each call returns and what it leaves as it was; used by the claim's last text. -/
import Derived.Test.YtcnjhjfepojdaaaChecked
import Derived.Test.YtcnjhjfepojdaaaBase
namespace Go.Proofs.Ytcnjhjfepojdaaa
set_option linter.unusedVariables false
open Go Go.RowKit Go.Out

theorem info_u8 : (Try.prog.info? 5).map (fun i => (i.zero, i.size, i.bytes)) = some (some (.int .u8 0), 1, 1) := by kernel_rfl

theorem same_any (a b : List UInt8) (A B : Option Addr) (n m ca cb : Nat) (w : World) (ha : Rd w A n (a.map cB)) (hb : Rd w B m (b.map cB)) (hn : n ≤ maxLen) :
    Calls Try.prog 13 #[.slice A n ca, .slice B m cb] w fun e w' => e = .returned (.bool (decide (a = b))) ∧ Below w.heap.size w w' := by
  unfold maxLen at hn
  have hla : a.length = n := by have := ha.1; simpa using this
  have hlb : b.length = m := by have := hb.1; simpa using this
  by_cases hnm : n = m
  · subst hnm
    have Ha := Lib.hid ha; have Hb := Lib.hid hb; have Hla := Lib.hid hla; have Hlb := Lib.hid hlb; clear ha hb hla hlb
    go_enter Try.func13, Try.ntmps13
    go_wp2
    go_loopw [5] (fun i wr => ∃ k : Nat, k ≤ n ∧ i = .int .i64 k ∧ Below w.heap.size w wr ∧ Hid (a.take k = b.take k)) (fun i _ => n - (intOf i).toNat)
    case atStart => exact ⟨0, Nat.zero_le _, rfl, Below.refl _ _, by simp [Hid]⟩
    case round =>
      obtain ⟨k, hk, rfl, hbel, htk⟩ := hrel
      by_cases hlt : k < n
      · obtain ⟨b1, o1, rfl, -, hl1, hc1⟩ := ((Ha.out).below hbel).u8at hlt
        obtain ⟨b2, o2, rfl, -, hl2, hc2⟩ := ((Hb.out).below hbel).u8at hlt
        by_cases heq : a[k] = b[k]
        · have ht : ((a[k].toNat : Int) != (b[k].toNat : Int)) = false := by simp [heq]
          go_wp2
          go_quiet (fail)
          go_wp2
          go_roundw
          case rel => exact ⟨k + 1, by omega, by go_num, below_drewN hbel _, by unfold Hid at htk ⊢; rw [List.take_succ_eq_append_getElem hl1, List.take_succ_eq_append_getElem hl2]; simp [htk, heq]⟩
          case measure => simp [intOf]; omega
        · have ht : ((a[k].toNat : Int) != (b[k].toNat : Int)) = true := by simp; intro h; exact heq (UInt8.toNat.inj (by omega))
          go_wp2
          go_quiet (fail)
          go_wp2
          go_ret
          exact ⟨ret_bool (by symm; rw [decide_eq_false_iff_not]; intro h; subst h; exact heq rfl), below_drewN hbel _⟩
      · go_wp2
        go_ret
        exact ⟨ret_bool (by symm; rw [decide_eq_true_eq]; have h := htk.out; rwa [List.take_of_length_le (by have := Hla.out; omega), List.take_of_length_le (by have := Hlb.out; omega)] at h), hbel⟩
  · have H := Lib.hid hla; clear hla
    have H' := Lib.hid hlb; clear hlb
    have ht : ((n : Int) != (m : Int)) = true := by simp; omega
    go_enter Try.func13, Try.ntmps13
    go_wp2
    go_ret
    exact ⟨by simp; intro h; subst h; exact hnm (H.out.symm.trans H'.out), Below.refl _ _⟩

theorem app_u8 {ops : Array Oper} {rest : List Oper} {o : Oper} {a : Act} {Q : Exit → Act → World → Prop} (w : World) (hgd : o.guard = none) (s x : Operand)
    (ho : o.op = .call { callee := .builtin .append, args := #[s, x], argTypes := #[34, 34] })
    {base : Nat} {A : Option Addr} {n c : Nat} {xs : List Value} (hs : a.eval s = .slice A n c) (hown : Own w base 5 IsU8 A n c xs)
    {A' : Option Addr} {m c' : Nat} {news : List Value} (hx : a.eval x = .slice A' m c') (hr : Rd w A' m news) (hnp : ∀ u ∈ news, IsU8 u) (hsz : n + m ≤ 140737488355328) (hbase : base ≤ w.heap.size)
    (h : ∀ A1 c1 w1, Own w1 base 5 IsU8 A1 (n + m) c1 (xs ++ news) → w.grownBy w1 (blk A) → (blk A1 = blk A ∨ blk A1 = some w.heap.size) → wpList Try.prog ops Q rest (a.put o.dst (.slice A1 (n + m) c1)) w1) : wpList Try.prog ops Q (o :: rest) a w :=
  wpList_append_Own w hgd s x _ ho IsU8 base _ (.int .u8 0) 1 Try.underlying34 info_u8 rfl ⟨0, rfl⟩ (fun _ => isU8_one) A n c xs hs hown A' m c' news hx hr hnp (by omega) (by omega) hbase h

def sl (s : Option Addr × Nat × Nat) : Value := .slice s.1 s.2.1 s.2.2

/-- What ApartBytes keeps of its slices while it writes over them. -/
def ApInv (S : List (Option Addr × Nat × Nat)) (g base : Nat) (w wr : World) : Prop :=
  wr.heap[g]? = some (.cells (S.map sl).toArray 34 (0, 0)) ∧ (∀ s ∈ S, ∃ xs, Own wr base 5 IsU8 s.1 s.2.1 s.2.2 xs) ∧ Below base w wr

theorem ApInv.step {S : List (Option Addr × Nat × Nat)} {g base : Nat} {w wr w1 w2 w3 : World} {i : Nat} {A : Option Addr} {n c : Nat} (h : ApInv S g base w wr) (hbase : base ≤ w.heap.size) (hg : ∀ s ∈ S, blk s.1 ≠ some g)
    (hi : i < S.length) (hA : S[i] = (A, n, c)) (hsep : S.Pairwise fun s t => Sep s.1 t.1)
    (h1 : Below wr.heap.size wr w1) (h2 : w1.grownBy w2 (blk A)) (h2' : ∃ ys, Own w2 base 5 IsU8 A n c ys) (h3 : Below w2.heap.size w2 w3) : ApInv S g base w w3 := by
  obtain ⟨hh, ho, hb⟩ := h
  have hz1 := hb.size
  have hz2 := h1.size
  have hz3 := h2.size
  have hlt := lt_of_heap hh
  have hs : (A, n, c) ∈ S := hA ▸ List.getElem_mem _
  refine ⟨?_, ?_, ?_⟩
  · rw [h3.block g (by omega), h2.block g (by omega) (fun e => hg _ hs (by simpa using e.symm)), h1.block g hlt]; exact hh
  · intro s hsS
    obtain ⟨j, hj, rfl⟩ := List.getElem_of_mem hsS
    by_cases he : j = i
    · subst he
      rw [hA]
      obtain ⟨ys, hy⟩ := h2'
      exact ⟨ys, hy.below h3⟩
    · obtain ⟨xs, hx⟩ := ho S[j] hsS
      refine ⟨xs, ((hx.below h1).grown h2 fun g' hg' e => ?_).below h3⟩
      have := sep_index hsep hj hi he g' hg'
      rw [hA] at this
      exact this e.symm
  · have hlt' : ∀ k, blk A = some k → base ≤ k := fun k hk => by
      obtain ⟨xs, hx⟩ := ho _ hs
      exact (hx.lt k hk).1
    exact ((hb.trans (h1.mono (by omega))).grown h2 (by omega) hlt').trans (h3.mono (by omega))

/-- A slice that was lent, as one of the call's own. -/
theorem lent_own {w : World} {base g n : Nat} {cur : Array Value} {l : List UInt8} (hb : base ≤ g) (hh : w.heap[g]? = some (.cells cur 5 (0, 0))) (hcur : cur.toList = l.map cB ++ List.replicate 5 (.int .u8 165)) (hl : l.length = n) (hn : n + 5 ≤ 9223372036854775807) :
    Own w base 5 IsU8 (some ⟨g, 0, none⟩) n (n + 5) (l.map cB) := by
  have hs : cur.size = n + 5 := by rw [← Array.length_toList, hcur]; simp [hl]
  have hp : ∀ u ∈ cur.toList, IsU8 u := by
    rw [hcur]; intro u hu
    rcases List.mem_append.1 hu with hu | hu
    · exact isU8_map u hu
    · have := List.eq_of_mem_replicate hu
      subst this; exact ⟨165, rfl⟩
  have h := Own.of_heap (p := IsU8) hb hh (off := 0) n (n + 5) (by omega) (by omega) (by unfold maxLen; omega) hp
  rw [List.drop_zero, hcur, List.take_append_of_le_length (by simp [hl]), List.take_of_length_le (by simp [hl])] at h
  exact h

end Go.Proofs.Ytcnjhjfepojdaaa
