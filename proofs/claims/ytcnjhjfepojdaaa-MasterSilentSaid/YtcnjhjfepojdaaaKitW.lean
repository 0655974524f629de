/- Contracts of the kit's functions on words: what each call returns and what it leaves as it was. -/
import Derived.Test.YtcnjhjfepojdaaaKitA
namespace Go.Proofs.Ytcnjhjfepojdaaa
set_option linter.unusedVariables false
open Go Go.RowKit Go.Out

theorem info_u16 : (Try.prog.info? 67).map (fun i => (i.zero, i.size, i.bytes)) = some (some (.int .u16 0), 1, 2) := by kernel_rfl

theorem app_u16 {ops : Array Oper} {rest : List Oper} {o : Oper} {a : Act} {Q : Exit → Act → World → Prop} (w : World) (hgd : o.guard = none) (s x : Operand)
    (ho : o.op = .call { callee := .builtin .append, args := #[s, x], argTypes := #[23, 23] })
    {base : Nat} {A : Option Addr} {n c : Nat} {xs : List Value} (hs : a.eval s = .slice A n c) (hown : Own w base 67 IsU16 A n c xs)
    {A' : Option Addr} {m c' : Nat} {news : List Value} (hx : a.eval x = .slice A' m c') (hr : Rd w A' m news) (hnp : ∀ u ∈ news, IsU16 u) (hsz : n + m ≤ 70368744177664) (hbase : base ≤ w.heap.size)
    (h : ∀ A1 c1 w1, Own w1 base 67 IsU16 A1 (n + m) c1 (xs ++ news) → w.grownBy w1 (blk A) → (blk A1 = blk A ∨ blk A1 = some w.heap.size) → wpList Try.prog ops Q rest (a.put o.dst (.slice A1 (n + m) c1)) w1) : wpList Try.prog ops Q (o :: rest) a w :=
  wpList_append_Own w hgd s x _ ho IsU16 base _ (.int .u16 0) 2 Try.underlying23 info_u16 rfl ⟨0, rfl⟩ (fun _ => isU16_one) A n c xs hs hown A' m c' news hx hr hnp (by omega) (by omega) hbase h

/-- What ApartBytes keeps of its slices while it writes over them. -/
def ApInvW (S : List (Option Addr × Nat × Nat)) (g base : Nat) (w wr : World) : Prop :=
  wr.heap[g]? = some (.cells (S.map sl).toArray 23 (0, 0)) ∧ (∀ s ∈ S, ∃ xs, Own wr base 67 IsU16 s.1 s.2.1 s.2.2 xs) ∧ Below base w wr

theorem ApInvW.step {S : List (Option Addr × Nat × Nat)} {g base : Nat} {w wr w1 w2 w3 : World} {i : Nat} {A : Option Addr} {n c : Nat} (h : ApInvW S g base w wr) (hbase : base ≤ w.heap.size) (hg : ∀ s ∈ S, blk s.1 ≠ some g)
    (hi : i < S.length) (hA : S[i] = (A, n, c)) (hsep : S.Pairwise fun s t => Sep s.1 t.1)
    (h1 : Below wr.heap.size wr w1) (h2 : w1.grownBy w2 (blk A)) (h2' : ∃ ys, Own w2 base 67 IsU16 A n c ys) (h3 : Below w2.heap.size w2 w3) : ApInvW S g base w w3 := by
  obtain ⟨hh, ho, hb⟩ := h
  have hz1 := hb.size
  have hz2 := h1.size
  have hz3 := h2.size
  have hlt := lt_of_heap hh
  have hs : (A, n, c) ∈ S := hA ▸ List.getElem_mem _
  refine ⟨?_, ?_, ?_⟩
  · rw [h3.block g (by omega), h2.block g (by omega) (fun e => hg _ hs (by simpa using e.symm)), h1.block g hlt]; exact hh
  · intro s hsS
    obtain ⟨j, hj, rfl⟩ := List.getElem_of_mem hsS
    by_cases he : j = i
    · subst he
      rw [hA]
      obtain ⟨ys, hy⟩ := h2'
      exact ⟨ys, hy.below h3⟩
    · obtain ⟨xs, hx⟩ := ho S[j] hsS
      refine ⟨xs, ((hx.below h1).grown h2 fun g' hg' e => ?_).below h3⟩
      have := sep_index hsep hj hi he g' hg'
      rw [hA] at this
      exact this e.symm
  · have hlt' : ∀ k, blk A = some k → base ≤ k := fun k hk => by
      obtain ⟨xs, hx⟩ := ho _ hs
      exact (hx.lt k hk).1
    exact ((hb.trans (h1.mono (by omega))).grown h2 (by omega) hlt').trans (h3.mono (by omega))

/-- A slice that was lent, as one of the call's own. -/
theorem lentW_own {w : World} {base g n : Nat} {cur : Array Value} {l : List UInt16} (hb : base ≤ g) (hh : w.heap[g]? = some (.cells cur 67 (0, 0))) (hcur : cur.toList = l.map cW ++ List.replicate 5 (.int .u16 42330)) (hl : l.length = n) (hn : n + 5 ≤ 9223372036854775807) :
    Own w base 67 IsU16 (some ⟨g, 0, none⟩) n (n + 5) (l.map cW) := by
  have hs : cur.size = n + 5 := by rw [← Array.length_toList, hcur]; simp [hl]
  have hp : ∀ u ∈ cur.toList, IsU16 u := by
    rw [hcur]; intro u hu
    rcases List.mem_append.1 hu with hu | hu
    · exact isU16_map u hu
    · have := List.eq_of_mem_replicate hu
      subst this; exact ⟨42330, rfl⟩
  have h := Own.of_heap (p := IsU16) hb hh (off := 0) n (n + 5) (by omega) (by omega) (by unfold maxLen; omega) hp
  rw [List.drop_zero, hcur, List.take_append_of_le_length (by simp [hl]), List.take_of_length_le (by simp [hl])] at h
  exact h

end Go.Proofs.Ytcnjhjfepojdaaa
