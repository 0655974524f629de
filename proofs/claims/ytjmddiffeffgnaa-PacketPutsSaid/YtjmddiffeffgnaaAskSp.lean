/- Contracts of SpoilParts and SpoilAsk: only the rows that are handed in turn. -/
import Derived.Test.YtjmddiffeffgnaaAskL
import Derived.Test.YtjmddiffeffgnaaAskG5
namespace Go.Proofs.Ytjmddiffeffgnaa
set_option linter.unusedVariables false
set_option linter.unusedSimpArgs false
set_option maxRecDepth 100000
set_option maxHeartbeats 1000000
open Go Go.RowKit Go.Out

theorem int_at {w : World} {g k : Nat} {cur : Array Value} {e : TypeId} (hh : w.heap[g]? = some (.cells cur e (0, 0))) (hp : ∀ u ∈ cur.toList, IsI64 u) (hk : k < cur.size) : ∃ n : Int, w.cell? ⟨g, k, none⟩ = some (.int .i64 n) := by
  obtain ⟨u, hu⟩ := heap_cell hh hk
  have hm : u ∈ cur.toList := by
    rw [cell_of_row _ _ _ _ _ _ hh] at hu
    exact Array.mem_toList_iff.2 (Array.mem_of_getElem? hu)
  obtain ⟨n, rfl⟩ := hp u hm
  exact ⟨n, hu⟩
theorem all_set_ints {cur : Array Value} (h : ∀ u ∈ cur.toList, IsI64 u) (k : Nat) (n : Int) : ∀ u ∈ (cur.setIfInBounds k (.int .i64 n)).toList, IsI64 u := by
  intro u hu
  rw [Array.toList_setIfInBounds] at hu
  rcases List.mem_or_eq_of_mem_set hu with hu | hu
  · exact h u hu
  · exact ⟨n, hu⟩

theorem spoilParts_any (A : Option Addr) (n c base : Nat) (l : List PartD) (w : World) (ho : OwP w base (.slice A n c) l) :
    Calls Try.prog 91 #[.slice A n c] w fun e w' => e = .returned (.tuple #[]) ∧ w.grownBy w' (blk A) := by
  obtain ⟨⟨xs, ⟨h1, h2⟩, -⟩, hi⟩ := ho
  rcases h2 with ⟨hv, h0⟩ | ⟨g, cap, cur, hv, hbg, hh, hnc, hcm, hcs, ht⟩
  · injection hv with e1 e2 e3
    subst e1; subst e2; subst e3
    clear h1 h0 hi
    go_enter Try.func91, Try.ntmps91
    go_wp2_with fail
    refine wp_loop_rounds 1 ?_
    rw [rounds_succ]
    go_wp2
    go_end0
    exact ⟨rfl, World.grownBy.refl _ _⟩
  · injection hv with e1 e2 e3
    subst e1; subst e3
    obtain rfl : n = l.length := e2
    unfold maxLen at hcm
    obtain ⟨cur', e', hh', hp⟩ := hi g rfl
    rw [hh] at hh'
    injection hh' with hh'
    injection hh' with q1 q2 q3
    subst q1
    have Hcs := Lib.hid hcs; have Hp := Lib.hid hp; have Hh := Lib.hid hh
    generalize l.length = n at *
    clear ht hcs hp hh h1 q2 q3 hi
    go_enter Try.func91, Try.ntmps91
    go_wp2_with fail
    go_loopw [3] (fun i wr => ∃ (k : Nat) (cur : Array Value), k ≤ c ∧ i = .int .i64 k ∧ wr.heap[g]? = some (.cells cur 60 (0, 0)) ∧ Hid (cur.size = c * 3) ∧ Hid (∀ u ∈ cur.toList, IsI64 u) ∧ w.grownBy wr (some g)) (fun i _ => c - (intOf i).toNat)
    case atStart => exact ⟨0, cur, by omega, rfl, Hh.out, Hcs, Hp, World.grownBy.refl _ _⟩
    case round =>
      obtain ⟨k, cur', hk, rfl, hh, Hcs', Hp', hg⟩ := hrel
      rcases Nat.lt_or_ge k c with hlt | hge
      · obtain ⟨x0, hc0⟩ := int_at (k := k * 3) hh Hp'.out (by have := Hcs'.out; omega)
        obtain ⟨x1, hc1⟩ := int_at (k := k * 3 + 1) hh Hp'.out (by have := Hcs'.out; omega)
        obtain ⟨x2, hc2⟩ := int_at (k := k * 3 + 2) hh Hp'.out (by have := Hcs'.out; omega)
        have z0 := frozen_of_row wr g (k * 3) cur' _ hh
        have z1 := frozen_of_row wr g (k * 3 + 1) cur' _ hh
        have z2 := frozen_of_row wr g (k * 3 + 2) cur' _ hh
        have Hh' := Lib.hid hh; clear hh
        go_wp2_with fail
        go_roundw
        case rel => exact ⟨k + 1, _, by omega, by go_num, heap_setCell_same _ _ _ _ _ _ (heap_setCell_same _ _ _ _ _ _ (heap_setCell_same _ _ _ _ _ _ Hh'.out)), by have := Hcs'.out; simp [Hid]; omega, all_set_ints (all_set_ints (all_set_ints Hp'.out _ _) _ _) _ _, only_setCell (only_setCell (only_setCell hg (.inl rfl) _) (.inl rfl) _) (.inl rfl) _⟩
        case measure => simp [intOf]; omega
      · obtain rfl : k = c := by omega
        have Hh' := Lib.hid hh; clear hh
        go_wp2_with fail
        go_end0
        exact ⟨rfl, hg⟩

theorem spoilAsk_any (a : AskD) (s : AskS) (base : Nat) (w : World) (ho : AskOw w base a s) (hb : base ≤ w.heap.size) :
    Calls Try.prog 31 #[askV a s] w fun e w' => e = .returned (.tuple #[]) ∧ Below base w w' := by
  have Ho := Lib.hid ho
  clear ho
  obtain ⟨code, addr, count, on, set, parts⟩ := a
  obtain ⟨A1, n1, c1, A2, n2, c2, A3, n3, c3⟩ := s
  simp only [askV]
  have B0 := Lib.hid (show Below base w (w.alloc (.cells #[.int .i64 code, .int .i64 addr, .int .i64 count, .slice A1 n1 c1, .slice A2 n2 c2, .slice A3 n3 c3] 26)) from (Below.refl _ _).alloc hb _)
  have hbox := heap_alloc_new w (.cells #[.int .i64 code, .int .i64 addr, .int .i64 count, .slice A1 n1 c1, .slice A2 n2 c2, .slice A3 n3 c3] 26)
  have Ho1 := Lib.hid (Ho.out.ext (Ext.alloc w (.cells #[.int .i64 code, .int .i64 addr, .int .i64 count, .slice A1 n1 c1, .slice A2 n2 c2, .slice A3 n3 c3] 26)))
  have l1 := Lib.hid (fun g hg => (Ho.out.on.lt g hg))
  have l2 := Lib.hid (fun g hg => (Ho.out.set.lt g hg))
  have Hbox := Lib.hid hbox
  clear hbox
  obtain ⟨W1, hW1⟩ : ∃ W1, w.alloc (.cells #[.int .i64 code, .int .i64 addr, .int .i64 count, .slice A1 n1 c1, .slice A2 n2 c2, .slice A3 n3 c3] 26) = W1 := ⟨_, rfl⟩
  rw [hW1] at B0 Hbox Ho1
  have HW1 := Lib.hid hW1
  clear hW1
  go_enter Try.func31, Try.ntmps31
  go_wp2_with fail
  rw [HW1.out]
  refine (spoilL_any _ _ _ _ _ _ Ho1.out.on).mono ?_
  rintro e w1 ⟨rfl, -, hg1⟩
  have hlt : w.heap.size < W1.heap.size := lt_of_heap Hbox.out
  have hbx1 := (hg1.block w.heap.size hlt (fun e => by have := (l1.out _ e.symm).2; omega)).trans Hbox.out
  have Hb1 := Lib.hid (B0.out.grown hg1 (by have := B0.out.size; omega) (fun g hg => (l1.out g hg).1))
  have Hs1 := Lib.hid (Ho1.out.set.grown hg1 (fun g hg e => by
    have q1 := Ho1.out.set.ty hg
    have q2 := Ho1.out.on.ty e.symm
    exact absurd (q1.inj q2) (by decide)))
  obtain ⟨⟨xs, hrow, hit⟩, hint⟩ := Ho1.out.parts
  have Hp1 : Hid (OwP w1 base (.slice A3 n3 c3) parts) := by
    have hne : ∀ g, Value.ownBlock (.slice A3 n3 c3) = some g → blk A1 ≠ some g := fun g hg e => by
      have q1 := ownsRow_ty hrow hg
      have q2 := Ho1.out.on.ty e
      exact absurd (q1.inj q2) (by decide)
    refine ⟨⟨xs, hrow.kept hg1 ?_, hit.mono fun _ _ h => h⟩, hint.kept fun g hg => hg1.block g (hrow.lt g hg).2 fun e => hne g hg e.symm⟩
    cases hov : Value.ownBlock (.slice A3 n3 c3) with
    | none => exact .inl rfl
    | some g => exact .inr fun e => hne g hov e.symm
  obtain ⟨-, -, -, -, d4, d5, -⟩ := askBox hbx1
  have Hbx1 := Lib.hid hbx1
  have hz1 := hg1.size
  clear hrow hit hint hg1 hbx1
  go_wp2_with fail
  refine (spoilW_any _ _ _ _ _ _ Hs1.out).mono ?_
  rintro e w2 ⟨rfl, -, hg2⟩
  have hlt1 : w.heap.size < w1.heap.size := lt_of_heap Hbx1.out
  have hbx2 := (hg2.block w.heap.size hlt1 (fun e => by have := (l2.out _ e.symm).2; omega)).trans Hbx1.out
  have Hb2 := Lib.hid (Hb1.out.grown hg2 (by have := Hb1.out.size; omega) (fun g hg => (l2.out g hg).1))
  obtain ⟨⟨xs, hrow, hit⟩, hint⟩ := Hp1.out
  have Hp2 : Hid (OwP w2 base (.slice A3 n3 c3) parts) := by
    have hne : ∀ g, Value.ownBlock (.slice A3 n3 c3) = some g → blk A2 ≠ some g := fun g hg e => by
      have q1 := ownsRow_ty hrow hg
      have q2 := Hs1.out.ty e
      exact absurd (q1.inj q2) (by decide)
    refine ⟨⟨xs, hrow.kept hg2 ?_, hit.mono fun _ _ h => h⟩, hint.kept fun g hg => hg2.block g (hrow.lt g hg).2 fun e => hne g hg e.symm⟩
    cases hov : Value.ownBlock (.slice A3 n3 c3) with
    | none => exact .inl rfl
    | some g => exact .inr fun e => hne g hov e.symm
  obtain ⟨-, -, -, -, -, e5, -⟩ := askBox hbx2
  have l3 := Lib.hid (fun g (hg : Value.ownBlock (.slice A3 n3 c3) = some g) => (hrow.lt g hg))
  clear hrow hit hint hg2 hbx2 d4 d5
  go_wp2_with fail
  refine (spoilParts_any _ _ _ _ _ _ Hp2.out).mono ?_
  rintro e w3 ⟨rfl, hg3⟩
  have Hb3 := Lib.hid (Hb2.out.grown hg3 (by have := Hb2.out.size; omega) (fun g hg => (l3.out g (by cases A3 <;> simp_all [blk, Value.ownBlock])).1))
  clear hg3
  go_wp2_with fail
  go_end0
  exact ⟨rfl, Hb3.out⟩
end Go.Proofs.Ytjmddiffeffgnaa
