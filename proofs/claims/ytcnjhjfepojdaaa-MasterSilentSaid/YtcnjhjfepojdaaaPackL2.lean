/- Contracts of pack.Unbits and of the document's: what each call returns; nothing that was there turns. -/
import Derived.Test.YtcnjhjfepojdaaaPackL
namespace Go.Proofs.Ytcnjhjfepojdaaa
set_option linter.unusedVariables false
set_option maxRecDepth 100000
open Go Go.RowKit Go.Out

theorem unbits_neg (A : Option Addr) (m c : Nat) (n : Int) (w : World) (h : n < 0) :
    Calls Try.prog 42 #[.slice A m c, .int .i64 n] w fun e w' => e = .returned (.tuple #[.slice none 0 0, .int .i64 3]) ∧ Below w.heap.size w w' := by
  go_enter Try.func42, Try.ntmps42
  go_wp2_with fail
  go_ret2
  exact ⟨rfl, Below.refl _ _⟩
theorem unbits_count (A : Option Addr) (m c n : Nat) (w : World) (hn : n ≤ 9223372036854775807) (h : m ≠ need n) :
    Calls Try.prog 42 #[.slice A m c, .int .i64 n] w fun e w' => e = .returned (.tuple #[.slice none 0 0, .int .i64 22]) ∧ Below w.heap.size w w' := by
  have ht : ((m : Int) != ((need n : Nat) : Int)) = true := by simp; omega
  clear h
  go_enter Try.func42, Try.ntmps42
  go_wp2_with fail
  refine (need_any n _ hn).mono ?_
  rintro e w1 ⟨rfl, rfl⟩
  go_wp2_with fail
  go_ret2
  exact ⟨rfl, Below.refl _ _⟩
theorem unbits_form (b : List UInt8) (A : Option Addr) (c n : Nat) (w : World) (hr : Rd w A (need n) (b.map cB)) (hn : n ≤ 9223372036854775800) (h : spare b n = true) :
    Calls Try.prog 42 #[.slice A (need n) c, .int .i64 n] w fun e w' => e = .returned (.tuple #[.slice none 0 0, .int .i64 4]) ∧ Below w.heap.size w w' := by
  obtain ⟨h1, h2⟩ := (spare_iff b n hr.length).1 h
  have hN1 : 1 ≤ need n := by unfold need; omega
  obtain ⟨b1, o1, rfl, hb1, hl1, hc1⟩ := hr.u8at (k := need n - 1) (by omega)
  have e1 : b.getD (b.length - 1) 0 = b[need n - 1] := by rw [List.getD_eq_getElem?_getD, hr.length, List.getElem?_eq_getElem hl1]; rfl
  rw [e1] at h2
  have ht0 : (((need n : Nat) : Int) != ((need n : Nat) : Int)) = false := by simp
  have ht1 : ((n : Int) % 8 != 0) = true := by simp; omega
  have ht2 : ((b[need n - 1].toNat : Int) / 2 ^ (n % 8) != 0) = true := by rw [bne_iff_ne]; intro h; apply h2; have e : ((b[need n - 1].toNat : Int) / 2 ^ (n % 8)) = ((b[need n - 1].toNat / 2 ^ (n % 8) : Nat) : Int) := by simp
                                                                           rw [e] at h; exact_mod_cast h
  have hNn : need n ≤ 9223372036854775807 := by unfold need; omega
  clear h h1 h2 e1 hr
  go_enter Try.func42, Try.ntmps42
  go_wp2_with fail
  refine (need_any n _ (by omega)).mono ?_
  rintro e w1 ⟨rfl, rfl⟩
  generalize need n = N at *
  go_wp2_with fail
  go_ret2
  exact ⟨rfl, Below.refl _ _⟩

theorem range_take_map {α : Type} (f : Nat → α) (n k : Nat) (h : k < n) : ((List.range n).map f)[k]? = some (f k) := by simp [h]

/-- A block filled with bools, whole. -/
theorem Own.bools {w : World} {base : Nat} {e : TypeId} {g : Nat} {cur : Array Value} {l : List Bool} {n : Nat} (hb : base ≤ g) (hg : w.heap[g]? = some (.cells cur e (0, 0))) (hc : cur.toList = l.map cL) (hn : l.length = n) (hm : n ≤ maxLen) :
    Own w base e IsBo (some ⟨g, 0, none⟩) n n (l.map cL) := by
  have hs : cur.size = n := by rw [← Array.length_toList, hc]; simpa using hn
  have h := Own.of_heap (p := IsBo) hb hg (off := 0) n n (Nat.le_refl _) (by omega) hm (by rw [hc]; exact isBo_map)
  rwa [List.drop_zero, hc, List.take_of_length_le (by simp; omega)] at h

theorem unbits_ok (b : List UInt8) (A : Option Addr) (c n : Nat) (w : World) (hr : Rd w A (need n) (b.map cB)) (hn : n ≤ 140737488355328) (h : spare b n = false) :
    Calls Try.prog 42 #[.slice A (need n) c, .int .i64 n] w fun e w' => ∃ A' c', e = .returned (.tuple #[.slice A' n c', .int .i64 0]) ∧ Own w' w.heap.size 4 IsBo A' n c' (((List.range n).map (ubit b)).map cL) ∧ Below w.heap.size w w' := by
  have Hr := Lib.hid hr; clear hr
  have hl := Hr.out.length
  have ht0 : (((need n : Nat) : Int) != ((need n : Nat) : Int)) = false := by simp
  have hmk : ∀ W : World, (Instr.makeSlice 22 (.int .i64 (n : Int)) (.int .i64 (n : Int))).run Try.prog W = .ok (.slice (some ⟨W.heap.size, 0, none⟩) n n) (W.alloc (.cells (Array.replicate n (.bool false)) 4)) :=
    fun W => run_make1 (P := Try.prog) 22 4 (.bool false) 1 Try.underlying22 info_bo rfl n (by omega) (by omega) W
  have HN : Hid (need n = (n + 7) / 8) := rfl
  have hlast : (((n : Int) % 8 != 0) = false) ∨ ((((n : Int) % 8 != 0) = true) ∧ 1 ≤ need n ∧ ∃ b1 o1, A = some ⟨b1, o1, none⟩ ∧ ∃ x : Nat, w.cell? ⟨b1, o1 + (need n - 1), none⟩ = some (.int .u8 (x : Int)) ∧ ((x : Int) / 2 ^ (n % 8) != 0) = false) := by
    rcases Nat.eq_zero_or_pos (n % 8) with h0 | h0
    · left; simp; omega
    · right
      have hN1 : 1 ≤ need n := by unfold need; omega
      obtain ⟨b1, o1, e0, hb1, hl1, hc1⟩ := Hr.out.u8at (k := need n - 1) (by omega)
      refine ⟨by simp; omega, hN1, b1, o1, e0, _, hc1, ?_⟩
      have e1 : b.getD (b.length - 1) 0 = b[need n - 1] := by rw [List.getD_eq_getElem?_getD, hl, List.getElem?_eq_getElem hl1]; rfl
      have h2 : ¬ (n % 8 ≠ 0 ∧ (b.getD (b.length - 1) 0).toNat / 2 ^ (n % 8) ≠ 0) := fun hh => by rw [(spare_iff b n hl).2 hh] at h; cases h
      rw [e1] at h2
      have h3 : b[need n - 1].toNat / 2 ^ (n % 8) = 0 := by
        rcases Nat.eq_zero_or_pos (b[need n - 1].toNat / 2 ^ (n % 8)) with h4 | h4
        · exact h4
        · exact absurd ⟨by omega, by omega⟩ h2
      have e : ((b[need n - 1].toNat : Int) / 2 ^ (n % 8)) = ((b[need n - 1].toNat / 2 ^ (n % 8) : Nat) : Int) := by simp
      rw [e, h3]; rfl
  have hNle : need n ≤ 140737488355328 := by unfold need; omega
  have Hl := Lib.hid hl; clear hl h
  generalize need n = N at *
  have hprep : True := trivial
  rcases hlast with hz | ⟨hz, hN1, b1, o1, rfl, x, hcx, hsx⟩
  all_goals
    go_enter Try.func42, Try.ntmps42
    go_wp2_with fail
    refine (need_any n _ (by omega)).mono ?_
    rintro e w1 ⟨rfl, rfl⟩
    rw [show need n = N from HN.out.symm]
    go_wp2_with fail
    go_loopw [33] (fun i wr => ∃ (k : Nat) (cur : Array Value), k ≤ n ∧ i = .int .i64 k ∧ wr.heap[w.heap.size]? = some (.cells cur 4 (0, 0)) ∧ Hid (cur.toList = (((List.range n).map (ubit b)).map cL).take k ++ List.replicate (n - k) (Value.bool false)) ∧ Hid (cur.size = n) ∧ Below w.heap.size w wr) (fun i _ => n - (intOf i).toNat)
    case atStart => exact ⟨0, _, Nat.zero_le _, rfl, heap_alloc_new w _, by simp [Hid], by simp [Hid], (Below.refl _ _).alloc (Nat.le_refl _) _⟩
    case round =>
      obtain ⟨k, cur, hk, rfl, hh, hcur, Hcs, hbel⟩ := hrel
      by_cases hlt : k < n
      · have hkN : k / 8 < N := by have := HN.out; omega
        obtain ⟨b2, o2, e2, hb2, hl2, hc2⟩ := Hr.out.u8in hbel hkN
        first | (injection e2 with e2; injection e2 with e2 e3; subst e2; subst e3) | (subst e2)
        obtain ⟨old, hce⟩ := heap_cell (k := k) hh (by have := Hcs.out; omega)
        have hfz := frozen_of_row wr w.heap.size k cur _ hh
        have hbit : (bits .and .u8 ((b[k / 8].toNat : Int) / 2 ^ (k % 8)) 1 == 1) = ubit b k := by
          rw [ubit_shift _ _ b[k / 8].toNat_lt]
          unfold ubit
          rw [List.getD_eq_getElem?_getD, List.getElem?_eq_getElem hl2]
          simp only [Option.getD_some]
          rw [Bool.eq_iff_iff, beq_iff_eq, decide_eq_true_eq]; omega
        have Hbit := Lib.hid hbit; have Hh := Lib.hid hh; clear hh hbit
        generalize b[k / 8].toNat = X at *
        have hk8 : ((k : Int) / 8) < (N : Int) := by omega
        go_wp2_with fail
        go_roundw
        case rel => exact ⟨k + 1, _, by omega, by go_num, heap_setCell_same _ _ _ _ _ _ Hh.out, fill_step hcur (by simp) (by rw [List.getElem?_map, range_take_map _ _ _ hlt, ← Hbit.out]; rfl), by have := Hcs.out; simp [Hid]; omega, hbel.setCell (Nat.le_refl _) _⟩
        case measure => simp [intOf]; omega
      · obtain rfl : k = n := by omega
        have Hh := Lib.hid hh; clear hh
        go_wp2_with fail
        go_ret2
        exact ⟨_, _, rfl, Go.Proofs.Ytcnjhjfepojdaaa.Own.bools (Nat.le_refl _) Hh.out (by rw [hcur.out, Nat.sub_self, List.replicate_zero, List.append_nil, List.take_of_length_le (by simp)]) (by simp) (by unfold maxLen; omega), hbel⟩

/-- A call that hands back bools of its own and an error's number. -/
def RetB (w : World) (t : TypeId) (l : List Bool) (err : Int) (e : Ending) (w' : World) : Prop :=
  ∃ A n c, e = .returned (.tuple #[.slice A n c, .int .i64 err]) ∧ Own w' w.heap.size t IsBo A n c (l.map cL) ∧ Below w.heap.size w w'

theorem spare_none {b : List UInt8} {n : Nat} (h : ∀ i, n ≤ i → i < 8 * b.length → ubit b i = false) : spare b n = false := by
  rw [← Bool.not_eq_true]
  intro hs
  unfold spare at hs
  rw [List.any_eq_true] at hs
  obtain ⟨i, hi, hh⟩ := hs
  simp only [List.mem_range, Bool.and_eq_true, decide_eq_true_eq] at hi hh
  rw [h i hh.1 hi] at hh
  exact absurd hh.2 (by decide)
theorem spare_some {b : List UInt8} {n i : Nat} (h1 : n ≤ i) (h2 : i < 8 * b.length) (h3 : ubit b i = true) : spare b n = true := by
  unfold spare
  rw [List.any_eq_true]
  exact ⟨i, by simpa using h2, by simp [h1, h3]⟩

theorem unbits_mid (b : List UInt8) (n : Nat) (h : b.length = need n) : unbitsF b n = if spare b n then ([], 4) else ((List.range n).map (ubit b), 0) := by
  unfold unbitsF
  rw [if_neg (by omega), if_neg (by simpa using h)]; rfl

theorem unbits_mid_any (b : List UInt8) (A : Option Addr) (c n : Nat) (w : World) (hr : Rd w A (need n) (b.map cB)) (hn : n ≤ 140737488355300) :
    Calls Try.prog 42 #[.slice A (need n) c, .int .i64 n] w (RetB w 4 (unbitsF b n).1 (unbitsF b n).2) := by
  rw [unbits_mid b n hr.length]
  cases h : spare b n
  · refine (unbits_ok b A c n w hr (by omega) h).mono ?_
    rintro e w' ⟨A', c', rfl, ho, hb⟩
    exact ⟨_, _, _, rfl, ho, hb⟩
  · refine (unbits_form b A c n w hr (by omega) h).mono ?_
    rintro e w' ⟨rfl, hb⟩
    exact ⟨_, _, _, rfl, Own.nil_ _ _ _ _, hb⟩

theorem unbits_any (b : List UInt8) (A : Option Addr) (m c : Nat) (n : Int) (w : World) (hr : Rd w A m (b.map cB)) (hm : m ≤ 17000000000) (hn : n ≤ 9223372036854775807) :
    Calls Try.prog 42 #[.slice A m c, .int .i64 n] w (RetB w 4 (unbitsF b n).1 (unbitsF b n).2) := by
  rcases Int.lt_or_le n 0 with h | h
  · unfold unbitsF; rw [if_pos h]
    exact (unbits_neg A m c n w h).mono fun e w' ⟨he, hb⟩ => ⟨_, _, _, he, Own.nil_ _ _ _ _, hb⟩
  · obtain ⟨n, rfl⟩ := Int.eq_ofNat_of_zero_le h
    by_cases hmn : m = need n
    · subst hmn
      exact unbits_mid_any b A c n w hr (by unfold need at hm; omega)
    · unfold unbitsF; rw [if_neg (by omega), if_pos (by rw [hr.length]; simpa using hmn)]
      exact (unbits_count A m c n w (by omega) hmn).mono fun e w' ⟨he, hb⟩ => ⟨_, _, _, he, Own.nil_ _ _ _ _, hb⟩

theorem unbitsF_len (b : List UInt8) (n : Int) : (unbitsF b n).1.length ≤ 8 * b.length := by
  unfold unbitsF
  split
  · simp
  · split
    · simp
    · split
      · simp
      · rename_i h _; simp at h ⊢; unfold need at h; omega
end Go.Proofs.Ytcnjhjfepojdaaa
