/- Contracts of reply.length, reply.exception, bytes.Equal and of the closure that takes bytes. -/
import Derived.Test.YtcnjhjfepojdaaaRepP2
import Derived.Laws.BytesArg
import Derived.Lib.Bytes
namespace Go.Out
open Go Go.RowKit
set_option linter.unusedVariables false
theorem strOf_list (xs : List UInt8) : (strOfNums (xs.map fun x => (x.toNat : Int))).toList = xs := by
  rw [Lib.strOfNums_toList]
  unfold Lib.bytesOf
  rw [List.map_map]
  have e : ((fun n : Int => UInt8.ofNat n.toNat) ∘ fun x : UInt8 => (x.toNat : Int)) = id := by funext x; simp
  rw [e, List.map_id]
theorem sumP_bound {l : List PartD} {k : Nat} (h : ∀ i (hi : i < l.length), ¬ badP l[i]) (hk : k ≤ l.length) : 0 ≤ sumP (l.take k) ∧ sumP (l.take k) ≤ 20002 * k := sumP_good (fun i hi _ => h i hi) hk
end Go.Out
namespace Go.Proofs.Ytcnjhjfepojdaaa
set_option linter.unusedVariables false
set_option linter.unusedSimpArgs false
set_option maxRecDepth 100000
set_option maxHeartbeats 2000000
open Go Go.RowKit Go.Out

theorem ask_box (w : World) (va : Array Value) (ta : TypeId) (W : World) (hX : Ext (w.alloc (.cells va ta)) W) : W.heap[w.heap.size]? = some (.cells va ta (0, 0)) := hX.block (heap_alloc_new _ _)

theorem length_any (a : AskD) (s : AskS) (w : World) (ha : AskRd w a s) (hK : checkF a = 0) :
    Calls Try.prog 37 #[askV a s] w (RetI w (lenR a : Nat)) := by
  have hb := checkF_parts a hK
  have hcases := codeP_cases hb.1
  have e3 := ha.n3
  have HA := Lib.hid ha.parts
  have hcnt : (a.code = 1 ∨ a.code = 2 ∨ a.code = 3 ∨ a.code = 4) → 1 ≤ a.count ∧ a.count ≤ 2000 := fun h => by
    have h1 : manyF a = a.count := by unfold manyF; rw [if_pos (by unfold isCnt; omega)]
    have h2 : mostF a.code ≤ 2000 := by unfold mostF; split <;> (try split) <;> omega
    omega
  have hgood := (partsF_zero hb.2.2.2.2.2.2.2).1
  have hgd : ∀ i (hi : i < a.parts.length), ¬ badP a.parts[i] := fun i hi hbd => by
    have := partsF_bad hi hbd
    have := hb.2.2.2.2.2.2.2
    omega
  have hln : a.code = 20 → a.parts.length ≤ 35 := fun h => by
    have h1 : manyF a = a.parts.length := by unfold manyF; rw [if_neg (by unfold isCnt; omega), if_neg (by unfold isOn; omega), if_neg (by unfold isSet; omega)]
    have h2 : mostF a.code = 35 := by unfold mostF; rw [h]; rfl
    omega
  clear ha hb hK hgood
  have hL : (lenR a : Int) = if a.code = 1 ∨ a.code = 2 then 2 + (a.count + 7) / 8 else if a.code = 3 ∨ a.code = 4 then 2 + 2 * a.count else if a.code = 20 then 2 + (sumP (a.parts.take a.parts.length)) else 5 := by
    rw [List.take_length]
    unfold lenR need
    split
    · have := hcnt (by omega); omega
    · split
      · have := hcnt (by omega); omega
      · split
        · have h2 := (sumP_bound hgd (Nat.le_refl _)).1
          rw [List.take_length] at h2
          omega
        · rfl
  rw [hL]
  obtain ⟨code, addr, count, on, set, parts⟩ := a
  obtain ⟨A1, n1, c1, A2, n2, c2, A3, n3, c3⟩ := s
  simp only at e3 hcnt hgd hcases HA hln ⊢
  simp only [askV]
  rw [e3]
  have Hgd := Lib.hid hgd; have E3 := Lib.hid e3
  clear hL hgd e3
  rcases hcases with rfl | rfl | rfl | rfl | rfl | rfl | rfl | rfl | rfl
  case inr.inr.inr.inr.inr.inr.inr.inr =>
    have hn := hln rfl
    rw [E3.out] at hn
    clear hln hcnt
    go_enter Try.func37, Try.ntmps37
    go_wp2_with fail
    go_loopw [3, 5, 28] (fun x _ j wr => ∃ (k : Nat) (y : Int), k ≤ n3 ∧ x = .int .i64 y ∧ y = 2 + sumP (parts.take k) ∧ j = .int .i64 (k : Int) ∧ Ext w wr) (fun _ _ j _ => n3 - (intOf j).toNat)
    case atStart => exact ⟨0, 2, by omega, rfl, by simp [sumP], rfl, Ext.alloc _ _⟩
    case round =>
      obtain ⟨k, y, hk, rfl, hy, rfl, hx⟩ := hrel
      rcases Nat.lt_or_ge k n3 with hlt | hge
      · obtain ⟨b1, o1, p, hp, rfl, hb1, e0, e1, e2, -⟩ := part_cells (HA.out.ext hx) hlt
        have hkl : k < parts.length := by rw [E3.out]; exact hlt
        have hst := sumP_take hkl
        have hpe : parts[k] = p := by rw [List.getElem?_eq_getElem hkl] at hp; injection hp
        rw [hpe] at hst
        have hbad := Hgd.out k hkl
        rw [hpe] at hbad
        have hbd := sumP_bound Hgd.out (k := k) (by omega)
        unfold badP at hbad
        generalize p.file = F at *
        generalize p.record = R at *
        generalize p.len = L at *
        have v1 : IntKind.i64.wrap (2 * L) = 2 * L := IntWalk.i64_in _ (by omega)
        have v2 : IntKind.i64.wrap (2 + 2 * L) = 2 + 2 * L := IntWalk.i64_in _ (by omega)
        have v3 : IntKind.i64.wrap (y + (2 + 2 * L)) = y + (2 + 2 * L) := IntWalk.i64_in _ (by omega)
        have HS := Lib.hid hst
        have HY := Lib.hid hy
        have HX := Lib.hid hx
        clear hst hpe hbad hbd hp hy hx
        go_wp2_with fail
        go_roundw
        case rel => exact ⟨k + 1, y + (2 + 2 * L), by omega, rfl, by rw [HS.out, HY.out]; omega, by go_num, by repeat' (first | with_reducible exact HX.out | with_reducible refine Ext.drewN' ?_ _ | with_reducible refine Ext.drew' ?_ | with_reducible refine Ext.alloc' ?_ _)⟩
        case measure => simp [intOf]; omega
      · obtain rfl : k = n3 := by omega
        subst hy
        go_wp2_with fail
        go_ret
        exact ⟨rfl, hx⟩
  all_goals
    first
      | (have hct := hcnt (by omega)
         have v1 : IntKind.i64.wrap (2 * count) = 2 * count := IntWalk.i64_in _ (by omega)
         have v2 : IntKind.i64.wrap (2 + 2 * count) = 2 + 2 * count := IntWalk.i64_in _ (by omega)
         have v3 : IntKind.i64.wrap (count + 7) = count + 7 := IntWalk.i64_in _ (by omega)
         have v4 : Int.tdiv (count + 7) 8 = (count + 7) / 8 := Int.tdiv_eq_ediv_of_nonneg (by omega)
         have v5 : IntKind.i64.wrap (2 + (count + 7) / 8) = 2 + (count + 7) / 8 := IntWalk.i64_in _ (by omega)
         have v6 : IntKind.i64.wrap ((count + 7) / 8) = (count + 7) / 8 := IntWalk.i64_in _ (by omega))
      | skip
    clear hln hcnt
    go_enter Try.func37, Try.ntmps37
    go_wp2_with fail
    go_ret
    refine RetI.of ?_ (Ext.alloc _ _)
    simp

theorem equal_any (a b : List UInt8) (A B : Option Addr) (n m ca cb : Nat) (w : World) (ha : Rd w A n (a.map cB)) (hb : Rd w B m (b.map cB)) (hn : 0 < n) (hm : 0 < m) :
    Calls Try.prog 46 #[.slice A n ca, .slice B m cb] w fun e w' => e = .returned (.bool (decide (a = b))) ∧ w = w' := by
  obtain ⟨b1, o1, rfl, hb1, hc1⟩ := ha.2 hn
  obtain ⟨b2, o2, rfl, hb2, hc2⟩ := hb.2 hm
  have hcv : ∀ (l : List UInt8) (b o k c : Nat) (hk : l.length = k) (hc : ∀ j u, (l.map cB)[j]? = some u → w.cell? ⟨b, o + j, none⟩ = some u), (convert 34 9 (.slice (some ⟨b, o, none⟩) k c)).run Try.prog w = .ok (.string (strOfNums (l.map fun x => (x.toNat : Int)))) w := fun l b o k c hk hc =>
    run_convert_bytes_arg w 34 5 Try.underlying34 Try.underlying5 b o k c _ (by simpa using hk) (fun i hi => by
      refine hc i _ ?_
      have hil : i < l.length := by omega
      simp [List.getElem?_eq_getElem hil, List.getD, cB]) _ Try.underlying9
  have h1 := hcv a b1 o1 n ca ha.length hc1
  have h2 := hcv b b2 o2 m cb hb.length hc2
  have he : ((strOfNums (a.map fun x => (x.toNat : Int))).toList == (strOfNums (b.map fun x => (x.toNat : Int))).toList) = decide (a = b) := by
    rw [strOf_list, strOf_list]
    by_cases h : a = b
    · subst h; simp
    · rw [decide_eq_false h, beq_eq_false_iff_ne]; exact h
  generalize strOfNums (a.map fun x => (x.toNat : Int)) = S1 at *
  generalize strOfNums (b.map fun x => (x.toNat : Int)) = S2 at *
  clear ha hb hcv hc1 hc2
  go_enter Try.func46, Try.ntmps46
  go_wp2_with fail
  go_ret
  exact ⟨by rw [← he]; rfl, rfl⟩

/-- The closure that takes the next n bytes. -/
theorem take_any (xs : List Value) (n at_ gA gB N c : Nat) (A : Option Addr) (w : World) (hr : Rd w A N xs) (hc : N ≤ c ∧ c ≤ 9223372036854775807) (hA : w.heap[gA]? = some (.cells #[.int .i64 (at_ : Int)] 3 (0, 0))) (hB : w.heap[gB]? = some (.cells #[.slice A N c] 34 (0, 0))) (hn : at_ + n ≤ N) (hN : N ≤ 1000000) :
    Calls Try.prog 45 #[.int .i64 (n : Int), .pointer (some ⟨gA, 0, none⟩), .pointer (some ⟨gB, 0, none⟩)] w fun e w' => ∃ A', e = .returned (.slice A' n (c - at_)) ∧ (∀ X, Rd X A N xs → Rd X A' n ((xs.drop at_).take n)) ∧ w' = w.setCell ⟨gA, 0, none⟩ (.int .i64 ((at_ + n : Nat) : Int)) := by
  have c1 : w.cell? ⟨gA, 0, none⟩ = some (.int .i64 (at_ : Int)) := cell_of_row _ _ _ _ _ _ hA
  have c2 : w.cell? ⟨gB, 0, none⟩ = some (.slice A N c) := cell_of_row _ _ _ _ _ _ hB
  have f1 := frozen_of_row _ _ 0 _ _ hA
  have hne : gB ≠ gA := fun e => by rw [e, hA] at hB; simp at hB
  have v1 : IntKind.i64.wrap ((at_ : Int) + n) = (at_ : Int) + n := IntWalk.i64_in _ (by omega)
  have v2 : IntKind.i64.wrap ((at_ : Int) + n - n) = (at_ : Int) := by rw [IntWalk.i64_in _ (by omega)]; omega
  have HR := Lib.hid hr
  clear hr hA hB
  go_enter Try.func45, Try.ntmps45
  go_wp2_with fail
  all_goals
    go_ret
    refine ⟨_, rfl, ?_, by first | rfl | rw [Int.natCast_add]⟩
    first
      | exact fun X h => h.cut hn
      | (obtain rfl : n = 0 := by omega
         exact fun X h => by simpa using Rd.empty_ X A)
end Go.Proofs.Ytcnjhjfepojdaaa
