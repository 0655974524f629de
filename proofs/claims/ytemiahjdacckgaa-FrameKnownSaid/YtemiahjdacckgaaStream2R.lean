/- Contracts of the frames on a stream: the reference's Get. -/
import Derived.Test.YtemiahjdacckgaaStream2
namespace Go.Proofs.Ytemiahjdacckgaa
set_option linter.unusedVariables false
open Go Go.RowKit Go.Out

theorem add_u16' (x y : Nat) (hx : x < 256) (hy : y < 256) : IntKind.u16.wrap (IntKind.u16.wrap (IntKind.u16.wrap (x : Int) * 256) + IntKind.u16.wrap (y : Int)) = ((x * 256 + y : Nat) : Int) := by
  rw [IntKind.wrap_u16, IntKind.wrap_u16, IntKind.wrap_u16, IntKind.wrap_u16]; omega

set_option maxHeartbeats 2000000 in
theorem refTcpGet_any (b : List UInt8) (A : Option Addr) (m c : Nat) (w : World) (hr : Rd w A m (b.map cB)) (hc : m ≤ c) (hm : m ≤ 140737488355200) :
    Calls Try.prog 32 #[.slice A m c] w (RetG w 5 (getTF b)) := by
  have hl := hr.length
  have Hr := Lib.hid hr; clear hr
  rcases Nat.lt_or_ge m 7 with h7 | h7
  · rw [show getTF b = (tcp0, 0, 1) from if_pos (by omega)]
    clear hl
    go_enter Try.func32, Try.ntmps32
    go_wp2_with fail
    exact bodyPost_ret (v := .tuple #[.agg #[.int .u16 0, .int .u8 0, .slice none 0 0], .int .i64 0, .int .i64 1]) (by simp [results, Try.results32, go_sem]) rfl ⟨_, _, _, rfl, Own.nil_ _ _ _ _, Ext.below (Ext.alloc _ _)⟩
  · obtain ⟨bk, off, rfl, hbk, hcell⟩ := Hr.out.u8all (by omega)
    have hcw : ∀ j, j < m → (w.alloc (.cells #[.int .u16 0, .int .u8 0, .slice none 0 0] 34)).cell? ⟨bk, off + j, none⟩ = some (.int .u8 ((b.getD j 0).toNat : Int)) := fun j hj => (Ext.alloc _ _).cell hbk (hcell j hj)
    have c2 := hcw 2 (by omega); have c3 := hcw 3 (by omega); have c4 := hcw 4 (by omega); have c5 := hcw 5 (by omega)
    have hb4 := (b.getD 4 0).toNat_lt; have hb5 := (b.getD 5 0).toNat_lt; have hb2 := (b.getD 2 0).toNat_lt; have hb3 := (b.getD 3 0).toNat_lt
    have hf1 := @getTF_form b; have hf2 := @getTF_more b; have hf3 := @getTF_all b
    have hn : at2 b 4 = (b.getD 4 0).toNat * 256 + (b.getD 5 0).toNat := rfl
    rw [hn, hl] at hf1 hf2 hf3
    clear hn
    generalize (b.getD 2 0).toNat = x2 at *; generalize (b.getD 3 0).toNat = x3 at *; generalize (b.getD 4 0).toNat = x4 at *; generalize (b.getD 5 0).toNat = x5 at *
    have Hf1 := Lib.hid hf1; have Hf2 := Lib.hid hf2; have Hf3 := Lib.hid hf3; clear hf1 hf2 hf3
    obtain ⟨N, hN⟩ : ∃ N, x4 * 256 + x5 = N := ⟨_, rfl⟩
    have hor : (x4 : Int) * 256 + (x5 : Int) = (N : Int) := by omega
    have HN := Lib.hid hN; clear hN
    have hi4 : (4 : Int) < (m : Int) := by omega
    have hi5 : (5 : Int) < (m : Int) := by omega
    have hi2 : (2 : Int) < (m : Int) := by omega
    have hi3 : (3 : Int) < (m : Int) := by omega
    have Hcw := Lib.hid hcw; have Hcell := Lib.hid hcell; clear hcw hcell
    have Hl := Lib.hid hl; clear hl
    by_cases h23 : x2 ≠ 0 ∨ x3 ≠ 0
    · rw [Hf1.out (by omega) (by omega)]
      by_cases h2 : x2 ≠ 0
      · have ht : ((x2 : Int) != 0) = true := by simp; omega
        clear h23
        go_enter Try.func32, Try.ntmps32
        go_wp2_with fail
        go_quiet (fail)
        go_wp2_with fail
        exact bodyPost_ret (v := .tuple #[.agg #[.int .u16 0, .int .u8 0, .slice none 0 0], .int .i64 0, .int .i64 4]) (by simp [results, Try.results32, go_sem]) rfl ⟨_, _, _, rfl, Own.nil_ _ _ _ _, Ext.below (((((Ext.alloc _ _).drewN' _).set' (Nat.le_refl _) _).set' (Nat.le_refl _) _).set' (Nat.le_refl _) _)⟩
      · obtain rfl : x2 = 0 := by omega
        have ht : ((x3 : Int) != 0) = true := by simp; omega
        clear h23 h2 hb2
        go_enter Try.func32, Try.ntmps32
        go_wp2_with fail
        go_quiet (fail)
        go_wp2_with fail
        exact bodyPost_ret (v := .tuple #[.agg #[.int .u16 0, .int .u8 0, .slice none 0 0], .int .i64 0, .int .i64 4]) (by simp [results, Try.results32, go_sem]) rfl ⟨_, _, _, rfl, Own.nil_ _ _ _ _, Ext.below (((((Ext.alloc _ _).drewN' _).set' (Nat.le_refl _) _).set' (Nat.le_refl _) _).set' (Nat.le_refl _) _)⟩
    · obtain ⟨rfl, rfl⟩ : x2 = 0 ∧ x3 = 0 := by omega
      clear h23 hb2 hb3
      rcases Nat.lt_or_ge N 2 with hN2 | hN2
      · rw [Hf1.out (by omega) (by have := HN.out; omega)]
        have hd2 : decide ((N : Int) < 2) = true := by simp; omega
        go_enter Try.func32, Try.ntmps32
        go_wp2_with fail
        go_quiet (fail)
        go_wp2_with fail
        exact bodyPost_ret (v := .tuple #[.agg #[.int .u16 0, .int .u8 0, .slice none 0 0], .int .i64 0, .int .i64 4]) (by simp [results, Try.results32, go_sem]) rfl ⟨_, _, _, rfl, Own.nil_ _ _ _ _, Ext.below (((((Ext.alloc _ _).drewN' _).set' (Nat.le_refl _) _).set' (Nat.le_refl _) _).set' (Nat.le_refl _) _)⟩
      · rcases Nat.lt_or_ge 254 N with hN3 | hN3
        · rw [Hf1.out (by omega) (by have := HN.out; omega)]
          have hd2 : decide ((N : Int) < 2) = false := by simp; omega
          have hd3 : decide ((254 : Int) < (N : Int)) = true := by simp; omega
          go_enter Try.func32, Try.ntmps32
          go_wp2_with fail
          go_quiet (fail)
          go_wp2_with fail
          exact bodyPost_ret (v := .tuple #[.agg #[.int .u16 0, .int .u8 0, .slice none 0 0], .int .i64 0, .int .i64 4]) (by simp [results, Try.results32, go_sem]) rfl ⟨_, _, _, rfl, Own.nil_ _ _ _ _, Ext.below (((((Ext.alloc _ _).drewN' _).set' (Nat.le_refl _) _).set' (Nat.le_refl _) _).set' (Nat.le_refl _) _)⟩
        · have hd2 : decide ((N : Int) < 2) = false := by simp; omega
          have hd3 : decide ((254 : Int) < (N : Int)) = false := by simp; omega
          rcases Nat.lt_or_ge m (6 + N) with hmN | hmN
          · rw [Hf2.out (by omega) (by have := HN.out; omega) (by have := HN.out; omega)]
            go_enter Try.func32, Try.ntmps32
            go_wp2_with fail
            go_quiet (fail)
            go_wp2_with fail
            exact bodyPost_ret (v := .tuple #[.agg #[.int .u16 0, .int .u8 0, .slice none 0 0], .int .i64 0, .int .i64 1]) (by simp [results, Try.results32, go_sem]) rfl ⟨_, _, _, rfl, Own.nil_ _ _ _ _, Ext.below (((((Ext.alloc _ _).drewN' _).set' (Nat.le_refl _) _).set' (Nat.le_refl _) _).set' (Nat.le_refl _) _)⟩
          · have hf := Hf3.out (by omega) (by have := HN.out; omega) (by have := HN.out; omega)
            rw [HN.out, show at2 b 0 = (b.getD 0 0).toNat * 256 + (b.getD 1 0).toNat from rfl] at hf
            rw [hf]
            clear hf
            have c0 := Hcw.out 0 (by omega); have c1 := Hcw.out 1 (by omega); have c6 := Hcw.out 6 (by omega)
            have hb0 := (b.getD 0 0).toNat_lt; have hb1 := (b.getD 1 0).toNat_lt; have hb6 := (b.getD 6 0).toNat_lt
            rw [Nat.add_zero] at c0
            generalize hx0 : (b.getD 0 0).toNat = x0 at *; generalize hx1 : (b.getD 1 0).toNat = x1 at *
            generalize hy : b.getD 6 0 = y at *
            generalize hx6 : y.toNat = x6 at *
            have hor16 := add_u16' x0 x1 (by omega) (by omega)
            have Hy := Lib.hid hy; have Hx6 := Lib.hid hx6; have Hx0 := Lib.hid hx0; have Hx1 := Lib.hid hx1; clear hy hx6 hx0 hx1
            go_enter Try.func32, Try.ntmps32
            go_wp2_with fail
            go_quiet (fail)
            go_wp2_with fail
            clear c2 c3 c4 c5 hor hd2 hd3 hb4 hb5
            have hi0 : 0 < m := by omega
            have hi1 : (1 : Int) < (m : Int) := by omega
            have hi6 : (6 : Int) < (m : Int) := by omega
            have hs1 : IntKind.i64.wrap (6 + (N : Int)) = 6 + (N : Int) := IntWalk.i64_in _ (by omega)
            have hs2 : (7 : Int) ≤ 6 + (N : Int) := by omega
            have hs3 : 6 + (N : Int) ≤ (c : Int) := by omega
            have hc7 : ¬ c = 7 := by omega
            have hbk1 : ¬ bk = w.heap.size := by omega
            have hbk2 : ¬ w.heap.size = bk := by omega
            have hs4 : (6 + (N : Int)).toNat = 6 + N := by omega
            have hs5 : 6 + N - 7 = N - 1 := by omega
            -- ENDS
            have hlt : ∀ {A B : Nat}, A < B → ¬ A = B := fun h e => by omega
            have hFA : ∀ k, (((w.alloc (.cells #[.int .u16 0, .int .u8 0, .slice none 0 0] 34)).drewN k).alloc (.cells #[] 5)).heap[w.heap.size]? = some (.cells #[.int .u16 0, .int .u8 0, .slice none 0 0] 34 (0, 0)) := fun k => ((Ext.draws _ k).trans (Ext.alloc _ (.cells #[] 5))).block (heap_alloc_new w _)
            have hownA : ∀ k, Own (((w.alloc (.cells #[.int .u16 0, .int .u8 0, .slice none 0 0] 34)).drewN k).alloc (.cells #[] 5)) (w.heap.size + 1) 5 IsU8 (some ⟨w.heap.size + 1, 0, none⟩) 0 0 [] := fun k => by
              have h := Own.new (p := IsU8) (base := w.heap.size + 1) ((w.alloc (.cells #[.int .u16 0, .int .u8 0, .slice none 0 0] 34)).drewN k) (by simp) 5 #[] 0 (by simp) (by simp) (by simp)
              simpa using h
            have hckA : ∀ k j, j < m → (((w.alloc (.cells #[.int .u16 0, .int .u8 0, .slice none 0 0] 34)).drewN k).alloc (.cells #[] 5)).cell? ⟨bk, off + j, none⟩ = some (.int .u8 ((b.getD j 0).toNat : Int)) := fun k j hj => ((Ext.draws _ k).trans (Ext.alloc _ (.cells #[] 5))).cell (by simp <;> omega) (Hcw.out j hj)
            have hrA : ∀ k, Rd (((w.alloc (.cells #[.int .u16 0, .int .u8 0, .slice none 0 0] 34)).drewN k).alloc (.cells #[] 5)) (some ⟨bk, off + 7, none⟩) (N - 1) (((b.drop 7).take (N - 1)).map cB) := fun k => by
              have h := (Hr.out.cut (k := 7) (m := N - 1) (by omega)).ext ((Ext.alloc w (.cells #[.int .u16 0, .int .u8 0, .slice none 0 0] 34)).trans ((Ext.draws _ k).trans (Ext.alloc _ (.cells #[] 5))))
              rw [← List.map_drop, ← List.map_take] at h
              exact h
            have HownA := Lib.hid hownA; have HrA := Lib.hid hrA; have HFA := Lib.hid hFA; have HckA := Lib.hid hckA
            have hFB : ∀ k, ((((w.alloc (.cells #[.int .u16 0, .int .u8 0, .slice none 0 0] 34)).drewN k).alloc (.cells #[] 5)).alloc (.cells #[.int .u16 0, .int .u8 0, .slice none 0 0] 34)).heap[w.heap.size]? = some (.cells #[.int .u16 0, .int .u8 0, .slice none 0 0] 34 (0, 0)) := fun k => ((Ext.draws _ k).trans ((Ext.alloc _ (.cells #[] 5)).trans (Ext.alloc _ (.cells #[.int .u16 0, .int .u8 0, .slice none 0 0] 34)))).block (heap_alloc_new w _)
            have hownB : ∀ k, Own ((((w.alloc (.cells #[.int .u16 0, .int .u8 0, .slice none 0 0] 34)).drewN k).alloc (.cells #[] 5)).alloc (.cells #[.int .u16 0, .int .u8 0, .slice none 0 0] 34)) (w.heap.size + 1) 5 IsU8 (some ⟨w.heap.size + 1, 0, none⟩) 0 0 [] := fun k => (hownA k).ext (Ext.alloc _ _)
            have hckB : ∀ k j, j < m → ((((w.alloc (.cells #[.int .u16 0, .int .u8 0, .slice none 0 0] 34)).drewN k).alloc (.cells #[] 5)).alloc (.cells #[.int .u16 0, .int .u8 0, .slice none 0 0] 34)).cell? ⟨bk, off + j, none⟩ = some (.int .u8 ((b.getD j 0).toNat : Int)) := fun k j hj => ((Ext.draws _ k).trans ((Ext.alloc _ (.cells #[] 5)).trans (Ext.alloc _ (.cells #[.int .u16 0, .int .u8 0, .slice none 0 0] 34)))).cell (by simp <;> omega) (Hcw.out j hj)
            have hrB : ∀ k, Rd ((((w.alloc (.cells #[.int .u16 0, .int .u8 0, .slice none 0 0] 34)).drewN k).alloc (.cells #[] 5)).alloc (.cells #[.int .u16 0, .int .u8 0, .slice none 0 0] 34)) (some ⟨bk, off + 7, none⟩) (N - 1) (((b.drop 7).take (N - 1)).map cB) := fun k => by
              have h := (Hr.out.cut (k := 7) (m := N - 1) (by omega)).ext ((Ext.alloc w (.cells #[.int .u16 0, .int .u8 0, .slice none 0 0] 34)).trans ((Ext.draws _ k).trans ((Ext.alloc _ (.cells #[] 5)).trans (Ext.alloc _ (.cells #[.int .u16 0, .int .u8 0, .slice none 0 0] 34)))))
              rw [← List.map_drop, ← List.map_take] at h
              exact h
            have hfB : ∀ k, ((((w.alloc (.cells #[.int .u16 0, .int .u8 0, .slice none 0 0] 34)).drewN k).alloc (.cells #[] 5)).alloc (.cells #[.int .u16 0, .int .u8 0, .slice none 0 0] 34)).heap[w.heap.size + 1 + 1]? = some (.cells #[.int .u16 0, .int .u8 0, .slice none 0 0] 34 (0, 0)) := fun k => by have h := heap_alloc_new (((w.alloc (.cells #[.int .u16 0, .int .u8 0, .slice none 0 0] 34)).drewN k).alloc (.cells #[] 5)) (.cells #[.int .u16 0, .int .u8 0, .slice none 0 0] 34); simpa using h
            have HownB := Lib.hid hownB; have HrB := Lib.hid hrB; have HFB := Lib.hid hFB; have HckB := Lib.hid hckB; have HfB := Lib.hid hfB
            have hFC : ∀ k, ((((w.alloc (.cells #[.int .u16 0, .int .u8 0, .slice none 0 0] 34)).drewN k).alloc (.cells #[.int .u16 0, .int .u8 0, .slice none 0 0] 34)).alloc (.cells #[] 5)).heap[w.heap.size]? = some (.cells #[.int .u16 0, .int .u8 0, .slice none 0 0] 34 (0, 0)) := fun k => ((Ext.draws _ k).trans ((Ext.alloc _ (.cells #[.int .u16 0, .int .u8 0, .slice none 0 0] 34)).trans (Ext.alloc _ (.cells #[] 5)))).block (heap_alloc_new w _)
            have hckC : ∀ k j, j < m → ((((w.alloc (.cells #[.int .u16 0, .int .u8 0, .slice none 0 0] 34)).drewN k).alloc (.cells #[.int .u16 0, .int .u8 0, .slice none 0 0] 34)).alloc (.cells #[] 5)).cell? ⟨bk, off + j, none⟩ = some (.int .u8 ((b.getD j 0).toNat : Int)) := fun k j hj => ((Ext.draws _ k).trans ((Ext.alloc _ (.cells #[.int .u16 0, .int .u8 0, .slice none 0 0] 34)).trans (Ext.alloc _ (.cells #[] 5)))).cell (by simp <;> omega) (Hcw.out j hj)
            have hownC : ∀ k, Own ((((w.alloc (.cells #[.int .u16 0, .int .u8 0, .slice none 0 0] 34)).drewN k).alloc (.cells #[.int .u16 0, .int .u8 0, .slice none 0 0] 34)).alloc (.cells #[] 5)) (w.heap.size + 1) 5 IsU8 (some ⟨w.heap.size + 1 + 1, 0, none⟩) 0 0 [] := fun k => by
              have h := Own.new (p := IsU8) (base := w.heap.size + 1) (((w.alloc (.cells #[.int .u16 0, .int .u8 0, .slice none 0 0] 34)).drewN k).alloc (.cells #[.int .u16 0, .int .u8 0, .slice none 0 0] 34)) (by simp) 5 #[] 0 (by simp) (by simp) (by simp)
              simpa using h
            have hrC : ∀ k, Rd ((((w.alloc (.cells #[.int .u16 0, .int .u8 0, .slice none 0 0] 34)).drewN k).alloc (.cells #[.int .u16 0, .int .u8 0, .slice none 0 0] 34)).alloc (.cells #[] 5)) (some ⟨bk, off + 7, none⟩) (N - 1) (((b.drop 7).take (N - 1)).map cB) := fun k => by
              have h := (Hr.out.cut (k := 7) (m := N - 1) (by omega)).ext ((Ext.alloc w (.cells #[.int .u16 0, .int .u8 0, .slice none 0 0] 34)).trans ((Ext.draws _ k).trans ((Ext.alloc _ (.cells #[.int .u16 0, .int .u8 0, .slice none 0 0] 34)).trans (Ext.alloc _ (.cells #[] 5)))))
              rw [← List.map_drop, ← List.map_take] at h
              exact h
            have hfC : ∀ k, ((((w.alloc (.cells #[.int .u16 0, .int .u8 0, .slice none 0 0] 34)).drewN k).alloc (.cells #[.int .u16 0, .int .u8 0, .slice none 0 0] 34)).alloc (.cells #[] 5)).heap[w.heap.size + 1]? = some (.cells #[.int .u16 0, .int .u8 0, .slice none 0 0] 34 (0, 0)) := fun k => (Ext.alloc _ _).block (by have h := heap_alloc_new ((w.alloc (.cells #[.int .u16 0, .int .u8 0, .slice none 0 0] 34)).drewN k) (.cells #[.int .u16 0, .int .u8 0, .slice none 0 0] 34); simpa using h)
            have HownC := Lib.hid hownC; have HrC := Lib.hid hrC; have HFC := Lib.hid hFC; have HckC := Lib.hid hckC; have HfC := Lib.hid hfC
            clear hFA hownA hrA hFB hownB hrB hFC hownC hrC hfB hfC hlt hckA hckB hckC
            have hbk3 : ¬ bk = w.heap.size + 1 := by omega
            have hbk4 : ¬ bk = w.heap.size + 1 + 1 := by omega
            have hbk5 : ¬ w.heap.size + 1 = bk := by omega
            have hbk6 : ¬ w.heap.size + 1 + 1 = bk := by omega
            go_region_held3 (fun w' => w'.cell? ⟨bk, off, none⟩ = some (.int .u8 (x0 : Int)) ∧ w'.cell? ⟨bk, off + 1, none⟩ = some (.int .u8 (x1 : Int)) ∧ w'.cell? ⟨bk, off + 6, none⟩ = some (.int .u8 (x6 : Int))) (go_keep) ((refine step_u8 (base := w.heap.size + 1) (xs := []) (news := (((b.drop 7).take (N - 1)).map cB)) rfl (.tmp 59) (.tmp 63) rfl rfl (by first | with_reducible exact HownA.out _ | with_reducible exact HownB.out _ | with_reducible exact HownC.out _) rfl (by first | with_reducible exact HrA.out _ | with_reducible exact HrB.out _ | with_reducible exact HrC.out _) isU8_map (by omega) (by simp <;> omega) ?_; intro A2 n2 w2 hown2 hg2 hb2; have hf2 : w2.heap[w.heap.size]? = some (.cells #[.int .u16 0, .int .u8 0, .slice none 0 0] 34 (0, 0)) := (hg2.block w.heap.size (by simp <;> omega) (by simp [blk] <;> omega)).trans (by first | with_reducible exact HFA.out _ | with_reducible exact HFB.out _ | with_reducible exact HFC.out _); have hck : ∀ j, j < m → w2.cell? ⟨bk, off + j, none⟩ = some (.int .u8 ((b.getD j 0).toNat : Int)) := fun j hj => (World.cell?_of_block (a := ⟨bk, off + j, none⟩) (hg2.block bk (by simp <;> omega) (by simp [blk]; omega))).trans (by first | with_reducible exact HckA.out _ j hj | with_reducible exact HckB.out _ j hj | with_reducible exact HckC.out _ j hj); have k0 := hck 0 (by omega); have k1 := hck 1 (by omega); have k6 := hck 6 (by omega); rw [Nat.add_zero] at k0; rw [Hx0.out] at k0; rw [Hx1.out] at k1; rw [Hy.out, Hx6.out] at k6; have d0 : w2.cell? ⟨w.heap.size, 0, none⟩ = some (.int .u16 0) := (cell_of_row _ _ _ _ _ _ hf2).trans rfl; have e0 := frozen_of_row w2 w.heap.size 0 _ _ hf2; have d0_ : ∀ o, (w2.alloc o).cell? ⟨w.heap.size, 0, none⟩ = some (.int .u16 0) := fun o => (Ext.alloc w2 o).cell (lt_of_heap hf2) d0; have e0_ : ∀ o, (w2.alloc o).frozen? ⟨w.heap.size, 0, none⟩ = false := fun o => frozen_of_row _ w.heap.size 0 _ _ ((Ext.alloc w2 o).block hf2); have d1 : w2.cell? ⟨w.heap.size, 1, none⟩ = some (.int .u8 0) := (cell_of_row _ _ _ _ _ _ hf2).trans rfl; have e1 := frozen_of_row w2 w.heap.size 1 _ _ hf2; have d1_ : ∀ o, (w2.alloc o).cell? ⟨w.heap.size, 1, none⟩ = some (.int .u8 0) := fun o => (Ext.alloc w2 o).cell (lt_of_heap hf2) d1; have e1_ : ∀ o, (w2.alloc o).frozen? ⟨w.heap.size, 1, none⟩ = false := fun o => frozen_of_row _ w.heap.size 1 _ _ ((Ext.alloc w2 o).block hf2); have d2 : w2.cell? ⟨w.heap.size, 2, none⟩ = some (.slice none 0 0) := (cell_of_row _ _ _ _ _ _ hf2).trans rfl; have e2 := frozen_of_row w2 w.heap.size 2 _ _ hf2; have d2_ : ∀ o, (w2.alloc o).cell? ⟨w.heap.size, 2, none⟩ = some (.slice none 0 0) := fun o => (Ext.alloc w2 o).cell (lt_of_heap hf2) d2; have e2_ : ∀ o, (w2.alloc o).frozen? ⟨w.heap.size, 2, none⟩ = false := fun o => frozen_of_row _ w.heap.size 2 _ _ ((Ext.alloc w2 o).block hf2); (first | (have hf3 : w2.heap[w.heap.size + 1 + 1]? = some (.cells #[.int .u16 0, .int .u8 0, .slice none 0 0] 34 (0, 0)) := (hg2.block (w.heap.size + 1 + 1) (by simp) (by simp [blk] <;> omega)).trans (by with_reducible exact HfB.out _); have g0 : w2.cell? ⟨w.heap.size + 1 + 1, 0, none⟩ = some (.int .u16 0) := (cell_of_row _ _ _ _ _ _ hf3).trans rfl; have h0 := frozen_of_row w2 (w.heap.size + 1 + 1) 0 _ _ hf3; have g1 : w2.cell? ⟨w.heap.size + 1 + 1, 1, none⟩ = some (.int .u8 0) := (cell_of_row _ _ _ _ _ _ hf3).trans rfl; have h1 := frozen_of_row w2 (w.heap.size + 1 + 1) 1 _ _ hf3; have g2 : w2.cell? ⟨w.heap.size + 1 + 1, 2, none⟩ = some (.slice none 0 0) := (cell_of_row _ _ _ _ _ _ hf3).trans rfl; have h2 := frozen_of_row w2 (w.heap.size + 1 + 1) 2 _ _ hf3; have Hf3 := Lib.hid hf3; clear hf3) | (have hf3 : w2.heap[w.heap.size + 1]? = some (.cells #[.int .u16 0, .int .u8 0, .slice none 0 0] 34 (0, 0)) := (hg2.block (w.heap.size + 1) (by simp) (by simp [blk] <;> omega)).trans (by with_reducible exact HfC.out _); have g0 : w2.cell? ⟨w.heap.size + 1, 0, none⟩ = some (.int .u16 0) := (cell_of_row _ _ _ _ _ _ hf3).trans rfl; have h0 := frozen_of_row w2 (w.heap.size + 1) 0 _ _ hf3; have g1 : w2.cell? ⟨w.heap.size + 1, 1, none⟩ = some (.int .u8 0) := (cell_of_row _ _ _ _ _ _ hf3).trans rfl; have h1 := frozen_of_row w2 (w.heap.size + 1) 1 _ _ hf3; have g2 : w2.cell? ⟨w.heap.size + 1, 2, none⟩ = some (.slice none 0 0) := (cell_of_row _ _ _ _ _ _ hf3).trans rfl; have h2 := frozen_of_row w2 (w.heap.size + 1) 2 _ _ hf3; have Hf3 := Lib.hid hf3; clear hf3) | skip); rw [Nat.zero_add]; rw [Nat.zero_add, List.nil_append] at hown2; have Hown2 := Lib.hid hown2; have Hg2 := Lib.hid hg2; have hz2 : w.heap.size + 2 ≤ w2.heap.size := Nat.le_trans (by simp <;> omega) Hg2.out.size; have hw2a : ¬ bk = w2.heap.size := (by omega); have hw2b : ¬ w2.heap.size = bk := (by omega); have hw2c : ¬ w.heap.size = w2.heap.size := (by omega); clear hown2 hg2 hb2 hf2 hck))
            all_goals go_wp2_with fail
            all_goals refine bodyPost_ret (v := .tuple #[.agg #[.int .u16 ((x0 : Int) * 256 + (x1 : Int)), .int .u8 (x6 : Int), .slice A2 (N - 1) n2], .int .i64 (6 + (N : Int)), .int .i64 0]) (by first | (simp [results, Try.results32, go_sem, d0, d1, d2]; done) | (simp [results, Try.results32, go_sem, d0_, d1_, d2_]; done)) rfl ⟨A2, N - 1, n2, by simp [Hx6.out], ?_, ?_⟩
            all_goals try (first | with_reducible exact (((((Hown2.out.ext (Ext.alloc _ _)).set_below (show w.heap.size < w.heap.size + 1 from Nat.lt_succ_self _) _).set_below (show w.heap.size < w.heap.size + 1 from Nat.lt_succ_self _) _).set_below (show w.heap.size < w.heap.size + 1 from Nat.lt_succ_self _) _).mono (Nat.le_succ _)) | (have hT := TyAt.of Hf3.out; with_reducible exact (((((((Hown2.out.set_ty hT (by decide) _).set_ty (hT.set _ _) (by decide) _).set_ty ((hT.set _ _).set _ _) (by decide) _).set_below (show w.heap.size < w.heap.size + 1 from Nat.lt_succ_self _) _).set_below (show w.heap.size < w.heap.size + 1 from Nat.lt_succ_self _) _).set_below (show w.heap.size < w.heap.size + 1 from Nat.lt_succ_self _) _).mono (Nat.le_succ _))))
            all_goals try (first | with_reducible exact Ext.below ((((((((Ext.alloc _ _).drewN' _).alloc' _).grown' Hg2.out (by intro k hk; simp [blk] at hk; omega)).alloc' _).set' (Nat.le_refl _) _).set' (Nat.le_refl _) _).set' (Nat.le_refl _) _) | with_reducible exact Ext.below (((((((((((Ext.alloc _ _).drewN' _).alloc' _).alloc' _).grown' Hg2.out (by intro k hk; simp [blk] at hk; omega)).set' (show w.heap.size ≤ w.heap.size + 1 + 1 from Nat.le_trans (Nat.le_succ _) (Nat.le_succ _)) _).set' (show w.heap.size ≤ w.heap.size + 1 + 1 from Nat.le_trans (Nat.le_succ _) (Nat.le_succ _)) _).set' (show w.heap.size ≤ w.heap.size + 1 + 1 from Nat.le_trans (Nat.le_succ _) (Nat.le_succ _)) _).set' (Nat.le_refl _) _).set' (Nat.le_refl _) _).set' (Nat.le_refl _) _) | with_reducible exact Ext.below (((((((((((Ext.alloc _ _).drewN' _).alloc' _).alloc' _).grown' Hg2.out (by intro k hk; simp [blk] at hk; omega)).set' (show w.heap.size ≤ w.heap.size + 1 from Nat.le_succ _) _).set' (show w.heap.size ≤ w.heap.size + 1 from Nat.le_succ _) _).set' (show w.heap.size ≤ w.heap.size + 1 from Nat.le_succ _) _).set' (Nat.le_refl _) _).set' (Nat.le_refl _) _).set' (Nat.le_refl _) _))
            all_goals trace_state
end Go.Proofs.Ytemiahjdacckgaa
