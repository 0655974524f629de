/- The contract of outstationref21's Check. Printed by wip/genpacr2.py. -/
import Derived.Test.YtifojmmggcenkaaPacR
namespace Go.Proofs.Ytifojmmggcenkaa
set_option linter.unusedVariables false
set_option linter.unusedSimpArgs false
set_option maxRecDepth 100000
set_option maxHeartbeats 4000000
open Go Go.RowKit Go.Out
theorem checkC_F {k e s i c : Int} {n : Nat} (hk : k = 1 ∨ k = 2 ∨ k = 3 ∨ k = 4) (h : fieldC k e s i c n) : checkC k e s i c n = 23 := by
  unfold checkC; rw [if_neg (by omega)]; exact if_pos h
theorem checkC_R {k e s i c : Int} {n : Nat} (hk : k = 1 ∨ k = 2 ∨ k = 3 ∨ k = 4) (h : ¬ fieldC k e s i c n) (r : rangeC k e s i c) : checkC k e s i c n = 3 := by
  unfold checkC; rw [if_neg (by omega)]; exact (if_neg h).trans (if_pos r)
theorem checkC_L {k e s i c : Int} {n : Nat} (hk : k = 1 ∨ k = 2 ∨ k = 3 ∨ k = 4) (h : ¬ fieldC k e s i c n) (r : ¬ rangeC k e s i c) :
    checkC k e s i c n = if n < (if k = 1 then 1 else if k = 3 then 2 else 0) then 1 else if (if k = 1 then 1024 else if k = 3 then 254 else 0) < n then 2 else 0 := by
  unfold checkC; rw [if_neg (by omega)]; exact (if_neg h).trans (if_neg r)
theorem rpacCheck_num (k e s i c : Int) (A : Option Addr) (n cap : Nat) (w : World) :
    Calls Try.prog 42 #[.agg #[.int .i64 k, .int .i64 e, .int .i64 s, .int .i64 i, .int .i64 c, .slice A n cap]] w (RetI w (checkC k e s i c n)) := by
  obtain ⟨K, hK⟩ : ∃ K, checkC k e s i c n = K := ⟨_, rfl⟩
  rw [hK]
  have HK := Lib.hid hK
  clear hK
  have FIN := Lib.hid (show ∀ w', Ext w w' → ∀ k', k' = K → RetI w K (.returned (.int .i64 k')) w' from fun w' hx k' hk => by subst hk; exact ⟨rfl, hx⟩)
  by_cases hk : k < 1 ∨ (1 ≤ k ∧ 4 < k)
  · have Hk := Lib.hid hk
    clear hk
    go_enter Try.func42, Try.ntmps42
    go_wp2_with fail
    refine (rbt_f k 1 4 _ Hk.out).mono ?_
    rintro e' w0 ⟨rfl, rfl⟩
    go_wp2_with fail
    go_ret
    exact FIN.out _ (Ext.alloc _ _) _ (by rw [← HK.out]; have h := Hk.out; unfold checkC; rw [if_pos (by omega)])
  · obtain hk | hk | hk | hk : k = 1 ∨ k = 2 ∨ k = 3 ∨ k = 4 := by omega
    · subst hk
      by_cases hF : fieldC 1 e s i c n
      · have HF := Lib.hid hF; clear hF
        go_enter Try.func42, Try.ntmps42
        go_wp2_with fail
        refine (rbt_t 1 1 4 _ (by omega)).mono ?_
        rintro e' w0 ⟨rfl, rfl⟩
        go_wp2_with fail
        refine (rfield_any 1 e s i c A n cap _ (.inl rfl) true ⟨fun _ => HF.out, fun _ => rfl⟩).mono ?_
        rintro e' w1 ⟨rfl, hx1⟩
        have D := box6 (hx1.block (heap_alloc_new w _))
        obtain ⟨d0, d1, d2, d3, d4, d5, -⟩ := D
        have X1 := Lib.hid ((Ext.alloc _ _).trans hx1); have Y1 := Lib.hid hx1; clear hx1
        go_wp2_with fail
        go_ret
        exact FIN.out _ X1.out _ (by rw [← HK.out]; exact (checkC_F (.inl rfl) HF.out).symm)
      · have HC : Hid ((0:Nat) = 0) := Lib.hid (by rfl)
        have HF := Lib.hid hF; clear hF
        by_cases hR : rangeC 1 e s i c
        · have HR := Lib.hid hR; clear hR
          go_enter Try.func42, Try.ntmps42
          go_wp2_with fail
          refine (rbt_t 1 1 4 _ (by omega)).mono ?_
          rintro e' w0 ⟨rfl, rfl⟩
          go_wp2_with fail
          refine (rfield_any 1 e s i c A n cap _ (.inl rfl) false ⟨fun h => absurd h (by decide), fun h => absurd h HF.out⟩).mono ?_
          rintro e' w1 ⟨rfl, hx1⟩
          have D := box6 (hx1.block (heap_alloc_new w _))
          obtain ⟨d0, d1, d2, d3, d4, d5, -⟩ := D
          have X1 := Lib.hid ((Ext.alloc _ _).trans hx1); have Y1 := Lib.hid hx1; clear hx1
          go_wp2_with fail
          refine (rnumbers_any 1 e s i c A n cap _ (.inl rfl) (fun h => absurd h (by decide)) false ⟨fun _ => HR.out, fun _ => rfl⟩).mono ?_
          rintro e' w2 ⟨rfl, hx2⟩
          have D := box6 ((Y1.out.trans hx2).block (heap_alloc_new w _))
          clear d0 d1 d2 d3 d4 d5
          obtain ⟨d0, d1, d2, d3, d4, d5, -⟩ := D
          have X2 := Lib.hid (X1.out.trans hx2); clear hx2
          go_wp2_with fail
          go_ret
          exact FIN.out _ X2.out _ (by rw [← HK.out]; exact (checkC_R (.inl rfl) HF.out HR.out).symm)
        · have HR := Lib.hid hR; clear hR
          obtain hn | hn | hn : n < 1 ∨ (1 ≤ n ∧ 1024 < n) ∨ (1 ≤ n ∧ n ≤ 1024) := by omega
          · have HN := Lib.hid hn
            go_enter Try.func42, Try.ntmps42
            go_wp2_with fail
            refine (rbt_t 1 1 4 _ (by omega)).mono ?_
            rintro e' w0 ⟨rfl, rfl⟩
            go_wp2_with fail
            refine (rfield_any 1 e s i c A n cap _ (.inl rfl) false ⟨fun h => absurd h (by decide), fun h => absurd h HF.out⟩).mono ?_
            rintro e' w1 ⟨rfl, hx1⟩
            have D := box6 (hx1.block (heap_alloc_new w _))
            obtain ⟨d0, d1, d2, d3, d4, d5, -⟩ := D
            have X1 := Lib.hid ((Ext.alloc _ _).trans hx1); have Y1 := Lib.hid hx1; clear hx1
            go_wp2_with fail
            refine (rnumbers_any 1 e s i c A n cap _ (.inl rfl) (fun h => absurd h (by decide)) true ⟨fun h => absurd h (by decide), fun h => absurd h HR.out⟩).mono ?_
            rintro e' w2 ⟨rfl, hx2⟩
            have D := box6 ((Y1.out.trans hx2).block (heap_alloc_new w _))
            clear d0 d1 d2 d3 d4 d5
            obtain ⟨d0, d1, d2, d3, d4, d5, -⟩ := D
            have X2 := Lib.hid (X1.out.trans hx2); clear hx2
            go_wp2_with fail
            refine (rfull_any 1 true _ (by decide)).mono ?_
            rintro e' w0 ⟨rfl, rfl⟩
            go_wp2_with fail
            go_ret
            exact FIN.out _ X2.out _ (by rw [← HK.out, checkC_L (.inl rfl) HF.out HR.out]; have h := HN.out; simp; omega)
          · have HN := Lib.hid hn
            obtain ⟨hn1, hn2⟩ := hn
            go_enter Try.func42, Try.ntmps42
            go_wp2_with fail
            refine (rbt_t 1 1 4 _ (by omega)).mono ?_
            rintro e' w0 ⟨rfl, rfl⟩
            go_wp2_with fail
            refine (rfield_any 1 e s i c A n cap _ (.inl rfl) false ⟨fun h => absurd h (by decide), fun h => absurd h HF.out⟩).mono ?_
            rintro e' w1 ⟨rfl, hx1⟩
            have D := box6 (hx1.block (heap_alloc_new w _))
            obtain ⟨d0, d1, d2, d3, d4, d5, -⟩ := D
            have X1 := Lib.hid ((Ext.alloc _ _).trans hx1); have Y1 := Lib.hid hx1; clear hx1
            go_wp2_with fail
            refine (rnumbers_any 1 e s i c A n cap _ (.inl rfl) (fun h => absurd h (by decide)) true ⟨fun h => absurd h (by decide), fun h => absurd h HR.out⟩).mono ?_
            rintro e' w2 ⟨rfl, hx2⟩
            have D := box6 ((Y1.out.trans hx2).block (heap_alloc_new w _))
            clear d0 d1 d2 d3 d4 d5
            obtain ⟨d0, d1, d2, d3, d4, d5, -⟩ := D
            have X2 := Lib.hid (X1.out.trans hx2); clear hx2
            go_wp2_with fail
            refine (rfull_any 1 true _ (by decide)).mono ?_
            rintro e' w0 ⟨rfl, rfl⟩
            go_wp2_with fail
            go_ret
            exact FIN.out _ X2.out _ (by rw [← HK.out, checkC_L (.inl rfl) HF.out HR.out]; have h := HN.out; simp; omega)
          · have HN := Lib.hid hn
            obtain ⟨hn1, hn2⟩ := hn
            go_enter Try.func42, Try.ntmps42
            go_wp2_with fail
            refine (rbt_t 1 1 4 _ (by omega)).mono ?_
            rintro e' w0 ⟨rfl, rfl⟩
            go_wp2_with fail
            refine (rfield_any 1 e s i c A n cap _ (.inl rfl) false ⟨fun h => absurd h (by decide), fun h => absurd h HF.out⟩).mono ?_
            rintro e' w1 ⟨rfl, hx1⟩
            have D := box6 (hx1.block (heap_alloc_new w _))
            obtain ⟨d0, d1, d2, d3, d4, d5, -⟩ := D
            have X1 := Lib.hid ((Ext.alloc _ _).trans hx1); have Y1 := Lib.hid hx1; clear hx1
            go_wp2_with fail
            refine (rnumbers_any 1 e s i c A n cap _ (.inl rfl) (fun h => absurd h (by decide)) true ⟨fun h => absurd h (by decide), fun h => absurd h HR.out⟩).mono ?_
            rintro e' w2 ⟨rfl, hx2⟩
            have D := box6 ((Y1.out.trans hx2).block (heap_alloc_new w _))
            clear d0 d1 d2 d3 d4 d5
            obtain ⟨d0, d1, d2, d3, d4, d5, -⟩ := D
            have X2 := Lib.hid (X1.out.trans hx2); clear hx2
            go_wp2_with fail
            refine (rfull_any 1 true _ (by decide)).mono ?_
            rintro e' w0 ⟨rfl, rfl⟩
            go_wp2_with fail
            go_ret
            exact FIN.out _ X2.out _ (by rw [← HK.out, checkC_L (.inl rfl) HF.out HR.out]; have h := HN.out; simp; omega)
    · subst hk
      by_cases hF : fieldC 2 e s i c n
      · have HF := Lib.hid hF; clear hF
        go_enter Try.func42, Try.ntmps42
        go_wp2_with fail
        refine (rbt_t 2 1 4 _ (by omega)).mono ?_
        rintro e' w0 ⟨rfl, rfl⟩
        go_wp2_with fail
        refine (rfield_any 2 e s i c A n cap _ (.inr (.inl rfl)) true ⟨fun _ => HF.out, fun _ => rfl⟩).mono ?_
        rintro e' w1 ⟨rfl, hx1⟩
        have D := box6 (hx1.block (heap_alloc_new w _))
        obtain ⟨d0, d1, d2, d3, d4, d5, -⟩ := D
        have X1 := Lib.hid ((Ext.alloc _ _).trans hx1); have Y1 := Lib.hid hx1; clear hx1
        go_wp2_with fail
        go_ret
        exact FIN.out _ X1.out _ (by rw [← HK.out]; exact (checkC_F (.inr (.inl rfl)) HF.out).symm)
      · have HC : Hid ((0:Nat) = 0) := Lib.hid (by rfl)
        have HN0 : Hid (n = 0) := Lib.hid (by unfold fieldC at hF; omega)
        have HF := Lib.hid hF; clear hF
        by_cases hR : rangeC 2 e s i c
        · have HR := Lib.hid hR; clear hR
          go_enter Try.func42, Try.ntmps42
          go_wp2_with fail
          refine (rbt_t 2 1 4 _ (by omega)).mono ?_
          rintro e' w0 ⟨rfl, rfl⟩
          go_wp2_with fail
          refine (rfield_any 2 e s i c A n cap _ (.inr (.inl rfl)) false ⟨fun h => absurd h (by decide), fun h => absurd h HF.out⟩).mono ?_
          rintro e' w1 ⟨rfl, hx1⟩
          have D := box6 (hx1.block (heap_alloc_new w _))
          obtain ⟨d0, d1, d2, d3, d4, d5, -⟩ := D
          have X1 := Lib.hid ((Ext.alloc _ _).trans hx1); have Y1 := Lib.hid hx1; clear hx1
          go_wp2_with fail
          refine (rnumbers_any 2 e s i c A n cap _ (.inr (.inl rfl)) (fun h => absurd h (by decide)) false ⟨fun _ => HR.out, fun _ => rfl⟩).mono ?_
          rintro e' w2 ⟨rfl, hx2⟩
          have D := box6 ((Y1.out.trans hx2).block (heap_alloc_new w _))
          clear d0 d1 d2 d3 d4 d5
          obtain ⟨d0, d1, d2, d3, d4, d5, -⟩ := D
          have X2 := Lib.hid (X1.out.trans hx2); clear hx2
          go_wp2_with fail
          go_ret
          exact FIN.out _ X2.out _ (by rw [← HK.out]; exact (checkC_R (.inr (.inl rfl)) HF.out HR.out).symm)
        · have HR := Lib.hid hR; clear hR
          go_enter Try.func42, Try.ntmps42
          go_wp2_with fail
          refine (rbt_t 2 1 4 _ (by omega)).mono ?_
          rintro e' w0 ⟨rfl, rfl⟩
          go_wp2_with fail
          refine (rfield_any 2 e s i c A n cap _ (.inr (.inl rfl)) false ⟨fun h => absurd h (by decide), fun h => absurd h HF.out⟩).mono ?_
          rintro e' w1 ⟨rfl, hx1⟩
          have D := box6 (hx1.block (heap_alloc_new w _))
          obtain ⟨d0, d1, d2, d3, d4, d5, -⟩ := D
          have X1 := Lib.hid ((Ext.alloc _ _).trans hx1); have Y1 := Lib.hid hx1; clear hx1
          go_wp2_with fail
          refine (rnumbers_any 2 e s i c A n cap _ (.inr (.inl rfl)) (fun h => absurd h (by decide)) true ⟨fun h => absurd h (by decide), fun h => absurd h HR.out⟩).mono ?_
          rintro e' w2 ⟨rfl, hx2⟩
          have D := box6 ((Y1.out.trans hx2).block (heap_alloc_new w _))
          clear d0 d1 d2 d3 d4 d5
          obtain ⟨d0, d1, d2, d3, d4, d5, -⟩ := D
          have X2 := Lib.hid (X1.out.trans hx2); clear hx2
          go_wp2_with fail
          refine (rfull_any 2 false _ (by decide)).mono ?_
          rintro e' w0 ⟨rfl, rfl⟩
          go_wp2_with fail
          go_ret
          exact FIN.out _ X2.out _ (by rw [← HK.out, checkC_L (.inr (.inl rfl)) HF.out HR.out]; have h := HN0.out; subst h; simp)
    · subst hk
      by_cases hF : fieldC 3 e s i c n
      · have HF := Lib.hid hF; clear hF
        go_enter Try.func42, Try.ntmps42
        go_wp2_with fail
        refine (rbt_t 3 1 4 _ (by omega)).mono ?_
        rintro e' w0 ⟨rfl, rfl⟩
        go_wp2_with fail
        refine (rfield_any 3 e s i c A n cap _ (.inr (.inr (.inl rfl))) true ⟨fun _ => HF.out, fun _ => rfl⟩).mono ?_
        rintro e' w1 ⟨rfl, hx1⟩
        have D := box6 (hx1.block (heap_alloc_new w _))
        obtain ⟨d0, d1, d2, d3, d4, d5, -⟩ := D
        have X1 := Lib.hid ((Ext.alloc _ _).trans hx1); have Y1 := Lib.hid hx1; clear hx1
        go_wp2_with fail
        go_ret
        exact FIN.out _ X1.out _ (by rw [← HK.out]; exact (checkC_F (.inr (.inr (.inl rfl))) HF.out).symm)
      · have HC : Hid (c = 0) := Lib.hid (by unfold fieldC at hF; omega)
        have HF := Lib.hid hF; clear hF
        by_cases hR : rangeC 3 e s i c
        · have HR := Lib.hid hR; clear hR
          go_enter Try.func42, Try.ntmps42
          go_wp2_with fail
          refine (rbt_t 3 1 4 _ (by omega)).mono ?_
          rintro e' w0 ⟨rfl, rfl⟩
          go_wp2_with fail
          refine (rfield_any 3 e s i c A n cap _ (.inr (.inr (.inl rfl))) false ⟨fun h => absurd h (by decide), fun h => absurd h HF.out⟩).mono ?_
          rintro e' w1 ⟨rfl, hx1⟩
          have D := box6 (hx1.block (heap_alloc_new w _))
          obtain ⟨d0, d1, d2, d3, d4, d5, -⟩ := D
          have X1 := Lib.hid ((Ext.alloc _ _).trans hx1); have Y1 := Lib.hid hx1; clear hx1
          go_wp2_with fail
          refine (rnumbers_any 3 e s i c A n cap _ (.inr (.inr (.inl rfl))) (fun _ => HC.out) false ⟨fun _ => HR.out, fun _ => rfl⟩).mono ?_
          rintro e' w2 ⟨rfl, hx2⟩
          have D := box6 ((Y1.out.trans hx2).block (heap_alloc_new w _))
          clear d0 d1 d2 d3 d4 d5
          obtain ⟨d0, d1, d2, d3, d4, d5, -⟩ := D
          have X2 := Lib.hid (X1.out.trans hx2); clear hx2
          go_wp2_with fail
          go_ret
          exact FIN.out _ X2.out _ (by rw [← HK.out]; exact (checkC_R (.inr (.inr (.inl rfl))) HF.out HR.out).symm)
        · have HR := Lib.hid hR; clear hR
          obtain hn | hn | hn : n < 2 ∨ (2 ≤ n ∧ 254 < n) ∨ (2 ≤ n ∧ n ≤ 254) := by omega
          · have HN := Lib.hid hn
            go_enter Try.func42, Try.ntmps42
            go_wp2_with fail
            refine (rbt_t 3 1 4 _ (by omega)).mono ?_
            rintro e' w0 ⟨rfl, rfl⟩
            go_wp2_with fail
            refine (rfield_any 3 e s i c A n cap _ (.inr (.inr (.inl rfl))) false ⟨fun h => absurd h (by decide), fun h => absurd h HF.out⟩).mono ?_
            rintro e' w1 ⟨rfl, hx1⟩
            have D := box6 (hx1.block (heap_alloc_new w _))
            obtain ⟨d0, d1, d2, d3, d4, d5, -⟩ := D
            have X1 := Lib.hid ((Ext.alloc _ _).trans hx1); have Y1 := Lib.hid hx1; clear hx1
            go_wp2_with fail
            refine (rnumbers_any 3 e s i c A n cap _ (.inr (.inr (.inl rfl))) (fun _ => HC.out) true ⟨fun h => absurd h (by decide), fun h => absurd h HR.out⟩).mono ?_
            rintro e' w2 ⟨rfl, hx2⟩
            have D := box6 ((Y1.out.trans hx2).block (heap_alloc_new w _))
            clear d0 d1 d2 d3 d4 d5
            obtain ⟨d0, d1, d2, d3, d4, d5, -⟩ := D
            have X2 := Lib.hid (X1.out.trans hx2); clear hx2
            go_wp2_with fail
            refine (rfull_any 3 true _ (by decide)).mono ?_
            rintro e' w0 ⟨rfl, rfl⟩
            go_wp2_with fail
            go_ret
            exact FIN.out _ X2.out _ (by rw [← HK.out, checkC_L (.inr (.inr (.inl rfl))) HF.out HR.out]; have h := HN.out; simp; omega)
          · have HN := Lib.hid hn
            obtain ⟨hn1, hn2⟩ := hn
            go_enter Try.func42, Try.ntmps42
            go_wp2_with fail
            refine (rbt_t 3 1 4 _ (by omega)).mono ?_
            rintro e' w0 ⟨rfl, rfl⟩
            go_wp2_with fail
            refine (rfield_any 3 e s i c A n cap _ (.inr (.inr (.inl rfl))) false ⟨fun h => absurd h (by decide), fun h => absurd h HF.out⟩).mono ?_
            rintro e' w1 ⟨rfl, hx1⟩
            have D := box6 (hx1.block (heap_alloc_new w _))
            obtain ⟨d0, d1, d2, d3, d4, d5, -⟩ := D
            have X1 := Lib.hid ((Ext.alloc _ _).trans hx1); have Y1 := Lib.hid hx1; clear hx1
            go_wp2_with fail
            refine (rnumbers_any 3 e s i c A n cap _ (.inr (.inr (.inl rfl))) (fun _ => HC.out) true ⟨fun h => absurd h (by decide), fun h => absurd h HR.out⟩).mono ?_
            rintro e' w2 ⟨rfl, hx2⟩
            have D := box6 ((Y1.out.trans hx2).block (heap_alloc_new w _))
            clear d0 d1 d2 d3 d4 d5
            obtain ⟨d0, d1, d2, d3, d4, d5, -⟩ := D
            have X2 := Lib.hid (X1.out.trans hx2); clear hx2
            go_wp2_with fail
            refine (rfull_any 3 true _ (by decide)).mono ?_
            rintro e' w0 ⟨rfl, rfl⟩
            go_wp2_with fail
            go_ret
            exact FIN.out _ X2.out _ (by rw [← HK.out, checkC_L (.inr (.inr (.inl rfl))) HF.out HR.out]; have h := HN.out; simp; omega)
          · have HN := Lib.hid hn
            obtain ⟨hn1, hn2⟩ := hn
            go_enter Try.func42, Try.ntmps42
            go_wp2_with fail
            refine (rbt_t 3 1 4 _ (by omega)).mono ?_
            rintro e' w0 ⟨rfl, rfl⟩
            go_wp2_with fail
            refine (rfield_any 3 e s i c A n cap _ (.inr (.inr (.inl rfl))) false ⟨fun h => absurd h (by decide), fun h => absurd h HF.out⟩).mono ?_
            rintro e' w1 ⟨rfl, hx1⟩
            have D := box6 (hx1.block (heap_alloc_new w _))
            obtain ⟨d0, d1, d2, d3, d4, d5, -⟩ := D
            have X1 := Lib.hid ((Ext.alloc _ _).trans hx1); have Y1 := Lib.hid hx1; clear hx1
            go_wp2_with fail
            refine (rnumbers_any 3 e s i c A n cap _ (.inr (.inr (.inl rfl))) (fun _ => HC.out) true ⟨fun h => absurd h (by decide), fun h => absurd h HR.out⟩).mono ?_
            rintro e' w2 ⟨rfl, hx2⟩
            have D := box6 ((Y1.out.trans hx2).block (heap_alloc_new w _))
            clear d0 d1 d2 d3 d4 d5
            obtain ⟨d0, d1, d2, d3, d4, d5, -⟩ := D
            have X2 := Lib.hid (X1.out.trans hx2); clear hx2
            go_wp2_with fail
            refine (rfull_any 3 true _ (by decide)).mono ?_
            rintro e' w0 ⟨rfl, rfl⟩
            go_wp2_with fail
            go_ret
            exact FIN.out _ X2.out _ (by rw [← HK.out, checkC_L (.inr (.inr (.inl rfl))) HF.out HR.out]; have h := HN.out; simp; omega)
    · subst hk
      by_cases hF : fieldC 4 e s i c n
      · have HF := Lib.hid hF; clear hF
        go_enter Try.func42, Try.ntmps42
        go_wp2_with fail
        refine (rbt_t 4 1 4 _ (by omega)).mono ?_
        rintro e' w0 ⟨rfl, rfl⟩
        go_wp2_with fail
        refine (rfield_any 4 e s i c A n cap _ (.inr (.inr (.inr rfl))) true ⟨fun _ => HF.out, fun _ => rfl⟩).mono ?_
        rintro e' w1 ⟨rfl, hx1⟩
        have D := box6 (hx1.block (heap_alloc_new w _))
        obtain ⟨d0, d1, d2, d3, d4, d5, -⟩ := D
        have X1 := Lib.hid ((Ext.alloc _ _).trans hx1); have Y1 := Lib.hid hx1; clear hx1
        go_wp2_with fail
        go_ret
        exact FIN.out _ X1.out _ (by rw [← HK.out]; exact (checkC_F (.inr (.inr (.inr rfl))) HF.out).symm)
      · have HC : Hid ((0:Nat) = 0) := Lib.hid (by rfl)
        have HN0 : Hid (n = 0) := Lib.hid (by unfold fieldC at hF; omega)
        have HF := Lib.hid hF; clear hF
        by_cases hR : rangeC 4 e s i c
        · have HR := Lib.hid hR; clear hR
          go_enter Try.func42, Try.ntmps42
          go_wp2_with fail
          refine (rbt_t 4 1 4 _ (by omega)).mono ?_
          rintro e' w0 ⟨rfl, rfl⟩
          go_wp2_with fail
          refine (rfield_any 4 e s i c A n cap _ (.inr (.inr (.inr rfl))) false ⟨fun h => absurd h (by decide), fun h => absurd h HF.out⟩).mono ?_
          rintro e' w1 ⟨rfl, hx1⟩
          have D := box6 (hx1.block (heap_alloc_new w _))
          obtain ⟨d0, d1, d2, d3, d4, d5, -⟩ := D
          have X1 := Lib.hid ((Ext.alloc _ _).trans hx1); have Y1 := Lib.hid hx1; clear hx1
          go_wp2_with fail
          refine (rnumbers_any 4 e s i c A n cap _ (.inr (.inr (.inr rfl))) (fun h => absurd h (by decide)) false ⟨fun _ => HR.out, fun _ => rfl⟩).mono ?_
          rintro e' w2 ⟨rfl, hx2⟩
          have D := box6 ((Y1.out.trans hx2).block (heap_alloc_new w _))
          clear d0 d1 d2 d3 d4 d5
          obtain ⟨d0, d1, d2, d3, d4, d5, -⟩ := D
          have X2 := Lib.hid (X1.out.trans hx2); clear hx2
          go_wp2_with fail
          go_ret
          exact FIN.out _ X2.out _ (by rw [← HK.out]; exact (checkC_R (.inr (.inr (.inr rfl))) HF.out HR.out).symm)
        · have HR := Lib.hid hR; clear hR
          go_enter Try.func42, Try.ntmps42
          go_wp2_with fail
          refine (rbt_t 4 1 4 _ (by omega)).mono ?_
          rintro e' w0 ⟨rfl, rfl⟩
          go_wp2_with fail
          refine (rfield_any 4 e s i c A n cap _ (.inr (.inr (.inr rfl))) false ⟨fun h => absurd h (by decide), fun h => absurd h HF.out⟩).mono ?_
          rintro e' w1 ⟨rfl, hx1⟩
          have D := box6 (hx1.block (heap_alloc_new w _))
          obtain ⟨d0, d1, d2, d3, d4, d5, -⟩ := D
          have X1 := Lib.hid ((Ext.alloc _ _).trans hx1); have Y1 := Lib.hid hx1; clear hx1
          go_wp2_with fail
          refine (rnumbers_any 4 e s i c A n cap _ (.inr (.inr (.inr rfl))) (fun h => absurd h (by decide)) true ⟨fun h => absurd h (by decide), fun h => absurd h HR.out⟩).mono ?_
          rintro e' w2 ⟨rfl, hx2⟩
          have D := box6 ((Y1.out.trans hx2).block (heap_alloc_new w _))
          clear d0 d1 d2 d3 d4 d5
          obtain ⟨d0, d1, d2, d3, d4, d5, -⟩ := D
          have X2 := Lib.hid (X1.out.trans hx2); clear hx2
          go_wp2_with fail
          refine (rfull_any 4 false _ (by decide)).mono ?_
          rintro e' w0 ⟨rfl, rfl⟩
          go_wp2_with fail
          go_ret
          exact FIN.out _ X2.out _ (by rw [← HK.out, checkC_L (.inr (.inr (.inr rfl))) HF.out HR.out]; have h := HN0.out; subst h; simp)
theorem rpacCheck_any (p : PacD) (A : Option Addr) (n c : Nat) (w : World) (hr : PacRd w p A n c) : Calls Try.prog 42 #[pacV p A n c] w (RetI w (checkP p)) := by
  rw [checkP_num p hr.len]
  exact rpacCheck_num _ _ _ _ _ A n c w
end Go.Proofs.Ytifojmmggcenkaa

namespace Go.Proofs.Ytifojmmggcenkaa
set_option linter.unusedVariables false
set_option linter.unusedSimpArgs false
set_option maxRecDepth 100000
set_option maxHeartbeats 2000000
open Go Go.RowKit Go.Out
theorem rat_any (b : List UInt8) (A : Option Addr) (m c : Nat) (I : Nat) (w : World) (hr : Rd w A m (b.map cB)) (h8 : I + 8 ≤ m) (hc : m ≤ c) (hm : c ≤ 9223372036854775807) :
    Calls Try.prog 41 #[.slice A m c, .int .i64 I] w (RetN w (numAt b I)) := by
  have hl := hr.length
  obtain ⟨bk, off, rfl, hbk, hcell⟩ := hr.u8all (by omega)
  have hcell2 : ∀ k, k < 8 → ∃ hk : k < (b.drop I).length, w.cell? ⟨bk, off + (I + k), none⟩ = some (.int .u8 ((b.drop I)[k].toNat : Int)) := fun k hk => ⟨by rw [List.length_drop]; omega, by
    have h := hcell (I + k) (by omega)
    rw [List.getD_eq_getElem?_getD, List.getElem?_eq_getElem (by omega)] at h
    rw [List.getElem_drop]
    exact h⟩
  have Hl := Lib.hid hl
  clear hcell hr hl
  unfold numAt
  generalize b.drop I = d at *
  have Hc := Lib.hid hcell2
  clear hcell2
  go_enter Try.func41, Try.ntmps41
  go_wp2_with fail
  go_loop [5, 6] (fun v i => ∃ k : Nat, k ≤ 8 ∧ i = .int .i64 k ∧ v = .int .u64 (num (d.take k) : Nat)) (fun _ i => 8 - (intOf i).toNat)
  case atStart => exact ⟨0, Nat.zero_le _, rfl, by simp [num]⟩
  case round =>
    obtain ⟨k, hk, rfl, rfl⟩ := hrel
    by_cases hlt : k < 8
    · obtain ⟨hk2, hcc⟩ := Hc.out k hlt
      have hnl := num_lt (d.take k)
      rw [List.length_take, Nat.min_eq_left (by omega)] at hnl
      have hnb := num_small hnl (by omega)
      have Hst := Lib.hid (show d.take (k + 1) = d.take k ++ [d[k]] from by rw [List.take_succ_eq_append_getElem hk2])
      generalize hX : num (d.take k) = X at *
      have HX := Lib.hid hX; clear hX hnl
      obtain ⟨K, hK⟩ : ∃ K, I + k = K := ⟨_, rfl⟩
      have hKi : (I : Int) + (k : Int) = (K : Int) := by omega
      have hKm : K < m := by omega
      rw [hK] at hcc
      have hy := d[k].toNat_lt
      obtain ⟨Y, hY⟩ : ∃ Y, d[k].toNat = Y := ⟨_, rfl⟩
      rw [hY] at hcc hy
      have HY := Lib.hid hY
      have HK := Lib.hid hK; clear hK hY
      go_wp2_with fail
      go_round
      case rel => exact ⟨k + 1, by omega, by go_num, by rw [Hst.out, num_snoc, HX.out, HY.out]; simp⟩
      case measure => simp [intOf]; omega
    · obtain rfl : k = 8 := by omega
      go_wp2_with fail
      go_ret
      exact ⟨ret_int (by rw [IntKind.wrap_i64]; simp [wrap64]), rfl⟩
end Go.Proofs.Ytifojmmggcenkaa
