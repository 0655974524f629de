/- Contracts of outstationref21: between, runs, named, full, field, numbers, Check. Printed by wip/genpacr.py. -/
import Derived.Test.YtifojmmggcenkaaPac7
namespace Go.Proofs.Ytifojmmggcenkaa
set_option linter.unusedVariables false
set_option linter.unusedSimpArgs false
set_option maxRecDepth 100000
set_option maxHeartbeats 4000000
open Go Go.RowKit Go.Out

theorem rbt_f (v a b : Int) (w : World) (h : v < a ∨ (a ≤ v ∧ b < v)) : Calls Try.prog 38 #[.int .i64 v, .int .i64 a, .int .i64 b] w (RetV w false) := by
  rcases h with h | ⟨h, h'⟩
  all_goals
    go_enter Try.func38, Try.ntmps38
    go_wp2_with fail
    go_ret
    exact ⟨ret_bool (by simp; try omega), rfl⟩
theorem rbt_t (v a b : Int) (w : World) (h : a ≤ v ∧ v ≤ b) : Calls Try.prog 38 #[.int .i64 v, .int .i64 a, .int .i64 b] w (RetV w true) := by
  obtain ⟨h, h'⟩ := h
  go_enter Try.func38, Try.ntmps38
  go_wp2_with fail
  go_ret
  exact ⟨ret_bool (by simp; try omega), rfl⟩
theorem rruns_any (k : Int) (b : Bool) (w : World) (h : decide (k ≤ 2) = b) : Calls Try.prog 39 #[.int .i64 k] w (RetV w b) := by
  subst h
  go_enter Try.func39, Try.ntmps39
  go_wp2_with fail
  go_ret
  exact ⟨ret_bool (by simp), rfl⟩
theorem rnamed_any (k : Int) (b : Bool) (w : World) (h : decide (3 ≤ k) = b) : Calls Try.prog 51 #[.int .i64 k] w (RetV w b) := by
  subst h
  go_enter Try.func51, Try.ntmps51
  go_wp2_with fail
  go_ret
  exact ⟨ret_bool (by simp), rfl⟩
theorem rfull_any (k : Int) (b : Bool) (w : World) (h : decide (k = 1 ∨ k = 3) = b) : Calls Try.prog 40 #[.int .i64 k] w (RetV w b) := by
  subst h
  by_cases h1 : k = 1
  · subst h1
    go_enter Try.func40, Try.ntmps40
    go_wp2_with fail
    go_ret
    exact ⟨ret_bool (by simp), rfl⟩
  · have hb : (k == 1) = false := by simpa using h1
    go_enter Try.func40, Try.ntmps40
    go_wp2_with fail
    go_ret
    exact ⟨ret_bool (by rw [Bool.eq_iff_iff]; simp [h1]), rfl⟩
/-- What field asks. -/
def fieldC (k e s i c : Int) (n : Nat) : Prop := (¬ (k = 1 ∨ k = 2) ∧ (e ≠ 0 ∨ s ≠ 0)) ∨ ((k = 1 ∨ k = 2) ∧ i ≠ 0) ∨ (k ≠ 4 ∧ c ≠ 0) ∨ (¬ (k = 1 ∨ k = 3) ∧ 0 < n)
def rangeC (k e s i c : Int) : Prop := ((k = 1 ∨ k = 2) ∧ (e < 1 ∨ 1099511627776 < e ∨ s < 0 ∨ 1099511627776 < s ∨ (k = 1 ∧ s = 1099511627776))) ∨ (¬ (k = 1 ∨ k = 2) ∧ (i < 1 ∨ 1099511627776 < i ∨ c < 0 ∨ 255 < c))
theorem rfield_any (k e s i c : Int) (A : Option Addr) (n cap : Nat) (w : World) (hk : k = 1 ∨ k = 2 ∨ k = 3 ∨ k = 4) (b : Bool) (hb : b = true ↔ fieldC k e s i c n) :
    Calls Try.prog 48 #[.agg #[.int .i64 k, .int .i64 e, .int .i64 s, .int .i64 i, .int .i64 c, .slice A n cap]] w (RetQ w b) := by
  have FIN := Lib.hid (fun (x : Bool) (hx : x = true ↔ fieldC k e s i c n) => (show x = b by rw [Bool.eq_iff_iff, hx, hb]))
  clear hb
  rcases hk with rfl | rfl | rfl | rfl
  ·
    by_cases hi : i ≠ 0
    ·
      have bi : (i != 0) = true := by simpa using hi
      go_enter Try.func48, Try.ntmps48
      go_wp2_with fail
      refine (rruns_any 1 true _ (by decide)).mono ?_
      rintro e' w1 ⟨rfl, rfl⟩
      go_wp2_with fail
      refine (rnamed_any 1 false _ (by decide)).mono ?_
      rintro e' w1 ⟨rfl, rfl⟩
      go_wp2_with fail
      go_ret
      exact ⟨ret_bool (FIN.out _ (by unfold fieldC; simp <;> omega)), Ext.alloc _ _⟩
    ·
      obtain rfl : i = 0 := by omega
      by_cases hc : c ≠ 0
      ·
        have bc : (c != 0) = true := by simpa using hc
        go_enter Try.func48, Try.ntmps48
        go_wp2_with fail
        refine (rruns_any 1 true _ (by decide)).mono ?_
        rintro e' w1 ⟨rfl, rfl⟩
        go_wp2_with fail
        refine (rnamed_any 1 false _ (by decide)).mono ?_
        rintro e' w1 ⟨rfl, rfl⟩
        go_wp2_with fail
        go_ret
        exact ⟨ret_bool (FIN.out _ (by unfold fieldC; simp <;> omega)), Ext.alloc _ _⟩
      ·
        obtain rfl : c = 0 := by omega
        go_enter Try.func48, Try.ntmps48
        go_wp2_with fail
        refine (rruns_any 1 true _ (by decide)).mono ?_
        rintro e' w1 ⟨rfl, rfl⟩
        go_wp2_with fail
        refine (rnamed_any 1 false _ (by decide)).mono ?_
        rintro e' w1 ⟨rfl, rfl⟩
        go_wp2_with fail
        refine (rfull_any 1 true _ (by decide)).mono ?_
        rintro e' w1 ⟨rfl, rfl⟩
        go_wp2_with fail
        go_ret
        exact ⟨ret_bool (FIN.out _ (by unfold fieldC; simp <;> omega)), Ext.alloc _ _⟩
  ·
    by_cases hi : i ≠ 0
    ·
      have bi : (i != 0) = true := by simpa using hi
      go_enter Try.func48, Try.ntmps48
      go_wp2_with fail
      refine (rruns_any 2 true _ (by decide)).mono ?_
      rintro e' w1 ⟨rfl, rfl⟩
      go_wp2_with fail
      refine (rnamed_any 2 false _ (by decide)).mono ?_
      rintro e' w1 ⟨rfl, rfl⟩
      go_wp2_with fail
      go_ret
      exact ⟨ret_bool (FIN.out _ (by unfold fieldC; simp <;> omega)), Ext.alloc _ _⟩
    ·
      obtain rfl : i = 0 := by omega
      by_cases hc : c ≠ 0
      ·
        have bc : (c != 0) = true := by simpa using hc
        go_enter Try.func48, Try.ntmps48
        go_wp2_with fail
        refine (rruns_any 2 true _ (by decide)).mono ?_
        rintro e' w1 ⟨rfl, rfl⟩
        go_wp2_with fail
        refine (rnamed_any 2 false _ (by decide)).mono ?_
        rintro e' w1 ⟨rfl, rfl⟩
        go_wp2_with fail
        go_ret
        exact ⟨ret_bool (FIN.out _ (by unfold fieldC; simp <;> omega)), Ext.alloc _ _⟩
      ·
        obtain rfl : c = 0 := by omega
        by_cases hn : 0 < n
        ·
          go_enter Try.func48, Try.ntmps48
          go_wp2_with fail
          refine (rruns_any 2 true _ (by decide)).mono ?_
          rintro e' w1 ⟨rfl, rfl⟩
          go_wp2_with fail
          refine (rnamed_any 2 false _ (by decide)).mono ?_
          rintro e' w1 ⟨rfl, rfl⟩
          go_wp2_with fail
          refine (rfull_any 2 false _ (by decide)).mono ?_
          rintro e' w1 ⟨rfl, rfl⟩
          go_wp2_with fail
          go_ret
          exact ⟨ret_bool (FIN.out _ (by unfold fieldC; simp <;> omega)), Ext.alloc _ _⟩
        ·
          have hn0 : n = 0 := by omega
          subst hn0
          go_enter Try.func48, Try.ntmps48
          go_wp2_with fail
          refine (rruns_any 2 true _ (by decide)).mono ?_
          rintro e' w1 ⟨rfl, rfl⟩
          go_wp2_with fail
          refine (rnamed_any 2 false _ (by decide)).mono ?_
          rintro e' w1 ⟨rfl, rfl⟩
          go_wp2_with fail
          refine (rfull_any 2 false _ (by decide)).mono ?_
          rintro e' w1 ⟨rfl, rfl⟩
          go_wp2_with fail
          go_ret
          exact ⟨ret_bool (FIN.out _ (by unfold fieldC; simp <;> omega)), Ext.alloc _ _⟩
  ·
    by_cases he : e ≠ 0
    ·
      have be : (e != 0) = true := by simpa using he
      go_enter Try.func48, Try.ntmps48
      go_wp2_with fail
      refine (rruns_any 3 false _ (by decide)).mono ?_
      rintro e' w1 ⟨rfl, rfl⟩
      go_wp2_with fail
      go_ret
      exact ⟨ret_bool (FIN.out _ (by unfold fieldC; simp <;> omega)), Ext.alloc _ _⟩
    ·
      obtain rfl : e = 0 := by omega
      by_cases hs : s ≠ 0
      ·
        have bs : (s != 0) = true := by simpa using hs
        go_enter Try.func48, Try.ntmps48
        go_wp2_with fail
        refine (rruns_any 3 false _ (by decide)).mono ?_
        rintro e' w1 ⟨rfl, rfl⟩
        go_wp2_with fail
        go_ret
        exact ⟨ret_bool (FIN.out _ (by unfold fieldC; simp <;> omega)), Ext.alloc _ _⟩
      ·
        obtain rfl : s = 0 := by omega
        by_cases hc : c ≠ 0
        ·
          have bc : (c != 0) = true := by simpa using hc
          go_enter Try.func48, Try.ntmps48
          go_wp2_with fail
          refine (rruns_any 3 false _ (by decide)).mono ?_
          rintro e' w1 ⟨rfl, rfl⟩
          go_wp2_with fail
          refine (rnamed_any 3 true _ (by decide)).mono ?_
          rintro e' w1 ⟨rfl, rfl⟩
          go_wp2_with fail
          go_ret
          exact ⟨ret_bool (FIN.out _ (by unfold fieldC; simp <;> omega)), Ext.alloc _ _⟩
        ·
          obtain rfl : c = 0 := by omega
          go_enter Try.func48, Try.ntmps48
          go_wp2_with fail
          refine (rruns_any 3 false _ (by decide)).mono ?_
          rintro e' w1 ⟨rfl, rfl⟩
          go_wp2_with fail
          refine (rnamed_any 3 true _ (by decide)).mono ?_
          rintro e' w1 ⟨rfl, rfl⟩
          go_wp2_with fail
          refine (rfull_any 3 true _ (by decide)).mono ?_
          rintro e' w1 ⟨rfl, rfl⟩
          go_wp2_with fail
          go_ret
          exact ⟨ret_bool (FIN.out _ (by unfold fieldC; simp <;> omega)), Ext.alloc _ _⟩
  ·
    by_cases he : e ≠ 0
    ·
      have be : (e != 0) = true := by simpa using he
      go_enter Try.func48, Try.ntmps48
      go_wp2_with fail
      refine (rruns_any 4 false _ (by decide)).mono ?_
      rintro e' w1 ⟨rfl, rfl⟩
      go_wp2_with fail
      go_ret
      exact ⟨ret_bool (FIN.out _ (by unfold fieldC; simp <;> omega)), Ext.alloc _ _⟩
    ·
      obtain rfl : e = 0 := by omega
      by_cases hs : s ≠ 0
      ·
        have bs : (s != 0) = true := by simpa using hs
        go_enter Try.func48, Try.ntmps48
        go_wp2_with fail
        refine (rruns_any 4 false _ (by decide)).mono ?_
        rintro e' w1 ⟨rfl, rfl⟩
        go_wp2_with fail
        go_ret
        exact ⟨ret_bool (FIN.out _ (by unfold fieldC; simp <;> omega)), Ext.alloc _ _⟩
      ·
        obtain rfl : s = 0 := by omega
        by_cases hn : 0 < n
        ·
          go_enter Try.func48, Try.ntmps48
          go_wp2_with fail
          refine (rruns_any 4 false _ (by decide)).mono ?_
          rintro e' w1 ⟨rfl, rfl⟩
          go_wp2_with fail
          refine (rnamed_any 4 true _ (by decide)).mono ?_
          rintro e' w1 ⟨rfl, rfl⟩
          go_wp2_with fail
          refine (rfull_any 4 false _ (by decide)).mono ?_
          rintro e' w1 ⟨rfl, rfl⟩
          go_wp2_with fail
          go_ret
          exact ⟨ret_bool (FIN.out _ (by unfold fieldC; simp <;> omega)), Ext.alloc _ _⟩
        ·
          have hn0 : n = 0 := by omega
          subst hn0
          go_enter Try.func48, Try.ntmps48
          go_wp2_with fail
          refine (rruns_any 4 false _ (by decide)).mono ?_
          rintro e' w1 ⟨rfl, rfl⟩
          go_wp2_with fail
          refine (rnamed_any 4 true _ (by decide)).mono ?_
          rintro e' w1 ⟨rfl, rfl⟩
          go_wp2_with fail
          refine (rfull_any 4 false _ (by decide)).mono ?_
          rintro e' w1 ⟨rfl, rfl⟩
          go_wp2_with fail
          go_ret
          exact ⟨ret_bool (FIN.out _ (by unfold fieldC; simp <;> omega)), Ext.alloc _ _⟩

theorem rnumbers_any (k e s i c : Int) (A : Option Addr) (n cap : Nat) (w : World) (hk : k = 1 ∨ k = 2 ∨ k = 3 ∨ k = 4) (hc : k = 3 → c = 0) (b : Bool) (hb : b = false ↔ rangeC k e s i c) :
    Calls Try.prog 49 #[.agg #[.int .i64 k, .int .i64 e, .int .i64 s, .int .i64 i, .int .i64 c, .slice A n cap]] w (RetQ w b) := by
  have FIN := Lib.hid (fun (x : Bool) (hx : x = false ↔ rangeC k e s i c) => (show x = b by cases x <;> cases b <;> simp_all))
  clear hb
  rcases hk with rfl | rfl | rfl | rfl
  ·
    clear hc
    by_cases he : e < 1 ∨ (1 ≤ e ∧ 1099511627776 < e)
    ·
      have He := Lib.hid he; clear he
      go_enter Try.func49, Try.ntmps49
      go_wp2_with fail
      refine (rruns_any 1 true _ (by decide)).mono ?_
      rintro e' w1 ⟨rfl, rfl⟩
      go_wp2_with fail
      refine (rbt_f e 1 1099511627776 _ He.out).mono ?_
      rintro e' w1 ⟨rfl, rfl⟩
      go_wp2_with fail
      go_ret
      exact ⟨ret_bool (FIN.out _ (by have he := He.out; unfold rangeC; simp <;> omega)), Ext.alloc _ _⟩
    ·
      have He := Lib.hid (show 1 ≤ e ∧ e ≤ 1099511627776 by omega); clear he
      by_cases hs : s < 0 ∨ (0 ≤ s ∧ 1099511627775 < s)
      ·
        have Hs := Lib.hid hs; clear hs
        go_enter Try.func49, Try.ntmps49
        go_wp2_with fail
        refine (rruns_any 1 true _ (by decide)).mono ?_
        rintro e' w1 ⟨rfl, rfl⟩
        go_wp2_with fail
        refine (rbt_t e 1 1099511627776 _ He.out).mono ?_
        rintro e' w1 ⟨rfl, rfl⟩
        go_wp2_with fail
        refine (rbt_f s 0 1099511627775 _ Hs.out).mono ?_
        rintro e' w1 ⟨rfl, rfl⟩
        go_wp2_with fail
        go_ret
        exact ⟨ret_bool (FIN.out _ (by have he := He.out; have hs := Hs.out; unfold rangeC; simp <;> omega)), Ext.alloc _ _⟩
      ·
        have Hs := Lib.hid (show 0 ≤ s ∧ s ≤ 1099511627775 by omega); clear hs
        go_enter Try.func49, Try.ntmps49
        go_wp2_with fail
        refine (rruns_any 1 true _ (by decide)).mono ?_
        rintro e' w1 ⟨rfl, rfl⟩
        go_wp2_with fail
        refine (rbt_t e 1 1099511627776 _ He.out).mono ?_
        rintro e' w1 ⟨rfl, rfl⟩
        go_wp2_with fail
        refine (rbt_t s 0 1099511627775 _ Hs.out).mono ?_
        rintro e' w1 ⟨rfl, rfl⟩
        go_wp2_with fail
        refine (rnamed_any 1 false _ (by decide)).mono ?_
        rintro e' w1 ⟨rfl, rfl⟩
        go_wp2_with fail
        go_ret
        exact ⟨ret_bool (FIN.out _ (by have he := He.out; have hs := Hs.out; unfold rangeC; simp <;> omega)), Ext.alloc _ _⟩
  ·
    clear hc
    by_cases he : e < 1 ∨ (1 ≤ e ∧ 1099511627776 < e)
    ·
      have He := Lib.hid he; clear he
      go_enter Try.func49, Try.ntmps49
      go_wp2_with fail
      refine (rruns_any 2 true _ (by decide)).mono ?_
      rintro e' w1 ⟨rfl, rfl⟩
      go_wp2_with fail
      refine (rbt_f e 1 1099511627776 _ He.out).mono ?_
      rintro e' w1 ⟨rfl, rfl⟩
      go_wp2_with fail
      go_ret
      exact ⟨ret_bool (FIN.out _ (by have he := He.out; unfold rangeC; simp <;> omega)), Ext.alloc _ _⟩
    ·
      have He := Lib.hid (show 1 ≤ e ∧ e ≤ 1099511627776 by omega); clear he
      by_cases hs : s < 0 ∨ (0 ≤ s ∧ 1099511627776 < s)
      ·
        have Hs := Lib.hid hs; clear hs
        go_enter Try.func49, Try.ntmps49
        go_wp2_with fail
        refine (rruns_any 2 true _ (by decide)).mono ?_
        rintro e' w1 ⟨rfl, rfl⟩
        go_wp2_with fail
        refine (rbt_t e 1 1099511627776 _ He.out).mono ?_
        rintro e' w1 ⟨rfl, rfl⟩
        go_wp2_with fail
        refine (rbt_f s 0 1099511627776 _ Hs.out).mono ?_
        rintro e' w1 ⟨rfl, rfl⟩
        go_wp2_with fail
        go_ret
        exact ⟨ret_bool (FIN.out _ (by have he := He.out; have hs := Hs.out; unfold rangeC; simp <;> omega)), Ext.alloc _ _⟩
      ·
        have Hs := Lib.hid (show 0 ≤ s ∧ s ≤ 1099511627776 by omega); clear hs
        go_enter Try.func49, Try.ntmps49
        go_wp2_with fail
        refine (rruns_any 2 true _ (by decide)).mono ?_
        rintro e' w1 ⟨rfl, rfl⟩
        go_wp2_with fail
        refine (rbt_t e 1 1099511627776 _ He.out).mono ?_
        rintro e' w1 ⟨rfl, rfl⟩
        go_wp2_with fail
        refine (rbt_t s 0 1099511627776 _ Hs.out).mono ?_
        rintro e' w1 ⟨rfl, rfl⟩
        go_wp2_with fail
        refine (rnamed_any 2 false _ (by decide)).mono ?_
        rintro e' w1 ⟨rfl, rfl⟩
        go_wp2_with fail
        go_ret
        exact ⟨ret_bool (FIN.out _ (by have he := He.out; have hs := Hs.out; unfold rangeC; simp <;> omega)), Ext.alloc _ _⟩
  ·
    obtain rfl := hc rfl
    by_cases hi : i < 1 ∨ (1 ≤ i ∧ 1099511627776 < i)
    ·
      have Hi := Lib.hid hi; clear hi
      go_enter Try.func49, Try.ntmps49
      go_wp2_with fail
      refine (rruns_any 3 false _ (by decide)).mono ?_
      rintro e' w1 ⟨rfl, rfl⟩
      go_wp2_with fail
      refine (rnamed_any 3 true _ (by decide)).mono ?_
      rintro e' w1 ⟨rfl, rfl⟩
      go_wp2_with fail
      refine (rbt_f i 1 1099511627776 _ Hi.out).mono ?_
      rintro e' w1 ⟨rfl, rfl⟩
      go_wp2_with fail
      go_ret
      exact ⟨ret_bool (FIN.out _ (by have hi := Hi.out; unfold rangeC; simp <;> omega)), Ext.alloc _ _⟩
    ·
      have Hi := Lib.hid (show 1 ≤ i ∧ i ≤ 1099511627776 by omega); clear hi
      go_enter Try.func49, Try.ntmps49
      go_wp2_with fail
      refine (rruns_any 3 false _ (by decide)).mono ?_
      rintro e' w1 ⟨rfl, rfl⟩
      go_wp2_with fail
      refine (rnamed_any 3 true _ (by decide)).mono ?_
      rintro e' w1 ⟨rfl, rfl⟩
      go_wp2_with fail
      refine (rbt_t i 1 1099511627776 _ Hi.out).mono ?_
      rintro e' w1 ⟨rfl, rfl⟩
      go_wp2_with fail
      go_ret
      exact ⟨ret_bool (FIN.out _ (by have hi := Hi.out; unfold rangeC; simp <;> omega)), Ext.alloc _ _⟩
  ·
    clear hc
    by_cases hi : i < 1 ∨ (1 ≤ i ∧ 1099511627776 < i)
    ·
      have Hi := Lib.hid hi; clear hi
      go_enter Try.func49, Try.ntmps49
      go_wp2_with fail
      refine (rruns_any 4 false _ (by decide)).mono ?_
      rintro e' w1 ⟨rfl, rfl⟩
      go_wp2_with fail
      refine (rnamed_any 4 true _ (by decide)).mono ?_
      rintro e' w1 ⟨rfl, rfl⟩
      go_wp2_with fail
      refine (rbt_f i 1 1099511627776 _ Hi.out).mono ?_
      rintro e' w1 ⟨rfl, rfl⟩
      go_wp2_with fail
      go_ret
      exact ⟨ret_bool (FIN.out _ (by have hi := Hi.out; unfold rangeC; simp <;> omega)), Ext.alloc _ _⟩
    ·
      have Hi := Lib.hid (show 1 ≤ i ∧ i ≤ 1099511627776 by omega); clear hi
      by_cases hc : c < 0 ∨ (0 ≤ c ∧ 255 < c)
      ·
        have Hc := Lib.hid hc; clear hc
        go_enter Try.func49, Try.ntmps49
        go_wp2_with fail
        refine (rruns_any 4 false _ (by decide)).mono ?_
        rintro e' w1 ⟨rfl, rfl⟩
        go_wp2_with fail
        refine (rnamed_any 4 true _ (by decide)).mono ?_
        rintro e' w1 ⟨rfl, rfl⟩
        go_wp2_with fail
        refine (rbt_t i 1 1099511627776 _ Hi.out).mono ?_
        rintro e' w1 ⟨rfl, rfl⟩
        go_wp2_with fail
        refine (rbt_f c 0 255 _ Hc.out).mono ?_
        rintro e' w1 ⟨rfl, rfl⟩
        go_wp2_with fail
        go_ret
        exact ⟨ret_bool (FIN.out _ (by have hi := Hi.out; have hc := Hc.out; unfold rangeC; simp <;> omega)), Ext.alloc _ _⟩
      ·
        have Hc := Lib.hid (show 0 ≤ c ∧ c ≤ 255 by omega); clear hc
        go_enter Try.func49, Try.ntmps49
        go_wp2_with fail
        refine (rruns_any 4 false _ (by decide)).mono ?_
        rintro e' w1 ⟨rfl, rfl⟩
        go_wp2_with fail
        refine (rnamed_any 4 true _ (by decide)).mono ?_
        rintro e' w1 ⟨rfl, rfl⟩
        go_wp2_with fail
        refine (rbt_t i 1 1099511627776 _ Hi.out).mono ?_
        rintro e' w1 ⟨rfl, rfl⟩
        go_wp2_with fail
        refine (rbt_t c 0 255 _ Hc.out).mono ?_
        rintro e' w1 ⟨rfl, rfl⟩
        go_wp2_with fail
        go_ret
        exact ⟨ret_bool (FIN.out _ (by have hi := Hi.out; have hc := Hc.out; unfold rangeC; simp <;> omega)), Ext.alloc _ _⟩
end Go.Proofs.Ytifojmmggcenkaa
