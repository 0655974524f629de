/- Contracts of the packets: out, Check. -/
import Derived.Test.YtifojmmggcenkaaPacLaw
import Derived.Test.YtifojmmggcenkaaAskX
import Derived.Test.YtifojmmggcenkaaAskP
import Derived.Test.YtifojmmggcenkaaAskP5
import Derived.Test.YtifojmmggcenkaaSeal3
namespace Go.Out
set_option linter.unusedVariables false
open Go Go.RowKit
/-- checkP by numbers alone. -/
def checkC (k e s i c : Int) (n : Nat) : Int :=
  if ¬ (1 ≤ k ∧ k ≤ 4) then 28
  else if (¬ (k = 1 ∨ k = 2) ∧ (e ≠ 0 ∨ s ≠ 0)) ∨ ((k = 1 ∨ k = 2) ∧ i ≠ 0) ∨ (k ≠ 4 ∧ c ≠ 0) ∨ (¬ (k = 1 ∨ k = 3) ∧ 0 < n) then 23
  else if ((k = 1 ∨ k = 2) ∧ (e < 1 ∨ 1099511627776 < e ∨ s < 0 ∨ 1099511627776 < s ∨ (k = 1 ∧ s = 1099511627776))) ∨ (¬ (k = 1 ∨ k = 2) ∧ (i < 1 ∨ 1099511627776 < i ∨ c < 0 ∨ 255 < c)) then 3
  else if n < (if k = 1 then 1 else if k = 3 then 2 else 0) then 1 else if (if k = 1 then 1024 else if k = 3 then 254 else 0) < n then 2 else 0
theorem checkP_num (p : PacD) {n : Nat} (h : p.body.length = n) : checkP p = checkC p.kind p.epoch p.seq p.id p.code n := by
  subst h
  have hne : (p.body ≠ []) ↔ 0 < p.body.length := by rw [List.length_pos_iff]
  unfold checkP checkC fieldPP rangeP runsP fullP leastF mostFP
  simp only [hne]
  (repeat' split) <;> first | rfl | omega
end Go.Out
namespace Go.Proofs.Ytifojmmggcenkaa
set_option linter.unusedVariables false
set_option linter.unusedSimpArgs false
set_option maxRecDepth 100000
set_option maxHeartbeats 2000000
open Go Go.RowKit Go.Out

def RetV (w : World) (k : Bool) (e : Ending) (w' : World) : Prop := e = .returned (.bool k) ∧ w = w'
theorem out_t (v a b : Int) (w : World) (h : v < a ∨ (a ≤ v ∧ b < v)) : Calls Try.prog 27 #[.int .i64 v, .int .i64 a, .int .i64 b] w (RetV w true) := by
  rcases h with h | ⟨h, h'⟩
  all_goals
    go_enter Try.func27, Try.ntmps27
    go_wp2_with fail
    go_ret
    exact ⟨rfl, rfl⟩
theorem out_f (v a b : Int) (w : World) (h : a ≤ v ∧ v ≤ b) : Calls Try.prog 27 #[.int .i64 v, .int .i64 a, .int .i64 b] w (RetV w false) := by
  obtain ⟨h, h'⟩ := h
  go_enter Try.func27, Try.ntmps27
  go_wp2_with fail
  go_ret
  exact ⟨ret_bool (by simp; omega), rfl⟩

theorem ofInt64_zero {x : Int} (hx : i64P x) : (BitVec.ofInt 64 x).toNat = 0 ↔ x = 0 := by
  unfold i64P at hx
  rw [BitVec.toNat_ofInt]
  omega
theorem wrap_zero (n : Nat) (h : n < 18446744073709551616) : IntKind.i64.wrap (n : Int) = 0 ↔ n = 0 := by
  rw [IntKind.wrap_i64]
  omega
theorem ofInt64_neg {a b : Int} (ha : i64P a) (hb : i64P b) : (bits .or .i64 a b != 0) = (decide (a ≠ 0 ∨ b ≠ 0)) := by
  have e : bits .or .i64 a b = IntKind.i64.wrap ((BitVec.ofInt 64 a ||| BitVec.ofInt 64 b).toNat : Int) := rfl
  have h1 := ofInt64_zero ha
  have h2 := ofInt64_zero hb
  have h3 := wrap_zero (BitVec.ofInt 64 a ||| BitVec.ofInt 64 b).toNat (BitVec.isLt _)
  rw [BitVec.toNat_or, Nat.or_eq_zero_iff] at h3
  rw [e, Bool.eq_iff_iff, BitVec.toNat_or]
  simp only [bne_iff_ne, ne_eq, decide_eq_true_eq]
  rw [h3, h1, h2]
  omega

/-- A packet as a value. -/
def pacV (p : PacD) (A : Option Addr) (n c : Nat) : Value := .agg #[.int .i64 p.kind, .int .i64 p.epoch, .int .i64 p.seq, .int .i64 p.id, .int .i64 p.code, .slice A n c]
structure PacRd (w : World) (p : PacD) (A : Option Addr) (n c : Nat) : Prop where
  body : Rd w A n (p.body.map cB)
  kind : i64P p.kind
  epoch : i64P p.epoch
  seq : i64P p.seq
  id : i64P p.id
  code : i64P p.code
  cap : n ≤ c ∧ c ≤ 9223372036854775807
theorem PacRd.ext {w w' : World} {p : PacD} {A : Option Addr} {n c : Nat} (h : PacRd w p A n c) (hx : Ext w w') : PacRd w' p A n c := ⟨h.body.ext hx, h.kind, h.epoch, h.seq, h.id, h.code, h.cap⟩
theorem PacRd.len {w : World} {p : PacD} {A : Option Addr} {n c : Nat} (h : PacRd w p A n c) : p.body.length = n := h.body.length

theorem pacCheck_num (k e s i c : Int) (A : Option Addr) (n cap : Nat) (w : World) (he : i64P e) (hs : i64P s) (hn : n ≤ 9223372036854775807) :
    Calls Try.prog 29 #[.agg #[.int .i64 k, .int .i64 e, .int .i64 s, .int .i64 i, .int .i64 c, .slice A n cap]] w (RetI w (checkC k e s i c n)) := by
  have hor := ofInt64_neg he hs
  obtain ⟨K, hK⟩ : ∃ K, checkC k e s i c n = K := ⟨_, rfl⟩
  rw [hK]
  clear he hs
  have fin : ∀ w', Ext w w' → ∀ k', k' = K → RetI w K (.returned (.int .i64 k')) w' := fun w' hx k' hk => by subst hk; exact ⟨rfl, hx⟩
  have FIN := Lib.hid fin
  clear fin
  by_cases k1 : k = 1
  · subst k1
    have HK : Hid (K = if (i ≠ 0 ∨ c ≠ 0) then 23 else if (e < 1 ∨ 1099511627776 < e ∨ s < 0 ∨ 1099511627776 < s ∨ s = 1099511627776) then 3 else if n < 1 then 1 else if 1024 < n then 2 else 0) := by
      rw [← hK]; unfold Hid checkC; repeat' split
      all_goals first | rfl | omega
    clear hK hor
    have hcs : (i ≠ 0) ∨ (¬ i ≠ 0 ∧ c ≠ 0) ∨ (i = 0 ∧ c = 0 ∧ (e < 1 ∨ (1 ≤ e ∧ 1099511627776 < e))) ∨ (i = 0 ∧ c = 0 ∧ (1 ≤ e ∧ e ≤ 1099511627776) ∧ (s < 0 ∨ (0 ≤ s ∧ 1099511627776 < s))) ∨ (i = 0 ∧ c = 0 ∧ (1 ≤ e ∧ e ≤ 1099511627776) ∧ (0 ≤ s ∧ s ≤ 1099511627776) ∧ s = 1099511627776) ∨ (i = 0 ∧ c = 0 ∧ (1 ≤ e ∧ e ≤ 1099511627776) ∧ (0 ≤ s ∧ s ≤ 1099511627776) ∧ s ≠ 1099511627776) := by omega
    rcases hcs with h | ⟨h, h'⟩ | ⟨rfl, rfl, h⟩ | ⟨rfl, rfl, h, h'⟩ | ⟨rfl, rfl, h, h', rfl⟩ | ⟨rfl, rfl, h, h', h''⟩
    · have hb : (i != 0) = true := by simpa using h
      go_enter Try.func29, Try.ntmps29
      go_wp2_with fail
      go_ret
      exact FIN.out _ (Ext.alloc _ _) _ (by rw [HK.out, if_pos (.inl h)])
    · have hb : (i != 0) = false := by simp; omega
      have hb2 : (c != 0) = true := by simpa using h'
      go_enter Try.func29, Try.ntmps29
      go_wp2_with fail
      go_ret
      exact FIN.out _ (Ext.alloc _ _) _ (by rw [HK.out, if_pos (.inr h')])
    · have HH := Lib.hid h; clear h
      go_enter Try.func29, Try.ntmps29
      go_wp2_with fail
      refine (out_t e 1 1099511627776 _ HH.out).mono ?_
      rintro e' w1 ⟨rfl, rfl⟩
      go_wp2_with fail
      go_ret
      exact FIN.out _ (Ext.alloc _ _) _ (by have := HH.out; rw [HK.out, if_neg (by first | omega | (simp; done) | (simp; omega)), if_pos (by first | omega | (simp; done) | (simp; omega))])
    · have HH := Lib.hid h; have HH' := Lib.hid h'; clear h h'
      go_enter Try.func29, Try.ntmps29
      go_wp2_with fail
      refine (out_f e 1 1099511627776 _ HH.out).mono ?_
      rintro e' w1 ⟨rfl, rfl⟩
      go_wp2_with fail
      refine (out_t s 0 1099511627776 _ HH'.out).mono ?_
      rintro e' w1 ⟨rfl, rfl⟩
      go_wp2_with fail
      go_ret
      exact FIN.out _ (Ext.alloc _ _) _ (by have := HH'.out; rw [HK.out, if_neg (by first | omega | (simp; done) | (simp; omega)), if_pos (by first | omega | (simp; done) | (simp; omega))])
    · have HH := Lib.hid h; clear h h'
      go_enter Try.func29, Try.ntmps29
      go_wp2_with fail
      refine (out_f e 1 1099511627776 _ HH.out).mono ?_
      rintro e' w1 ⟨rfl, rfl⟩
      go_wp2_with fail
      refine (out_f 1099511627776 0 1099511627776 _ (by omega)).mono ?_
      rintro e' w1 ⟨rfl, rfl⟩
      go_wp2_with fail
      go_ret
      exact FIN.out _ (Ext.alloc _ _) _ (by have := HH.out; rw [HK.out, if_neg (by first | omega | (simp; done) | (simp; omega)), if_pos (by first | omega | (simp; done) | (simp; omega))])
    · have HH := Lib.hid h; have HH' := Lib.hid h'; have HS := Lib.hid h''
      have hs0 : (s == 1099511627776) = false := by simpa using h''
      clear h h' h''
      rcases Nat.lt_or_ge n 1 with hn1 | hn1
      · obtain rfl : n = 0 := by omega
        go_enter Try.func29, Try.ntmps29
        go_wp2_with fail
        refine (out_f e 1 1099511627776 _ HH.out).mono ?_
        rintro e' w1 ⟨rfl, rfl⟩
        go_wp2_with fail
        refine (out_f s 0 1099511627776 _ HH'.out).mono ?_
        rintro e' w1 ⟨rfl, rfl⟩
        go_wp2_with fail
        go_ret
        exact FIN.out _ (Ext.alloc _ _) _ (by have := HH.out; have := HH'.out; have := HS.out; rw [HK.out, if_neg (by first | omega | (simp; done) | (simp; omega)), if_neg (by first | omega | (simp; done) | (simp; omega)), if_pos (by first | omega | (simp; done) | (simp; omega))])
      · have hq1 : ¬ (n : Int) < 1 := by omega
        have hcl : (1024 < (n : Int)) ∨ ¬ (1024 < (n : Int)) := by omega
        rcases hcl with hc2 | hc2
        all_goals
          go_enter Try.func29, Try.ntmps29
          go_wp2_with fail
          refine (out_f e 1 1099511627776 _ HH.out).mono ?_
          rintro e' w1 ⟨rfl, rfl⟩
          go_wp2_with fail
          refine (out_f s 0 1099511627776 _ HH'.out).mono ?_
          rintro e' w1 ⟨rfl, rfl⟩
          go_wp2_with fail
          go_ret
          exact FIN.out _ (Ext.alloc _ _) _ (by have := HH.out; have := HH'.out; have := HS.out; rw [HK.out, if_neg (by first | omega | (simp; done) | (simp; omega)), if_neg (by first | omega | (simp; done) | (simp; omega)), if_neg (by first | omega | (simp; done) | (simp; omega))]; split <;> omega)
  · by_cases k2 : k = 2
    · subst k2
      have HK : Hid (K = if (i ≠ 0 ∨ c ≠ 0 ∨ 0 < n) then 23 else if (e < 1 ∨ 1099511627776 < e ∨ s < 0 ∨ 1099511627776 < s) then 3 else 0) := by
        rw [← hK]; unfold Hid checkC; repeat' split
        all_goals first | rfl | omega
      clear hK hor k1
      have hcs : (i ≠ 0) ∨ (¬ i ≠ 0 ∧ c ≠ 0) ∨ (i = 0 ∧ c = 0 ∧ 0 < n) ∨ (i = 0 ∧ c = 0 ∧ n = 0 ∧ (e < 1 ∨ (1 ≤ e ∧ 1099511627776 < e))) ∨ (i = 0 ∧ c = 0 ∧ n = 0 ∧ (1 ≤ e ∧ e ≤ 1099511627776) ∧ (s < 0 ∨ (0 ≤ s ∧ 1099511627776 < s))) ∨ (i = 0 ∧ c = 0 ∧ n = 0 ∧ (1 ≤ e ∧ e ≤ 1099511627776) ∧ (0 ≤ s ∧ s ≤ 1099511627776)) := by omega
      rcases hcs with h | ⟨h, h'⟩ | ⟨rfl, rfl, h⟩ | ⟨rfl, rfl, rfl, h⟩ | ⟨rfl, rfl, rfl, h, h'⟩ | ⟨rfl, rfl, rfl, h, h'⟩
      · have hb : (i != 0) = true := by simpa using h
        go_enter Try.func29, Try.ntmps29
        go_wp2_with fail
        go_ret
        exact FIN.out _ (Ext.alloc _ _) _ (by rw [HK.out, if_pos (.inl h)])
      · have hb : (i != 0) = false := by simp; omega
        have hb2 : (c != 0) = true := by simpa using h'
        go_enter Try.func29, Try.ntmps29
        go_wp2_with fail
        go_ret
        exact FIN.out _ (Ext.alloc _ _) _ (by rw [HK.out, if_pos (by first | omega | (simp; done) | (simp; omega))])
      · go_enter Try.func29, Try.ntmps29
        go_wp2_with fail
        go_ret
        exact FIN.out _ (Ext.alloc _ _) _ (by rw [HK.out, if_pos (by first | omega | (simp; done) | (simp; omega))])
      · have HH := Lib.hid h; clear h
        go_enter Try.func29, Try.ntmps29
        go_wp2_with fail
        refine (out_t e 1 1099511627776 _ HH.out).mono ?_
        rintro e' w1 ⟨rfl, rfl⟩
        go_wp2_with fail
        go_ret
        exact FIN.out _ (Ext.alloc _ _) _ (by have := HH.out; rw [HK.out, if_neg (by first | omega | (simp; done) | (simp; omega)), if_pos (by first | omega | (simp; done) | (simp; omega))])
      · have HH := Lib.hid h; have HH' := Lib.hid h'; clear h h'
        go_enter Try.func29, Try.ntmps29
        go_wp2_with fail
        refine (out_f e 1 1099511627776 _ HH.out).mono ?_
        rintro e' w1 ⟨rfl, rfl⟩
        go_wp2_with fail
        refine (out_t s 0 1099511627776 _ HH'.out).mono ?_
        rintro e' w1 ⟨rfl, rfl⟩
        go_wp2_with fail
        go_ret
        exact FIN.out _ (Ext.alloc _ _) _ (by have := HH'.out; rw [HK.out, if_neg (by first | omega | (simp; done) | (simp; omega)), if_pos (by first | omega | (simp; done) | (simp; omega))])
      · have HH := Lib.hid h; have HH' := Lib.hid h'; clear h h'
        go_enter Try.func29, Try.ntmps29
        go_wp2_with fail
        refine (out_f e 1 1099511627776 _ HH.out).mono ?_
        rintro e' w1 ⟨rfl, rfl⟩
        go_wp2_with fail
        refine (out_f s 0 1099511627776 _ HH'.out).mono ?_
        rintro e' w1 ⟨rfl, rfl⟩
        go_wp2_with fail
        go_ret
        exact FIN.out _ (Ext.alloc _ _) _ (by have := HH.out; have := HH'.out; rw [HK.out, if_neg (by first | omega | (simp; done) | (simp; omega)), if_neg (by first | omega | (simp; done) | (simp; omega))])
    · by_cases k34 : k = 3 ∨ k = 4
      · have HK : Hid (K = if (e ≠ 0 ∨ s ≠ 0 ∨ (k = 3 ∧ c ≠ 0) ∨ (k = 4 ∧ 0 < n)) then 23 else if (i < 1 ∨ 1099511627776 < i ∨ c < 0 ∨ 255 < c) then 3 else if k = 4 then 0 else if n < 2 then 1 else if 254 < n then 2 else 0) := by
          rw [← hK]; unfold Hid checkC; repeat' split
          all_goals first | rfl | omega
        clear hK
        have hcs : (e ≠ 0 ∨ s ≠ 0) ∨ (e = 0 ∧ s = 0 ∧ k = 3 ∧ c ≠ 0) ∨ (e = 0 ∧ s = 0 ∧ k = 4 ∧ 0 < n) ∨ (e = 0 ∧ s = 0 ∧ ((k = 3 ∧ c = 0) ∨ (k = 4 ∧ n = 0)) ∧ (i < 1 ∨ (1 ≤ i ∧ 1099511627776 < i))) ∨
          (e = 0 ∧ s = 0 ∧ k = 4 ∧ n = 0 ∧ (1 ≤ i ∧ i ≤ 1099511627776) ∧ (c < 0 ∨ (0 ≤ c ∧ 255 < c))) ∨ (e = 0 ∧ s = 0 ∧ k = 4 ∧ n = 0 ∧ (1 ≤ i ∧ i ≤ 1099511627776) ∧ (0 ≤ c ∧ c ≤ 255)) ∨
          (e = 0 ∧ s = 0 ∧ k = 3 ∧ c = 0 ∧ (1 ≤ i ∧ i ≤ 1099511627776)) := by omega
        rcases hcs with h | ⟨rfl, rfl, rfl, h⟩ | ⟨rfl, rfl, rfl, h⟩ | ⟨rfl, rfl, hk, h⟩ | ⟨rfl, rfl, rfl, rfl, h, h'⟩ | ⟨rfl, rfl, rfl, rfl, h, h'⟩ | ⟨rfl, rfl, rfl, rfl, h⟩
        · rw [decide_eq_true h] at hor
          have HH := Lib.hid h
          clear h
          rcases k34 with rfl | rfl
          all_goals
            go_enter Try.func29, Try.ntmps29
            go_wp2_with fail
            go_ret
            exact FIN.out _ (Ext.alloc _ _) _ (by have := HH.out; rw [HK.out, if_pos (by first | omega | (simp; done) | (simp; omega))])
        · have hb2 : (c != 0) = true := by simpa using h
          have hor0 : (bits .or .i64 0 0 != 0) = false := by rw [hor]; rfl
          clear hor
          go_enter Try.func29, Try.ntmps29
          go_wp2_with fail
          go_ret
          exact FIN.out _ (Ext.alloc _ _) _ (by rw [HK.out, if_pos (by first | omega | (simp; done) | (simp; omega))])
        · have hor0 : (bits .or .i64 0 0 != 0) = false := by rw [hor]; rfl
          clear hor
          go_enter Try.func29, Try.ntmps29
          go_wp2_with fail
          go_ret
          exact FIN.out _ (Ext.alloc _ _) _ (by rw [HK.out, if_pos (by first | omega | (simp; done) | (simp; omega))])
        · have hor0 : (bits .or .i64 0 0 != 0) = false := by rw [hor]; rfl
          have HH := Lib.hid h
          clear h hor
          rcases hk with ⟨rfl, rfl⟩ | ⟨rfl, rfl⟩
          all_goals
            go_enter Try.func29, Try.ntmps29
            go_wp2_with fail
            refine (out_t i 1 1099511627776 _ HH.out).mono ?_
            rintro e' w1 ⟨rfl, rfl⟩
            go_wp2_with fail
            go_ret
            exact FIN.out _ (Ext.alloc _ _) _ (by have := HH.out; rw [HK.out, if_neg (by first | omega | (simp; done) | (simp; omega)), if_pos (by first | omega | (simp; done) | (simp; omega))])
        · have hor0 : (bits .or .i64 0 0 != 0) = false := by rw [hor]; rfl
          have HH := Lib.hid h; have HH' := Lib.hid h'
          clear h h' hor
          go_enter Try.func29, Try.ntmps29
          go_wp2_with fail
          refine (out_f i 1 1099511627776 _ HH.out).mono ?_
          rintro e' w1 ⟨rfl, rfl⟩
          go_wp2_with fail
          refine (out_t c 0 255 _ HH'.out).mono ?_
          rintro e' w1 ⟨rfl, rfl⟩
          go_wp2_with fail
          go_ret
          exact FIN.out _ (Ext.alloc _ _) _ (by have := HH'.out; rw [HK.out, if_neg (by first | omega | (simp; done) | (simp; omega)), if_pos (by first | omega | (simp; done) | (simp; omega))])
        · have hor0 : (bits .or .i64 0 0 != 0) = false := by rw [hor]; rfl
          have HH := Lib.hid h; have HH' := Lib.hid h'
          clear h h' hor
          go_enter Try.func29, Try.ntmps29
          go_wp2_with fail
          refine (out_f i 1 1099511627776 _ HH.out).mono ?_
          rintro e' w1 ⟨rfl, rfl⟩
          go_wp2_with fail
          refine (out_f c 0 255 _ HH'.out).mono ?_
          rintro e' w1 ⟨rfl, rfl⟩
          go_wp2_with fail
          go_ret
          exact FIN.out _ (Ext.alloc _ _) _ (by have := HH.out; have := HH'.out; rw [HK.out, if_neg (by first | omega | (simp; done) | (simp; omega)), if_neg (by first | omega | (simp; done) | (simp; omega)), if_pos (by first | rfl | trivial)])
        · have hor0 : (bits .or .i64 0 0 != 0) = false := by rw [hor]; rfl
          have HH := Lib.hid h
          clear h hor
          have hcl : ((n : Int) < 2) ∨ (¬ (n : Int) < 2 ∧ 254 < (n : Int)) ∨ (¬ (n : Int) < 2 ∧ ¬ 254 < (n : Int)) := by omega
          rcases hcl with hc2 | ⟨hc1, hc2⟩ | ⟨hc1, hc2⟩
          all_goals
            go_enter Try.func29, Try.ntmps29
            go_wp2_with fail
            refine (out_f i 1 1099511627776 _ HH.out).mono ?_
            rintro e' w1 ⟨rfl, rfl⟩
            go_wp2_with fail
            refine (out_f 0 0 255 _ (by omega)).mono ?_
            rintro e' w1 ⟨rfl, rfl⟩
            go_wp2_with fail
            go_ret
            exact FIN.out _ (Ext.alloc _ _) _ (by have := HH.out; rw [HK.out, if_neg (by first | omega | (simp; done) | (simp; omega)), if_neg (by first | omega | (simp; done) | (simp; omega)), if_neg (by first | omega | (simp; done) | (simp; omega))]; repeat' split <;> omega)
      · have hKv : K = 28 := by rw [← hK]; unfold checkC; rw [if_pos (by first | omega | (simp; done) | (simp; omega))]
        have b1 : (k == 1) = false := by simpa using k1
        have b2 : (k == 2) = false := by simpa using k2
        have b3 : (k == 3) = false := by simp; omega
        have b4 : (k == 4) = false := by simp; omega
        have HKV := Lib.hid hKv
        clear hK hor hKv k1 k2 k34
        go_enter Try.func29, Try.ntmps29
        go_wp2_with fail
        go_ret
        exact FIN.out _ (Ext.alloc _ _) _ HKV.out.symm

theorem pacCheck_any (p : PacD) (A : Option Addr) (n c : Nat) (w : World) (hr : PacRd w p A n c) : Calls Try.prog 29 #[pacV p A n c] w (RetI w (checkP p)) := by
  rw [checkP_num p hr.len]
  exact pacCheck_num _ _ _ _ _ A n c w hr.epoch hr.seq (by have := hr.cap; omega)
end Go.Proofs.Ytifojmmggcenkaa

namespace Go.Proofs.Ytifojmmggcenkaa
set_option linter.unusedVariables false
set_option linter.unusedSimpArgs false
set_option maxRecDepth 100000
set_option maxHeartbeats 2000000
open Go Go.RowKit Go.Out

theorem eight_any (xs : List UInt8) (vs : List Nat) (n K : Nat) (hv : ∀ v ∈ vs, v < 4611686018427387904) (hK : vs.length = K) (A L : Option Addr) (c cl base : Nat) (w : World) (ho : Own w base 5 IsU8 A n c (xs.map cB)) (hbase : base ≤ w.heap.size) (hn : n ≤ 140737488300000) (hK2 : K ≤ 10)
    (hr : Rd w L K (vs.map (fun (v : Nat) => (Value.int .i64 (v : Int))))) (hL : ∀ g, blk L = some g → blk A ≠ some g) :
    Calls Try.prog 35 #[.slice A n c, .slice L K cl] w (RetP w base A (xs ++ vs.flatMap (fun v => be v 8))) := by
  have hlen : ∀ k, k ≤ K → (xs ++ (vs.take k).flatMap (fun v => be v 8)).length = n + 8 * k := by
    intro k
    have := ho.len
    induction k with
    | zero => intro _; simp at this ⊢; omega
    | succ k ih =>
      intro hk
      have h1 := ih (by omega)
      rw [List.take_succ_eq_append_getElem (by omega), List.flatMap_append]
      simp [be_length] at h1 ⊢; omega
  have Hlen := Lib.hid hlen; have Ho := Lib.hid ho; have Hr := Lib.hid hr; have HL := Lib.hid hL; have Hv := Lib.hid hv; clear hlen ho hr hL hv
  have Hbase := Lib.hid hbase; clear hbase
  go_enter Try.func35, Try.ntmps35
  go_wp2_with fail
  go_loopw [0, 10] (fun b i wr => ∃ (k : Nat) (A1 : Option Addr) (c1 : Nat), k ≤ K ∧ b = .slice A1 (n + 8 * k) c1 ∧ i = .int .i64 (k : Int) ∧ Hid (Own wr base 5 IsU8 A1 (n + 8 * k) c1 ((xs ++ (vs.take k).flatMap (fun v => be v 8)).map cB)) ∧ Hid (Grow w wr A A1)) (fun _ i _ => K - (intOf i).toNat)
  case atStart => exact ⟨0, A, c, Nat.zero_le _, rfl, rfl, by simpa [Hid] using Ho.out, Lib.hid (Grow.refl _ _)⟩
  case round =>
    obtain ⟨k, A1, c1, hk, rfl, rfl, HO, HG⟩ := hrel
    rcases Nat.lt_or_ge k K with hlt | hge
    · have hkl : k < vs.length := by omega
      obtain ⟨bk, off, hA, hbk, hl, hcell⟩ := Hr.out.at_ hlt
      subst hA
      rw [List.getElem_map] at hcell
      have hcw : wr.cell? ⟨bk, off + k, none⟩ = some (.int .i64 (vs[k] : Int)) := (World.cell?_of_block (w := w) (HG.out.1.block bk hbk (fun e => HL.out bk rfl e.symm))).trans hcell
      have hv := Hv.out vs[k] (List.getElem_mem hkl)
      have Hst := Lib.hid (show (vs.take (k + 1)).flatMap (fun v => be v 8) = (vs.take k).flatMap (fun v => be v 8) ++ be vs[k] 8 by rw [List.take_succ_eq_append_getElem hkl, List.flatMap_append]; simp)
      clear hcell hl
      generalize vs[k] = v at *
      generalize hP : xs ++ (vs.take k).flatMap (fun v => be v 8) = P at *
      have HP := Lib.hid hP
      clear hP
      go_wp2_with fail
      go_loopw [0, 7] (fun b i wr => ∃ (q : Nat) (x : Int) (A2 : Option Addr) (c2 : Nat), q ≤ 8 ∧ x = 8 * (q : Int) - 8 ∧ i = .int .i64 x ∧ b = .slice A2 (n + 8 * k + (8 - q)) c2 ∧ Hid (Own wr base 5 IsU8 A2 (n + 8 * k + (8 - q)) c2 ((P ++ beTop v 8 q).map cB)) ∧ Hid (Grow w wr A A2)) (fun _ i _ => ((intOf i) + 8).toNat)
      case atStart => exact ⟨8, 56, A1, c1, by omega, by omega, rfl, rfl, by simpa [Hid, beTop_zero] using HO.out, HG⟩
      case round =>
        obtain ⟨q, x, A2, c2, hq, hx, rfl, rfl, HO2, HG2⟩ := hrel
        rcases q with _ | q
        · obtain rfl : x = -8 := by omega
          have hG2 := HG2.out
          clear hx
          go_wp2_with fail
          go_roundw
          case rel => exact ⟨k + 1, A2, c2, by omega, by congr 1, by go_num, by have h := HO2.out; rw [beTop_all, ← HP.out, List.append_assoc, ← Hst.out] at h; exact h, HG2⟩
          case measure => simp [intOf]; omega
        · obtain rfl : x = 8 * (q : Int) := by omega
          clear hx
          have q0 : 0 ≤ 8 * (q : Int) := by omega
          have q1 : (8 * (q : Int)).toNat = 8 * q := by omega
          have q2 : ¬ 8 * (q : Int) < 0 := by omega
          have q3 : min (8 * q) 64 = 8 * q := by omega
          have Hlit : Hid ((#[.int .u8 ((v : Int) / 2 ^ (8 * q) % 256)] : Array Value).toList = [UInt8.ofNat (v / 256 ^ q)].map cB ++ []) := by
            show [_] = _
            rw [be_cell]
            rfl
          have Hbt := Lib.hid (beTop_step v 8 q (by omega))
          go_wp2_with (at_builtin; go_must (refine app_u8 _ rfl (.tmp 18) (.tmp 23) rfl rfl (HO2.out.ext (Ext.alloc _ _)) rfl (Rd.of_heap (ys := []) (heap_alloc_new wr _) Hlit.out rfl) isU8_map (by omega) (Nat.le_trans (Nat.le_trans Hbase.out HG2.out.1.size) (Ext.alloc _ _).size) ?_); intro A3 c3 w2 hown2 hg2 hb2; have HO3 := Lib.hid hown2; have HG3 := Lib.hid (Grow.of_alloc hg2 hb2); clear hown2 hg2 hb2)
          go_roundw
          case rel => exact ⟨q, 8 * (q : Int) - 8, A3, c3, by omega, rfl, by go_num, by congr 1; omega, by have h := HO3.out; rw [← List.map_append, List.append_assoc, ← Hbt.out, show n + 8 * k + (8 - (q + 1)) + 1 = n + 8 * k + (8 - q) by omega] at h; exact h, Lib.hid (HG2.out.trans HG3.out)⟩
          case measure => simp [intOf]; omega
    · obtain rfl : k = K := by omega
      go_wp2_with fail
      go_ret
      have hl := Hlen.out k (Nat.le_refl _)
      have ht : vs.take k = vs := List.take_of_length_le (by omega)
      have ho := HO.out
      rw [ht] at hl ho
      exact ⟨A1, c1, by rw [hl]; rfl, by rw [hl]; exact ho, HG.out⟩

/-- A call that hands back a number; the world stays. -/
theorem number_any (b : List UInt8) (A : Option Addr) (m c : Nat) (w : World) (hr : Rd w A m (b.map cB)) (h8 : 8 ≤ m) (hc : m ≤ c) (hm : c ≤ 9223372036854775807) :
    Calls Try.prog 28 #[.slice A m c] w (RetN w (IntKind.i64.wrap (num (b.take 8) : Nat))) := by
  have hl := hr.length
  obtain ⟨bk, off, rfl, hbk, hcell⟩ := hr.u8all (by omega)
  have hcell2 : ∀ k, k < 8 → ∃ hk : k < b.length, w.cell? ⟨bk, off + k, none⟩ = some (.int .u8 (b[k].toNat : Int)) := fun k hk => ⟨by omega, by
    have h := hcell k (by omega)
    rw [List.getD_eq_getElem?_getD, List.getElem?_eq_getElem (by omega)] at h
    exact h⟩
  have Hc := Lib.hid hcell2
  have Hl := Lib.hid hl
  clear hcell hcell2 hr hl
  go_enter Try.func28, Try.ntmps28
  go_wp2_with fail
  go_loop [3, 9] (fun v i => ∃ k : Nat, k ≤ 8 ∧ i = .int .i64 k ∧ v = .int .u64 (num (b.take k) : Nat)) (fun _ i => 8 - (intOf i).toNat)
  case atStart => exact ⟨0, Nat.zero_le _, rfl, by simp [num]⟩
  case round =>
    obtain ⟨k, hk, rfl, rfl⟩ := hrel
    by_cases hlt : k < 8
    · obtain ⟨hk2, hcc⟩ := Hc.out k hlt
      have hnl := num_lt (b.take k)
      rw [List.length_take, Nat.min_eq_left (by omega)] at hnl
      have hnb := num_small hnl (by omega)
      have Hst := Lib.hid (show b.take (k + 1) = b.take k ++ [b[k]] from by rw [List.take_succ_eq_append_getElem hk2])
      generalize hX : num (b.take k) = X at *
      have HX := Lib.hid hX; clear hX hnl
      go_wp2_with fail
      go_round
      case rel => exact ⟨k + 1, by omega, by go_num, by rw [num_or _ hnb, Hst.out, num_snoc, HX.out]⟩
      case measure => simp [intOf]; omega
    · obtain rfl : k = 8 := by omega
      go_wp2_with fail
      go_ret
      exact ⟨ret_int (by rw [IntKind.wrap_i64]; simp [wrap64]), rfl⟩
end Go.Proofs.Ytifojmmggcenkaa

namespace Go.Out
set_option linter.unusedVariables false
open Go Go.RowKit
theorem Ext.duo (w : World) (o1 o2 : Obj) : Ext w ((w.alloc o1).alloc o2) := (Ext.alloc _ _).trans (Ext.alloc _ _)
theorem box6 {W : World} {g : Nat} {t : TypeId} {v0 v1 v2 v3 v4 v5 : Value} (h : W.heap[g]? = some (.cells #[v0, v1, v2, v3, v4, v5] t (0, 0))) :
    W.cell? ⟨g, 0, none⟩ = some v0 ∧ W.cell? ⟨g, 1, none⟩ = some v1 ∧ W.cell? ⟨g, 2, none⟩ = some v2 ∧ W.cell? ⟨g, 3, none⟩ = some v3 ∧ W.cell? ⟨g, 4, none⟩ = some v4 ∧ W.cell? ⟨g, 5, none⟩ = some v5 ∧
    W.frozen? ⟨g, 0, none⟩ = false ∧ W.frozen? ⟨g, 1, none⟩ = false ∧ W.frozen? ⟨g, 2, none⟩ = false ∧ W.frozen? ⟨g, 3, none⟩ = false ∧ W.frozen? ⟨g, 4, none⟩ = false ∧ W.frozen? ⟨g, 5, none⟩ = false :=
  ⟨(cell_of_row _ _ _ _ _ _ h).trans rfl, (cell_of_row _ _ _ _ _ _ h).trans rfl, (cell_of_row _ _ _ _ _ _ h).trans rfl, (cell_of_row _ _ _ _ _ _ h).trans rfl, (cell_of_row _ _ _ _ _ _ h).trans rfl, (cell_of_row _ _ _ _ _ _ h).trans rfl,
   frozen_of_row _ _ _ _ _ h, frozen_of_row _ _ _ _ _ h, frozen_of_row _ _ _ _ _ h, frozen_of_row _ _ _ _ _ h, frozen_of_row _ _ _ _ _ h, frozen_of_row _ _ _ _ _ h⟩
end Go.Out
namespace Go.Proofs.Ytifojmmggcenkaa
set_option linter.unusedVariables false
set_option linter.unusedSimpArgs false
set_option maxRecDepth 100000
set_option maxHeartbeats 2000000
open Go Go.RowKit Go.Out

theorem first_eight (w V : World) (x : UInt8) (b g K N base : Nat) (vs : List Nat) (hv : ∀ v ∈ vs, v < 4611686018427387904) (hK : vs.length = K) (hN : 1 + 8 * K = N) (hK2 : K ≤ 2) (hb : base = w.heap.size) (hW : Own V base 5 IsU8 (some ⟨b, 0, none⟩) 1 1 ([x].map cB)) (hX : Ext w V) (hL : Rd V (some ⟨g, 0, none⟩) K (vs.map (fun (v : Nat) => (Value.int .i64 (v : Int))))) (hne : g ≠ b) :
    Calls Try.prog 35 #[.slice (some ⟨b, 0, none⟩) 1 1, .slice (some ⟨g, 0, none⟩) K K] V fun e w' => ∃ A c, e = .returned (.slice A N c) ∧ Own w' base 5 IsU8 A N c ((x :: vs.flatMap (fun v => be v 8)).map cB) ∧ Ext w w' ∧ Grow V w' (some ⟨b, 0, none⟩) A := by
  subst hb
  have hlen : ([x] ++ vs.flatMap (fun v => be v 8)).length = N := by
    have : ∀ l : List Nat, (l.flatMap (fun v => be v 8)).length = 8 * l.length := by
      intro l
      induction l with
      | nil => rfl
      | cons a r ih => simp only [List.flatMap_cons, List.length_append, be_length, ih, List.length_cons]; omega
    rw [List.length_append, this, hK]; simp; omega
  refine (eight_any [x] vs 1 K hv hK _ _ _ _ w.heap.size _ hW hX.size (by omega) (by omega) hL (by intro k hk; simp [blk] at hk ⊢; omega)).mono ?_
  rintro e w' ⟨A, c, rfl, ho, hG⟩
  rw [hlen] at ho ⊢
  exact ⟨A, c, rfl, ho, hX.grown' hG.1 (fun k hk => by simp [blk] at hk; subst hk; exact (hW.lt b rfl).1), hG⟩
theorem pacOk {p : PacD} {A : Option Addr} {n c : Nat} {w : World} (hr : PacRd w p A n c) (h : checkP p = 0) : ∀ W, Ext w W → Calls Try.prog 29 #[pacV p A n c] W (RetI W 0) := by
  intro W hX
  have := pacCheck_any p A n c W (hr.ext hX)
  rwa [h] at this
theorem RetU.seal {w w1 w' : World} {l : List UInt8} {A : Option Addr} {n c : Nat} (hx : Ext w w1) (h : Own w' w1.heap.size 5 IsU8 A n c (l.map cB)) (hx2 : Ext w1 w') : RetU w l 0 (.returned (.tuple #[.slice A n c, .int .i64 0])) w' := ⟨A, n, c, rfl, h.mono hx.size, hx.trans hx2⟩

theorem putNo (p : PacD) (A : Option Addr) (n c : Nat) (w : World) (hr : PacRd w p A n c) (h : checkP p ≠ 0) : Calls Try.prog 30 #[pacV p A n c] w (RetU w [] (checkP p)) := by
  have hc := fun W (hX : Ext w W) => pacCheck_any p A n c W (hr.ext hX)
  obtain ⟨k, hk⟩ : ∃ k, checkP p = k := ⟨_, rfl⟩
  simp only [hk] at hc h ⊢
  have ht : (k != 0) = true := by simpa using h
  have HC := Lib.hid hc; clear hc hr hk h
  obtain ⟨kd, e, s, i, cd, l⟩ := p
  simp only [pacV] at HC ⊢
  go_enter Try.func30, Try.ntmps30
  go_wp2_with fail
  refine (HC.out _ (Ext.alloc _ _)).mono ?_
  rintro e w1 ⟨rfl, hb⟩
  have X1 := (Ext.alloc _ _).trans hb
  clear hb
  go_wp2_with fail
  go_ret2
  exact ⟨none, 0, 0, rfl, Own.nil_ _ _ _ _, X1⟩

theorem putRuns (kd E S : Nat) (l : List UInt8) (A : Option Addr) (n c : Nat) (w : World) (hkd : kd = 1 ∨ kd = 2) (hr : PacRd w ⟨kd, E, S, 0, 0, l⟩ A n c) (h : checkP ⟨kd, E, S, 0, 0, l⟩ = 0) (hE : E ≤ 1099511627776) (hS : S ≤ 1099511627776) (hl : l.length ≤ 1024) :
    Calls Try.prog 30 #[pacV ⟨kd, E, S, 0, 0, l⟩ A n c] w (RetU w (sealF 4 (more32 0) (UInt8.ofNat kd :: ((be E 8 ++ be S 8) ++ l))) 0) := by
  have HC := Lib.hid (pacOk hr h)
  have HB := Lib.hid hr.body
  have hn := hr.len
  simp only at hn
  clear hr h
  simp only [pacV] at HC ⊢
  have hn2 : n ≤ 1024 := by omega
  have hk8 : (UInt8.ofNat kd).toNat = kd := by rcases hkd with rfl | rfl <;> rfl
  have hE2 : (E : Int) ≤ 1099511627776 := by omega
  rcases hkd with rfl | rfl
  · go_enter Try.func30, Try.ntmps30
    go_wp2_with fail
    refine (HC.out _ (Ext.alloc _ _)).mono ?_
    rintro e w1 ⟨rfl, hb⟩
    obtain ⟨d0, -⟩ := box6 (hb.block (heap_alloc_new w _))
    have D := fun o : Obj => box6 ((hb.trans (Ext.alloc w1 o)).block (heap_alloc_new w _))
    have d0' := fun o => (D o).1
    have d1' := fun o => (D o).2.1
    have d2' := fun o => (D o).2.2.1
    have Y1 := Lib.hid hb
    have hz1 : w.heap.size + 1 ≤ w1.heap.size := by have := hb.size; simpa using this
    clear hb D
    go_wp2_with fail
    have hcall := first_eight (w.alloc (.cells #[.int .i64 1, .int .i64 (E : Int), .int .i64 (S : Int), .int .i64 0, .int .i64 0, .slice A n c] 32)) ((w1.alloc (.cells #[.int .u8 1] 5)).alloc (.cells #[.int .i64 (E : Int), .int .i64 (S : Int)] 3)) 1 w1.heap.size (w1.heap.size + 1) 2 17 (w.heap.size + 1) [E, S] (by simp; omega) rfl rfl (by omega) (by simp) ((Own.first w1 _ hz1 1 1 rfl).ext (Ext.alloc _ _)) (Y1.out.trans (Ext.duo _ _ _)) (Rd.of_heap (ys := []) (heap_at _ _ _ (by simp)) rfl rfl) (by omega)
    refine hcall.mono ?_
    clear hcall d0 d0' d1' d2'
    rintro e w2 ⟨A2, c2, rfl, ho2, hx2, -⟩
    obtain ⟨d0, -, -, -, -, d5, -⟩ := box6 (hx2.block (heap_alloc_new w _))
    have HO2 := Lib.hid ho2
    have X2 := Lib.hid hx2
    clear ho2 hx2
    go_wp2_with (at_builtin
                 go_must (refine app_u8 _ rfl (.tmp 44) (.tmp 46) rfl rfl HO2.out rfl (HB.out.ext ((Ext.alloc _ _).trans X2.out)) isU8_map (by omega) (by have := X2.out.size; simp at this; omega) ?_)
                 intro A3 c3 w3 hown hg hbk
                 rw [← List.map_append] at hown
                 have HO3 := Lib.hid hown
                 have X3 := Lib.hid (X2.out.grown' hg (fun g hg => by have := (HO2.out.lt g hg).1; simp; omega))
                 clear hown hg hbk)
    refine (seal32_any (1 :: (be E 8 ++ (be S 8 ++ [])) ++ l) _ _ _ _ HO3.out.rd (by omega)).mono ?_
    rintro e w4 ⟨A4, c4, rfl, ho4, hb4⟩
    have HO4 := Lib.hid ho4
    have X4 := Lib.hid (Ext.of hb4)
    clear ho4 hb4
    go_wp2_with fail
    go_ret2
    have e : (1 :: (be E 8 ++ (be S 8 ++ [])) ++ l : List UInt8) = UInt8.ofNat 1 :: ((be E 8 ++ be S 8) ++ l) := by simp
    rw [← e]
    exact RetU.seal ((Ext.alloc _ _).trans X3.out) HO4.out X4.out
  · go_enter Try.func30, Try.ntmps30
    go_wp2_with fail
    refine (HC.out _ (Ext.alloc _ _)).mono ?_
    rintro e w1 ⟨rfl, hb⟩
    obtain ⟨d0, -⟩ := box6 (hb.block (heap_alloc_new w _))
    have D := fun o : Obj => box6 ((hb.trans (Ext.alloc w1 o)).block (heap_alloc_new w _))
    have d0' := fun o => (D o).1
    have d1' := fun o => (D o).2.1
    have d2' := fun o => (D o).2.2.1
    have Y1 := Lib.hid hb
    have hz1 : w.heap.size + 1 ≤ w1.heap.size := by have := hb.size; simpa using this
    clear hb D
    go_wp2_with fail
    have hcall := first_eight (w.alloc (.cells #[.int .i64 2, .int .i64 (E : Int), .int .i64 (S : Int), .int .i64 0, .int .i64 0, .slice A n c] 32)) ((w1.alloc (.cells #[.int .u8 2] 5)).alloc (.cells #[.int .i64 (E : Int), .int .i64 (S : Int)] 3)) 2 w1.heap.size (w1.heap.size + 1) 2 17 (w.heap.size + 1) [E, S] (by simp; omega) rfl rfl (by omega) (by simp) ((Own.first w1 _ hz1 2 2 rfl).ext (Ext.alloc _ _)) (Y1.out.trans (Ext.duo _ _ _)) (Rd.of_heap (ys := []) (heap_at _ _ _ (by simp)) rfl rfl) (by omega)
    refine hcall.mono ?_
    clear hcall d0 d0' d1' d2'
    rintro e w2 ⟨A2, c2, rfl, ho2, hx2, -⟩
    obtain ⟨d0, -, -, -, -, d5, -⟩ := box6 (hx2.block (heap_alloc_new w _))
    have HO2 := Lib.hid ho2
    have X2 := Lib.hid hx2
    clear ho2 hx2
    go_wp2_with (at_builtin
                 go_must (refine app_u8 _ rfl (.tmp 44) (.tmp 46) rfl rfl HO2.out rfl (HB.out.ext ((Ext.alloc _ _).trans X2.out)) isU8_map (by omega) (by have := X2.out.size; simp at this; omega) ?_)
                 intro A3 c3 w3 hown hg hbk
                 rw [← List.map_append] at hown
                 have HO3 := Lib.hid hown
                 have X3 := Lib.hid (X2.out.grown' hg (fun g hg => by have := (HO2.out.lt g hg).1; simp; omega))
                 clear hown hg hbk)
    refine (seal32_any (2 :: (be E 8 ++ (be S 8 ++ [])) ++ l) _ _ _ _ HO3.out.rd (by omega)).mono ?_
    rintro e w4 ⟨A4, c4, rfl, ho4, hb4⟩
    have HO4 := Lib.hid ho4
    have X4 := Lib.hid (Ext.of hb4)
    clear ho4 hb4
    go_wp2_with fail
    go_ret2
    have e : (2 :: (be E 8 ++ (be S 8 ++ [])) ++ l : List UInt8) = UInt8.ofNat 2 :: ((be E 8 ++ be S 8) ++ l) := by simp
    rw [← e]
    exact RetU.seal ((Ext.alloc _ _).trans X3.out) HO4.out X4.out

theorem putCmd (I : Nat) (l : List UInt8) (A : Option Addr) (n c : Nat) (w : World) (hr : PacRd w ⟨3, 0, 0, I, 0, l⟩ A n c) (h : checkP ⟨3, 0, 0, I, 0, l⟩ = 0) (hI : I ≤ 1099511627776) (hl : l.length ≤ 1024) :
    Calls Try.prog 30 #[pacV ⟨3, 0, 0, I, 0, l⟩ A n c] w (RetU w (sealF 4 (more32 0) (3 :: (be I 8 ++ l))) 0) := by
  have HC := Lib.hid (pacOk hr h)
  have HB := Lib.hid hr.body
  have hn := hr.len
  simp only at hn
  clear hr h
  simp only [pacV] at HC ⊢
  have hn2 : n ≤ 1024 := by omega
  go_enter Try.func30, Try.ntmps30
  go_wp2_with fail
  refine (HC.out _ (Ext.alloc _ _)).mono ?_
  rintro e w1 ⟨rfl, hb⟩
  obtain ⟨d0, -⟩ := box6 (hb.block (heap_alloc_new w _))
  have D := fun o : Obj => box6 ((hb.trans (Ext.alloc w1 o)).block (heap_alloc_new w _))
  have d0' := fun o => (D o).1
  have d3' := fun o => (D o).2.2.2.1
  have Y1 := Lib.hid hb
  have hz1 : w.heap.size + 1 ≤ w1.heap.size := by have := hb.size; simpa using this
  clear hb D
  go_wp2_with fail
  have hcall := first_eight (w.alloc (.cells #[.int .i64 3, .int .i64 0, .int .i64 0, .int .i64 (I : Int), .int .i64 0, .slice A n c] 32)) ((w1.alloc (.cells #[.int .u8 3] 5)).alloc (.cells #[.int .i64 (I : Int)] 3)) 3 w1.heap.size (w1.heap.size + 1) 1 9 (w.heap.size + 1) [I] (by simp; omega) rfl rfl (by omega) (by simp) ((Own.first w1 _ hz1 3 3 rfl).ext (Ext.alloc _ _)) (Y1.out.trans (Ext.duo _ _ _)) (Rd.of_heap (ys := []) (heap_at _ _ _ (by simp)) rfl rfl) (by omega)
  refine hcall.mono ?_
  clear hcall d0 d0' d3'
  rintro e w2 ⟨A2, c2, rfl, ho2, hx2, -⟩
  obtain ⟨d0, -, -, -, -, d5, -⟩ := box6 (hx2.block (heap_alloc_new w _))
  have HO2 := Lib.hid ho2
  have X2 := Lib.hid hx2
  clear ho2 hx2
  go_wp2_with (at_builtin
               go_must (refine app_u8 _ rfl (.tmp 44) (.tmp 46) rfl rfl HO2.out rfl (HB.out.ext ((Ext.alloc _ _).trans X2.out)) isU8_map (by omega) (by have := X2.out.size; simp at this; omega) ?_)
               intro A3 c3 w3 hown hg hbk
               rw [← List.map_append] at hown
               have HO3 := Lib.hid hown
               have X3 := Lib.hid (X2.out.grown' hg (fun g hg => by have := (HO2.out.lt g hg).1; simp; omega))
               clear hown hg hbk)
  refine (seal32_any (3 :: (be I 8 ++ []) ++ l) _ _ _ _ HO3.out.rd (by omega)).mono ?_
  rintro e w4 ⟨A4, c4, rfl, ho4, hb4⟩
  have HO4 := Lib.hid ho4
  have X4 := Lib.hid (Ext.of hb4)
  clear ho4 hb4
  go_wp2_with fail
  go_ret2
  have e : (3 :: (be I 8 ++ []) ++ l : List UInt8) = 3 :: (be I 8 ++ l) := by simp
  rw [← e]
  exact RetU.seal ((Ext.alloc _ _).trans X3.out) HO4.out X4.out

theorem putDone (I C : Nat) (A : Option Addr) (c : Nat) (w : World) (hr : PacRd w ⟨4, 0, 0, I, C, []⟩ A 0 c) (h : checkP ⟨4, 0, 0, I, C, []⟩ = 0) (hI : I ≤ 1099511627776) (hC : C ≤ 255) :
    Calls Try.prog 30 #[pacV ⟨4, 0, 0, I, C, []⟩ A 0 c] w (RetU w (sealF 4 (more32 0) (4 :: (be I 8 ++ [UInt8.ofNat C]))) 0) := by
  have HC := Lib.hid (pacOk hr h)
  clear hr h
  simp only [pacV] at HC ⊢
  have hC8 : (UInt8.ofNat C).toNat = C := by simp; omega
  have hCw : IntKind.u8.wrap (C : Int) = (C : Int) := by rw [IntKind.wrap_u8]; omega
  have Hlit : Hid ((#[.int .u8 (C : Int)] : Array Value).toList = [UInt8.ofNat C].map cB ++ []) := by show _ = _; simp only [List.map_cons, List.map_nil, cB, hC8, List.append_nil]
  clear hC8
  go_enter Try.func30, Try.ntmps30
  go_wp2_with fail
  refine (HC.out _ (Ext.alloc _ _)).mono ?_
  rintro e w1 ⟨rfl, hb⟩
  obtain ⟨d0, -⟩ := box6 (hb.block (heap_alloc_new w _))
  have D := fun o : Obj => box6 ((hb.trans (Ext.alloc w1 o)).block (heap_alloc_new w _))
  have d0' := fun o => (D o).1
  have Y1 := Lib.hid hb
  have hz1 : w.heap.size + 1 ≤ w1.heap.size := by have := hb.size; simpa using this
  clear hb D
  go_wp2_with fail
  obtain ⟨-, -, -, q3, q4, -⟩ := box6 ((Y1.out.trans (Ext.alloc w1 (.cells #[.int .u8 4] 5))).block (heap_alloc_new w _))
  have HF := Lib.hid (Own.first w1 _ hz1 4 4 rfl)
  have HW := Lib.hid (Y1.out.trans (Ext.alloc w1 (.cells #[.int .u8 4] 5)))
  have hs1 : (w1.alloc (.cells #[.int .u8 4] 5)).heap.size = w1.heap.size + 1 := by simp
  generalize w1.alloc (.cells #[.int .u8 4] 5) = V1 at *
  generalize hq : w1.heap.size = q at *
  clear hq d0 d0'
  have hzV : w.heap.size < V1.heap.size := by omega
  have xa := Lib.hid (fun o => Ext.drew' (Ext.alloc V1 o))
  have xb := Lib.hid (fun o1 o2 => Ext.drew' (Ext.duo V1 o1 o2))
  have HKK : Hid (∀ W, Ext (w.alloc (.cells #[.int .i64 4, .int .i64 0, .int .i64 0, .int .i64 (I : Int), .int .i64 (C : Int), .slice A 0 c] 32)) W → W.cell? ⟨w.heap.size, 3, none⟩ = some (.int .i64 (I : Int)) ∧ W.cell? ⟨w.heap.size, 4, none⟩ = some (.int .i64 (C : Int)) ∧ W.cell? ⟨w.heap.size, 5, none⟩ = some (.slice A 0 c)) := fun W hX => by
    obtain ⟨-, -, -, q3, q4, q5, -⟩ := box6 (hX.block (heap_alloc_new w _))
    exact ⟨q3, q4, q5⟩
  have t3 := first_eight (w.alloc (.cells #[.int .i64 4, .int .i64 0, .int .i64 0, .int .i64 (I : Int), .int .i64 (C : Int), .slice A 0 c] 32)) ((V1.alloc (.cells #[.int .u8 (C : Int)] 5)).alloc (.cells #[.int .i64 (I : Int)] 3)).drew 4 q (V1.heap.size + 1) 1 9 (w.heap.size + 1) [I] (by simp; omega) rfl rfl (by omega) (by simp) (HF.out.ext (xb.out _ _)) (HW.out.trans (xb.out _ _)) (Rd.of_heap (ys := []) (heap_at (V1.alloc (.cells #[.int .u8 (C : Int)] 5)) (.cells #[.int .i64 (I : Int)] 3) _ (by simp)) rfl rfl) (by omega)
  have t2 := first_eight (w.alloc (.cells #[.int .i64 4, .int .i64 0, .int .i64 0, .int .i64 (I : Int), .int .i64 (C : Int), .slice A 0 c] 32)) ((V1.alloc (.cells #[.int .i64 (I : Int)] 3)).alloc (.cells #[.int .u8 (C : Int)] 5)).drew 4 q V1.heap.size 1 9 (w.heap.size + 1) [I] (by simp; omega) rfl rfl (by omega) (by simp) (HF.out.ext (xb.out _ _)) (HW.out.trans (xb.out _ _)) (Rd.of_heap (ys := []) ((Ext.alloc _ _).block (heap_alloc_new V1 _)) rfl rfl) (by omega)
  have t1 := first_eight (w.alloc (.cells #[.int .i64 4, .int .i64 0, .int .i64 0, .int .i64 (I : Int), .int .i64 (C : Int), .slice A 0 c] 32)) (V1.alloc (.cells #[.int .i64 (I : Int)] 3)).drew 4 q V1.heap.size 1 9 (w.heap.size + 1) [I] (by simp; omega) rfl rfl (by omega) (by simp) (HF.out.ext (xa.out _)) (HW.out.trans (xa.out _)) (Rd.of_heap (ys := []) (heap_alloc_new V1 _) rfl rfl) (by omega)
  simp only [hs1] at t1 t2 t3
  have T1 := Lib.hid t1; have T2 := Lib.hid t2; have T3 := Lib.hid t3; clear t1 t2 t3
  have HSZ : Hid (∀ W, Ext (w.alloc (.cells #[.int .i64 4, .int .i64 0, .int .i64 0, .int .i64 (I : Int), .int .i64 (C : Int), .slice A 0 c] 32)) W → w.heap.size < W.heap.size) := fun W hX => by have := hX.size; simp at this; omega
  have hb2 := (fun (w4 : World) (A5 : Option Addr) (hG : Grow (((V1.alloc (.cells #[.int .i64 (I : Int)] 3)).alloc (.cells #[.int .u8 (C : Int)] 5)).drew) w4 (some ⟨q, 0, none⟩) A5) => (hG.1.block (V1.heap.size + 1) (by simp) (fun e => by simp [blk] at e; omega)).trans (heap_at (V1.alloc (.cells #[.int .i64 (I : Int)] 3)) (.cells #[.int .u8 (C : Int)] 5) _ (by simp)))
  have hb3 := (fun (w4 : World) (A5 : Option Addr) (hG : Grow (((V1.alloc (.cells #[.int .u8 (C : Int)] 5)).alloc (.cells #[.int .i64 (I : Int)] 3)).drew) w4 (some ⟨q, 0, none⟩) A5) => (hG.1.block V1.heap.size (by simp <;> omega) (fun e => by simp [blk] at e; omega)).trans ((Ext.alloc _ _).block (heap_alloc_new V1 (.cells #[.int .u8 (C : Int)] 5))))
  simp only [hs1] at hb2 hb3
  have HB2 := Lib.hid hb2; have HB3 := Lib.hid hb3; clear hb2 hb3
  go_region_held3 (fun w' => w'.cell? ⟨w.heap.size, 3, none⟩ = some (.int .i64 (I : Int)) ∧ w'.cell? ⟨w.heap.size, 4, none⟩ = some (.int .i64 (C : Int))) (go_keep) ((first
    | (go_at_call 35
       first
         | (with_reducible refine Calls.mono T1.out ?_
            rintro e w4 ⟨A5, c5, rfl, ho, hx4, hG⟩
            obtain ⟨k3, k4, k5⟩ := HKK.out _ hx4
            have hz4 : w.heap.size < w4.heap.size := HSZ.out _ hx4
            have HO4 := Lib.hid ho
            have X4 := Lib.hid hx4
            clear ho hx4 hG)
         | (with_reducible refine Calls.mono T2.out ?_
            rintro e w4 ⟨A5, c5, rfl, ho, hx4, hG⟩
            obtain ⟨k3, k4, k5⟩ := HKK.out _ hx4
            have hz4 : w.heap.size < w4.heap.size := HSZ.out _ hx4
            have HL4 := Lib.hid (HB2.out w4 A5 hG)
            have HO4 := Lib.hid ho
            have X4 := Lib.hid hx4
            clear ho hx4 hG)
         | (with_reducible refine Calls.mono T3.out ?_
            rintro e w4 ⟨A5, c5, rfl, ho, hx4, hG⟩
            obtain ⟨k3, k4, k5⟩ := HKK.out _ hx4
            have hz4 : w.heap.size < w4.heap.size := HSZ.out _ hx4
            have HL4 := Lib.hid (HB3.out w4 A5 hG)
            have HO4 := Lib.hid ho
            have X4 := Lib.hid hx4
            clear ho hx4 hG)
         | fail "no call")
    | ((first
         | refine step_u8 (base := w.heap.size + 1) rfl (.tmp 21) (.tmp 25) rfl rfl HO4.out rfl (Rd.of_heap (ys := []) HL4.out Hlit.out rfl) isU8_map (by omega) (by omega) ?_
         | refine step_u8 (base := w.heap.size + 1) rfl (.tmp 21) (.tmp 25) rfl rfl (HO4.out.ext (Ext.alloc _ _)) rfl (Rd.of_heap (ys := []) (heap_alloc_new w4 _) Hlit.out rfl) isU8_map (by omega) (Nat.le_trans (by omega) (Ext.alloc _ _).size) ?_
         | fail "no append")
       intro A7 c7 w5 hown hg hbk
       rw [← List.map_append] at hown
       first
         | have X7 := Lib.hid (X4.out.grown' hg (fun g hg => Nat.le_trans (by simp) (HO4.out.lt g hg).1))
         | have X7 := Lib.hid ((X4.out.trans (Ext.alloc _ _)).grown' hg (fun g hg => Nat.le_trans (by simp) (HO4.out.lt g hg).1))
         | fail "no growth"
       obtain ⟨k3', k4', k5'⟩ := HKK.out _ X7.out
       have HO7 := Lib.hid hown
       clear hown hg hbk)
    | fail "no arm"))
  all_goals
    go_wp2_with (at_builtin
                 go_must (refine app_u8 (base := w.heap.size + 1) _ rfl (.tmp 44) (.tmp 46) rfl rfl HO7.out rfl (Rd.empty_ _ _) (by simp) (by omega) (by have := X7.out.size; simp at this; omega) ?_)
                 intro A8 c8 w6 hown hg hbk
                 have HO8 := Lib.hid hown
                 have X8 := Lib.hid (X7.out.grown' hg (fun g hg => by have := (HO7.out.lt g hg).1; simp; omega))
                 clear hown hg hbk)
    refine (seal32_any (4 :: (be I 8 ++ []) ++ [UInt8.ofNat C]) _ _ _ _ (by have h := HO8.out.rd; rwa [List.append_nil] at h) (by omega)).mono ?_
    rintro e w7 ⟨A9, c9, rfl, ho9, hb9⟩
    have HO9 := Lib.hid ho9
    have X9 := Lib.hid (Ext.of hb9)
    clear ho9 hb9
    go_wp2_with fail
    go_ret2
    have e : (4 :: (be I 8 ++ []) ++ [UInt8.ofNat C] : List UInt8) = 4 :: (be I 8 ++ [UInt8.ofNat C]) := by simp
    rw [← e]
    exact RetU.seal ((Ext.alloc _ _).trans X8.out) HO9.out X9.out

theorem pacPut_any (p : PacD) (A : Option Addr) (n c : Nat) (w : World) (hr : PacRd w p A n c) : Calls Try.prog 30 #[pacV p A n c] w (RetU w (putP p).1 (putP p).2) := by
  by_cases h : checkP p = 0
  · rw [putP_ok h]
    have hn := hr.len
    rcases pac_cases h with ⟨E, S, l, h1, h2, h3, h4, h5, rfl⟩ | ⟨E, S, h1, h2, h3, rfl⟩ | ⟨I, l, h1, h2, h3, h4, rfl⟩ | ⟨I, C, h1, h2, h3, rfl⟩
    · have e : rawP ⟨1, E, S, 0, 0, l⟩ = UInt8.ofNat 1 :: ((be E 8 ++ be S 8) ++ l) := by simp [rawP, headP, runsP, be8]
      rw [e]
      exact putRuns 1 E S l A n c w (.inl rfl) hr h h2 (by omega) h5
    · have e : rawP ⟨2, E, S, 0, 0, []⟩ = UInt8.ofNat 2 :: ((be E 8 ++ be S 8) ++ []) := by simp [rawP, headP, runsP, be8]
      rw [e]
      exact putRuns 2 E S [] A n c w (.inr rfl) hr h h2 h3 (by simp)
    · have e : rawP ⟨3, 0, 0, I, 0, l⟩ = 3 :: (be I 8 ++ l) := by simp [rawP, headP, runsP, be8]
      rw [e]
      exact putCmd I l A n c w hr h h2 (by omega)
    · have e : rawP ⟨4, 0, 0, I, C, []⟩ = 4 :: (be I 8 ++ [UInt8.ofNat C]) := by simp [rawP, headP, runsP, be8]
      rw [e]
      obtain rfl : 0 = n := hn
      exact putDone I C A c w hr h h2 h3
  · rw [putP_no h]
    exact putNo p A n c w hr h
end Go.Proofs.Ytifojmmggcenkaa
