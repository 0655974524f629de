/- Contract of the reference's Get: for any bytes the request they are, or why they are none. -/
import Derived.Test.YtjmddiffeffgnaaAskSg
import Derived.Test.YtjmddiffeffgnaaAskG5
namespace Go.Proofs.Ytjmddiffeffgnaa
set_option linter.unusedVariables false
set_option linter.unusedSimpArgs false
set_option maxRecDepth 100000
set_option maxHeartbeats 4000000
open Go Go.RowKit Go.Out

theorem get3_none (A : Option Addr) (c : Nat) (w : World) : Calls Try.prog 36 #[.slice A 0 c] w (RetGA w (ask0, 1)) := by
  go_enter Try.func36, Try.ntmps36
  go_wp2_with fail
  refine bodyPost_ret (v := .tuple #[askV ask0 askS0, .int .i64 1]) (by simp [results, Try.results36, go_sem, askV, ask0, askS0]) rfl ⟨askS0, rfl, askOw0 _ _, Ext.alloc _ _⟩

theorem get3_code (k m c : Nat) (bk off : Nat) (w : World) (hm : 0 < m) (hbk : bk < w.heap.size) (g0 : w.cell? ⟨bk, off, none⟩ = some (.int .u8 (k : Int))) (hk : k < 256) (hp : ¬ codeP (k : Nat)) :
    Calls Try.prog 36 #[.slice (some ⟨bk, off, none⟩) m c] w (RetGA w (ask0, 20)) := by
  have hm0 : ((m : Int) == 0) = false := by simp; omega
  have HK := Lib.hid (fun W => known3_any (k : Int) W)
  rw [decide_eq_false hp] at HK
  clear hp
  go_enter Try.func36, Try.ntmps36
  go_wp2_with fail
  refine (HK.out _).mono ?_
  rintro e w1 ⟨rfl, rfl⟩
  go_wp2_with fail
  refine bodyPost_ret (v := .tuple #[askV ask0 askS0, .int .i64 20]) (by simp [results, Try.results36, go_sem, askV, ask0, askS0]) rfl ⟨askS0, rfl, askOw0 _ _, Ext.alloc _ _⟩

theorem get3_sized (b : List UInt8) (m c : Nat) (bk off : Nat) (w : World) (hr : Rd w (some ⟨bk, off, none⟩) m (b.map cB)) (hm0 : m ≠ 0) (hm2 : m ≤ 9223372036854775807) (hbk : bk < w.heap.size) (g0 : w.cell? ⟨bk, off, none⟩ = some (.int .u8 (b0 b : Int))) (hp : codeP (b0 b : Nat)) (hs : sizedF b ≠ 0) :
    Calls Try.prog 36 #[.slice (some ⟨bk, off, none⟩) m c] w (RetGA w (ask0, sizedF b)) := by
  have hm : ((m : Int) == 0) = false := by simp; omega
  have hl := hr.length
  have HK := Lib.hid (fun W => known3_any (b0 b : Int) W)
  rw [decide_eq_true hp] at HK
  have HC : Hid (∀ W, Ext w W → Calls Try.prog 99 #[.slice (some ⟨bk, off, none⟩) m c] W (RetN W (lenF b))) := fun W hX => length3_any b _ m c W (hr.ext hX) hm0 hm2 hp
  have hk : b0 b < 256 := by unfold b0; exact UInt8.toNat_lt _
  obtain ⟨K, hK⟩ : ∃ K, lenF b = K := ⟨_, rfl⟩
  obtain ⟨S, hS⟩ : ∃ S, sizedF b = S := ⟨_, rfl⟩
  have hcs : (K < 0 ∧ S = 1) ∨ (¬ K < 0 ∧ (m : Int) < K ∧ S = 1) ∨ (¬ K < 0 ∧ ¬ (m : Int) < K ∧ K < (m : Int) ∧ S = 2) := by
    have e1 : K = if sizeF b = 0 then -1 else (sizeF b : Int) := hK.symm
    have e2 : S = if sizeF b = 0 then 1 else if m < sizeF b then 1 else if sizeF b < m then 2 else 0 := by rw [← hS]; unfold sizedF; rw [hl]
    rw [hS] at hs
    by_cases h0 : sizeF b = 0
    · rw [if_pos h0] at e1 e2; omega
    · rw [if_neg h0] at e1 e2
      by_cases h1 : m < sizeF b
      · rw [if_pos h1] at e2; omega
      · rw [if_neg h1] at e2
        by_cases h2 : sizeF b < m
        · rw [if_pos h2] at e2; omega
        · rw [if_neg h2] at e2; exact absurd e2 hs
  rw [hK] at HC
  rw [hS]
  generalize b0 b = k at *
  clear hr hs hK hS hl hp
  have hmp : 0 < m := by omega
  rcases hcs with ⟨q1, rfl⟩ | ⟨q1, q2, rfl⟩ | ⟨q1, q2, q3, rfl⟩
  all_goals
    go_enter Try.func36, Try.ntmps36
    go_wp2_with fail
    refine (HK.out _).mono ?_
    rintro e w1 ⟨rfl, rfl⟩
    go_wp2_with fail
    refine (HC.out _ (Ext.alloc _ _)).mono ?_
    rintro e w1 ⟨rfl, rfl⟩
    go_wp2_with fail
    first
      | exact bodyPost_ret (v := .tuple #[askV ask0 askS0, .int .i64 1]) (by simp [results, Try.results36, go_sem, askV, ask0, askS0]) rfl ⟨askS0, rfl, askOw0 _ _, Ext.alloc _ _⟩
      | exact bodyPost_ret (v := .tuple #[askV ask0 askS0, .int .i64 2]) (by simp [results, Try.results36, go_sem, askV, ask0, askS0]) rfl ⟨askS0, rfl, askOw0 _ _, Ext.alloc _ _⟩

theorem get3_ok (b : List UInt8) (m c : Nat) (bk off : Nat) (w : World) (hr : Rd w (some ⟨bk, off, none⟩) m (b.map cB)) (hc : m ≤ c) (hm0 : m ≠ 0) (hm2 : m ≤ 17000000) (hbk : bk < w.heap.size) (g0 : w.cell? ⟨bk, off, none⟩ = some (.int .u8 (b0 b : Int))) (hp : codeP (b0 b : Nat)) (hs : sizedF b = 0) :
    Calls Try.prog 36 #[.slice (some ⟨bk, off, none⟩) m c] w (RetGA w (match saidF b with | none => (ask0, 4) | some a => if checkF a ≠ 0 then (ask0, checkF a) else (a, 0))) := by
  have hm : ((m : Int) == 0) = false := by simp; omega
  have hmp : 0 < m := by omega
  have HK := Lib.hid (fun W => known3_any (b0 b : Int) W)
  rw [decide_eq_true hp] at HK
  have HC : Hid (∀ W, Ext w W → Calls Try.prog 99 #[.slice (some ⟨bk, off, none⟩) m c] W (RetN W (m : Int))) := fun W hX => by
    have h := length3_any b _ m c W (hr.ext hX) hm0 (by omega) hp
    have hz := sizedF_zero.1 hs
    rw [show lenF b = (m : Int) by unfold lenF; rw [if_neg hz.1, hz.2, hr.length]] at h
    exact h
  have HR : Hid (∀ W, Ext w W → Calls Try.prog 100 #[.slice (some ⟨bk, off, none⟩) m c] W (RetRead W (saidF b))) := fun W hX => said3_any b _ m c W (hr.ext hX) hc hm2 hp hs
  have hk : b0 b < 256 := by unfold b0; exact UInt8.toNat_lt _
  have q1 : ¬ (m : Int) < 0 := by omega
  have q2 : ¬ (m : Int) < (m : Int) := by omega
  generalize b0 b = k at *
  clear hr hs hp
  rcases hsd : saidF b with _ | a0
  · rw [hsd] at HR
    simp only
    go_enter Try.func36, Try.ntmps36
    go_wp2_with fail
    refine (HK.out _).mono ?_
    rintro e w1 ⟨rfl, rfl⟩
    go_wp2_with fail
    refine (HC.out _ (Ext.alloc _ _)).mono ?_
    rintro e w1 ⟨rfl, rfl⟩
    go_wp2_with fail
    refine (HR.out _ (Ext.alloc _ _)).mono ?_
    rintro e w3 ⟨a, ⟨A1, n1, c1, A2, n2, c2, A3, n3, c3⟩, rfl, -, hx3⟩
    obtain ⟨code, addr, count, on, set, parts⟩ := a
    obtain ⟨b0', b1, b2, b3, b4, b5, e0, e1, e2, e3, e4, e5⟩ := askBox ((hx3.trans (Ext.alloc w3 (.cells #[.int .i64 code, .int .i64 addr, .int .i64 count, .slice A1 n1 c1, .slice A2 n2 c2, .slice A3 n3 c3] 26))).block (heap_alloc_new w _))
    have HX3 := Lib.hid (fun o => (Ext.alloc _ _).trans (hx3.trans (Ext.alloc w3 o)))
    simp only [askV, Option.isSome]
    clear hx3
    go_wp2_with fail
    refine bodyPost_ret (v := .tuple #[askV ask0 askS0, .int .i64 4]) (by simp [results, Try.results36, go_sem, askV, ask0, askS0, *]) rfl ⟨askS0, rfl, askOw0 _ _, ?_⟩
    repeat' (first | with_reducible exact HX3.out _ | with_reducible refine Ext.set' ?_ (by simp) _)
  · rw [hsd] at HR
    simp only
    obtain ⟨K, hK⟩ : ∃ K, checkF a0 = K := ⟨_, rfl⟩
    rw [hK]
    by_cases hK0 : K = 0
    · subst hK0
      rw [if_neg (by simp)]
      go_enter Try.func36, Try.ntmps36
      go_wp2_with fail
      refine (HK.out _).mono ?_
      rintro e w1 ⟨rfl, rfl⟩
      go_wp2_with fail
      refine (HC.out _ (Ext.alloc _ _)).mono ?_
      rintro e w1 ⟨rfl, rfl⟩
      go_wp2_with fail
      refine (HR.out _ (Ext.alloc _ _)).mono ?_
      rintro e w3 ⟨a, t, rfl, hown, hx3⟩
      obtain ⟨rfl, ho⟩ := hown a0 rfl
      have HCK := Lib.hid (fun (W : World) (hX : Ext w3 W) => refCheck_any a0 t W (ho.rd.ext hX))
      rw [hK] at HCK
      have HO := Lib.hid (ho.mono (base' := w.heap.size + 1) (by simp))
      have HX3 := Lib.hid hx3
      clear hown hK ho hx3
      obtain ⟨code, addr, count, on, set, parts⟩ := a0
      obtain ⟨A1, n1, c1, A2, n2, c2, A3, n3, c3⟩ := t
      simp only [askV, Option.isSome] at HCK ⊢
      go_wp2_with fail
      refine (HCK.out _ (Ext.alloc _ _)).mono ?_
      rintro e w4 ⟨rfl, hb4⟩
      obtain ⟨b0', b1, b2, b3, b4, b5, e0, e1, e2, e3, e4, e5⟩ := askBox ((HX3.out.trans ((Ext.alloc _ _).trans hb4)).block (heap_alloc_new w _))
      obtain ⟨d0, d1, d2, d3, d4, d5⟩ := ask_cells _ hb4
      have HX4 := Lib.hid ((Ext.alloc _ _).trans (HX3.out.trans ((Ext.alloc _ _).trans hb4)))
      have HO4 := Lib.hid (HO.out.ext ((Ext.alloc _ _).trans hb4))
      have hsz : w.heap.size + 1 ≤ w3.heap.size := by have := HX3.out.size; simpa using this
      clear hb4
      go_wp2_with fail
      refine bodyPost_ret (v := .tuple #[askV ⟨code, addr, count, on, set, parts⟩ ⟨A1, n1, c1, A2, n2, c2, A3, n3, c3⟩, .int .i64 0]) (by simp [results, Try.results36, go_sem, askV, *]) rfl ⟨⟨A1, n1, c1, A2, n2, c2, A3, n3, c3⟩, rfl, ?_, ?_⟩
      · refine AskOw.mono (base := w.heap.size + 1) ?_ (by omega)
        repeat' (first | with_reducible exact HO4.out | with_reducible refine AskOw.set_below ?_ (by simp) _)
      · repeat' (first | with_reducible exact HX4.out | with_reducible refine Ext.set' ?_ (by simp) _)
    · have hne : (K != 0) = true := by simpa using hK0
      rw [if_pos hK0]
      go_enter Try.func36, Try.ntmps36
      go_wp2_with fail
      refine (HK.out _).mono ?_
      rintro e w1 ⟨rfl, rfl⟩
      go_wp2_with fail
      refine (HC.out _ (Ext.alloc _ _)).mono ?_
      rintro e w1 ⟨rfl, rfl⟩
      go_wp2_with fail
      refine (HR.out _ (Ext.alloc _ _)).mono ?_
      rintro e w3 ⟨a, t, rfl, hown, hx3⟩
      obtain ⟨rfl, ho⟩ := hown a0 rfl
      have HCK := Lib.hid (fun (W : World) (hX : Ext w3 W) => refCheck_any a0 t W (ho.rd.ext hX))
      rw [hK] at HCK
      have HX3 := Lib.hid hx3
      clear hown hK ho hx3
      obtain ⟨code, addr, count, on, set, parts⟩ := a0
      obtain ⟨A1, n1, c1, A2, n2, c2, A3, n3, c3⟩ := t
      simp only [askV, Option.isSome] at HCK ⊢
      go_wp2_with fail
      refine (HCK.out _ (Ext.alloc _ _)).mono ?_
      rintro e w4 ⟨rfl, hb4⟩
      obtain ⟨b0', b1, b2, b3, b4, b5, e0, e1, e2, e3, e4, e5⟩ := askBox ((HX3.out.trans ((Ext.alloc _ _).trans hb4)).block (heap_alloc_new w _))
      obtain ⟨d0, d1, d2, d3, d4, d5⟩ := ask_cells _ hb4
      have HX4 := Lib.hid ((Ext.alloc _ _).trans (HX3.out.trans ((Ext.alloc _ _).trans hb4)))
      have hsz : w.heap.size + 1 ≤ w3.heap.size := by have := HX3.out.size; simpa using this
      clear hb4
      go_wp2_with fail
      refine bodyPost_ret (v := .tuple #[askV ask0 askS0, .int .i64 K]) (by simp [results, Try.results36, go_sem, askV, ask0, askS0, *]) rfl ⟨askS0, rfl, askOw0 _ _, ?_⟩
      repeat' (first | with_reducible exact HX4.out | with_reducible refine Ext.set' ?_ (by simp) _)

theorem ref3Get_any (b : List UInt8) (A : Option Addr) (m c : Nat) (w : World) (hr : Rd w A m (b.map cB)) (hc : m ≤ c) (hc63 : c ≤ 9223372036854775807) (hm2 : m ≤ 9223372036854775807) :
    Calls Try.prog 36 #[.slice A m c] w (RetGA w (getA b)) := by
  have hl := hr.length
  rcases Nat.eq_zero_or_pos m with h0 | h0
  · subst h0
    rw [show getA b = (ask0, 1) by unfold getA; rw [if_pos hl]]
    exact get3_none A c w
  · obtain ⟨bk, off, rfl, hbk, hcell⟩ := hr.u8all h0
    have g0 := hcell 0 h0
    rw [Nat.add_zero] at g0
    by_cases hp : codeP (b0 b : Nat)
    · by_cases hs : sizedF b = 0
      · have hm3 : m ≤ 17000000 := by have h1 := (sizedF_zero.1 hs).2; have h2 := sizeF_le b; omega
        rw [getA_said (by omega) hp hs]
        exact get3_ok b m c bk off w hr hc (by omega) hm3 hbk g0 hp hs
      · rw [getA_sized (by omega) hp hs]
        exact get3_sized b m c bk off w hr (by omega) hm2 hbk g0 hp hs
    · rw [getA_code (by omega) hp]
      exact get3_code (b0 b) m c bk off w h0 hbk g0 (by unfold b0; exact UInt8.toNat_lt _) hp
end Go.Proofs.Ytjmddiffeffgnaa
