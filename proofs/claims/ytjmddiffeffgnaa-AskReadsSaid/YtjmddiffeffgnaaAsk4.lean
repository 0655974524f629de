/- Contracts of the requests: what is wrong with a request for parts of files. -/
import Derived.Test.YtjmddiffeffgnaaAsk3
namespace Go.Proofs.Ytjmddiffeffgnaa
set_option linter.unusedVariables false
set_option linter.unusedSimpArgs false
set_option maxRecDepth 100000
set_option maxHeartbeats 2000000
open Go Go.RowKit Go.Out

theorem check_file (code : Int) (A1 A2 A3 : Option Addr) (n1 c1 n2 c2 n3 c3 : Nat) (K : Int) (l : List PartD) (w : World) (hr : RdL partK w A3 n3 l) (hs : shapeV code = .agg #[.int .i64 35, .bool false, .bool false, .bool false, .bool true]) (hp : codeP code)
    (hm : ∀ W : World, Calls Try.prog 133 #[.agg #[.int .i64 35, .bool false, .bool false, .bool false, .bool true], .agg #[.int .i64 code, .int .i64 0, .int .i64 0, .slice A1 n1 c1, .slice A2 n2 c2, .slice A3 n3 c3]] W fun e w' => e = .returned (.int .i64 (n3 : Int)) ∧ Ext W w')
    (f1 : Hid ((0 < n1 ∨ 0 < n2) → K = 23)) (f2 : Hid (¬ (0 < n1 ∨ 0 < n2) → K = K)) (f3 : Hid (¬ (0 < n1 ∨ 0 < n2) → ((n3 : Int) < 1 ∨ 35 < (n3 : Int)) → K = 22))
    (f5 : Hid (¬ (0 < n1 ∨ 0 < n2) → ¬ ((n3 : Int) < 1 ∨ 35 < (n3 : Int)) → K = partsF l)) :
    Calls Try.prog 97 #[.agg #[.int .i64 code, .int .i64 0, .int .i64 0, .slice A1 n1 c1, .slice A2 n2 c2, .slice A3 n3 c3]] w (RetI w K) := by
  go_enter Try.func97, Try.ntmps97
  go_wp2_with fail
  refine (shapeOf_any code _).mono ?_
  rintro e w1 ⟨rfl, hb⟩
  rw [hs, decide_eq_true hp]
  have XA : ∀ o : Obj, Ext _ (w1.alloc o) := fun o => hb.trans (Ext.alloc _ o)
  have D := fun o => ask_cells _ (XA o)
  have d0 := fun o => (D o).1
  have d1 := fun o => (D o).2.1
  have d2 := fun o => (D o).2.2.1
  have d3 := fun o => (D o).2.2.2.1
  have d4 := fun o => (D o).2.2.2.2.1
  have d5 := fun o => (D o).2.2.2.2.2
  clear D
  have HX := Lib.hid XA
  clear XA
  go_wp2_with fail
  all_goals first
    | go_ret
      exact RetI.of (f1.out (by omega)) ((Ext.alloc _ _).trans (HX.out _))
    | go_ret
      exact RetI.of (f2.out (by omega) (by omega)) ((Ext.alloc _ _).trans (HX.out _))
    | skip
  refine (hm _).mono ?_
  rintro e w2 ⟨rfl, hb2⟩
  obtain ⟨d0, d1, d2, d3, d4, d5⟩ := ask_cells _ ((HX.out _).trans hb2)
  obtain ⟨g0, g1, g2, g3, g4⟩ := shape_cells _ hb2
  have HY := Lib.hid ((Ext.alloc _ _).trans ((HX.out _).trans hb2))
  clear HX hb hb2
  go_wp2_with fail
  all_goals first
    | go_ret
      exact RetI.of (f3.out (by omega) (by omega)) HY.out
    | skip
  have h35 : n3 ≤ 35 := by omega
  have Hp := Lib.hid (f5.out (by omega) (by omega))
  clear f1 f2 f3 f5
  have Hl := Lib.hid hr.length
  have Hr := Lib.hid hr; clear hr
  go_loopw [6, 94] (fun room i wr => ∃ k : Nat, k ≤ n3 ∧ room = .int .i64 (245 - sumP (l.take k)) ∧ i = .int .i64 (k : Int) ∧ Hid (goodTo l k) ∧ Ext w2 wr) (fun _ i _ => n3 - (intOf i).toNat)
  case atStart => exact ⟨0, Nat.zero_le _, by simp [sumP], rfl, Lib.hid (goodTo_zero l), Ext.refl _⟩
  case round =>
    obtain ⟨k, hk, rfl, rfl, HG, hx⟩ := hrel
    have hs := sumP_good HG.out (by rw [Hl.out]; exact hk)
    have hall := fun h : n3 = k => partsF_all (l := l) (n := k) (Hl.out.trans h) HG.out
    have hsum := fun h : k < l.length => sumP_take h
    obtain ⟨S, hS⟩ : ∃ S, sumP (l.take k) = S := ⟨_, rfl⟩
    rw [hS] at hs hall hsum ⊢
    clear hS
    have hS2 : S ≤ 700070 := by omega
    have Hall := Lib.hid hall; have Hsum := Lib.hid hsum; clear hall hsum
    rcases Nat.lt_or_ge k n3 with hlt | hge
    · have hlen : k < l.length := by rw [Hl.out]; exact hlt
      have Hbad := Lib.hid (fun hb : badP l[k] => partsF_bad hlen hb)
      have Hok := Lib.hid (fun hb : ¬ badP l[k] => goodTo_succ HG.out hlen hb)
      have Hst := Lib.hid (Hsum.out hlen)
      obtain ⟨b, off, rfl, hbk, hl', cs, -, hc, hR⟩ := (Hr.out.ext (HY.out.trans hx)).at_ hlt
      obtain ⟨rfl, -⟩ := id hR
      have i1 := hR.2.1; have i2 := hR.2.2.1; have i3 := hR.2.2.2
      have e0 : wr.cell? ⟨b, off + k * 3, none⟩ = some (.int .i64 l[k].file) := hc 0 _ rfl
      have e1 : wr.cell? ⟨b, off + k * 3 + 1, none⟩ = some (.int .i64 l[k].record) := hc 1 _ rfl
      have e2 : wr.cell? ⟨b, off + k * 3 + 2, none⟩ = some (.int .i64 l[k].len) := hc 2 _ rfl
      clear hc hR
      unfold badP at Hbad Hok
      unfold i64P at i1 i2 i3
      generalize l[k].file = F at *
      generalize l[k].record = R at *
      generalize l[k].len = L at *
      go_wp2_with fail
      all_goals first
        | go_ret
          exact RetI.of (by rw [Hp.out]; exact Hbad.out (by omega)) (HY.out.trans (hx.trans (Ext.alloc _ _)))
        | skip
      go_roundw
      case rel => exact ⟨k + 1, by omega, by rw [Hst.out]; first | (congr 1; omega) | go_num, by go_num, Lib.hid (Hok.out (by omega)), hx.trans (Ext.alloc _ _)⟩
      case measure => simp [intOf]; omega
    · obtain rfl : n3 = k := by omega
      go_wp2_with fail
      all_goals
        go_ret
        exact RetI.of (Hp.out.trans ((Hall.out (by first | rfl | trivial)).trans (by first | exact if_pos (by omega) | exact if_neg (by omega)))) (HY.out.trans hx)
end Go.Proofs.Ytjmddiffeffgnaa
