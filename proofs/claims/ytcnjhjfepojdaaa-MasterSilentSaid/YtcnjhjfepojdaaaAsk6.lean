/- Contracts of the requests: what is wrong with a request for parts of files. -/
import Derived.Test.YtcnjhjfepojdaaaAsk3
namespace Go.Proofs.Ytcnjhjfepojdaaa
set_option linter.unusedVariables false
set_option linter.unusedSimpArgs false
set_option maxRecDepth 100000
set_option maxHeartbeats 2000000
open Go Go.RowKit Go.Out

theorem check_file (code : Int) (A1 A2 A3 : Option Addr) (n1 c1 n2 c2 n3 c3 : Nat) (K : Int) (l : List PartD) (w : World) (hr : RdL partK w A3 n3 l) (hs : shapeV code = .agg #[.int .i64 35, .bool false, .bool false, .bool false, .bool true]) (hp : codeP code)
    (hm : ∀ W : World, Calls Try.prog 39 #[.agg #[.int .i64 35, .bool false, .bool false, .bool false, .bool true], .agg #[.int .i64 code, .int .i64 0, .int .i64 0, .slice A1 n1 c1, .slice A2 n2 c2, .slice A3 n3 c3]] W fun e w' => e = .returned (.int .i64 (n3 : Int)) ∧ Ext W w')
    (f1 : Hid ((0 < n1 ∨ 0 < n2) → K = 23)) (f2 : Hid (¬ (0 < n1 ∨ 0 < n2) → K = K)) (f3 : Hid (¬ (0 < n1 ∨ 0 < n2) → ((n3 : Int) < 1 ∨ 35 < (n3 : Int)) → K = 22))
    (f5 : Hid (¬ (0 < n1 ∨ 0 < n2) → ¬ ((n3 : Int) < 1 ∨ 35 < (n3 : Int)) → K = partsF l)) :
    Calls Try.prog 27 #[.agg #[.int .i64 code, .int .i64 0, .int .i64 0, .slice A1 n1 c1, .slice A2 n2 c2, .slice A3 n3 c3]] w (RetI w K) := by
  go_enter Try.func27, Try.ntmps27
  go_wp2_with fail
  refine (shapeOf_any code _).mono ?_
  rintro e w1 ⟨rfl, hb⟩
  rw [hs, decide_eq_true hp]
  have XA : ∀ o : Obj, Ext _ (w1.alloc o) := fun o => hb.trans (Ext.alloc _ o)
  have D := fun o => ask_cells _ (XA o)
  have d0 := fun o => (D o).1
  have d1 := fun o => (D o).2.1
  have d2 := fun o => (D o).2.2.1
  have d3 := fun o => (D o).2.2.2.1
  have d4 := fun o => (D o).2.2.2.2.1
  have d5 := fun o => (D o).2.2.2.2.2
  clear D
  have HX := Lib.hid XA
  clear XA
  go_wp2_with fail
  all_goals first
    | go_ret
      exact RetI.of (f1.out (by omega)) ((Ext.alloc _ _).trans (HX.out _))
    | go_ret
      exact RetI.of (f2.out (by omega) (by omega)) ((Ext.alloc _ _).trans (HX.out _))
    | skip
  refine (hm _).mono ?_
  rintro e w2 ⟨rfl, hb2⟩
  obtain ⟨d0, d1, d2, d3, d4, d5⟩ := ask_cells _ ((HX.out _).trans hb2)
  obtain ⟨g0, g1, g2, g3, g4⟩ := shape_cells _ hb2
  have HY := Lib.hid ((Ext.alloc _ _).trans ((HX.out _).trans hb2))
  clear HX hb hb2
  go_wp2_with fail
  all_goals first
    | go_ret
      exact RetI.of (f3.out (by omega) (by omega)) HY.out
    | skip
  have h35 : n3 ≤ 35 := by omega
  have Hp := Lib.hid (f5.out (by omega) (by omega))
  clear f1 f2 f3 f5
  have Hl := Lib.hid hr.length
  have Hr := Lib.hid hr; clear hr
  go_loopw [6, 94] (fun room i wr => ∃ k : Nat, k ≤ n3 ∧ room = .int .i64 (245 - sumP (l.take k)) ∧ i = .int .i64 (k : Int) ∧ Hid (goodTo l k) ∧ Ext w2 wr) (fun _ i _ => n3 - (intOf i).toNat)
  case atStart => exact ⟨0, Nat.zero_le _, by simp [sumP], rfl, Lib.hid (goodTo_zero l), Ext.refl _⟩
  case round =>
    obtain ⟨k, hk, rfl, rfl, HG, hx⟩ := hrel
    have hs := sumP_good HG.out (by rw [Hl.out]; exact hk)
    have hall := fun h : n3 = k => partsF_all (l := l) (n := k) (Hl.out.trans h) HG.out
    have hsum := fun h : k < l.length => sumP_take h
    obtain ⟨S, hS⟩ : ∃ S, sumP (l.take k) = S := ⟨_, rfl⟩
    rw [hS] at hs hall hsum ⊢
    clear hS
    have hS2 : S ≤ 700070 := by omega
    have Hall := Lib.hid hall; have Hsum := Lib.hid hsum; clear hall hsum
    rcases Nat.lt_or_ge k n3 with hlt | hge
    · have hlen : k < l.length := by rw [Hl.out]; exact hlt
      have Hbad := Lib.hid (fun hb : badP l[k] => partsF_bad hlen hb)
      have Hok := Lib.hid (fun hb : ¬ badP l[k] => goodTo_succ HG.out hlen hb)
      have Hst := Lib.hid (Hsum.out hlen)
      obtain ⟨b, off, rfl, hbk, hl', cs, -, hc, hR⟩ := (Hr.out.ext (HY.out.trans hx)).at_ hlt
      obtain ⟨rfl, -⟩ := id hR
      have i1 := hR.2.1; have i2 := hR.2.2.1; have i3 := hR.2.2.2
      have e0 : wr.cell? ⟨b, off + k * 3, none⟩ = some (.int .i64 l[k].file) := hc 0 _ rfl
      have e1 : wr.cell? ⟨b, off + k * 3 + 1, none⟩ = some (.int .i64 l[k].record) := hc 1 _ rfl
      have e2 : wr.cell? ⟨b, off + k * 3 + 2, none⟩ = some (.int .i64 l[k].len) := hc 2 _ rfl
      clear hc hR
      unfold badP at Hbad Hok
      unfold i64P at i1 i2 i3
      generalize l[k].file = F at *
      generalize l[k].record = R at *
      generalize l[k].len = L at *
      go_wp2_with fail
      all_goals first
        | go_ret
          exact RetI.of (by rw [Hp.out]; exact Hbad.out (by omega)) (HY.out.trans (hx.trans (Ext.alloc _ _)))
        | skip
      go_roundw
      case rel => exact ⟨k + 1, by omega, by rw [Hst.out]; first | (congr 1; omega) | go_num, by go_num, Lib.hid (Hok.out (by omega)), hx.trans (Ext.alloc _ _)⟩
      case measure => simp [intOf]; omega
    · obtain rfl : n3 = k := by omega
      go_wp2_with fail
      all_goals
        go_ret
        exact RetI.of (Hp.out.trans ((Hall.out (by first | rfl | trivial)).trans (by first | exact if_pos (by omega) | exact if_neg (by omega)))) (HY.out.trans hx)
end Go.Proofs.Ytcnjhjfepojdaaa

namespace Go.Proofs.Ytcnjhjfepojdaaa
set_option linter.unusedVariables false
set_option linter.unusedSimpArgs false
set_option maxRecDepth 100000
set_option maxHeartbeats 2000000
open Go Go.RowKit Go.Out

theorem shapeV_no {c : Int} (hp : ¬ codeP c) : shapeV c = .agg #[.int .i64 0, .bool false, .bool false, .bool false, .bool false] := by
  have hq := hp
  unfold codeP at hq
  simp only [not_or] at hq
  unfold shapeV
  rw [if_neg hp, decide_eq_false hq.1, decide_eq_false hq.2.1, decide_eq_false hq.2.2.1, decide_eq_false hq.2.2.2]
theorem check_code (code addr count : Int) (A1 A2 A3 : Option Addr) (n1 c1 n2 c2 n3 c3 : Nat) (w : World) (hp : ¬ codeP code) :
    Calls Try.prog 27 #[.agg #[.int .i64 code, .int .i64 addr, .int .i64 count, .slice A1 n1 c1, .slice A2 n2 c2, .slice A3 n3 c3]] w (RetI w 20) := by
  go_enter Try.func27, Try.ntmps27
  go_wp2_with fail
  refine (shapeOf_any code _).mono ?_
  rintro e w1 ⟨rfl, hb⟩
  rw [shapeV_no hp, decide_eq_false hp]
  have HX : Hid (∀ o : Obj, Ext _ (w1.alloc o)) := Lib.hid fun o => hb.trans (Ext.alloc _ o)
  go_wp2_with fail
  go_ret
  exact RetI.of rfl ((Ext.alloc _ _).trans (HX.out _))
theorem parts_len0 {l : List PartD} (h : l.length = 0) : partsF l = 0 := by
  rw [List.eq_nil_of_length_eq_zero h]; exact partsF_nil

theorem check_any (a : AskD) (s : AskS) (w : World) (hr : AskRd w a s) : Calls Try.prog 27 #[askV a s] w (RetI w (checkF a)) := by
  have h1 := hr.n1; have h2 := hr.n2; have h3 := hr.n3
  have hpr := hr.parts
  by_cases hp : codeP a.code
  · have hm := fun W => many_any a s W h1 h2 h3 hp
    obtain ⟨code, addr, count, on, set, parts⟩ := a
    obtain ⟨A1, n1, c1, A2, n2, c2, A3, n3, c3⟩ := s
    simp only at h1 h2 h3 hp hpr hm
    simp only [askV] at hm ⊢
    obtain ⟨hM1, hM, hk⟩ := shape_kind hp
    rcases hk with ⟨k1, k2, k3, k4, hs⟩ | ⟨k1, k2, k3, k4, hs⟩ | ⟨k1, k2, k3, k4, hs⟩ | ⟨k1, k2, k3, k4, k5, hs⟩
    · have hf : fieldP ⟨code, addr, count, on, set, parts⟩ ↔ (0 < n1 ∨ 0 < n2 ∨ 0 < n3) := by
        unfold fieldP; simp only [k1, k2, k3, h1, h2, h3]; simp [k4]
      obtain ⟨g1, g2, g3, g4, g5⟩ := check_steps hp hf
      rw [hs] at hm
      exact check_cnt _ _ _ _ _ _ _ _ _ _ _ _ _ _ _ w hs hp hm hM g1 g2 g3 (fun a b c d => g4 a b c ⟨k4, d⟩) (fun a b c d => (g5 a b c (fun h => d h.2)).trans (parts_len0 (h3.trans (by omega))))
    · by_cases hc0 : count = 0
      · subst hc0
        have hf : fieldP ⟨code, addr, 0, on, set, parts⟩ ↔ (0 < n2 ∨ 0 < n3) := by
          unfold fieldP; simp only [k1, k2, k3, h1, h2, h3]; simp [k4]
        obtain ⟨g1, g2, g3, g4, g5⟩ := check_steps hp hf
        rw [hs] at hm
        exact check_on _ _ _ _ _ _ _ _ _ _ _ _ _ _ w hs hp hm hM g1 g2 g3 (fun a b c d => g4 a b c ⟨k4, d⟩) (fun a b c d => (g5 a b c (fun h => d h.2)).trans (parts_len0 (h3.trans (by omega))))
      · have hf : fieldP ⟨code, addr, count, on, set, parts⟩ ↔ True := by
          unfold fieldP; simp [k1, hc0]
        rw [(check_steps hp hf).1 trivial]
        exact check_count _ _ _ _ _ _ _ _ _ _ _ _ _ _ _ _ w hs hp hc0
    · by_cases hc0 : count = 0
      · subst hc0
        have hf : fieldP ⟨code, addr, 0, on, set, parts⟩ ↔ (0 < n1 ∨ 0 < n3) := by
          unfold fieldP; simp only [k1, k2, k3, h1, h2, h3]; simp [k4]
        obtain ⟨g1, g2, g3, g4, g5⟩ := check_steps hp hf
        rw [hs] at hm
        exact check_set _ _ _ _ _ _ _ _ _ _ _ _ _ _ w hs hp hm hM g1 g2 g3 (fun a b c d => g4 a b c ⟨k4, d⟩) (fun a b c d => (g5 a b c (fun h => d h.2)).trans (parts_len0 (h3.trans (by omega))))
      · have hf : fieldP ⟨code, addr, count, on, set, parts⟩ ↔ True := by
          unfold fieldP; simp [k1, hc0]
        rw [(check_steps hp hf).1 trivial]
        exact check_count _ _ _ _ _ _ _ _ _ _ _ _ _ _ _ _ w hs hp hc0
    · by_cases hc0 : count = 0
      · subst hc0
        by_cases ha0 : addr = 0
        · subst ha0
          have hf : fieldP ⟨code, 0, 0, on, set, parts⟩ ↔ (0 < n1 ∨ 0 < n2) := by
            unfold fieldP; simp only [k1, k2, k3, h1, h2, h3]; simp [k4]
          obtain ⟨g1, g2, g3, g4, g5⟩ := check_steps hp hf
          have hmf : manyF ⟨code, 0, 0, on, set, parts⟩ = n3 := by unfold manyF; rw [if_neg k1, if_neg k2, if_neg k3, h3]
          simp only at g2 g3 g4 g5
          rw [hmf, k5] at g3 g5
          rw [hs] at hm
          simp only [hmf] at hm
          exact check_file _ _ _ _ _ _ _ _ _ _ _ parts w hpr hs hp hm g1 (fun _ => rfl) (fun a b => g3 a (by omega) b) (fun a b => g5 a (by omega) b (fun h => h.1 k4))
        · have hf : fieldP ⟨code, addr, 0, on, set, parts⟩ ↔ True := by
            unfold fieldP; simp [k4, ha0]
          rw [(check_steps hp hf).1 trivial]
          exact check_addr _ _ _ _ _ _ _ _ _ _ _ _ w hs hp ha0
      · have hf : fieldP ⟨code, addr, count, on, set, parts⟩ ↔ True := by
          unfold fieldP; simp [k1, hc0]
        rw [(check_steps hp hf).1 trivial]
        exact check_count _ _ _ _ _ _ _ _ _ _ _ _ _ _ _ _ w hs hp hc0
  · rw [checkF_code hp]
    exact check_code _ _ _ _ _ _ _ _ _ _ _ _ w hp
end Go.Proofs.Ytcnjhjfepojdaaa

namespace Go.Proofs.Ytcnjhjfepojdaaa
set_option linter.unusedVariables false
set_option linter.unusedSimpArgs false
set_option maxRecDepth 100000
set_option maxHeartbeats 2000000
open Go Go.RowKit Go.Out

def RetQ (w : World) (k : Bool) (e : Ending) (w' : World) : Prop := e = .returned (.bool k) ∧ Ext w w'
theorem RetQ.of {w w' : World} {k k' : Bool} (h : k = k') (hx : Ext w w') : RetQ w k (.returned (.bool k')) w' := ⟨by rw [h], hx⟩

end Go.Proofs.Ytcnjhjfepojdaaa
