/- Contract of the reference's said: registers. -/
import Derived.Test.YtjmddiffeffgnaaAskSe
namespace Go.Proofs.Ytjmddiffeffgnaa
set_option linter.unusedVariables false
set_option linter.unusedSimpArgs false
set_option maxRecDepth 100000
set_option maxHeartbeats 4000000
open Go Go.RowKit Go.Out

theorem at3_dr' (b : List UInt8) (A : Option Addr) (m c i : Nat) (j : Int) (w : World) (hr : Rd w A m (b.map cB)) (hi : i + 1 < m) (hm : m ≤ 4398046511104) (hj : j = (i : Int)) :
    Calls Try.prog 134 #[.slice A m c, .int .i64 j] w (RetDr w (at2 b i : Nat)) := by subst hj; exact at3_dr b A m c i w hr hi hm

theorem bw_step (D : List UInt8) (k : Nat) (h : 2 * k + 1 < D.length) : ((bw D).take (k + 1)).map cW = ((bw D).take k).map cW ++ [.int .u16 ((at2 D (2 * k) : Nat) : Int)] := by
  rw [bw_take D k h]
  congr 3
  have h1 := D[2 * k].toNat_lt
  have h2 := D[2 * k + 1].toNat_lt
  have e : at2 D (2 * k) = D[2 * k].toNat * 256 + D[2 * k + 1].toNat := by
    unfold at2
    rw [List.getD_eq_getElem?_getD, List.getD_eq_getElem?_getD, List.getElem?_eq_getElem (by omega), List.getElem?_eq_getElem (by omega)]
    rfl
  rw [e]
  omega
theorem at2_drop (b : List UInt8) (n i : Nat) : at2 (b.drop n) i = at2 b (n + i) := by
  unfold at2
  simp only [List.getD_eq_getElem?_getD, List.getElem?_drop, Nat.add_assoc]

theorem said_regs (b : List UInt8) (A : Option Addr) (m c : Nat) (w : World) (hr : Rd w A m (b.map cB)) (hc : m ≤ c) (hm : 6 ≤ m) (hm2 : m ≤ 17000000000) (hk : b0 b = 16) :
    Calls Try.prog 100 #[.slice A m c] w (RetRead w (saidF b)) := by
  have hlen := hr.length
  have hs : saidF b = if m - 6 = 2 * at2 b 3 then some ⟨16, (at2 b 1 : Nat), 0, [], bw (b.drop 6), []⟩ else none := by
    unfold saidF
    rw [hk, if_neg (by omega), if_neg (by omega), if_neg (by omega), if_neg (by omega), if_pos rfl, hlen]
  rw [hs]
  clear hs
  have HA1 := Lib.hid (fun (W : World) (hX : Ext w W) => at3_dr b A m c 1 W (hr.ext hX) (by omega) (by omega))
  have HA3 := Lib.hid (fun (W : World) (hX : Ext w W) => at3_dr b A m c 3 W (hr.ext hX) (by omega) (by omega))
  have HAK : Hid (∀ (k : Nat) (W : World), Ext w W → 2 * k + 1 < m - 6 → Calls Try.prog 134 #[.slice A m c, .int .i64 (6 + (k : Int) * 2)] W (RetDr W (at2 (b.drop 6) (2 * k) : Nat))) := fun k W hX hk => by
    rw [at2_drop]
    exact at3_dr' b A m c (6 + 2 * k) _ W (hr.ext hX) (by omega) (by omega) (by omega)
  have hl1 := at2_lt b 1
  have hl3 := at2_lt b 3
  generalize at2 b 1 = F at *
  generalize at2 b 3 = R at *
  obtain ⟨bk, off, rfl, hbk, hcell⟩ := hr.u8all (by omega)
  have g0 := hcell 0 (by omega)
  rw [Nat.add_zero, show (b.getD 0 0).toNat = 16 from hk] at g0
  have hlD : (b.drop 6).length = m - 6 := by rw [List.length_drop, hlen]
  generalize b.drop 6 = D at *
  have HLD := Lib.hid hlD
  clear hcell hk hr hlen hlD
  have i0 : 0 < m := by omega
  have hdr := drewN_set
  have hn1 : IntKind.i64.wrap ((m : Int) - 6) = (m : Int) - 6 := IntWalk.i64_in _ (by omega)
  have hn2 : IntKind.i64.wrap (2 * (R : Int)) = 2 * (R : Int) := IntWalk.i64_in _ (by omega)
  by_cases hN : m - 6 = 2 * R
  · rw [if_pos hN]
    have hne : ((m : Int) - 6 != 2 * (R : Int)) = false := by simp; omega
    go_enter Try.func100, Try.ntmps100
    go_wp2_with fail
    refine (HA1.out _ (Ext.two _ _ _)).mono ?_
    rintro e w1 ⟨rfl, d1, rfl⟩
    go_wp2_with fail
    refine (HA3.out _ (Ext.drewN' (Ext.two _ _ _) _)).mono ?_
    rintro e w3 ⟨rfl, d3, rfl⟩
    go_wp2_with fail
    go_loopw [10] (fun i wr => ∃ (k : Nat) (A4 : Option Addr) (c4 : Nat), k ≤ R ∧ i = .int .i64 (k : Int) ∧ wr.heap[w.heap.size]? = some (.cells #[.int .i64 0, .int .i64 0, .int .i64 0, .slice none 0 0, .slice none 0 0, .slice none 0 0] 26 (0, 0)) ∧ wr.heap[w.heap.size + 1]? = some (.cells #[.int .i64 16, .int .i64 (F : Int), .int .i64 0, .slice none 0 0, .slice A4 k c4, .slice none 0 0] 26 (0, 0)) ∧ Hid (Own wr (w.heap.size + 2) 58 IsU16 A4 k c4 (((bw D).take k).map cW)) ∧ Ext w wr) (fun i _ => R - (intOf i).toNat)
    case atStart => exact ⟨0, none, 0, Nat.zero_le _, rfl, (Ext.alloc _ _).block (heap_alloc_new w _), heap_at _ _ _ (by simp), Own.nil_ _ _ _ _, Ext.drewN' (Ext.two _ _ _) _⟩
    case round =>
      obtain ⟨k, A4, c4, hk, rfl, hB, hA, HO, hX⟩ := hrel
      obtain ⟨a0, a1, a2, a3, a4, a5, f0, f1, f2, f3, f4, f5⟩ := askBox hA
      rcases Nat.lt_or_ge k R with hlt | hge
      · have HAT := Lib.hid (fun W hX => HAK.out k W hX (by omega))
        have HST := Lib.hid (bw_step D k (by rw [HLD.out]; omega))
        have hv := at2_lt D (2 * k)
        generalize at2 D (2 * k) = v at *
        have hwv : IntKind.u16.wrap (v : Int) = (v : Int) := by rw [IntKind.wrap_u16]; omega
        have e1 : IntKind.i64.wrap (2 * (k : Int)) = 2 * (k : Int) := IntWalk.i64_in _ (by omega)
        have e2 : IntKind.i64.wrap (6 + 2 * (k : Int)) = 6 + (k : Int) * 2 := by rw [IntWalk.i64_in _ (by omega)]; omega
        go_wp2_with fail
        have hz1 : w.heap.size + 1 < wr.heap.size := lt_of_heap hA
        have hz0 : w.heap.size < wr.heap.size := lt_of_heap hB
        have hbr : bk < wr.heap.size := Nat.lt_of_lt_of_le hbk hX.size
        have HA := Lib.hid hA; have HB := Lib.hid hB; have HX := Lib.hid hX
        clear hA hB hX
        have HRow := Lib.hid (fun (W : World) => Rd.one W 58 (.int .u16 (v : Int)))
        have XA := Lib.hid (fun d o => Ext.alloc' (Ext.drewN' (Ext.refl wr) d) o)
        have a4' : ∀ d o, ((wr.drewN d).alloc o).cell? ⟨w.heap.size + 1, 4, none⟩ = some (.slice A4 k c4) := fun d o => (XA.out d o).cell hz1 a4
        go_region_law ((first
          | (go_simp
             go_at_call 134
             refine (HAT.out _ (by repeat' (first | with_reducible exact HX.out | with_reducible refine Ext.drewN' ?_ _ | with_reducible refine Ext.drew' ?_))).mono ?_
             rintro e w5 ⟨rfl, d5, rfl⟩)
          | (refine step_u16 (base := w.heap.size + 2) rfl (.tmp 152) (.tmp 159) rfl rfl (HO.out.ext (XA.out _ _)) rfl (HRow.out _) (by intro u hu; simp at hu; subst hu; exact isU16_of (by omega) (by omega)) (by omega) (Nat.le_trans (by omega) (XA.out _ _).size) ?_
             intro A7 c7 w5 hown hg hbk7
             have hA5 : w5.heap[w.heap.size + 1]? = some (.cells #[.int .i64 16, .int .i64 (F : Int), .int .i64 0, .slice none 0 0, .slice A4 k c4, .slice none 0 0] 26 (0, 0)) := (hg.block _ (Nat.lt_of_lt_of_le hz1 (XA.out _ _).size) (fun e => by have := (HO.out.lt _ e.symm).1; omega)).trans ((XA.out _ _).block HA.out)
             have hB5 : w5.heap[w.heap.size]? = some (.cells #[.int .i64 0, .int .i64 0, .int .i64 0, .slice none 0 0, .slice none 0 0, .slice none 0 0] 26 (0, 0)) := (hg.block _ (Nat.lt_of_lt_of_le hz0 (XA.out _ _).size) (fun e => by have := (HO.out.lt _ e.symm).1; omega)).trans ((XA.out _ _).block HB.out)
             have hx5 : Ext w w5 := (HX.out.trans (XA.out _ _)).grown' hg (fun g hg => by have := (HO.out.lt g hg).1; omega)
             obtain ⟨-, -, -, -, b4, -, -, -, -, -, g4, -⟩ := askBox hA5
             have HA5 := Lib.hid hA5; have HB5 := Lib.hid hB5; have HX5 := Lib.hid hx5; have HO5 := Lib.hid hown
             clear hA5 hB5 hx5 hown hg hbk7)))
        all_goals
          go_wp2_with fail
          go_roundw
          case rel => exact ⟨k + 1, A7, c7, by omega, by go_num, (Below.heap_setCell w5 ⟨w.heap.size + 1, 4, none⟩ _ w.heap.size (by simp)).trans HB5.out, heap_setCell_same w5 (w.heap.size + 1) 4 _ _ _ HA5.out, by unfold Hid; rw [HST.out]; exact HO5.out.set_below (q := ⟨w.heap.size + 1, 4, none⟩) (by simp) _, Ext.set' HX5.out (by simp) _⟩
          case measure => simp [intOf]; omega
      · obtain rfl : R = k := by omega
        rw [List.take_of_length_le (by rw [bw_length, HLD.out]; omega)] at HO
        obtain ⟨b0, b1, b2, b3, b4, b5, g0, g1, g2, g3, g4, g5⟩ := askBox hB
        have HX := Lib.hid hX; clear hX
        go_wp2_with fail
        refine bodyPost_ret (v := .tuple #[askV ⟨16, (F : Nat), 0, [], bw D, []⟩ ⟨none, 0, 0, A4, R, c4, none, 0, 0⟩, .bool true]) (by simp [results, Try.results100, go_sem, askV, *]) rfl ⟨_, _, rfl, fun a' ha => ⟨(by injection ha with ha; exact ha.symm), ⟨Own.nil_ _ _ _ _, ?_, OwP.nil_ _ _, by unfold i64P; simp, by unfold i64P; simp; omega, by unfold i64P; simp⟩⟩, ?_⟩
        · refine Own.mono (base := w.heap.size + 2) ?_ (by omega)
          repeat' (first | with_reducible exact HO.out | with_reducible refine Own.set_below ?_ (by simp) _ | with_reducible refine Own.drewN ?_ _)
        · repeat' (first | with_reducible exact HX.out | with_reducible refine Ext.set' ?_ (by simp) _ | with_reducible refine Ext.drewN' ?_ _)
  · rw [if_neg hN]
    have hne : ((m : Int) - 6 != 2 * (R : Int)) = true := by simp; omega
    go_enter Try.func100, Try.ntmps100
    go_wp2_with fail
    refine (HA1.out _ (Ext.two _ _ _)).mono ?_
    rintro e w1 ⟨rfl, d1, rfl⟩
    go_wp2_with fail
    refine (HA3.out _ (Ext.drewN' (Ext.two _ _ _) _)).mono ?_
    rintro e w3 ⟨rfl, d3, rfl⟩
    go_wp2_with fail
    refine bodyPost_ret (v := .tuple #[askV ask0 askS0, .bool false]) (by simp [results, Try.results100, go_sem, askV, ask0, askS0]) rfl ⟨ask0, askS0, rfl, fun a' ha => (by cases ha), ?_⟩
    exact Ext.drewN' (Ext.two _ _ _) _
end Go.Proofs.Ytjmddiffeffgnaa
