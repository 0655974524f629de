/- Contract of the reference's said: registers. -/
import Derived.Test.YtpjmhckdeeonbaaAskSe
import Derived.Test.YtpjmhckdeeonbaaAskG5
namespace Go.Proofs.Ytpjmhckdeeonbaa
set_option linter.unusedVariables false
set_option linter.unusedSimpArgs false
set_option maxRecDepth 100000
set_option maxHeartbeats 4000000
open Go Go.RowKit Go.Out

theorem at3_dr' (b : List UInt8) (A : Option Addr) (m c i : Nat) (j : Int) (w : World) (hr : Rd w A m (b.map cB)) (hi : i + 1 < m) (hm : m ≤ 4398046511104) (hj : j = (i : Int)) :
    Calls Try.prog 133 #[.slice A m c, .int .i64 j] w (RetDr w (at2 b i : Nat)) := by subst hj; exact at3_dr b A m c i w hr hi hm

theorem bw_step (D : List UInt8) (k : Nat) (h : 2 * k + 1 < D.length) : ((bw D).take (k + 1)).map cW = ((bw D).take k).map cW ++ [.int .u16 ((at2 D (2 * k) : Nat) : Int)] := by
  rw [bw_take D k h]
  congr 3
  have h1 := D[2 * k].toNat_lt
  have h2 := D[2 * k + 1].toNat_lt
  have e : at2 D (2 * k) = D[2 * k].toNat * 256 + D[2 * k + 1].toNat := by
    unfold at2
    rw [List.getD_eq_getElem?_getD, List.getD_eq_getElem?_getD, List.getElem?_eq_getElem (by omega), List.getElem?_eq_getElem (by omega)]
    rfl
  rw [e]
  omega
theorem at2_drop (b : List UInt8) (n i : Nat) : at2 (b.drop n) i = at2 b (n + i) := by
  unfold at2
  simp only [List.getD_eq_getElem?_getD, List.getElem?_drop, Nat.add_assoc]

theorem said_regs (b : List UInt8) (A : Option Addr) (m c : Nat) (w : World) (hr : Rd w A m (b.map cB)) (hc : m ≤ c) (hm : 6 ≤ m) (hm2 : m ≤ 17000000000) (hk : b0 b = 16) :
    Calls Try.prog 128 #[.slice A m c] w (RetRead w (saidF b)) := by
  have hlen := hr.length
  have hs : saidF b = if m - 6 = 2 * at2 b 3 then some ⟨16, (at2 b 1 : Nat), 0, [], bw (b.drop 6), []⟩ else none := by
    unfold saidF
    rw [hk, if_neg (by omega), if_neg (by omega), if_neg (by omega), if_neg (by omega), if_pos rfl, hlen]
  rw [hs]
  clear hs
  have HA1 := Lib.hid (fun (W : World) (hX : Ext w W) => at3_dr b A m c 1 W (hr.ext hX) (by omega) (by omega))
  have HA3 := Lib.hid (fun (W : World) (hX : Ext w W) => at3_dr b A m c 3 W (hr.ext hX) (by omega) (by omega))
  have HAK : Hid (∀ (k : Nat) (W : World), Ext w W → 2 * k + 1 < m - 6 → Calls Try.prog 133 #[.slice A m c, .int .i64 (6 + (k : Int) * 2)] W (RetDr W (at2 (b.drop 6) (2 * k) : Nat))) := fun k W hX hk => by
    rw [at2_drop]
    exact at3_dr' b A m c (6 + 2 * k) _ W (hr.ext hX) (by omega) (by omega) (by omega)
  have hl1 := at2_lt b 1
  have hl3 := at2_lt b 3
  generalize at2 b 1 = F at *
  generalize at2 b 3 = R at *
  obtain ⟨bk, off, rfl, hbk, hcell⟩ := hr.u8all (by omega)
  have g0 := hcell 0 (by omega)
  rw [Nat.add_zero, show (b.getD 0 0).toNat = 16 from hk] at g0
  have hlD : (b.drop 6).length = m - 6 := by rw [List.length_drop, hlen]
  generalize b.drop 6 = D at *
  have HLD := Lib.hid hlD
  clear hcell hk hr hlen hlD
  have i0 : 0 < m := by omega
  have hdr := drewN_set
  have hn1 : IntKind.i64.wrap ((m : Int) - 6) = (m : Int) - 6 := IntWalk.i64_in _ (by omega)
  have hn2 : IntKind.i64.wrap (2 * (R : Int)) = 2 * (R : Int) := IntWalk.i64_in _ (by omega)
  by_cases hN : m - 6 = 2 * R
  · rw [if_pos hN]
    have hne : ((m : Int) - 6 != 2 * (R : Int)) = false := by simp; omega
    go_enter Try.func128, Try.ntmps128
    go_wp2_with fail
    refine (HA1.out _ (Ext.two _ _ _)).mono ?_
    rintro e w1 ⟨rfl, d1, rfl⟩
    go_wp2_with fail
    refine (HA3.out _ (Ext.drewN' (Ext.two _ _ _) _)).mono ?_
    rintro e w3 ⟨rfl, d3, rfl⟩
    go_wp2_with fail
    go_loopw [10] (fun i wr => ∃ (k : Nat) (A4 : Option Addr) (c4 : Nat), k ≤ R ∧ i = .int .i64 (k : Int) ∧ wr.heap[w.heap.size]? = some (.cells #[.int .i64 0, .int .i64 0, .int .i64 0, .slice none 0 0, .slice none 0 0, .slice none 0 0] 26 (0, 0)) ∧ wr.heap[w.heap.size + 1]? = some (.cells #[.int .i64 16, .int .i64 (F : Int), .int .i64 0, .slice none 0 0, .slice A4 k c4, .slice none 0 0] 26 (0, 0)) ∧ Hid (Own wr (w.heap.size + 2) 54 IsU16 A4 k c4 (((bw D).take k).map cW)) ∧ Ext w wr) (fun i _ => R - (intOf i).toNat)
    case atStart => exact ⟨0, none, 0, Nat.zero_le _, rfl, (Ext.alloc _ _).block (heap_alloc_new w _), heap_at _ _ _ (by simp), Own.nil_ _ _ _ _, Ext.drewN' (Ext.two _ _ _) _⟩
    case round =>
      obtain ⟨k, A4, c4, hk, rfl, hB, hA, HO, hX⟩ := hrel
      obtain ⟨a0, a1, a2, a3, a4, a5, f0, f1, f2, f3, f4, f5⟩ := askBox hA
      rcases Nat.lt_or_ge k R with hlt | hge
      · have HAT := Lib.hid (fun W hX => HAK.out k W hX (by omega))
        have HST := Lib.hid (bw_step D k (by rw [HLD.out]; omega))
        have hv := at2_lt D (2 * k)
        generalize at2 D (2 * k) = v at *
        have hwv : IntKind.u16.wrap (v : Int) = (v : Int) := by rw [IntKind.wrap_u16]; omega
        have e1 : IntKind.i64.wrap (2 * (k : Int)) = 2 * (k : Int) := IntWalk.i64_in _ (by omega)
        have e2 : IntKind.i64.wrap (6 + 2 * (k : Int)) = 6 + (k : Int) * 2 := by rw [IntWalk.i64_in _ (by omega)]; omega
        go_wp2_with fail
        have hz1 : w.heap.size + 1 < wr.heap.size := lt_of_heap hA
        have hz0 : w.heap.size < wr.heap.size := lt_of_heap hB
        have hbr : bk < wr.heap.size := Nat.lt_of_lt_of_le hbk hX.size
        have HA := Lib.hid hA; have HB := Lib.hid hB; have HX := Lib.hid hX
        clear hA hB hX
        have HRow := Lib.hid (fun (W : World) => Rd.one W 54 (.int .u16 (v : Int)))
        have XA := Lib.hid (fun d o => Ext.alloc' (Ext.drewN' (Ext.refl wr) d) o)
        have a4' : ∀ d o, ((wr.drewN d).alloc o).cell? ⟨w.heap.size + 1, 4, none⟩ = some (.slice A4 k c4) := fun d o => (XA.out d o).cell hz1 a4
        go_region_law ((first
          | (go_simp
             go_at_call 133
             refine (HAT.out _ (by repeat' (first | with_reducible exact HX.out | with_reducible refine Ext.drewN' ?_ _ | with_reducible refine Ext.drew' ?_))).mono ?_
             rintro e w5 ⟨rfl, d5, rfl⟩)
          | (refine step_u16 (base := w.heap.size + 2) rfl (.tmp 152) (.tmp 159) rfl rfl (HO.out.ext (XA.out _ _)) rfl (HRow.out _) (by intro u hu; simp at hu; subst hu; exact isU16_of (by omega) (by omega)) (by omega) (Nat.le_trans (by omega) (XA.out _ _).size) ?_
             intro A7 c7 w5 hown hg hbk7
             have hA5 : w5.heap[w.heap.size + 1]? = some (.cells #[.int .i64 16, .int .i64 (F : Int), .int .i64 0, .slice none 0 0, .slice A4 k c4, .slice none 0 0] 26 (0, 0)) := (hg.block _ (Nat.lt_of_lt_of_le hz1 (XA.out _ _).size) (fun e => by have := (HO.out.lt _ e.symm).1; omega)).trans ((XA.out _ _).block HA.out)
             have hB5 : w5.heap[w.heap.size]? = some (.cells #[.int .i64 0, .int .i64 0, .int .i64 0, .slice none 0 0, .slice none 0 0, .slice none 0 0] 26 (0, 0)) := (hg.block _ (Nat.lt_of_lt_of_le hz0 (XA.out _ _).size) (fun e => by have := (HO.out.lt _ e.symm).1; omega)).trans ((XA.out _ _).block HB.out)
             have hx5 : Ext w w5 := (HX.out.trans (XA.out _ _)).grown' hg (fun g hg => by have := (HO.out.lt g hg).1; omega)
             obtain ⟨-, -, -, -, b4, -, -, -, -, -, g4, -⟩ := askBox hA5
             have HA5 := Lib.hid hA5; have HB5 := Lib.hid hB5; have HX5 := Lib.hid hx5; have HO5 := Lib.hid hown
             clear hA5 hB5 hx5 hown hg hbk7)))
        all_goals
          go_wp2_with fail
          go_roundw
          case rel => exact ⟨k + 1, A7, c7, by omega, by go_num, (Below.heap_setCell w5 ⟨w.heap.size + 1, 4, none⟩ _ w.heap.size (by simp)).trans HB5.out, heap_setCell_same w5 (w.heap.size + 1) 4 _ _ _ HA5.out, by unfold Hid; rw [HST.out]; exact HO5.out.set_below (q := ⟨w.heap.size + 1, 4, none⟩) (by simp) _, Ext.set' HX5.out (by simp) _⟩
          case measure => simp [intOf]; omega
      · obtain rfl : R = k := by omega
        rw [List.take_of_length_le (by rw [bw_length, HLD.out]; omega)] at HO
        obtain ⟨b0, b1, b2, b3, b4, b5, g0, g1, g2, g3, g4, g5⟩ := askBox hB
        have HX := Lib.hid hX; clear hX
        go_wp2_with fail
        refine bodyPost_ret (v := .tuple #[askV ⟨16, (F : Nat), 0, [], bw D, []⟩ ⟨none, 0, 0, A4, R, c4, none, 0, 0⟩, .bool true]) (by simp [results, Try.results128, go_sem, askV, *]) rfl ⟨_, _, rfl, fun a' ha => ⟨(by injection ha with ha; exact ha.symm), ⟨Own.nil_ _ _ _ _, ?_, OwP.nil_ _ _, by unfold i64P; simp, by unfold i64P; simp; omega, by unfold i64P; simp⟩⟩, ?_⟩
        · refine Own.mono (base := w.heap.size + 2) ?_ (by omega)
          repeat' (first | with_reducible exact HO.out | with_reducible refine Own.set_below ?_ (by simp) _ | with_reducible refine Own.drewN ?_ _)
        · repeat' (first | with_reducible exact HX.out | with_reducible refine Ext.set' ?_ (by simp) _ | with_reducible refine Ext.drewN' ?_ _)
  · rw [if_neg hN]
    have hne : ((m : Int) - 6 != 2 * (R : Int)) = true := by simp; omega
    go_enter Try.func128, Try.ntmps128
    go_wp2_with fail
    refine (HA1.out _ (Ext.two _ _ _)).mono ?_
    rintro e w1 ⟨rfl, d1, rfl⟩
    go_wp2_with fail
    refine (HA3.out _ (Ext.drewN' (Ext.two _ _ _) _)).mono ?_
    rintro e w3 ⟨rfl, d3, rfl⟩
    go_wp2_with fail
    refine bodyPost_ret (v := .tuple #[askV ask0 askS0, .bool false]) (by simp [results, Try.results128, go_sem, askV, ask0, askS0]) rfl ⟨ask0, askS0, rfl, fun a' ha => (by cases ha), ?_⟩
    exact Ext.drewN' (Ext.two _ _ _) _
end Go.Proofs.Ytpjmhckdeeonbaa

namespace Go.Proofs.Ytpjmhckdeeonbaa
set_option linter.unusedVariables false
set_option linter.unusedSimpArgs false
set_option maxRecDepth 100000
set_option maxHeartbeats 4000000
open Go Go.RowKit Go.Out

theorem said_file (b : List UInt8) (A : Option Addr) (m c : Nat) (w : World) (hr : Rd w A m (b.map cB)) (hc : m ≤ c) (hm : 2 ≤ m) (hm2 : m ≤ 17000000) (hk : b0 b = 20) :
    Calls Try.prog 128 #[.slice A m c] w (RetRead w (saidF b)) := by
  have hlen := hr.length
  have hs : saidF b = (partsOf (b.drop 2)).map fun l => (⟨20, 0, 0, [], [], l⟩ : AskD) := by
    unfold saidF
    rw [hk, if_pos rfl]
  have HS := Lib.hid hs
  clear hs
  have HAT : Hid (∀ (i : Nat) (j : Int) (W : World), Ext w W → i + 1 < m → j = (i : Int) → Calls Try.prog 133 #[.slice A m c, .int .i64 j] W (RetDr W (at2 b i : Nat))) := fun i j W hX hi hj => at3_dr' b A m c i j W (hr.ext hX) hi (by omega) hj
  obtain ⟨bk, off, rfl, hbk, hcell⟩ := hr.u8all (by omega)
  have g0 := hcell 0 (by omega)
  rw [Nat.add_zero, show (b.getD 0 0).toNat = 20 from hk] at g0
  have HCE := Lib.hid hcell
  clear hcell hk hr
  have i0 : 0 < m := by omega
  have HLN := Lib.hid hlen
  clear hlen
  generalize saidF b = RR at *
  go_enter Try.func128, Try.ntmps128
  go_wp2_with fail
  go_loopw [5] (fun i wr => ∃ (n k : Nat) (l : Value) (done : List PartD), n ≤ m ∧ 2 ≤ n ∧ k ≤ n ∧ i = .int .i64 (n : Int) ∧ done.length = k ∧ wr.heap[w.heap.size]? = some (.cells #[.int .i64 0, .int .i64 0, .int .i64 0, .slice none 0 0, .slice none 0 0, .slice none 0 0] 26 (0, 0)) ∧ wr.heap[w.heap.size + 1]? = some (.cells #[.int .i64 20, .int .i64 0, .int .i64 0, .slice none 0 0, .slice none 0 0, l] 26 (0, 0)) ∧ Hid (OwP wr (w.heap.size + 2) l done) ∧ Hid (partsOf (b.drop 2) = (partsOf (b.drop n)).map (done ++ ·)) ∧ Ext w wr) (fun i _ => m - (intOf i).toNat)
  case atStart => exact ⟨2, 0, _, [], by omega, by omega, by omega, rfl, rfl, (Ext.alloc _ _).block (heap_alloc_new w _), heap_at _ _ _ (by simp), Lib.hid (OwP.nil_ _ _), by simp [Hid], Ext.two _ _ _⟩
  case round =>
    obtain ⟨n, k, l, done, hn, hn2, hkn, rfl, hdone, hB, hA, HO, HP, hX⟩ := hrel
    subst hdone
    obtain ⟨a0, a1, a2, a3, a4, a5, f0, f1, f2, f3, f4, f5⟩ := askBox hA
    rcases Nat.lt_or_ge n m with hlt | hge
    · have hw1 : IntKind.i64.wrap ((m : Int) - (n : Int)) = (m : Int) - (n : Int) := IntWalk.i64_in _ (by omega)
      rcases Nat.lt_or_ge (m - n) 7 with h7 | h7
      · have hp := HP.out
        rw [partsOf_few (D := b.drop n) (by rw [List.length_drop, HLN.out]; omega) (by rw [List.length_drop, HLN.out]; omega)] at hp
        have HRR := Lib.hid (show RR = none by rw [HS.out, hp]; rfl)
        have h7' : (m : Int) - (n : Int) < 7 := by omega
        obtain ⟨b0, b1, b2, b3, b4, b5, e0, e1, e2, e3, e4, e5⟩ := askBox hB
        have HX := Lib.hid hX
        clear hp hX
        go_wp2_with fail
        refine bodyPost_ret (v := .tuple #[askV ask0 askS0, .bool false]) (by simp [results, Try.results128, go_sem, askV, ask0, askS0, *]) rfl ⟨ask0, askS0, by rw [HRR.out]; rfl, ?_, ?_⟩
        · intro a' ha
          rw [HRR.out] at ha
          cases ha
        repeat' (first | with_reducible exact HX.out | with_reducible refine Ext.set' ?_ (by simp) _ | with_reducible refine Ext.drewN' ?_ _)
      · have hp := HP.out
        rw [partsOf_step (D := b.drop n) (by rw [List.length_drop, HLN.out]; omega)] at hp
        have hb0' : (b.drop n).getD 0 0 = b.getD n 0 := by simp [List.getD_eq_getElem?_getD]
        rw [hb0', at2_drop, at2_drop, at2_drop, List.drop_drop] at hp
        have c0 := hX.cell hbk (HCE.out n hlt)
        have h7' : ¬ (m : Int) - (n : Int) < 7 := by omega
        have hnm : (n : Int) < (m : Int) := by omega
        by_cases h6 : b.getD n 0 = 6
        · rw [if_pos h6] at hp
          rw [h6] at c0
          have hp2 : partsOf (b.drop 2) = (partsOf (b.drop (n + 7))).map ((done ++ [⟨(at2 b (n + 1) : Nat), (at2 b (n + 3) : Nat), (at2 b (n + 5) : Nat)⟩]) ++ ·) := by rw [hp, Option.map_map]; congr 1; funext l; simp
          have hF := at2_lt b (n + 1); have hR := at2_lt b (n + 3); have hL := at2_lt b (n + 5)
          obtain ⟨j1, hj1⟩ : ∃ j : Int, (n : Int) + 1 = j := ⟨_, rfl⟩
          have HA1 := Lib.hid (fun W hX => HAT.out (n + 1) j1 W hX (by omega) (by omega))
          obtain ⟨j3, hj3⟩ : ∃ j : Int, (n : Int) + 3 = j := ⟨_, rfl⟩
          have HA3 := Lib.hid (fun W hX => HAT.out (n + 3) j3 W hX (by omega) (by omega))
          obtain ⟨j5, hj5⟩ : ∃ j : Int, (n : Int) + 5 = j := ⟨_, rfl⟩
          have HA5 := Lib.hid (fun W hX => HAT.out (n + 5) j5 W hX (by omega) (by omega))
          generalize at2 b (n + 1) = F at *
          generalize at2 b (n + 3) = R at *
          generalize at2 b (n + 5) = L at *
          have HP2 := Lib.hid hp2
          clear hp hp2 hb0' h6
          have v1 : IntKind.i64.wrap ((n : Int) + 1) = j1 := by rw [IntWalk.i64_in _ (by omega)]; exact hj1
          have v3 : IntKind.i64.wrap ((n : Int) + 3) = j3 := by rw [IntWalk.i64_in _ (by omega)]; exact hj3
          have v5 : IntKind.i64.wrap ((n : Int) + 5) = j5 := by rw [IntWalk.i64_in _ (by omega)]; exact hj5
          have v7 : IntKind.i64.wrap ((n : Int) + 7) = (n : Int) + 7 := IntWalk.i64_in _ (by omega)
          have hj := Lib.hid (And.intro hj1 (And.intro hj3 hj5))
          clear hj1 hj3 hj5
          have hc6 : ((6 : UInt8).toNat : Int) = 6 := rfl
          rw [hc6] at c0
          go_wp2_with fail
          have hz1 : w.heap.size + 1 < wr.heap.size := lt_of_heap hA
          have hz0 : w.heap.size < wr.heap.size := lt_of_heap hB
          have HA := Lib.hid hA; have HB := Lib.hid hB; have HX := Lib.hid hX
          obtain ⟨⟨xs, hrow, hit⟩, hint⟩ := HO.out
          have Hint := Lib.hid hint; clear hint
          have Hrow := Lib.hid hrow; have Hit := Lib.hid hit
          have Hlt := Lib.hid (fun g (hg : l.ownBlock = some g) => hrow.lt g hg)
          have hrl : ∀ (w3 : World) (v' : Value), w3.ownsRow (w.heap.size + 2) 85 3 v' (done.length + 1) (xs ++ [.int .i64 (F : Int), .int .i64 (R : Int), .int .i64 (L : Int)]) → IntRow w3 v' → OwP w3 (w.heap.size + 2) v' (done ++ [⟨(F : Nat), (R : Nat), (L : Nat)⟩]) := fun w3 v' h hi =>
            ⟨⟨_, by rw [List.length_append]; exact h, (hit.mono (w' := w3) fun _ _ h => h).snoc ⟨rfl, by unfold i64P; simp; omega, by unfold i64P; simp; omega, by unfold i64P; simp; omega⟩ rfl⟩, hi⟩
          have Hrel := Lib.hid hrl
          have Hsz := Lib.hid (show done.length + 1 ≤ 4398046511104 by omega)
          clear hrl hA hB hX hrow hit
          have XA := Lib.hid (fun d o => Ext.alloc' (Ext.drewN' (Ext.refl wr) d) o)
          have a5' : ∀ d o, ((wr.drewN d).alloc o).cell? ⟨w.heap.size + 1, 5, none⟩ = some l := fun d o => (XA.out d o).cell hz1 a5
          go_region_law ((first
            | (go_simp
               go_at_call 133
               first
                 | (with_reducible refine Calls.mono (HA1.out _ ?_) ?_
                    · repeat' (first | with_reducible exact HX.out | with_reducible refine Ext.drewN' ?_ _ | with_reducible refine Ext.drew' ?_))
                 | (with_reducible refine Calls.mono (HA3.out _ ?_) ?_
                    · repeat' (first | with_reducible exact HX.out | with_reducible refine Ext.drewN' ?_ _ | with_reducible refine Ext.drew' ?_))
                 | (with_reducible refine Calls.mono (HA5.out _ ?_) ?_
                    · repeat' (first | with_reducible exact HX.out | with_reducible refine Ext.drewN' ?_ _ | with_reducible refine Ext.drew' ?_))
               rintro e w5 ⟨rfl, d5, rfl⟩)
            | (refine step_part (base := w.heap.size + 2) (xs := xs) rfl (.tmp 39) (.tmp 53) rfl rfl (ownsRow_ext Hrow.out (XA.out _ _)) (Hint.out.ext (XA.out _ _)) rfl (heap_alloc_new _ _) Hsz.out (Nat.le_trans (by omega) (XA.out _ _).size) ?_
               intro v' w5 hown hint hg
               obtain ⟨Av, cv, rfl, -⟩ := ownsRow_slice hown
               have hA5 : w5.heap[w.heap.size + 1]? = some (.cells #[.int .i64 20, .int .i64 0, .int .i64 0, .slice none 0 0, .slice none 0 0, l] 26 (0, 0)) := (hg.block _ (Nat.lt_of_lt_of_le hz1 (XA.out _ _).size) (fun e => by have := (Hlt.out _ e.symm).1; omega)).trans ((XA.out _ _).block HA.out)
               have hB5 : w5.heap[w.heap.size]? = some (.cells #[.int .i64 0, .int .i64 0, .int .i64 0, .slice none 0 0, .slice none 0 0, .slice none 0 0] 26 (0, 0)) := (hg.block _ (Nat.lt_of_lt_of_le hz0 (XA.out _ _).size) (fun e => by have := (Hlt.out _ e.symm).1; omega)).trans ((XA.out _ _).block HB.out)
               have hx5 : Ext w w5 := (HX.out.trans (XA.out _ _)).grown' hg (fun g hg => by have := (Hlt.out g hg).1; omega)
               obtain ⟨-, -, -, -, -, b5, -, -, -, -, -, g5⟩ := askBox hA5
               have HL5 := Lib.hid (Hrel.out w5 _ hown hint)
               have HA5' := Lib.hid hA5; have HB5 := Lib.hid hB5; have HX5 := Lib.hid hx5
               clear hA5 hB5 hx5 hown hint hg)))
          all_goals
            go_wp2_with fail
            go_roundw
            case rel => exact ⟨n + 7, done.length + 1, _, _, by omega, by omega, by omega, by go_num, by simp, (Below.heap_setCell w5 ⟨w.heap.size + 1, 5, none⟩ _ w.heap.size (by simp)).trans HB5.out, heap_setCell_same w5 (w.heap.size + 1) 5 _ _ _ HA5'.out, OwP.set_below HL5.out (q := ⟨w.heap.size + 1, 5, none⟩) (by simp) _, HP2, Ext.set' HX5.out (by simp) _⟩
            case measure => simp [intOf]; omega
        · rw [if_neg h6] at hp
          have HRR := Lib.hid (show RR = none by rw [HS.out, hp]; rfl)
          have hne : (((b.getD n 0).toNat : Int) != 6) = true := by
            simp only [bne_iff_ne, ne_eq]
            intro e
            exact h6 (UInt8.toNat.inj (by show (b.getD n 0).toNat = 6; omega))
          generalize (b.getD n 0).toNat = x0 at *
          obtain ⟨b0, b1, b2, b3, b4, b5, e0, e1, e2, e3, e4, e5⟩ := askBox hB
          have HX := Lib.hid hX
          clear hp hb0' h6 hX
          go_wp2_with fail
          refine bodyPost_ret (v := .tuple #[askV ask0 askS0, .bool false]) (by simp [results, Try.results128, go_sem, askV, ask0, askS0, *]) rfl ⟨ask0, askS0, by rw [HRR.out]; rfl, ?_, ?_⟩
          · intro a' ha
            rw [HRR.out] at ha
            cases ha
          repeat' (first | with_reducible exact HX.out | with_reducible refine Ext.set' ?_ (by simp) _ | with_reducible refine Ext.drewN' ?_ _)
    · obtain rfl : m = n := by omega
      have hp := HP.out
      rw [partsOf_nil (D := b.drop m) (by rw [List.length_drop, HLN.out]; omega)] at hp
      have HRR := Lib.hid (show RR = some ⟨20, 0, 0, [], [], done⟩ by rw [HS.out, hp]; simp)
      obtain ⟨Al, cl, rfl, -⟩ := HO.out.form
      obtain ⟨b0, b1, b2, b3, b4, b5, e0, e1, e2, e3, e4, e5⟩ := askBox hB
      have HX := Lib.hid hX
      have hnn : ¬ (m : Int) < (m : Int) := by omega
      clear hp hX
      go_wp2_with fail
      refine bodyPost_ret (v := .tuple #[askV ⟨20, 0, 0, [], [], done⟩ ⟨none, 0, 0, none, 0, 0, Al, done.length, cl⟩, .bool true]) (by simp [results, Try.results128, go_sem, askV, *]) rfl ⟨_, _, by rw [HRR.out]; rfl, fun a' ha => ⟨(by rw [HRR.out] at ha; injection ha with ha; exact ha.symm), ⟨Own.nil_ _ _ _ _, Own.nil_ _ _ _ _, ?_, by unfold i64P; simp, by unfold i64P; simp, by unfold i64P; simp⟩⟩, ?_⟩
      · refine OwP.mono (base := w.heap.size + 2) ?_ (by omega)
        repeat' (first | with_reducible exact HO.out | with_reducible refine OwP.set_below ?_ (by simp) _)
      · repeat' (first | with_reducible exact HX.out | with_reducible refine Ext.set' ?_ (by simp) _ | with_reducible refine Ext.drewN' ?_ _)

theorem said3_any (b : List UInt8) (A : Option Addr) (m c : Nat) (w : World) (hr : Rd w A m (b.map cB)) (hc : m ≤ c) (hm2 : m ≤ 17000000) (hp : codeP (b0 b : Nat)) (hs : sizedF b = 0) :
    Calls Try.prog 128 #[.slice A m c] w (RetRead w (saidF b)) := by
  have hl := hr.length
  have hz := sizedF_zero.1 hs
  have hb := codeP_cases hp
  by_cases h20 : b0 b = 20
  · refine said_file b A m c w hr hc ?_ hm2 h20
    rcases Nat.lt_or_ge m 2 with h | h
    · exfalso
      apply hz.1
      unfold sizeF
      rw [if_neg (by omega), if_pos h20, if_neg (by omega)]
    · exact h
  · by_cases h6 : b0 b ≤ 6
    · have h5 := sizeF_of5 h6
      have hm : m = 5 := by omega
      by_cases e5 : b0 b = 5
      · exact said_coil b A m c w hr hc (by omega) (by omega) e5
      · by_cases e6 : b0 b = 6
        · exact said_reg b A m c w hr hc (by omega) (by omega) e6
        · exact said_cnt b (b0 b) A m c w hr hc (by omega) (by omega) rfl (by omega) (by omega)
    · have hm : 6 ≤ m := by
        rcases Nat.lt_or_ge m 6 with h | h
        · exfalso
          apply hz.1
          unfold sizeF
          rw [if_neg h6, if_neg h20, if_neg (by omega)]
        · exact h
      by_cases e15 : b0 b = 15
      · exact said_coils b A m c w hr hc hm (by omega) e15
      · exact said_regs b A m c w hr hc hm (by omega) (by omega)
end Go.Proofs.Ytpjmhckdeeonbaa

namespace Go.Proofs.Ytpjmhckdeeonbaa
set_option linter.unusedVariables false
set_option linter.unusedSimpArgs false
set_option maxRecDepth 100000
set_option maxHeartbeats 4000000
open Go Go.RowKit Go.Out

theorem get3_none (A : Option Addr) (c : Nat) (w : World) : Calls Try.prog 122 #[.slice A 0 c] w (RetGA w (ask0, 1)) := by
  go_enter Try.func122, Try.ntmps122
  go_wp2_with fail
  refine bodyPost_ret (v := .tuple #[askV ask0 askS0, .int .i64 1]) (by simp [results, Try.results122, go_sem, askV, ask0, askS0]) rfl ⟨askS0, rfl, askOw0 _ _, Ext.alloc _ _⟩

theorem get3_code (k m c : Nat) (bk off : Nat) (w : World) (hm : 0 < m) (hbk : bk < w.heap.size) (g0 : w.cell? ⟨bk, off, none⟩ = some (.int .u8 (k : Int))) (hk : k < 256) (hp : ¬ codeP (k : Nat)) :
    Calls Try.prog 122 #[.slice (some ⟨bk, off, none⟩) m c] w (RetGA w (ask0, 20)) := by
  have hm0 : ((m : Int) == 0) = false := by simp; omega
  have HK := Lib.hid (fun W => known3_any (k : Int) W)
  rw [decide_eq_false hp] at HK
  clear hp
  go_enter Try.func122, Try.ntmps122
  go_wp2_with fail
  refine (HK.out _).mono ?_
  rintro e w1 ⟨rfl, rfl⟩
  go_wp2_with fail
  refine bodyPost_ret (v := .tuple #[askV ask0 askS0, .int .i64 20]) (by simp [results, Try.results122, go_sem, askV, ask0, askS0]) rfl ⟨askS0, rfl, askOw0 _ _, Ext.alloc _ _⟩

theorem get3_sized (b : List UInt8) (m c : Nat) (bk off : Nat) (w : World) (hr : Rd w (some ⟨bk, off, none⟩) m (b.map cB)) (hm0 : m ≠ 0) (hm2 : m ≤ 9223372036854775807) (hbk : bk < w.heap.size) (g0 : w.cell? ⟨bk, off, none⟩ = some (.int .u8 (b0 b : Int))) (hp : codeP (b0 b : Nat)) (hs : sizedF b ≠ 0) :
    Calls Try.prog 122 #[.slice (some ⟨bk, off, none⟩) m c] w (RetGA w (ask0, sizedF b)) := by
  have hm : ((m : Int) == 0) = false := by simp; omega
  have hl := hr.length
  have HK := Lib.hid (fun W => known3_any (b0 b : Int) W)
  rw [decide_eq_true hp] at HK
  have HC : Hid (∀ W, Ext w W → Calls Try.prog 127 #[.slice (some ⟨bk, off, none⟩) m c] W (RetN W (lenF b))) := fun W hX => length3_any b _ m c W (hr.ext hX) hm0 hm2 hp
  have hk : b0 b < 256 := by unfold b0; exact UInt8.toNat_lt _
  obtain ⟨K, hK⟩ : ∃ K, lenF b = K := ⟨_, rfl⟩
  obtain ⟨S, hS⟩ : ∃ S, sizedF b = S := ⟨_, rfl⟩
  have hcs : (K < 0 ∧ S = 1) ∨ (¬ K < 0 ∧ (m : Int) < K ∧ S = 1) ∨ (¬ K < 0 ∧ ¬ (m : Int) < K ∧ K < (m : Int) ∧ S = 2) := by
    have e1 : K = if sizeF b = 0 then -1 else (sizeF b : Int) := hK.symm
    have e2 : S = if sizeF b = 0 then 1 else if m < sizeF b then 1 else if sizeF b < m then 2 else 0 := by rw [← hS]; unfold sizedF; rw [hl]
    rw [hS] at hs
    by_cases h0 : sizeF b = 0
    · rw [if_pos h0] at e1 e2; omega
    · rw [if_neg h0] at e1 e2
      by_cases h1 : m < sizeF b
      · rw [if_pos h1] at e2; omega
      · rw [if_neg h1] at e2
        by_cases h2 : sizeF b < m
        · rw [if_pos h2] at e2; omega
        · rw [if_neg h2] at e2; exact absurd e2 hs
  rw [hK] at HC
  rw [hS]
  generalize b0 b = k at *
  clear hr hs hK hS hl hp
  have hmp : 0 < m := by omega
  rcases hcs with ⟨q1, rfl⟩ | ⟨q1, q2, rfl⟩ | ⟨q1, q2, q3, rfl⟩
  all_goals
    go_enter Try.func122, Try.ntmps122
    go_wp2_with fail
    refine (HK.out _).mono ?_
    rintro e w1 ⟨rfl, rfl⟩
    go_wp2_with fail
    refine (HC.out _ (Ext.alloc _ _)).mono ?_
    rintro e w1 ⟨rfl, rfl⟩
    go_wp2_with fail
    first
      | exact bodyPost_ret (v := .tuple #[askV ask0 askS0, .int .i64 1]) (by simp [results, Try.results122, go_sem, askV, ask0, askS0]) rfl ⟨askS0, rfl, askOw0 _ _, Ext.alloc _ _⟩
      | exact bodyPost_ret (v := .tuple #[askV ask0 askS0, .int .i64 2]) (by simp [results, Try.results122, go_sem, askV, ask0, askS0]) rfl ⟨askS0, rfl, askOw0 _ _, Ext.alloc _ _⟩

theorem get3_ok (b : List UInt8) (m c : Nat) (bk off : Nat) (w : World) (hr : Rd w (some ⟨bk, off, none⟩) m (b.map cB)) (hc : m ≤ c) (hm0 : m ≠ 0) (hm2 : m ≤ 17000000) (hbk : bk < w.heap.size) (g0 : w.cell? ⟨bk, off, none⟩ = some (.int .u8 (b0 b : Int))) (hp : codeP (b0 b : Nat)) (hs : sizedF b = 0) :
    Calls Try.prog 122 #[.slice (some ⟨bk, off, none⟩) m c] w (RetGA w (match saidF b with | none => (ask0, 4) | some a => if checkF a ≠ 0 then (ask0, checkF a) else (a, 0))) := by
  have hm : ((m : Int) == 0) = false := by simp; omega
  have hmp : 0 < m := by omega
  have HK := Lib.hid (fun W => known3_any (b0 b : Int) W)
  rw [decide_eq_true hp] at HK
  have HC : Hid (∀ W, Ext w W → Calls Try.prog 127 #[.slice (some ⟨bk, off, none⟩) m c] W (RetN W (m : Int))) := fun W hX => by
    have h := length3_any b _ m c W (hr.ext hX) hm0 (by omega) hp
    have hz := sizedF_zero.1 hs
    rw [show lenF b = (m : Int) by unfold lenF; rw [if_neg hz.1, hz.2, hr.length]] at h
    exact h
  have HR : Hid (∀ W, Ext w W → Calls Try.prog 128 #[.slice (some ⟨bk, off, none⟩) m c] W (RetRead W (saidF b))) := fun W hX => said3_any b _ m c W (hr.ext hX) hc hm2 hp hs
  have hk : b0 b < 256 := by unfold b0; exact UInt8.toNat_lt _
  have q1 : ¬ (m : Int) < 0 := by omega
  have q2 : ¬ (m : Int) < (m : Int) := by omega
  generalize b0 b = k at *
  clear hr hs hp
  rcases hsd : saidF b with _ | a0
  · rw [hsd] at HR
    simp only
    go_enter Try.func122, Try.ntmps122
    go_wp2_with fail
    refine (HK.out _).mono ?_
    rintro e w1 ⟨rfl, rfl⟩
    go_wp2_with fail
    refine (HC.out _ (Ext.alloc _ _)).mono ?_
    rintro e w1 ⟨rfl, rfl⟩
    go_wp2_with fail
    refine (HR.out _ (Ext.alloc _ _)).mono ?_
    rintro e w3 ⟨a, ⟨A1, n1, c1, A2, n2, c2, A3, n3, c3⟩, rfl, -, hx3⟩
    obtain ⟨code, addr, count, on, set, parts⟩ := a
    obtain ⟨b0', b1, b2, b3, b4, b5, e0, e1, e2, e3, e4, e5⟩ := askBox ((hx3.trans (Ext.alloc w3 (.cells #[.int .i64 code, .int .i64 addr, .int .i64 count, .slice A1 n1 c1, .slice A2 n2 c2, .slice A3 n3 c3] 26))).block (heap_alloc_new w _))
    have HX3 := Lib.hid (fun o => (Ext.alloc _ _).trans (hx3.trans (Ext.alloc w3 o)))
    simp only [askV, Option.isSome]
    clear hx3
    go_wp2_with fail
    refine bodyPost_ret (v := .tuple #[askV ask0 askS0, .int .i64 4]) (by simp [results, Try.results122, go_sem, askV, ask0, askS0, *]) rfl ⟨askS0, rfl, askOw0 _ _, ?_⟩
    repeat' (first | with_reducible exact HX3.out _ | with_reducible refine Ext.set' ?_ (by simp) _)
  · rw [hsd] at HR
    simp only
    obtain ⟨K, hK⟩ : ∃ K, checkF a0 = K := ⟨_, rfl⟩
    rw [hK]
    by_cases hK0 : K = 0
    · subst hK0
      rw [if_neg (by simp)]
      go_enter Try.func122, Try.ntmps122
      go_wp2_with fail
      refine (HK.out _).mono ?_
      rintro e w1 ⟨rfl, rfl⟩
      go_wp2_with fail
      refine (HC.out _ (Ext.alloc _ _)).mono ?_
      rintro e w1 ⟨rfl, rfl⟩
      go_wp2_with fail
      refine (HR.out _ (Ext.alloc _ _)).mono ?_
      rintro e w3 ⟨a, t, rfl, hown, hx3⟩
      obtain ⟨rfl, ho⟩ := hown a0 rfl
      have HCK := Lib.hid (fun (W : World) (hX : Ext w3 W) => refCheck_any a0 t W (ho.rd.ext hX))
      rw [hK] at HCK
      have HO := Lib.hid (ho.mono (base' := w.heap.size + 1) (by simp))
      have HX3 := Lib.hid hx3
      clear hown hK ho hx3
      obtain ⟨code, addr, count, on, set, parts⟩ := a0
      obtain ⟨A1, n1, c1, A2, n2, c2, A3, n3, c3⟩ := t
      simp only [askV, Option.isSome] at HCK ⊢
      go_wp2_with fail
      refine (HCK.out _ (Ext.alloc _ _)).mono ?_
      rintro e w4 ⟨rfl, hb4⟩
      obtain ⟨b0', b1, b2, b3, b4, b5, e0, e1, e2, e3, e4, e5⟩ := askBox ((HX3.out.trans ((Ext.alloc _ _).trans hb4)).block (heap_alloc_new w _))
      obtain ⟨d0, d1, d2, d3, d4, d5⟩ := ask_cells _ hb4
      have HX4 := Lib.hid ((Ext.alloc _ _).trans (HX3.out.trans ((Ext.alloc _ _).trans hb4)))
      have HO4 := Lib.hid (HO.out.ext ((Ext.alloc _ _).trans hb4))
      have hsz : w.heap.size + 1 ≤ w3.heap.size := by have := HX3.out.size; simpa using this
      clear hb4
      go_wp2_with fail
      refine bodyPost_ret (v := .tuple #[askV ⟨code, addr, count, on, set, parts⟩ ⟨A1, n1, c1, A2, n2, c2, A3, n3, c3⟩, .int .i64 0]) (by simp [results, Try.results122, go_sem, askV, *]) rfl ⟨⟨A1, n1, c1, A2, n2, c2, A3, n3, c3⟩, rfl, ?_, ?_⟩
      · refine AskOw.mono (base := w.heap.size + 1) ?_ (by omega)
        repeat' (first | with_reducible exact HO4.out | with_reducible refine AskOw.set_below ?_ (by simp) _)
      · repeat' (first | with_reducible exact HX4.out | with_reducible refine Ext.set' ?_ (by simp) _)
    · have hne : (K != 0) = true := by simpa using hK0
      rw [if_pos hK0]
      go_enter Try.func122, Try.ntmps122
      go_wp2_with fail
      refine (HK.out _).mono ?_
      rintro e w1 ⟨rfl, rfl⟩
      go_wp2_with fail
      refine (HC.out _ (Ext.alloc _ _)).mono ?_
      rintro e w1 ⟨rfl, rfl⟩
      go_wp2_with fail
      refine (HR.out _ (Ext.alloc _ _)).mono ?_
      rintro e w3 ⟨a, t, rfl, hown, hx3⟩
      obtain ⟨rfl, ho⟩ := hown a0 rfl
      have HCK := Lib.hid (fun (W : World) (hX : Ext w3 W) => refCheck_any a0 t W (ho.rd.ext hX))
      rw [hK] at HCK
      have HX3 := Lib.hid hx3
      clear hown hK ho hx3
      obtain ⟨code, addr, count, on, set, parts⟩ := a0
      obtain ⟨A1, n1, c1, A2, n2, c2, A3, n3, c3⟩ := t
      simp only [askV, Option.isSome] at HCK ⊢
      go_wp2_with fail
      refine (HCK.out _ (Ext.alloc _ _)).mono ?_
      rintro e w4 ⟨rfl, hb4⟩
      obtain ⟨b0', b1, b2, b3, b4, b5, e0, e1, e2, e3, e4, e5⟩ := askBox ((HX3.out.trans ((Ext.alloc _ _).trans hb4)).block (heap_alloc_new w _))
      obtain ⟨d0, d1, d2, d3, d4, d5⟩ := ask_cells _ hb4
      have HX4 := Lib.hid ((Ext.alloc _ _).trans (HX3.out.trans ((Ext.alloc _ _).trans hb4)))
      have hsz : w.heap.size + 1 ≤ w3.heap.size := by have := HX3.out.size; simpa using this
      clear hb4
      go_wp2_with fail
      refine bodyPost_ret (v := .tuple #[askV ask0 askS0, .int .i64 K]) (by simp [results, Try.results122, go_sem, askV, ask0, askS0, *]) rfl ⟨askS0, rfl, askOw0 _ _, ?_⟩
      repeat' (first | with_reducible exact HX4.out | with_reducible refine Ext.set' ?_ (by simp) _)

theorem ref3Get_any (b : List UInt8) (A : Option Addr) (m c : Nat) (w : World) (hr : Rd w A m (b.map cB)) (hc : m ≤ c) (hc63 : c ≤ 9223372036854775807) (hm2 : m ≤ 9223372036854775807) :
    Calls Try.prog 122 #[.slice A m c] w (RetGA w (getA b)) := by
  have hl := hr.length
  rcases Nat.eq_zero_or_pos m with h0 | h0
  · subst h0
    rw [show getA b = (ask0, 1) by unfold getA; rw [if_pos hl]]
    exact get3_none A c w
  · obtain ⟨bk, off, rfl, hbk, hcell⟩ := hr.u8all h0
    have g0 := hcell 0 h0
    rw [Nat.add_zero] at g0
    by_cases hp : codeP (b0 b : Nat)
    · by_cases hs : sizedF b = 0
      · have hm3 : m ≤ 17000000 := by have h1 := (sizedF_zero.1 hs).2; have h2 := sizeF_le b; omega
        rw [getA_said (by omega) hp hs]
        exact get3_ok b m c bk off w hr hc (by omega) hm3 hbk g0 hp hs
      · rw [getA_sized (by omega) hp hs]
        exact get3_sized b m c bk off w hr (by omega) hm2 hbk g0 hp hs
    · rw [getA_code (by omega) hp]
      exact get3_code (b0 b) m c bk off w h0 hbk g0 (by unfold b0; exact UInt8.toNat_lt _) hp
end Go.Proofs.Ytpjmhckdeeonbaa
