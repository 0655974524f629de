/- Contract of the reference's said: parts of files; every PDU. -/
import Derived.Test.YtjmddiffeffgnaaAskSf
import Derived.Test.YtjmddiffeffgnaaAskS5
namespace Go.Proofs.Ytjmddiffeffgnaa
set_option linter.unusedVariables false
set_option linter.unusedSimpArgs false
set_option maxRecDepth 100000
set_option maxHeartbeats 4000000
open Go Go.RowKit Go.Out

theorem said_file (b : List UInt8) (A : Option Addr) (m c : Nat) (w : World) (hr : Rd w A m (b.map cB)) (hc : m ≤ c) (hm : 2 ≤ m) (hm2 : m ≤ 17000000) (hk : b0 b = 20) :
    Calls Try.prog 100 #[.slice A m c] w (RetRead w (saidF b)) := by
  have hlen := hr.length
  have hs : saidF b = (partsOf (b.drop 2)).map fun l => (⟨20, 0, 0, [], [], l⟩ : AskD) := by
    unfold saidF
    rw [hk, if_pos rfl]
  have HS := Lib.hid hs
  clear hs
  have HAT : Hid (∀ (i : Nat) (j : Int) (W : World), Ext w W → i + 1 < m → j = (i : Int) → Calls Try.prog 134 #[.slice A m c, .int .i64 j] W (RetDr W (at2 b i : Nat))) := fun i j W hX hi hj => at3_dr' b A m c i j W (hr.ext hX) hi (by omega) hj
  obtain ⟨bk, off, rfl, hbk, hcell⟩ := hr.u8all (by omega)
  have g0 := hcell 0 (by omega)
  rw [Nat.add_zero, show (b.getD 0 0).toNat = 20 from hk] at g0
  have HCE := Lib.hid hcell
  clear hcell hk hr
  have i0 : 0 < m := by omega
  have HLN := Lib.hid hlen
  clear hlen
  generalize saidF b = RR at *
  go_enter Try.func100, Try.ntmps100
  go_wp2_with fail
  go_loopw [5] (fun i wr => ∃ (n k : Nat) (l : Value) (done : List PartD), n ≤ m ∧ 2 ≤ n ∧ k ≤ n ∧ i = .int .i64 (n : Int) ∧ done.length = k ∧ wr.heap[w.heap.size]? = some (.cells #[.int .i64 0, .int .i64 0, .int .i64 0, .slice none 0 0, .slice none 0 0, .slice none 0 0] 26 (0, 0)) ∧ wr.heap[w.heap.size + 1]? = some (.cells #[.int .i64 20, .int .i64 0, .int .i64 0, .slice none 0 0, .slice none 0 0, l] 26 (0, 0)) ∧ Hid (OwP wr (w.heap.size + 2) l done) ∧ Hid (partsOf (b.drop 2) = (partsOf (b.drop n)).map (done ++ ·)) ∧ Ext w wr) (fun i _ => m - (intOf i).toNat)
  case atStart => exact ⟨2, 0, _, [], by omega, by omega, by omega, rfl, rfl, (Ext.alloc _ _).block (heap_alloc_new w _), heap_at _ _ _ (by simp), Lib.hid (OwP.nil_ _ _), by simp [Hid], Ext.two _ _ _⟩
  case round =>
    obtain ⟨n, k, l, done, hn, hn2, hkn, rfl, hdone, hB, hA, HO, HP, hX⟩ := hrel
    subst hdone
    obtain ⟨a0, a1, a2, a3, a4, a5, f0, f1, f2, f3, f4, f5⟩ := askBox hA
    rcases Nat.lt_or_ge n m with hlt | hge
    · have hw1 : IntKind.i64.wrap ((m : Int) - (n : Int)) = (m : Int) - (n : Int) := IntWalk.i64_in _ (by omega)
      rcases Nat.lt_or_ge (m - n) 7 with h7 | h7
      · have hp := HP.out
        rw [partsOf_few (D := b.drop n) (by rw [List.length_drop, HLN.out]; omega) (by rw [List.length_drop, HLN.out]; omega)] at hp
        have HRR := Lib.hid (show RR = none by rw [HS.out, hp]; rfl)
        have h7' : (m : Int) - (n : Int) < 7 := by omega
        obtain ⟨b0, b1, b2, b3, b4, b5, e0, e1, e2, e3, e4, e5⟩ := askBox hB
        have HX := Lib.hid hX
        clear hp hX
        go_wp2_with fail
        refine bodyPost_ret (v := .tuple #[askV ask0 askS0, .bool false]) (by simp [results, Try.results100, go_sem, askV, ask0, askS0, *]) rfl ⟨ask0, askS0, by rw [HRR.out]; rfl, ?_, ?_⟩
        · intro a' ha
          rw [HRR.out] at ha
          cases ha
        repeat' (first | with_reducible exact HX.out | with_reducible refine Ext.set' ?_ (by simp) _ | with_reducible refine Ext.drewN' ?_ _)
      · have hp := HP.out
        rw [partsOf_step (D := b.drop n) (by rw [List.length_drop, HLN.out]; omega)] at hp
        have hb0' : (b.drop n).getD 0 0 = b.getD n 0 := by simp [List.getD_eq_getElem?_getD]
        rw [hb0', at2_drop, at2_drop, at2_drop, List.drop_drop] at hp
        have c0 := hX.cell hbk (HCE.out n hlt)
        have h7' : ¬ (m : Int) - (n : Int) < 7 := by omega
        have hnm : (n : Int) < (m : Int) := by omega
        by_cases h6 : b.getD n 0 = 6
        · rw [if_pos h6] at hp
          rw [h6] at c0
          have hp2 : partsOf (b.drop 2) = (partsOf (b.drop (n + 7))).map ((done ++ [⟨(at2 b (n + 1) : Nat), (at2 b (n + 3) : Nat), (at2 b (n + 5) : Nat)⟩]) ++ ·) := by rw [hp, Option.map_map]; congr 1; funext l; simp
          have hF := at2_lt b (n + 1); have hR := at2_lt b (n + 3); have hL := at2_lt b (n + 5)
          obtain ⟨j1, hj1⟩ : ∃ j : Int, (n : Int) + 1 = j := ⟨_, rfl⟩
          have HA1 := Lib.hid (fun W hX => HAT.out (n + 1) j1 W hX (by omega) (by omega))
          obtain ⟨j3, hj3⟩ : ∃ j : Int, (n : Int) + 3 = j := ⟨_, rfl⟩
          have HA3 := Lib.hid (fun W hX => HAT.out (n + 3) j3 W hX (by omega) (by omega))
          obtain ⟨j5, hj5⟩ : ∃ j : Int, (n : Int) + 5 = j := ⟨_, rfl⟩
          have HA5 := Lib.hid (fun W hX => HAT.out (n + 5) j5 W hX (by omega) (by omega))
          generalize at2 b (n + 1) = F at *
          generalize at2 b (n + 3) = R at *
          generalize at2 b (n + 5) = L at *
          have HP2 := Lib.hid hp2
          clear hp hp2 hb0' h6
          have v1 : IntKind.i64.wrap ((n : Int) + 1) = j1 := by rw [IntWalk.i64_in _ (by omega)]; exact hj1
          have v3 : IntKind.i64.wrap ((n : Int) + 3) = j3 := by rw [IntWalk.i64_in _ (by omega)]; exact hj3
          have v5 : IntKind.i64.wrap ((n : Int) + 5) = j5 := by rw [IntWalk.i64_in _ (by omega)]; exact hj5
          have v7 : IntKind.i64.wrap ((n : Int) + 7) = (n : Int) + 7 := IntWalk.i64_in _ (by omega)
          have hj := Lib.hid (And.intro hj1 (And.intro hj3 hj5))
          clear hj1 hj3 hj5
          have hc6 : ((6 : UInt8).toNat : Int) = 6 := rfl
          rw [hc6] at c0
          go_wp2_with fail
          have hz1 : w.heap.size + 1 < wr.heap.size := lt_of_heap hA
          have hz0 : w.heap.size < wr.heap.size := lt_of_heap hB
          have HA := Lib.hid hA; have HB := Lib.hid hB; have HX := Lib.hid hX
          obtain ⟨⟨xs, hrow, hit⟩, hint⟩ := HO.out
          have Hint := Lib.hid hint; clear hint
          have Hrow := Lib.hid hrow; have Hit := Lib.hid hit
          have Hlt := Lib.hid (fun g (hg : l.ownBlock = some g) => hrow.lt g hg)
          have hrl : ∀ (w3 : World) (v' : Value), w3.ownsRow (w.heap.size + 2) 60 3 v' (done.length + 1) (xs ++ [.int .i64 (F : Int), .int .i64 (R : Int), .int .i64 (L : Int)]) → IntRow w3 v' → OwP w3 (w.heap.size + 2) v' (done ++ [⟨(F : Nat), (R : Nat), (L : Nat)⟩]) := fun w3 v' h hi =>
            ⟨⟨_, by rw [List.length_append]; exact h, (hit.mono (w' := w3) fun _ _ h => h).snoc ⟨rfl, by unfold i64P; simp; omega, by unfold i64P; simp; omega, by unfold i64P; simp; omega⟩ rfl⟩, hi⟩
          have Hrel := Lib.hid hrl
          have Hsz := Lib.hid (show done.length + 1 ≤ 4398046511104 by omega)
          clear hrl hA hB hX hrow hit
          have XA := Lib.hid (fun d o => Ext.alloc' (Ext.drewN' (Ext.refl wr) d) o)
          have a5' : ∀ d o, ((wr.drewN d).alloc o).cell? ⟨w.heap.size + 1, 5, none⟩ = some l := fun d o => (XA.out d o).cell hz1 a5
          go_region_law ((first
            | (go_simp
               go_at_call 134
               first
                 | (with_reducible refine Calls.mono (HA1.out _ ?_) ?_
                    · repeat' (first | with_reducible exact HX.out | with_reducible refine Ext.drewN' ?_ _ | with_reducible refine Ext.drew' ?_))
                 | (with_reducible refine Calls.mono (HA3.out _ ?_) ?_
                    · repeat' (first | with_reducible exact HX.out | with_reducible refine Ext.drewN' ?_ _ | with_reducible refine Ext.drew' ?_))
                 | (with_reducible refine Calls.mono (HA5.out _ ?_) ?_
                    · repeat' (first | with_reducible exact HX.out | with_reducible refine Ext.drewN' ?_ _ | with_reducible refine Ext.drew' ?_))
               rintro e w5 ⟨rfl, d5, rfl⟩)
            | (refine step_part (base := w.heap.size + 2) (xs := xs) rfl (.tmp 39) (.tmp 53) rfl rfl (ownsRow_ext Hrow.out (XA.out _ _)) (Hint.out.ext (XA.out _ _)) rfl (heap_alloc_new _ _) Hsz.out (Nat.le_trans (by omega) (XA.out _ _).size) ?_
               intro v' w5 hown hint hg
               obtain ⟨Av, cv, rfl, -⟩ := ownsRow_slice hown
               have hA5 : w5.heap[w.heap.size + 1]? = some (.cells #[.int .i64 20, .int .i64 0, .int .i64 0, .slice none 0 0, .slice none 0 0, l] 26 (0, 0)) := (hg.block _ (Nat.lt_of_lt_of_le hz1 (XA.out _ _).size) (fun e => by have := (Hlt.out _ e.symm).1; omega)).trans ((XA.out _ _).block HA.out)
               have hB5 : w5.heap[w.heap.size]? = some (.cells #[.int .i64 0, .int .i64 0, .int .i64 0, .slice none 0 0, .slice none 0 0, .slice none 0 0] 26 (0, 0)) := (hg.block _ (Nat.lt_of_lt_of_le hz0 (XA.out _ _).size) (fun e => by have := (Hlt.out _ e.symm).1; omega)).trans ((XA.out _ _).block HB.out)
               have hx5 : Ext w w5 := (HX.out.trans (XA.out _ _)).grown' hg (fun g hg => by have := (Hlt.out g hg).1; omega)
               obtain ⟨-, -, -, -, -, b5, -, -, -, -, -, g5⟩ := askBox hA5
               have HL5 := Lib.hid (Hrel.out w5 _ hown hint)
               have HA5' := Lib.hid hA5; have HB5 := Lib.hid hB5; have HX5 := Lib.hid hx5
               clear hA5 hB5 hx5 hown hint hg)))
          all_goals
            go_wp2_with fail
            go_roundw
            case rel => exact ⟨n + 7, done.length + 1, _, _, by omega, by omega, by omega, by go_num, by simp, (Below.heap_setCell w5 ⟨w.heap.size + 1, 5, none⟩ _ w.heap.size (by simp)).trans HB5.out, heap_setCell_same w5 (w.heap.size + 1) 5 _ _ _ HA5'.out, OwP.set_below HL5.out (q := ⟨w.heap.size + 1, 5, none⟩) (by simp) _, HP2, Ext.set' HX5.out (by simp) _⟩
            case measure => simp [intOf]; omega
        · rw [if_neg h6] at hp
          have HRR := Lib.hid (show RR = none by rw [HS.out, hp]; rfl)
          have hne : (((b.getD n 0).toNat : Int) != 6) = true := by
            simp only [bne_iff_ne, ne_eq]
            intro e
            exact h6 (UInt8.toNat.inj (by show (b.getD n 0).toNat = 6; omega))
          generalize (b.getD n 0).toNat = x0 at *
          obtain ⟨b0, b1, b2, b3, b4, b5, e0, e1, e2, e3, e4, e5⟩ := askBox hB
          have HX := Lib.hid hX
          clear hp hb0' h6 hX
          go_wp2_with fail
          refine bodyPost_ret (v := .tuple #[askV ask0 askS0, .bool false]) (by simp [results, Try.results100, go_sem, askV, ask0, askS0, *]) rfl ⟨ask0, askS0, by rw [HRR.out]; rfl, ?_, ?_⟩
          · intro a' ha
            rw [HRR.out] at ha
            cases ha
          repeat' (first | with_reducible exact HX.out | with_reducible refine Ext.set' ?_ (by simp) _ | with_reducible refine Ext.drewN' ?_ _)
    · obtain rfl : m = n := by omega
      have hp := HP.out
      rw [partsOf_nil (D := b.drop m) (by rw [List.length_drop, HLN.out]; omega)] at hp
      have HRR := Lib.hid (show RR = some ⟨20, 0, 0, [], [], done⟩ by rw [HS.out, hp]; simp)
      obtain ⟨Al, cl, rfl, -⟩ := HO.out.form
      obtain ⟨b0, b1, b2, b3, b4, b5, e0, e1, e2, e3, e4, e5⟩ := askBox hB
      have HX := Lib.hid hX
      have hnn : ¬ (m : Int) < (m : Int) := by omega
      clear hp hX
      go_wp2_with fail
      refine bodyPost_ret (v := .tuple #[askV ⟨20, 0, 0, [], [], done⟩ ⟨none, 0, 0, none, 0, 0, Al, done.length, cl⟩, .bool true]) (by simp [results, Try.results100, go_sem, askV, *]) rfl ⟨_, _, by rw [HRR.out]; rfl, fun a' ha => ⟨(by rw [HRR.out] at ha; injection ha with ha; exact ha.symm), ⟨Own.nil_ _ _ _ _, Own.nil_ _ _ _ _, ?_, by unfold i64P; simp, by unfold i64P; simp, by unfold i64P; simp⟩⟩, ?_⟩
      · refine OwP.mono (base := w.heap.size + 2) ?_ (by omega)
        repeat' (first | with_reducible exact HO.out | with_reducible refine OwP.set_below ?_ (by simp) _)
      · repeat' (first | with_reducible exact HX.out | with_reducible refine Ext.set' ?_ (by simp) _ | with_reducible refine Ext.drewN' ?_ _)

theorem said3_any (b : List UInt8) (A : Option Addr) (m c : Nat) (w : World) (hr : Rd w A m (b.map cB)) (hc : m ≤ c) (hm2 : m ≤ 17000000) (hp : codeP (b0 b : Nat)) (hs : sizedF b = 0) :
    Calls Try.prog 100 #[.slice A m c] w (RetRead w (saidF b)) := by
  have hl := hr.length
  have hz := sizedF_zero.1 hs
  have hb := codeP_cases hp
  by_cases h20 : b0 b = 20
  · refine said_file b A m c w hr hc ?_ hm2 h20
    rcases Nat.lt_or_ge m 2 with h | h
    · exfalso
      apply hz.1
      unfold sizeF
      rw [if_neg (by omega), if_pos h20, if_neg (by omega)]
    · exact h
  · by_cases h6 : b0 b ≤ 6
    · have h5 := sizeF_of5 h6
      have hm : m = 5 := by omega
      by_cases e5 : b0 b = 5
      · exact said_coil b A m c w hr hc (by omega) (by omega) e5
      · by_cases e6 : b0 b = 6
        · exact said_reg b A m c w hr hc (by omega) (by omega) e6
        · exact said_cnt b (b0 b) A m c w hr hc (by omega) (by omega) rfl (by omega) (by omega)
    · have hm : 6 ≤ m := by
        rcases Nat.lt_or_ge m 6 with h | h
        · exfalso
          apply hz.1
          unfold sizeF
          rw [if_neg h6, if_neg h20, if_neg (by omega)]
        · exact h
      by_cases e15 : b0 b = 15
      · exact said_coils b A m c w hr hc hm (by omega) e15
      · exact said_regs b A m c w hr hc hm (by omega) (by omega)
end Go.Proofs.Ytjmddiffeffgnaa
