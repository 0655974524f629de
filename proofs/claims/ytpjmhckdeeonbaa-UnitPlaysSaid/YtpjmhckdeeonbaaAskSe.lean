/- Contract of the reference's said: coils. -/
import Derived.Test.YtpjmhckdeeonbaaAskSd
import Derived.Test.YtpjmhckdeeonbaaBitBack
import Derived.Test.YtpjmhckdeeonbaaAskP5
import Derived.Deep.RegionLaw
namespace Go.Out
set_option linter.unusedVariables false
open Go Go.RowKit
theorem spare_bits (D : List UInt8) (n : Nat) (hl : D.length = need n) : bitsF ((List.range n).map (ubit D)) = D ↔ spare D n = false := by
  constructor
  · intro h
    cases hs : spare D n with
    | false => rfl
    | true =>
      exfalso
      unfold spare at hs
      simp only [List.any_eq_true, List.mem_range, Bool.and_eq_true, decide_eq_true_eq] at hs
      obtain ⟨i, hi, hn, hu⟩ := hs
      rw [← h] at hu
      unfold bitsF at hu
      rw [List.length_map, List.length_range, ubit_bits _ _ _ (by omega)] at hu
      rw [List.getD_eq_getElem?_getD, List.getElem?_eq_none (by simpa using hn)] at hu
      simp at hu
  · exact fun h => bits_unbits D n hl h
end Go.Out
namespace Go.Proofs.Ytpjmhckdeeonbaa
set_option linter.unusedVariables false
set_option linter.unusedSimpArgs false
set_option maxRecDepth 100000
set_option maxHeartbeats 2000000
open Go Go.RowKit Go.Out

theorem info_bo3 : (Try.prog.info? 4).map (fun i => (i.zero, i.size, i.bytes)) = some (some (.bool false), 1, 1) := by kernel_rfl
theorem step_bo {ops : Array Oper} {o : Oper} {a : Act} {w : World} {K : Act → World → Prop} {Q : Exit → Act → World → Prop} {E : Prop} (hgd : o.guard = none) (s x : Operand)
    (ho : o.op = .call { callee := .builtin .append, args := #[s, x], argTypes := #[22, 22] })
    {base : Nat} {A : Option Addr} {n c : Nat} {xs : List Value} (hs : a.eval s = .slice A n c) (hown : Own w base 4 IsBo A n c xs)
    {A' : Option Addr} {m c' : Nat} {news : List Value} (hx : a.eval x = .slice A' m c') (hr : Rd w A' m news) (hnp : ∀ u ∈ news, IsBo u) (hsz : n + m ≤ 140737488355328) (hbase : base ≤ w.heap.size)
    (h : ∀ A1 c1 w1, Own w1 base 4 IsBo A1 (n + m) c1 (xs ++ news) → w.grownBy w1 (blk A) → (blk A1 = blk A ∨ blk A1 = some w.heap.size) → K (a.put o.dst (.slice A1 (n + m) c1)) w1) :
    if Region.wanted o (yielded ops a.tmps) = true then Oper.wp Try.prog o a w K Q else E :=
  step_append_Own hgd s x _ ho IsBo base _ (.bool false) 1 Try.underlying22 info_bo3 rfl ⟨false, rfl⟩ (fun u hu => by obtain ⟨b, rfl⟩ := hu; rfl) A n c xs hs hown A' m c' news hx hr hnp (by omega) (by omega) hbase h
theorem askBox {W : World} {g : Nat} {v0 v1 v2 v3 v4 v5 : Value} (h : W.heap[g]? = some (.cells #[v0, v1, v2, v3, v4, v5] 26 (0, 0))) :
    W.cell? ⟨g, 0, none⟩ = some v0 ∧ W.cell? ⟨g, 1, none⟩ = some v1 ∧ W.cell? ⟨g, 2, none⟩ = some v2 ∧ W.cell? ⟨g, 3, none⟩ = some v3 ∧ W.cell? ⟨g, 4, none⟩ = some v4 ∧ W.cell? ⟨g, 5, none⟩ = some v5 ∧
    W.frozen? ⟨g, 0, none⟩ = false ∧ W.frozen? ⟨g, 1, none⟩ = false ∧ W.frozen? ⟨g, 2, none⟩ = false ∧ W.frozen? ⟨g, 3, none⟩ = false ∧ W.frozen? ⟨g, 4, none⟩ = false ∧ W.frozen? ⟨g, 5, none⟩ = false :=
  ⟨(cell_of_row _ _ _ _ _ _ h).trans rfl, (cell_of_row _ _ _ _ _ _ h).trans rfl, (cell_of_row _ _ _ _ _ _ h).trans rfl, (cell_of_row _ _ _ _ _ _ h).trans rfl, (cell_of_row _ _ _ _ _ _ h).trans rfl, (cell_of_row _ _ _ _ _ _ h).trans rfl,
   frozen_of_row _ _ _ _ _ h, frozen_of_row _ _ _ _ _ h, frozen_of_row _ _ _ _ _ h, frozen_of_row _ _ _ _ _ h, frozen_of_row _ _ _ _ _ h, frozen_of_row _ _ _ _ _ h⟩

theorem said_coils (b : List UInt8) (A : Option Addr) (m c : Nat) (w : World) (hr : Rd w A m (b.map cB)) (hc : m ≤ c) (hm : 6 ≤ m) (hm2 : m ≤ 17000000000) (hk : b0 b = 15) :
    Calls Try.prog 128 #[.slice A m c] w (RetRead w (saidF b)) := by
  have hs : saidF b = if (unbitsF (b.drop 6) (at2 b 3 : Nat)).2 = 0 then some ⟨15, (at2 b 1 : Nat), 0, (unbitsF (b.drop 6) (at2 b 3 : Nat)).1, [], []⟩ else none := by
    unfold saidF
    rw [hk, if_neg (by omega), if_neg (by omega), if_neg (by omega), if_pos rfl]
  rw [hs]
  clear hs
  have HA1 := Lib.hid (fun (W : World) (hX : Ext w W) => at3_dr b A m c 1 W (hr.ext hX) (by omega) (by omega))
  have HA3 := Lib.hid (fun (W : World) (hX : Ext w W) => at3_dr b A m c 3 W (hr.ext hX) (by omega) (by omega))
  have hl1 := at2_lt b 1
  have hl3 := at2_lt b 3
  have hlen := hr.length
  generalize at2 b 1 = F at *
  generalize at2 b 3 = R at *
  obtain ⟨bk, off, rfl, hbk, hcell⟩ := hr.u8all (by omega)
  have g0 := hcell 0 (by omega)
  rw [Nat.add_zero, show (b.getD 0 0).toNat = 15 from hk] at g0
  have hcD : ∀ j, j < m - 6 → w.cell? ⟨bk, off + (6 + j), none⟩ = some (.int .u8 (((b.drop 6).getD j 0).toNat : Int)) := fun j hj => by
    have := hcell (6 + j) (by omega)
    rw [show (b.drop 6).getD j 0 = b.getD (6 + j) 0 by rw [List.getD_eq_getElem?_getD, List.getD_eq_getElem?_getD, List.getElem?_drop]]
    exact this
  have hlD : (b.drop 6).length = m - 6 := by rw [List.length_drop, hlen]
  generalize b.drop 6 = D at *
  have HCD := Lib.hid hcD
  have HLD := Lib.hid hlD
  clear hcell hk hr hlen hcD hlD
  have i0 : 0 < m := by omega
  have hdr := drewN_set
  have hn1 : IntKind.i64.wrap ((m : Int) - 6) = (m : Int) - 6 := IntWalk.i64_in _ (by omega)
  have hn2 : IntKind.i64.wrap ((R : Int) + 7) = (R : Int) + 7 := IntWalk.i64_in _ (by omega)
  by_cases hN : m - 6 = need R
  · have hlD2 : D.length = need R := HLD.out.trans hN
    have hun : unbitsF D (R : Int) = if spare D R then ([], 4) else ((List.range R).map (ubit D), 0) := unbits_mid D R hlD2
    have HS : Hid ((if (unbitsF D (R : Int)).2 = 0 then some (⟨15, (F : Nat), 0, (unbitsF D (R : Int)).1, [], []⟩ : AskD) else none).isSome = decide (bitsF ((List.range R).map (ubit D)) = D)) := by
      unfold Hid
      rw [hun]
      have hsp := spare_bits D R hlD2
      cases hsb : spare D R <;> simp [hsb] at hsp ⊢ <;> simp [hsp]
    have HS2 : Hid (∀ a', (if (unbitsF D (R : Int)).2 = 0 then some (⟨15, (F : Nat), 0, (unbitsF D (R : Int)).1, [], []⟩ : AskD) else none) = some a' → a' = ⟨15, (F : Nat), 0, (List.range R).map (ubit D), [], []⟩) := by
      intro a' h
      rw [hun] at h
      cases hsb : spare D R <;> simp [hsb] at h
      exact h.symm
    generalize (if (unbitsF D (R : Int)).2 = 0 then some (⟨15, (F : Nat), 0, (unbitsF D (R : Int)).1, [], []⟩ : AskD) else none) = RR at *
    clear hun hlD2
    have hne : ((m : Int) - 6 != ((R : Int) + 7) / 8) = false := by unfold need at hN; simp; omega
    go_enter Try.func128, Try.ntmps128
    go_wp2_with fail
    refine (HA1.out _ (Ext.two _ _ _)).mono ?_
    rintro e w1 ⟨rfl, d1, rfl⟩
    go_wp2_with fail
    refine (HA3.out _ (Ext.drewN' (Ext.two _ _ _) _)).mono ?_
    rintro e w3 ⟨rfl, d3, rfl⟩
    go_wp2_with fail
    go_loopw [7] (fun i wr => ∃ (k : Nat) (A4 : Option Addr) (c4 : Nat), k ≤ R ∧ i = .int .i64 (k : Int) ∧ wr.heap[w.heap.size]? = some (.cells #[.int .i64 0, .int .i64 0, .int .i64 0, .slice none 0 0, .slice none 0 0, .slice none 0 0] 26 (0, 0)) ∧ wr.heap[w.heap.size + 1]? = some (.cells #[.int .i64 15, .int .i64 (F : Int), .int .i64 0, .slice A4 k c4, .slice none 0 0, .slice none 0 0] 26 (0, 0)) ∧ Hid (Own wr (w.heap.size + 2) 4 IsBo A4 k c4 (((List.range k).map (ubit D)).map cL)) ∧ Ext w wr) (fun i _ => R - (intOf i).toNat)
    case atStart => exact ⟨0, none, 0, Nat.zero_le _, rfl, (Ext.alloc _ _).block (heap_alloc_new w _), heap_at _ _ _ (by simp), Own.nil_ _ _ _ _, Ext.drewN' (Ext.two _ _ _) _⟩
    case round =>
      obtain ⟨k, A4, c4, hk, rfl, hB, hA, HO, hX⟩ := hrel
      obtain ⟨a0, a1, a2, a3, a4, a5, f0, f1, f2, f3, f4, f5⟩ := askBox hA
      rcases Nat.lt_or_ge k R with hlt | hge
      · have hkN : k / 8 < m - 6 := by unfold need at hN; omega
        have hby := hX.cell hbk (HCD.out _ hkN)
        have hu : (((((D.getD (k / 8) 0).toNat : Nat) : Int) / 2 ^ (k % 8)).tmod 2 == 1) = ubit D k := by
          unfold ubit
          rw [show (((D.getD (k / 8) 0).toNat : Nat) : Int) / 2 ^ (k % 8) = (((D.getD (k / 8) 0).toNat / 2 ^ (k % 8) : Nat) : Int) by simp, Int.tmod_eq_emod_of_nonneg (Int.natCast_nonneg _), Bool.eq_iff_iff, beq_iff_eq, decide_eq_true_eq]
          omega
        have hx8 := (D.getD (k / 8) 0).toNat_lt
        generalize (D.getD (k / 8) 0).toNat = x at *
        have e8 : min (IntKind.u64.wrap ((k : Int) % 8)).toNat 8 = k % 8 := by rw [IntKind.wrap_u64]; omega
        have e1 : IntKind.i64.wrap ((k : Int) / 8) = (k : Int) / 8 := IntWalk.i64_in _ (by omega)
        have e1' : IntKind.i64.wrap (6 + (k : Int) / 8) = 6 + (k : Int) / 8 := IntWalk.i64_in _ (by omega)
        have e2 : 0 ≤ 6 + (k : Int) / 8 := by omega
        have e3 : 6 + (k : Int) / 8 < (m : Int) := by omega
        have e4 : (6 + (k : Int) / 8).toNat = 6 + k / 8 := by omega
        have e5 : (k : Int).tmod 8 = (k : Int) % 8 := Int.tmod_eq_emod_of_nonneg (by omega)
        have e6 : 0 ≤ (k : Int) % 8 := by omega
        have e7 : ((k : Int) % 8).toNat = k % 8 := by omega
        go_wp2_with fail
        have hz1 : w.heap.size + 1 < wr.heap.size := lt_of_heap hA
        have hz0 : w.heap.size < wr.heap.size := lt_of_heap hB
        have hbr : bk < wr.heap.size := Nat.lt_of_lt_of_le hbk hX.size
        have HA := Lib.hid hA; have HB := Lib.hid hB; have HX := Lib.hid hX
        clear hA hB hX
        have HRow := Lib.hid (show Rd (wr.alloc (.cells #[.bool (ubit D k)] 4)).drew (some ⟨wr.heap.size, 0, none⟩) 1 [.bool (ubit D k)] from Rd.one wr _ _)
        have XA := Lib.hid (fun o => Ext.drew' (Ext.alloc wr o))
        go_region_law ((
          refine step_bo (base := w.heap.size + 2) rfl (.tmp 101) (.tmp 114) rfl rfl (HO.out.ext (XA.out _)) rfl HRow.out (by intro u hu; simp at hu; subst hu; exact ⟨_, rfl⟩) (by omega) (Nat.le_trans (by omega) (XA.out _).size) ?_
          intro A7 c7 w5 hown hg hbk7
          have hA5 : w5.heap[w.heap.size + 1]? = some (.cells #[.int .i64 15, .int .i64 (F : Int), .int .i64 0, .slice A4 k c4, .slice none 0 0, .slice none 0 0] 26 (0, 0)) := (hg.block _ (Nat.lt_of_lt_of_le hz1 (XA.out _).size) (fun e => by have := (HO.out.lt _ e.symm).1; omega)).trans ((XA.out _).block HA.out)
          have hB5 : w5.heap[w.heap.size]? = some (.cells #[.int .i64 0, .int .i64 0, .int .i64 0, .slice none 0 0, .slice none 0 0, .slice none 0 0] 26 (0, 0)) := (hg.block _ (Nat.lt_of_lt_of_le hz0 (XA.out _).size) (fun e => by have := (HO.out.lt _ e.symm).1; omega)).trans ((XA.out _).block HB.out)
          have hx5 : Ext w w5 := (HX.out.trans (XA.out _)).grown' hg (fun g hg => by have := (HO.out.lt g hg).1; omega)
          have hby5 := hx5.cell hbk (HCD.out _ hkN)
          obtain ⟨-, -, -, b3, -, -, -, -, -, g3, -, -⟩ := askBox hA5
          have HA5 := Lib.hid hA5; have HB5 := Lib.hid hB5; have HX5 := Lib.hid hx5; have HO5 := Lib.hid hown
          clear hA5 hB5 hx5 hown hg hbk7))
        all_goals
          go_wp2_with fail
          go_roundw
          case rel => exact ⟨k + 1, A7, c7, by omega, by go_num, (Below.heap_setCell w5 ⟨w.heap.size + 1, 3, none⟩ _ w.heap.size (by simp)).trans HB5.out, heap_setCell_same w5 (w.heap.size + 1) 3 _ _ _ HA5.out, by unfold Hid; rw [List.range_succ, List.map_append, List.map_append]; exact HO5.out.set_below (q := ⟨w.heap.size + 1, 3, none⟩) (by simp) _, Ext.set' HX5.out (by simp) _⟩
          case measure => simp [intOf]; omega
      · obtain rfl : R = k := by omega
        have HL := Lib.hid (show ((List.range R).map (ubit D)).length = R by simp)
        generalize (List.range R).map (ubit D) = L at *
        have Hbl := Lib.hid (show (bitsF L).length = need R by rw [bitsF_length, HL.out])
        go_wp2_with fail
        refine (packed3_any L _ _ _ _ HO.out.rd (by omega)).mono ?_
        rintro e w6 ⟨AP, cP, rfl, hoP, hbP⟩
        have hx6 := Ext.of hbP
        have HB6 := Lib.hid (hx6.block hB)
        have HA6 := Lib.hid (hx6.block hA)
        have HO6 := Lib.hid (HO.out.ext hx6)
        have HX6 := Lib.hid (hX.trans hx6)
        have HP := Lib.hid hoP
        clear a0 a1 a2 a3 a4 a5 f0 f1 f2 f3 f4 f5 hA hB hx6 hbP hoP HO hX
        generalize bitsF L = P at *
        have hNm : need R ≤ m - 6 := by omega
        have hNb : need R ≤ 9000 := by unfold need; omega
        have HN := Lib.hid hN
        clear hN hne hn2
        generalize need R = N at *
        go_wp2_with fail
        go_loopw [9] (fun i wr => ∃ (k d : Nat), k ≤ N ∧ i = .int .i64 (k : Int) ∧ Hid (∀ j, j < k → P.getD j 0 = D.getD j 0) ∧ wr = w6.drewN d) (fun i _ => N - (intOf i).toNat)
        case atStart => exact ⟨0, 0, Nat.zero_le _, rfl, fun j hj => absurd hj (by omega), rfl⟩
        case round =>
          obtain ⟨k, d, hk2, rfl, HE, rfl⟩ := hrel
          rcases Nat.lt_or_ge k N with hlt | hge2
          · obtain ⟨bp, op, rfl, hbp, hcp⟩ := HP.out.rd.u8all (by omega)
            have c1 := hcp k hlt
            have c2 := HX6.out.cell hbk (HCD.out k (by omega))
            have hi1 : IntKind.i64.wrap (6 + (k : Int)) = 6 + (k : Int) := IntWalk.i64_in _ (by omega)
            have hi2 : 0 ≤ 6 + (k : Int) := by omega
            have hi3 : 6 + (k : Int) < (m : Int) := by omega
            have hi4 : (6 + (k : Int)).toNat = 6 + k := by omega
            have hi5 : (0 : Int) ≤ (k : Int) := by omega
            have hi6 : (k : Int) < (N : Int) := by omega
            have HXY := Lib.hid (show ((P.getD k 0).toNat = (D.getD k 0).toNat ↔ P.getD k 0 = D.getD k 0) from UInt8.toNat_inj)
            generalize hpx : (P.getD k 0).toNat = x at *
            generalize hdy : (D.getD k 0).toNat = y at *
            clear hpx hdy hcp
            by_cases hxy : x = y
            · have HE2 := Lib.hid (HXY.out.1 hxy)
              subst hxy
              have hb : ((x : Int) != (x : Int)) = false := by simp
              have HE3 : Hid (∀ j, j < k + 1 → P.getD j 0 = D.getD j 0) := by
                intro j hj
                rcases Nat.lt_or_ge j k with h | h
                · exact HE.out j h
                · obtain rfl : j = k := by omega
                  exact HE2.out
              go_wp2_with fail
              go_quiet (fail)
              go_wp2_with fail
              go_roundw
              case rel => exact ⟨k + 1, _, by omega, by go_num, HE3, rfl⟩
              case measure => simp [intOf]; omega
            · have hb : ((x : Int) != (y : Int)) = true := by simp; omega
              have HNE := Lib.hid (fun e => hxy (HXY.out.2 e))
              clear hxy
              obtain ⟨b0, b1, b2, b3, b4, b5, g0, g1, g2, g3, g4, g5⟩ := askBox HB6.out
              go_wp2_with fail
              go_quiet (fail)
              go_wp2_with fail
              have hRR : RR.isSome = false := by rw [HS.out]; simp only [decide_eq_false_iff_not]; intro e; exact HNE.out (by rw [e])
              refine bodyPost_ret (v := .tuple #[askV ask0 askS0, .bool false]) (by simp [results, Try.results128, go_sem, askV, ask0, askS0, *]) rfl ⟨ask0, askS0, by rw [hRR], ?_, ?_⟩
              · intro a' ha
                rw [ha] at hRR
                cases hRR
              repeat' (first | with_reducible exact HX6.out | with_reducible refine Ext.set' ?_ (by simp) _ | with_reducible refine Ext.drewN' ?_ _)
          · obtain rfl : N = k := by omega
            obtain ⟨a0, a1, a2, a3, a4, a5, f0, f1, f2, f3, f4, f5⟩ := askBox HA6.out
            obtain ⟨b0, b1, b2, b3, b4, b5, g0, g1, g2, g3, g4, g5⟩ := askBox HB6.out
            have hPD : P = D := List.ext_getElem (by rw [Hbl.out, HLD.out, HN.out]) (fun i h1 h2 => by
              have := HE.out i (by rw [Hbl.out] at h1; exact h1)
              rwa [List.getD_eq_getElem?_getD, List.getD_eq_getElem?_getD, List.getElem?_eq_getElem h1, List.getElem?_eq_getElem h2] at this)
            have hRR := Lib.hid (show RR.isSome = true by rw [HS.out]; simpa using hPD)
            clear hPD
            go_wp2_with fail
            refine bodyPost_ret (v := .tuple #[askV ⟨15, (F : Nat), 0, L, [], []⟩ ⟨A4, R, c4, none, 0, 0, none, 0, 0⟩, .bool true]) (by simp [results, Try.results128, go_sem, askV, *]) rfl ⟨_, _, by rw [hRR.out], fun a' ha => ⟨HS2.out a' ha, ⟨?_, Own.nil_ _ _ _ _, OwP.nil_ _ _, by unfold i64P; simp, by unfold i64P; simp; omega, by unfold i64P; simp⟩⟩, ?_⟩
            · refine Own.mono (base := w.heap.size + 2) ?_ (by omega)
              repeat' (first | with_reducible exact HO6.out | with_reducible refine Own.set_below ?_ (by simp) _ | with_reducible refine Own.drewN ?_ _)
            · repeat' (first | with_reducible exact HX6.out | with_reducible refine Ext.set' ?_ (by simp) _ | with_reducible refine Ext.drewN' ?_ _)
  · have hne : ((m : Int) - 6 != ((R : Int) + 7) / 8) = true := by unfold need at hN; simp; omega
    have hun : (unbitsF D (R : Int)).2 = 22 := by
      unfold unbitsF
      rw [if_neg (by omega), if_pos (by rw [HLD.out]; simpa using hN)]
    rw [show (if (unbitsF D (R : Int)).2 = 0 then some (⟨15, (F : Nat), 0, (unbitsF D (R : Int)).1, [], []⟩ : AskD) else none) = none by rw [if_neg (by omega)]]
    go_enter Try.func128, Try.ntmps128
    go_wp2_with fail
    refine (HA1.out _ (Ext.two _ _ _)).mono ?_
    rintro e w1 ⟨rfl, d1, rfl⟩
    go_wp2_with fail
    refine (HA3.out _ (Ext.drewN' (Ext.two _ _ _) _)).mono ?_
    rintro e w3 ⟨rfl, d3, rfl⟩
    go_wp2_with fail
    refine bodyPost_ret (v := .tuple #[askV ask0 askS0, .bool false]) (by simp [results, Try.results128, go_sem, askV, ask0, askS0]) rfl ⟨ask0, askS0, rfl, fun a' ha => (by cases ha), ?_⟩
    exact Ext.drewN' (Ext.two _ _ _) _
end Go.Proofs.Ytpjmhckdeeonbaa
