/- The document's sink: what commands came to. (gensink4.py prints this.) -/
import Derived.Test.YtifojmmggcenkaaSinkT3
namespace Go.Proofs.Ytifojmmggcenkaa
set_option linter.unusedVariables false
set_option linter.unusedSimpArgs false
set_option maxRecDepth 100000
set_option maxHeartbeats 1000000
open Go Go.RowKit Go.Out
theorem items_id {done : List PacD} {xs : List Value} {k : Nat} (h : ∀ w, Items doneK w xs done) (hk : k < done.length) : xs[k * 6 + 3]? = some (.int .i64 (done.getD k pac0).id) := by
  have h2 := (h (default : World)).2 k done[k] (List.getElem?_eq_getElem hk)
  have h1 := (h (default : World)).1
  obtain ⟨-, -, A, c, -, he, -⟩ := h2
  have e : ((xs.drop (k * 6)).take 6)[3]? = some (.int .i64 done[k].id) := by
    show ((xs.drop (k * doneK.k)).take doneK.k)[3]? = _
    rw [he]; rfl
  rw [List.getElem?_take, if_pos (by omega), List.getElem?_drop] at e
  rw [e, List.getD_eq_getElem?_getD, List.getElem?_eq_getElem hk]; rfl
theorem rtake_four (I C N : Nat) (b : List UInt8) (A0 : Option Addr) (m c0 : Nat) (w : World) (p : Nat) (F : Nat → Prop) (rows : List (List UInt8)) (done : List PacD) (h : RefAt w p F ⟨rows, done⟩) (hr : Rd w A0 m (b.map cB)) (hc : m ≤ c0) (hm : m ≤ 140737488355300) (hN : rows.length = N) (hI : I ≤ 1099511627776) (hC : C ≤ 255) (hz : done.length ≤ 1000000) (hg : getP b = (⟨4, 0, 0, (I : Int), (C : Int), []⟩, 0)) :
    Calls Try.prog 20 #[pS p, .slice A0 m c0] w (RetTake RefAt w p F ⟨rows, if (I : Int) ∈ done.map (·.id) then done else done ++ [⟨4, 0, 0, (I : Int), (C : Int), []⟩]⟩ []) := by
  have HG := Lib.hid (rpacGet_any b A0 m c0 w hr hc hm)
  rw [hg] at HG
  have HS := Lib.hid h
  obtain ⟨A, c, v, hrow, hrows, hd, hp, hlt⟩ := h
  obtain ⟨xs, hd1, hd2, hd3⟩ := hd
  simp only [hN] at hrow
  obtain ⟨n, hn⟩ : ∃ n, done.length = n := ⟨_, rfl⟩
  simp only [hn] at hd1 hz
  have HCELL : Hid (∀ W, Ext w W → ∀ k, k < n → ∃ gB, v.ownBlock = some gB ∧ v = .slice (some ⟨gB, 0, none⟩) n (match v with | .slice _ _ c => c | _ => 0) ∧ W.cell? ⟨gB, k * 6 + 3, none⟩ = some (.int .i64 (done.getD k pac0).id)) := fun W hX k hk => by
    have hx := items_id (done := done) hd2 (k := k) (by omega)
    have h1 := ownsRow_ext hd1 hX
    rcases h1.2 with ⟨-, h0⟩ | ⟨gB, cap, cur, rfl, -, hh, -, -, -, ht⟩
    · omega
    · refine ⟨gB, rfl, rfl, ?_⟩
      rw [cell_of_row _ _ _ _ _ _ hh, ← Array.getElem?_toList]
      rw [← ht, List.getElem?_take] at hx
      split at hx
      · exact hx
      · cases hx
  obtain ⟨B, cap, rfl, -, -, -⟩ := ownsRow_slice hd1
  simp only [Value.ownBlock, Value.slice.injEq, true_and, and_true] at HCELL
  have HROW := Lib.hid hrow; have HROWS := Lib.hid hrows; have HD1 := Lib.hid hd1; have HD2 := Lib.hid hd2; have HD3 := Lib.hid hd3; have HFP := Lib.hid hp; have HLT := Lib.hid hlt
  have HN := Lib.hid hN; have HZ := Lib.hid hz; have HNN := Lib.hid hn
  have HMEM : Hid (∀ k, k < n → (done.getD k pac0).id = (I : Int) → (I : Int) ∈ done.map (·.id)) := fun k hk e => by
    rw [List.getD_eq_getElem?_getD, List.getElem?_eq_getElem (by omega)] at e
    exact List.mem_map.2 ⟨done[k]'(by omega), List.getElem_mem _, e⟩
  have HNOT : Hid ((∀ j, j < n → (done.getD j pac0).id ≠ (I : Int)) → ¬ (I : Int) ∈ done.map (·.id)) := fun hj hm => by
    obtain ⟨P, hP, e⟩ := List.mem_map.1 hm
    obtain ⟨k, hk, rfl⟩ := List.mem_iff_getElem.1 hP
    exact hj k (by omega) (by rw [List.getD_eq_getElem?_getD, List.getElem?_eq_getElem hk]; exact e)
  have HK1 := Lib.hid (fun A c (hc : c ≤ 9223372036854775807) => doneK_one I C A c hI hC hc)
  clear hr hg hrow hrows hd1 hd2 hd3 hp hlt hN hI hC hz hn
  unfold pS
  go_enter Try.func20, Try.ntmps20
  go_wp2_with fail
  refine HG.out.mono ?_
  rintro e w1 ⟨A1, n1, c1, rfl, ho, hx⟩
  simp only [pacV]
  have HBD := Lib.hid ho.body
  have X1 := Lib.hid hx
  clear ho hx HG
  go_wp2_with fail
  have HB := Lib.hid (heap_alloc_new w1 (.cells #[.int .i64 4, .int .i64 0, .int .i64 0, .int .i64 (I : Int), .int .i64 (C : Int), .slice A1 n1 c1] 32))
  have X2 := Lib.hid (X1.out.trans (Ext.alloc w1 (.cells #[.int .i64 4, .int .i64 0, .int .i64 0, .int .i64 (I : Int), .int .i64 (C : Int), .slice A1 n1 c1] 32)))
  have HBD2 := Lib.hid (HBD.out.ext (Ext.alloc w1 (.cells #[.int .i64 4, .int .i64 0, .int .i64 0, .int .i64 (I : Int), .int .i64 (C : Int), .slice A1 n1 c1] 32)))
  generalize w1.alloc (.cells #[.int .i64 4, .int .i64 0, .int .i64 0, .int .i64 (I : Int), .int .i64 (C : Int), .slice A1 n1 c1] 32) = w2 at *
  obtain ⟨q, hq⟩ : ∃ q, w1.heap.size = q := ⟨_, rfl⟩
  have hqw : w.heap.size ≤ q := by rw [← hq]; exact X1.out.size
  simp only [hq] at HB ⊢
  have HQW := Lib.hid hqw
  clear hq hqw HBD X1
  obtain rfl : n1 = 0 := by have := HBD2.out.len; simpa using this.symm
  have HC1 : Hid (c1 ≤ 9223372036854775807) := HBD2.out.capLe
  clear HBD2
  go_loopw [7] (fun i wr => ∃ k : Nat, k ≤ n ∧ i = .int .i64 (k : Int) ∧ Hid (∀ j, j < k → (done.getD j pac0).id ≠ (I : Int)) ∧ Hid (wr.heap[q]? = some (.cells #[.int .i64 4, .int .i64 0, .int .i64 0, .int .i64 (I : Int), .int .i64 (C : Int), .slice A1 0 c1] 32 (0, 0))) ∧ Hid (Ext w wr)) (fun i _ => n - (intOf i).toNat)
  case atStart => exact ⟨0, Nat.zero_le _, rfl, fun j hj => absurd hj (by omega), HB.out, X2.out⟩
  case round =>
    obtain ⟨k, hk, rfl, HJ, HB5, HX5⟩ := hrel
    have d1 : wr.cell? ⟨p, 1, none⟩ = some (.slice B n cap) := (cell_of_row _ _ _ _ _ _ (HX5.out.block HROW.out)).trans rfl
    obtain ⟨b0, b1, b2, b3, b4, b5⟩ := sixC HB5.out
    rcases Nat.lt_or_ge k n with hlt | hge
    · obtain ⟨gB, -, hgB, hcell⟩ := HCELL.out wr HX5.out k hlt
      subst hgB
      have HM := HMEM.out k hlt
      have HJ2 : Hid ((done.getD k pac0).id ≠ (I : Int) → ∀ j, j < k + 1 → (done.getD j pac0).id ≠ (I : Int)) := fun hne j hj => by
        rcases Nat.lt_or_ge j k with h | h
        · exact HJ.out j h
        · have e : j = k := by omega
          rw [e]; exact hne
      generalize (done.getD k pac0).id = J at hcell HM HJ2
      have HM2 := Lib.hid HM
      clear HM
      have i1 : (0 : Int) ≤ (k : Int) := by omega
      have i2 : (k : Int) < (n : Int) := by omega
      have i5 : IntKind.i64.wrap ((k : Int) + 1) = (k : Int) + 1 := IntWalk.i64_in _ (by have := HZ.out; omega)
      by_cases hJ : J = (I : Int)
      · have hj : (J == (I : Int)) = true := by simp [hJ]
        have HMM := Lib.hid (HM2.out hJ)
        clear hJ
        go_wp2_with fail
        go_quiet (fail)
        have X6 := Lib.hid (HX5.out.drewN' nq)
        clear b0 b1 b2 b3 b4 b5 d1 hcell
        generalize wr.drewN nq = w6 at *
        go_wp2_with fail
        go_ret
        try rw [if_pos HMM.out]
        exact ⟨F, none, 0, 0, rfl, HS.out.ext X6.out, .of_ext X6.out, fun _ => .inl, Own.nil_ _ _ _ _, by simp [blk]⟩
      · have hj : (J == (I : Int)) = false := by simp [hJ]
        have HJ3 := Lib.hid (HJ2.out hJ)
        clear hJ
        go_wp2_with fail
        go_quiet (fail)
        have X6 := Lib.hid (HX5.out.drewN' nq)
        have HB6 := Lib.hid ((Ext.drewN' (Ext.refl wr) nq).block HB5.out)
        clear b0 b1 b2 b3 b4 b5 d1 hcell
        generalize wr.drewN nq = w6 at *
        go_wp2_with fail
        go_roundw
        case rel => exact ⟨k + 1, by omega, by go_num, HJ3, HB6, X6⟩
        case measure => simp [intOf]; omega
    · have hkn : k = n := by omega
      have i2 : ¬ (k : Int) < (n : Int) := by omega
      have HNO := Lib.hid (HNOT.out (hkn ▸ HJ.out))
      clear hkn
      have XA := Lib.hid (fun o => Ext.drew' (Ext.alloc wr o))
      have HLS := Lib.hid (show (wr.alloc (.cells #[.int .i64 4, .int .i64 0, .int .i64 0, .int .i64 (I : Int), .int .i64 (C : Int), .slice A1 0 c1] 32)).drew.heap[wr.heap.size]? = some (.cells #[.int .i64 4, .int .i64 0, .int .i64 0, .int .i64 (I : Int), .int .i64 (C : Int), .slice A1 0 c1] 32 (0, 0)) from heap_alloc_new wr _)
      have BB := fun o => sixC ((Ext.alloc wr o).block HB5.out)
      have B0 := fun o => (BB o).1
      have B1 := fun o => (BB o).2.1
      have B2 := fun o => (BB o).2.2.1
      have B3 := fun o => (BB o).2.2.2.1
      have B4 := fun o => (BB o).2.2.2.2.1
      have B5 := fun o => (BB o).2.2.2.2.2
      have D1 : ∀ o, (wr.alloc o).cell? ⟨p, 1, none⟩ = some (.slice B n cap) := fun o => (cell_of_row _ _ _ _ _ _ ((HX5.out.trans (Ext.alloc wr o)).block HROW.out)).trans rfl
      have hbz := lt_of_heap HB5.out
      clear BB
      go_wp2_with fail
      go_region_law ((
        refine step_pac rfl (.tmp 44) (.tmp 46) rfl rfl (ownsRow_ext HD1.out (HX5.out.trans (XA.out _))) rfl HLS.out (by have := HZ.out; omega) ?_
        intro v6 w6 hown hgr hbk
        obtain ⟨A6, c6, rfl, -, -, -⟩ := ownsRow_slice hown
        have XV := HX5.out.trans (XA.out (.cells #[.int .i64 4, .int .i64 0, .int .i64 0, .int .i64 (I : Int), .int .i64 (C : Int), .slice A1 0 c1] 32))
        have K := addDoneR (V := (wr.alloc (.cells #[.int .i64 4, .int .i64 0, .int .i64 0, .int .i64 (I : Int), .int .i64 (C : Int), .slice A1 0 c1] 32)).drew) (F := F) (done := done) (P := ⟨4, 0, 0, (I : Int), (C : Int), []⟩) HN.out (XV.block HROW.out) (HROWS.out.ext HLT.out XV) (by rw [HNN.out]; exact ownsRow_ext HD1.out XV) HD2.out HD3.out
          HFP.out (fun k hk => Nat.lt_of_lt_of_le (HLT.out k hk) XV.size) (fun w => HK1.out A1 c1 HC1.out w) rfl (by rw [HNN.out]; exact hown) hgr hbk
        have KS : Hid (∃ F', RefAt (w6.setCell ⟨p, 1, none⟩ (.slice A6 (n + 1) c6)) p F' ⟨rows, done ++ [⟨4, 0, 0, (I : Int), (C : Int), []⟩]⟩ ∧ ∀ k, F' k → F k ∨ w.heap.size ≤ k) := ⟨_, K.1, fun k hk => by
          rcases hk with hk | hk
          · exact .inl hk
          · exact .inr (by have := XV.size; omega)⟩
        have KO : Hid (Only F w (w6.setCell ⟨p, 1, none⟩ (.slice A6 (n + 1) c6))) := (Only.of_ext (F := F) XV).trans K.2.1 (fun _ _ h => h)
        have z0 := frozen_of_row _ _ 1 _ _ K.2.2
        have z1 : w6.cell? ⟨p, 1, none⟩ = some (.slice B n cap) := (cell_of_row _ _ _ _ _ _ K.2.2).trans rfl
        have KB : Hid (w6.heap[q]? = some (.cells #[.int .i64 4, .int .i64 0, .int .i64 0, .int .i64 (I : Int), .int .i64 (C : Int), .slice A1 0 c1] 32 (0, 0))) := (hgr.block q (Nat.lt_of_lt_of_le hbz (XA.out _).size) (fun e => by
          have h1 := HLT.out q (HD3.out q e.symm); have h2 := HQW.out; omega)).trans ((XA.out _).block HB5.out)
        have b0' : (w6.setCell ⟨p, 1, none⟩ (.slice A6 (n + 1) c6)).cell? ⟨q, 0, none⟩ = some (.int .i64 4) := (sixC ((Below.heap_setCell w6 ⟨p, 1, none⟩ (.slice A6 (n + 1) c6) q (fun e => by
          have h1 := HLT.out p HFP.out; have h2 := HQW.out; simp only at e; omega)).trans KB.out)).1
        clear K XV hown hgr hbk B0 B1 B2 B3 B4 B5 D1 d1 b0 b1 b2 b3 b4 b5))
      all_goals
        clear z0 z1
        generalize w6.setCell ⟨p, 1, none⟩ (.slice A6 (n + 1) c6) = w7 at *
        go_wp2_with fail
        go_ret
        try rw [if_neg HNO.out]
        obtain ⟨F', k1, k2⟩ := KS.out
        exact ⟨F', none, 0, 0, rfl, k1, KO.out, k2, Own.nil_ _ _ _ _, by simp [blk]⟩
end Go.Proofs.Ytifojmmggcenkaa
