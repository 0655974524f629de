/- SinkOrder: how what comes is opened; the law's own rows; what a sink has is a beginning of the records. -/
import Derived.Test.YtifojmmggcenkaaSinkL
namespace Go.Out
open Go Go.RowKit
set_option linter.unusedVariables false
/-- The records: what is put ahead and cut. -/
def recF (l : List UInt8) : List UInt8 := 7 :: l.take 100
def recsF (l : List (List UInt8)) : List (List UInt8) := (l.take 40).map recF
theorem recF_len (l : List UInt8) : 1 ≤ (recF l).length ∧ (recF l).length ≤ 101 := by unfold recF; simp; omega
theorem recsF_get {l : List (List UInt8)} {k : Nat} (h : k < (recsF l).length) : 1 ≤ ((recsF l).getD k []).length ∧ ((recsF l).getD k []).length ≤ 101 := by
  rw [List.getD_eq_getElem?_getD, List.getElem?_eq_getElem h]
  have hm := List.getElem_mem h
  unfold recsF at hm
  obtain ⟨x, -, hx⟩ := List.mem_map.1 hm
  show 1 ≤ (recsF l)[k].length ∧ (recsF l)[k].length ≤ 101
  have : (recsF l)[k] = recF x := hx.symm
  rw [this]
  exact recF_len x
/-- What is no record's packet leaves the rows, and is not answered. -/
theorem takeF_other {d : SinkD} {b : List UInt8} (h : (getP b).2 ≠ 0 ∨ (getP b).1.kind ≠ 1) : (takeF d b).1.rows = d.rows ∧ (takeF d b).2 = [] := by
  by_cases he : (getP b).2 = 0
  · have hk : (getP b).1.kind ≠ 1 := by
      rcases h with h | h
      · exact absurd he h
      · exact h
    have hP := getP_eta he
    generalize (getP b).1 = P at hP hk
    rw [takeF_ok hP]
    unfold takeP sayP
    rw [if_neg hk, if_neg hk]
    split
    · split <;> exact ⟨rfl, rfl⟩
    · exact ⟨rfl, rfl⟩
  · rw [takeF_no he]; exact ⟨rfl, rfl⟩
end Go.Out
namespace Go.Proofs.Ytifojmmggcenkaa
set_option linter.unusedVariables false
set_option linter.unusedSimpArgs false
set_option maxRecDepth 100000
set_option maxHeartbeats 1000000
open Go Go.RowKit Go.ChangeShapes Go.WideShapes Go.Deep Go.Out

/-- A record's packet is taken, whatever comes of it. -/
theorem takeF_data {d : SinkD} {E S : Nat} {l : List UInt8} (h1 : 1 ≤ E) (h2 : E ≤ 1099511627776) (h3 : S < 1099511627776) (h4 : 1 ≤ l.length) (h5 : l.length ≤ 1024) :
    takeF d (putP ⟨1, E, S, 0, 0, l⟩).1 = (if S = d.rows.length then { d with rows := d.rows ++ [l] } else d, (putP (ackP E (((if S = d.rows.length then d.rows.length + 1 else d.rows.length) : Nat) : Int))).1) := by
  rw [takeF_ok (getP_putP (data_check h1 h2 h3 h4 h5)).1]
  unfold takeP sayP
  rw [if_pos rfl]
  by_cases h : S = d.rows.length
  · rw [if_pos (by simp only; omega), if_pos h, if_pos h]
    simp
  · rw [if_neg (by simp only; omega), if_neg h, if_neg h]
    simp
/-- Three cells of what comes. -/
def comeK : Kind ComeD := ⟨3, fun w cs x => ∃ A n c, cs = [.int .i64 x.epoch, .int .i64 x.seq, .slice A n c] ∧ Rd w A n (x.other.map cB) ∧ n ≤ c ∧ c ≤ 9223372036854775807, fun ⟨A, n, c, h, hr, h1, h2⟩ hx => ⟨A, n, c, h, hr.ext hx, h1, h2⟩⟩
theorem sees_come {H : Type} {enc : TypeId × Value → H} {w : World} {cs : List Value} (h : Sees enc Try.prog w 29 cs) : ∃ x : ComeD, comeK.R w cs x := by
  obtain ⟨hl, hf⟩ := sees_struct Try.underlying29 h
  rw [show Try.prog.cellsOf 29 = 3 from by kernel_rfl] at hl
  match cs, hl with
  | [v0, v1, v2], _ =>
    have h0 := hf 0 _ rfl; have h1 := hf 1 _ rfl; have h2 := hf 2 _ rfl
    obtain ⟨a0, rfl, wf0⟩ := sees_int Try.underlying3 h0
    obtain ⟨a1, rfl, wf1⟩ := sees_int Try.underlying3 h1
    obtain ⟨l, A, n, c, rfl, hr, hc, hm, hb⟩ := sees_u8s Try.underlying27 (by kernel_rfl) Try.underlying5 h2
    exact ⟨⟨a0, a1, l⟩, A, n, c, rfl, hr, hc, hm⟩
theorem sees_comes {H : Type} {enc : TypeId × Value → H} {w : World} {v : Value} (h : Sees enc Try.prog w 23 [v]) :
    ∃ (l : List ComeD) (A : Option Addr) (n c : Nat), v = .slice A n c ∧ RdL comeK w A n l ∧ n ≤ c ∧ c ≤ 9223372036854775807 :=
  sees_list ⟨0, 0, []⟩ comeK Try.underlying23 (by kernel_rfl) (by decide) (fun cs hs => sees_come hs) h
theorem comes_at {w : World} {A : Option Addr} {n k : Nat} {l : List ComeD} (h : RdL comeK w A n l) (hk : k < n) : ∃ (b off : Nat) (B : Option Addr) (m c : Nat) (x : ComeD), A = some ⟨b, off, none⟩ ∧ b < w.heap.size ∧ Rd w B m (x.other.map cB) ∧ m ≤ c ∧ c ≤ 9223372036854775807 ∧
    ∀ W, Ext w W → W.cell? ⟨b, off + k * 3, none⟩ = some (.int .i64 x.epoch) ∧ W.cell? ⟨b, off + k * 3 + 1, none⟩ = some (.int .i64 x.seq) ∧ W.cell? ⟨b, off + k * 3 + 2, none⟩ = some (.slice B m c) := by
  obtain ⟨b, off, e, hb, hl, cs, -, hc, B, m, c, rfl, hr, h1, h2⟩ := h.at_ hk
  refine ⟨b, off, B, m, c, l[k], e, hb, hr, h1, h2, fun W hX => ?_⟩
  have hcj : ∀ j v, [Value.int .i64 l[k].epoch, .int .i64 l[k].seq, .slice B m c][j]? = some v → W.cell? ⟨b, off + k * 3 + j, none⟩ = some v := fun j v hv => by
    have := hX.cell hb (hc j v hv)
    rw [show off + k * 3 + j = off + (k * comeK.k + j) from by show _ = off + (k * 3 + j); omega]
    exact this
  exact ⟨hcj 0 _ rfl, hcj 1 _ rfl, hcj 2 _ rfl⟩

/-- The law's own rows. -/
theorem rows23_any (l : List (List UInt8)) (A : Option Addr) (n c : Nat) (w : World) (hr : RdL rowK w A n l) (hc : n ≤ c) (hcm : c ≤ 9223372036854775807) :
    Calls Try.prog 8 #[.slice A n c] w (fun e w' => ∃ A' c', e = .returned (.slice A' (recsF l).length c') ∧ RowsOw w' w.heap.size A' c' (recsF l) ∧ Ext w w') := by
  have HR := Lib.hid hr
  have hl : l.length = n := hr.length
  have HN := Lib.hid hl
  have HLEN : Hid ((recsF l).length = min 40 n) := by unfold Hid recsF; simp [hl]
  clear hr hl
  go_enter Try.func8, Try.ntmps8
  go_wp2_with fail
  go_loopw [3, 4] (fun o i wr => ∃ (k : Nat) (A1 : Option Addr) (c1 : Nat), k ≤ n ∧ k ≤ 40 ∧ o = .slice A1 k c1 ∧ i = .int .i64 (k : Int) ∧ Hid (RowsOw wr w.heap.size A1 c1 ((recsF l).take k)) ∧ Hid (Ext w wr)) (fun _ i _ => n - (intOf i).toNat)
  case atStart => exact ⟨0, none, 0, Nat.zero_le _, Nat.zero_le _, rfl, rfl, RowsOw.nil_ _ _, Ext.refl _⟩
  case round =>
    obtain ⟨k, A1, c1, hk, hk40, rfl, rfl, HO, HX⟩ := hrel
    by_cases hgo : k < n ∧ k < 40
    · obtain ⟨hlt, hlt2⟩ := hgo
      obtain ⟨bk, off, B, m, cb, hA, hbk, hcell, hrb, hmb, hcb⟩ := rows_at HR.out hlt
      subst hA
      have HCL : Hid (∀ W, Ext w W → W.cell? ⟨bk, off + k, none⟩ = some (.slice B m cb)) := fun W hX => hX.cell hbk hcell
      have x0 := HCL.out _ HX.out
      have hrb := hrb.ext HX.out
      clear hcell hbk
      have i1 : (0 : Int) ≤ (k : Int) := by omega
      have i2 : (k : Int) < (n : Int) := by omega
      have i3 : (k : Int) < 40 := by omega
      have i5 : IntKind.i64.wrap ((k : Int) + 1) = (k : Int) + 1 := IntWalk.i64_in _ (by omega)
      have hcap := HO.out
      obtain ⟨rs, o1, o2, o3⟩ := HO.out
      have e1 : ((recsF l).take k).length = k := by rw [List.length_take, HLEN.out]; omega
      have hrl : ∀ s ∈ rs, ∀ g, blk s.1 = some g → g < wr.heap.size := fun s hs g hg => by
        obtain ⟨i, hi, rfl⟩ := List.mem_iff_getElem.1 hs
        have h1 : rs.length = ((recsF l).take k).length := by have := o1.len; simpa using this
        exact ((o2 i rs[i] ((recsF l).take k)[i] (List.getElem?_eq_getElem hi) (List.getElem?_eq_getElem (by omega))).lt g hg).2
      rw [e1] at o1
      have HTK : Hid ((recsF l).take (k + 1) = (recsF l).take k ++ [recF (l.getD k [])]) := by
        unfold Hid
        rw [List.take_add_one]
        congr 1
        unfold recsF
        rw [List.getElem?_map, List.getElem?_take, if_pos hlt2, List.getD_eq_getElem?_getD, List.getElem?_eq_getElem (by rw [HN.out]; exact hlt)]
        rfl
      have HRB := Lib.hid hrb; have O1 := Lib.hid o1; have O2 := Lib.hid o2; have O3 := Lib.hid o3; have E1 := Lib.hid e1; have HRL := Lib.hid hrl
      have HSZ := Lib.hid HX.out.size
      have C0 := fun o => HCL.out _ (HX.out.trans (Ext.alloc wr o))
      clear hrb o1 o2 o3 e1 hrl HO hcap
      obtain ⟨M, hM, hMm, hM2⟩ : ∃ M : Nat, M = min m 100 ∧ (M = m ∧ ¬ (100 : Int) < (m : Int) ∨ M = 100 ∧ (100 : Int) < (m : Int)) ∧ M ≤ m := ⟨min m 100, rfl, by omega, by omega⟩
      have HMM := Lib.hid hM
      have HRB2 : Hid (Rd wr B M (((l.getD k []).take 100).map cB)) := by
        have := (HRB.out.take hM2)
        rw [← List.map_take] at this
        have e : (l.getD k []).take M = (l.getD k []).take 100 := by
          have h2 := HRB.out.length
          rw [List.take_eq_take_iff, h2]; omega
        rwa [e] at this
      clear hM
      have hMc : (M : Int) ≤ (cb : Int) := by omega
      have hM100 : M ≤ 100 := by omega
      have HE1 := Lib.hid (show Own ((wr.alloc (.cells #[.int .u8 7] 5)).drew) wr.heap.size 5 IsU8 (some ⟨wr.heap.size, 0, none⟩) 1 1 (([7] : List UInt8).map cB) from (Own.first wr wr.heap.size (Nat.le_refl _) 7 7 rfl).drew)
      have XA := Lib.hid (fun o => Ext.drew' (Ext.alloc wr o))
      have fmin : (if (100 : Int) < (m : Int) then (100 : Int) else (m : Int)) = (M : Int) := by
        rcases hMm with ⟨e, h⟩ | ⟨e, h⟩
        · rw [if_neg h, e]
        · rw [if_pos h, e]; rfl
      have f0 : (0 : Int) ≤ (M : Int) := by omega
      clear hMm hM2
      have HM100 := Lib.hid hM100
      clear hM100
      all_goals
        go_wp2_with fail
        go_region_held3 (fun W => W.cell? ⟨bk, off + k, none⟩ = some (.slice B m cb)) (first | go_keep | exact C0 _ | exact HCL.out _ (HX.out.trans X2.out) | exact HCL.out _ KX.out) ((first
              | (refine step_u8 (base := wr.heap.size) rfl (.tmp 16) (.tmp 27) rfl rfl HE1.out rfl (HRB2.out.ext (XA.out _)) isU8_map (by have := HM100.out; omega) (XA.out _).size ?_
                 intro A2 c2 w2 hown hg hbk2
                 have X2 := Lib.hid ((XA.out (.cells #[.int .u8 7] 5)).grown' hg (fun g hg => (HE1.out.lt g hg).1))
                 rw [← List.map_append] at hown
                 have HO2 := Lib.hid hown
                 clear hown hg hbk2)
              | (refine step_sl (base := w.heap.size) rfl (.tmp 15) (.tmp 29) rfl rfl (O1.out.ext (X2.out.trans (Ext.alloc _ _))) rfl (Rd.one w2 27 (.slice A2 (1 + M) c2)) (by intro u hu; simp at hu; subst hu; exact ⟨_, _, _, rfl⟩) (M := k + 1) rfl (by omega) (Nat.le_trans HSZ.out (X2.out.trans (Ext.alloc w2 (.cells #[.slice A2 (1 + M) c2] 27))).size) ?_
                 intro A3 c3 w3 hown hg hbk3
                 have X23 := X2.out.trans (Ext.alloc w2 (.cells #[.slice A2 (1 + M) c2] 27))
                 have KO := RowsOw.app (rows := (recsF l).take k) (t := (A2, 1 + M, c2)) (l := recF (l.getD k [])) (by rw [E1.out]; exact O1.out.ext X23) (fun i t l ht hl => (O2.out i t l ht hl).ext X23) O3.out
                   ((HO2.out.ext (Ext.alloc _ _)).mono HSZ.out) (fun s hs g h1 h2 => by have := HRL.out s hs g h1; have := (HO2.out.lt g h2).1; omega) (by rw [E1.out]; exact hown) hg
                 rw [← HTK.out] at KO
                 have KR := Lib.hid KO
                 have KX := Lib.hid ((HX.out.trans X23).grown' hg (fun g hg => (O1.out.lt g hg).1))
                 clear hown hg hbk3 X23 KO)
              | fail "no append"))
        all_goals
          go_wp2_with fail
          go_roundw
          case rel => exact ⟨k + 1, A3, c3, by omega, by omega, rfl, by go_num, KR, KX⟩
          case measure => simp [intOf]; omega
    · have hkn : k = min 40 n := by omega
      have HF : Hid (RowsOw wr w.heap.size A1 c1 (recsF l)) := by
        have := HO.out
        rwa [List.take_of_length_le (by rw [HLEN.out]; omega)] at this
      have hl2 : (recsF l).length = k := by rw [HLEN.out]; exact hkn.symm
      have hgo2 : ¬ (k : Int) < (n : Int) ∨ ((k : Int) < (n : Int) ∧ ¬ (k : Int) < 40) := by omega
      have HL2 := Lib.hid hl2
      clear HO hkn hgo hl2
      rcases hgo2 with hg | ⟨hg, hg2⟩
      all_goals
        go_wp2_with fail
        go_ret
        exact ⟨A1, c1, by rw [HL2.out]; rfl, HF.out, HX.out⟩
end Go.Proofs.Ytifojmmggcenkaa
