/- Contract of packet.Get, whole; are two packets the same. -/
import Derived.Test.YtjmddiffeffgnaaPac4c
import Derived.Test.YtjmddiffeffgnaaPac4d
import Derived.Test.YtjmddiffeffgnaaAskP6
namespace Go.Proofs.Ytjmddiffeffgnaa
set_option linter.unusedVariables false
set_option linter.unusedSimpArgs false
set_option maxRecDepth 100000
set_option maxHeartbeats 2000000
open Go Go.RowKit Go.Out

theorem pacGet_any (b : List UInt8) (A : Option Addr) (m c : Nat) (w : World) (hr : Rd w A m (b.map cB)) (hc : m ≤ c) (hm : m ≤ 140737488355300) :
    Calls Try.prog 34 #[.slice A m c] w (RetGP w (getP b)) := by
  have hl := hr.length
  unfold getP
  by_cases h5 : b.length < 5
  · rw [if_pos h5]; exact pget_short A m c w (by omega)
  · rw [if_neg h5]
    by_cases he : (openF 4 (more32 0) b).2 ≠ 0
    · rw [if_pos he]; exact pget_open b A m c w hr hc hm (by omega) he
    · rw [if_neg he]
      have he0 : (openF 4 (more32 0) b).2 = 0 := by simpa using he
      have hs := openF_zero he0
      have ho : openF 4 (more32 0) b = ((openF 4 (more32 0) b).1, 0) := by rw [← he0]
      have hin : 1 ≤ (openF 4 (more32 0) b).1.length := by
        have := congrArg List.length hs
        rw [sealF_length] at this
        omega
      generalize (openF 4 (more32 0) b).1 = inn at *
      unfold inP
      by_cases hk : ¬ (1 ≤ kindN inn ∧ kindN inn ≤ 4)
      · rw [if_pos hk]; exact pget_kind (kindN inn) b inn A m c w hr hc hm (by omega) ho hin rfl (by omega)
      · rw [if_neg hk]
        have hks : kindN inn = 1 ∨ kindN inn = 2 ∨ kindN inn = 3 ∨ kindN inn = 4 := by omega
        rcases hks with hk1 | hk1 | hk1 | hk1
        · have e : readP inn = ⟨1, numAt inn 1, numAt inn 9, 0, 0, inn.drop 17⟩ := by unfold readP; rw [hk1, if_pos rfl]
          rw [e, hk1]
          by_cases hh : inn.length < 17
          · rw [if_pos (by simpa [headN] using hh)]; exact pget_few1 b inn A m c w hr hc hm (by omega) ho hin hk1 hh
          · rw [if_neg (by simpa [headN] using hh), if_neg (by simp [fullP])]
            exact pget_k1 b inn A m c w hr hc hm (by omega) ho hin hk1 (by omega)
        · have e : readP inn = ⟨2, numAt inn 1, numAt inn 9, 0, 0, []⟩ := by unfold readP; rw [hk1, if_neg (by omega), if_pos rfl]
          rw [e, hk1]
          by_cases hh : inn.length < 17
          · rw [if_pos (by simpa [headN] using hh)]; exact pget_few2 b inn A m c w hr hc hm (by omega) ho hin hk1 hh
          · rw [if_neg (by simpa [headN] using hh)]
            by_cases hh2 : 17 < inn.length
            · rw [if_pos (by simpa [headN, fullP] using hh2)]; exact pget_long2 b inn A m c w hr hc hm (by omega) ho hin hk1 hh2
            · rw [if_neg (by simp [headN, fullP]; omega)]; exact pget_k2 b inn A m c w hr hc hm (by omega) ho hin hk1 (by omega)
        · have e : readP inn = ⟨3, 0, 0, numAt inn 1, 0, inn.drop 9⟩ := by unfold readP; rw [hk1, if_neg (by omega), if_neg (by omega), if_pos rfl]
          rw [e, hk1]
          by_cases hh : inn.length < 9
          · rw [if_pos (by simpa [headN] using hh)]; exact pget_few3 b inn A m c w hr hc hm (by omega) ho hin hk1 hh
          · rw [if_neg (by simpa [headN] using hh), if_neg (by simp [fullP])]
            exact pget_k3 b inn A m c w hr hc hm (by omega) ho hin hk1 (by omega)
        · have e : readP inn = ⟨4, 0, 0, numAt inn 1, ((inn.getD 9 0).toNat : Int), []⟩ := by unfold readP; rw [hk1, if_neg (by omega), if_neg (by omega), if_neg (by omega)]
          rw [e, hk1]
          by_cases hh : inn.length < 10
          · rw [if_pos (by simpa [headN] using hh)]; exact pget_few4 b inn A m c w hr hc hm (by omega) ho hin hk1 hh
          · rw [if_neg (by simpa [headN] using hh)]
            by_cases hh2 : 10 < inn.length
            · rw [if_pos (by simpa [headN, fullP] using hh2)]; exact pget_long4 b inn A m c w hr hc hm (by omega) ho hin hk1 hh2
            · rw [if_neg (by simp [headN, fullP]; omega)]; exact pget_k4 b inn A m c w hr hc hm (by omega) ho hin hk1 (by omega)

/-- Two packets that are the same. -/
theorem samePac_eq (p : PacD) (A B : Option Addr) (n m ca cb : Nat) (w : World) (ha : PacRd w p A n ca) (hb : PacRd w p B m cb) : Calls Try.prog 20 #[pacV p A n ca, pacV p B m cb] w (RetQ w true) := by
  have hn := ha.cap
  have HA := Lib.hid ha.body; have HB := Lib.hid hb.body
  clear ha hb
  obtain ⟨k, e, s, i, c, l⟩ := p
  simp only [pacV] at HA HB ⊢
  go_enter Try.func20, Try.ntmps20
  go_wp2_with fail
  refine (same_any l l _ _ _ _ _ _ _ (HA.out.ext (Ext.duo _ _ _)) (HB.out.ext (Ext.duo _ _ _)) (by unfold maxLen; omega)).mono ?_
  rintro e' w1 ⟨rfl, hb1⟩
  rw [decide_eq_true rfl]
  go_wp2_with fail
  go_ret
  exact ⟨rfl, (Ext.duo _ _ _).trans (Ext.of hb1)⟩
end Go.Proofs.Ytjmddiffeffgnaa

namespace Go.Out
set_option linter.unusedVariables false
open Go Go.RowKit
theorem box8 {W : World} {g : Nat} {t : TypeId} {v0 v1 v2 v3 v4 v5 v6 v7 : Value} (h : W.heap[g]? = some (.cells #[v0, v1, v2, v3, v4, v5, v6, v7] t (0, 0))) :
    W.cell? ⟨g, 0, none⟩ = some v0 ∧ W.cell? ⟨g, 1, none⟩ = some v1 ∧ W.cell? ⟨g, 2, none⟩ = some v2 ∧ W.cell? ⟨g, 3, none⟩ = some v3 ∧ W.cell? ⟨g, 4, none⟩ = some v4 ∧ W.cell? ⟨g, 5, none⟩ = some v5 ∧ W.cell? ⟨g, 6, none⟩ = some v6 ∧ W.cell? ⟨g, 7, none⟩ = some v7 :=
  ⟨(cell_of_row _ _ _ _ _ _ h).trans rfl, (cell_of_row _ _ _ _ _ _ h).trans rfl, (cell_of_row _ _ _ _ _ _ h).trans rfl, (cell_of_row _ _ _ _ _ _ h).trans rfl, (cell_of_row _ _ _ _ _ _ h).trans rfl, (cell_of_row _ _ _ _ _ _ h).trans rfl, (cell_of_row _ _ _ _ _ _ h).trans rfl, (cell_of_row _ _ _ _ _ _ h).trans rfl⟩
end Go.Out
namespace Go.Proofs.Ytjmddiffeffgnaa
set_option linter.unusedVariables false
set_option linter.unusedSimpArgs false
set_option maxRecDepth 100000
set_option maxHeartbeats 2000000
open Go Go.RowKit Go.Out

/-- A command as a value. -/
def cmdV (id unit : Int) (a : AskD) (s : AskS) : Value := .agg #[.int .i64 id, .int .i64 unit, .int .i64 a.code, .int .i64 a.addr, .int .i64 a.count, .slice s.A1 s.n1 s.c1, .slice s.A2 s.n2 s.c2, .slice s.A3 s.n3 s.c3]

theorem putCommand_ok (id : Int) (U : Nat) (a : AskD) (s : AskS) (w : World) (hr : AskRd w a s) (hid : 1 ≤ id ∧ id ≤ 1099511627776) (hU : 1 ≤ U ∧ U ≤ 247) (hK : checkF a = 0) (hW : writesF a.code = true) :
    Calls Try.prog 18 #[cmdV id (U : Int) a s] w (RetGP w (⟨3, 0, 0, id, 0, UInt8.ofNat U :: (putA a).1⟩, 0)) := by
  have HP := Lib.hid (fun (W : World) (hX : Ext w W) => askPut_any a s W (hr.ext hX))
  have HWR := Lib.hid (fun (W : World) => writes_any a s W)
  rw [hW] at HWR
  have hp2 : (putA a).2 = 0 := by rw [putA_ok hK]
  have hlen := (getA_put hK).2.2
  rw [hp2] at HP
  generalize (putA a).1 = xs at *
  have hU8 : (UInt8.ofNat U).toNat = U := by simp; omega
  have hUw : IntKind.u8.wrap (U : Int) = (U : Int) := by rw [IntKind.wrap_u8]; omega
  have HID := Lib.hid hid
  clear hr hK hW hp2 hid
  obtain ⟨code, addr, count, on, set, parts⟩ := a
  obtain ⟨A1, n1, c1, A2, n2, c2, A3, n3, c3⟩ := s
  simp only [askV] at HP HWR
  simp only [cmdV]
  go_enter Try.func18, Try.ntmps18
  go_wp2_with fail
  refine (out_f id 1 1099511627776 _ HID.out).mono ?_
  rintro e v_ ⟨rfl, rfl⟩
  go_wp2_with fail
  refine (out_f (U : Int) 1 247 _ (by omega)).mono ?_
  rintro e v_ ⟨rfl, rfl⟩
  go_wp2_with fail
  refine (HP.out _ (Ext.duo _ _ _)).mono ?_
  rintro e w1 ⟨A4, n, c4, rfl, ho, hx1⟩
  have hn : xs.length = n := by have := ho.len; simpa using this
  obtain ⟨d0, d1, d2, d3, d4, d5, d6, d7⟩ := box8 (hx1.block ((Ext.alloc _ _).block (heap_alloc_new w (.cells #[.int .i64 id, .int .i64 (U : Int), .int .i64 code, .int .i64 addr, .int .i64 count, .slice A1 n1 c1, .slice A2 n2 c2, .slice A3 n3 c3] 28))))
  have HO := Lib.hid ho
  have X1 := Lib.hid hx1
  clear ho hx1
  go_wp2_with fail
  refine (HWR.out _).mono ?_
  rintro e w2 ⟨rfl, hx2⟩
  clear d0 d1 d2 d3 d4 d5 d6 d7
  obtain ⟨d0, d1, d2, d3, d4, d5, d6, d7⟩ := box8 ((X1.out.trans hx2).block ((Ext.alloc _ _).block (heap_alloc_new w (.cells #[.int .i64 id, .int .i64 (U : Int), .int .i64 code, .int .i64 addr, .int .i64 count, .slice A1 n1 c1, .slice A2 n2 c2, .slice A3 n3 c3] 28))))
  have hB2 := (X1.out.trans hx2).block (heap_at _ (.cells #[.int .i64 0, .int .i64 0, .int .i64 0, .int .i64 0, .int .i64 0, .slice none 0 0] 34) (w.heap.size + 1) (by simp))
  have hz2 : w.heap.size + 1 < w2.heap.size := lt_of_heap hB2
  have HB2 := Lib.hid hB2
  have HO2 := Lib.hid (HO.out.ext hx2)
  have X2 := Lib.hid ((Ext.duo _ _ _).trans (X1.out.trans hx2))
  have Y2 := Lib.hid (X1.out.trans hx2)
  clear hB2 hx2
  have hl1 : (w2.alloc (.cells #[.int .u8 (U : Int)] 5)).heap[w2.heap.size]? = some (.cells #[.int .u8 (U : Int)] 5 (0, 0)) := heap_alloc_new w2 _
  have HF := Lib.hid (show Own (w2.alloc (.cells #[.int .u8 (U : Int)] 5)).drew (w.heap.size + 2) 5 IsU8 (some ⟨w2.heap.size, 0, none⟩) 1 1 ([UInt8.ofNat U].map cB) from (Own.first w2 (w.heap.size + 2) (by omega) (UInt8.ofNat U) U hU8))
  have HRD := Lib.hid (HO2.out.rd.ext (Ext.drew' (Ext.alloc w2 (.cells #[.int .u8 (U : Int)] 5))))
  have XA := Lib.hid (Ext.drew' (Ext.alloc w2 (.cells #[.int .u8 (U : Int)] 5)))
  clear hl1
  have DD := fun o : Obj => box8 ((Y2.out.trans (Ext.alloc w2 o)).block ((Ext.alloc _ _).block (heap_alloc_new w (.cells #[.int .i64 id, .int .i64 (U : Int), .int .i64 code, .int .i64 addr, .int .i64 count, .slice A1 n1 c1, .slice A2 n2 c2, .slice A3 n3 c3] 28))))
  have da0 := fun o => (DD o).1
  have da1 := fun o => (DD o).2.1
  clear DD
  go_wp2_with fail
  go_region_law ((
    refine step_u8 (base := w.heap.size + 2) rfl (.tmp 36) (.tmp 37) rfl rfl HF.out rfl HRD.out isU8_map (by omega) (Nat.le_trans (by omega) XA.out.size) ?_
    intro A7 c7 w5 hown hg hbk
    rw [← List.map_append] at hown
    have hB5 := (hg.block (w.heap.size + 1) (Nat.lt_of_lt_of_le hz2 XA.out.size) (fun e => by simp [blk] at e; omega)).trans (XA.out.block HB2.out)
    obtain ⟨b0, b1, b2, b3, b4, b5, f0, f1, f2, f3, f4, f5⟩ := box6 hB5
    have HO7 := Lib.hid hown
    have Y7 := (Y2.out.trans XA.out).grown' hg (fun g hg => by have := (HF.out.lt g hg).1; simp; omega)
    obtain ⟨h0, h1, -⟩ := box8 (Y7.block ((Ext.alloc _ _).block (heap_alloc_new w (.cells #[.int .i64 id, .int .i64 (U : Int), .int .i64 code, .int .i64 addr, .int .i64 count, .slice A1 n1 c1, .slice A2 n2 c2, .slice A3 n3 c3] 28))))
    have X7 := Lib.hid ((X2.out.trans XA.out).grown' hg (fun g hg => by have := (HF.out.lt g hg).1; omega))
    clear hown hg hbk hB5 Y7))
  all_goals
    go_wp2_with fail
    refine bodyPost_ret (v := .tuple #[pacV ⟨3, 0, 0, id, 0, [UInt8.ofNat U] ++ xs⟩ A7 (1 + n) c7, .int .i64 0]) (by simp [results, Try.results18, go_sem, pacV, *]) rfl ⟨A7, 1 + n, c7, rfl, ⟨?_, i64P_lit 3 (by omega), i64P_lit 0 (by omega), i64P_lit 0 (by omega), i64P_lit id (by have := HID.out; omega), i64P_lit 0 (by omega)⟩, ?_⟩
    · refine Own.mono (base := w.heap.size + 2) ?_ (by omega)
      show Own _ _ _ _ _ _ _ (List.map cB ([UInt8.ofNat U] ++ xs))
      repeat' (first | with_reducible exact HO7.out | with_reducible refine Own.set_below ?_ (by simp) _)
    · repeat' (first | with_reducible exact X7.out | with_reducible refine Ext.set' ?_ (by simp) _)
end Go.Proofs.Ytjmddiffeffgnaa

namespace Go.Proofs.Ytjmddiffeffgnaa
set_option linter.unusedVariables false
set_option linter.unusedSimpArgs false
set_option maxRecDepth 100000
set_option maxHeartbeats 2000000
open Go Go.RowKit Go.Out

def knP : PacD := ⟨4, 0, 0, 258, 3, []⟩
theorem knP_check : checkP knP = 0 := by kernel_rfl
theorem knP_raw : rawP knP = [4, 0, 0, 0, 0, 0, 0, 1, 2, 3] := by kernel_rfl
theorem knQ_put : (putA ⟨6, 1, 0, [], [9], []⟩).1 = [6, 0, 1, 0, 9] := by kernel_rfl
theorem kn_bytes : ∃ B : List UInt8, putP knP = (B, 0) ∧ getP B = (knP, 0) ∧ B.length = 14 ∧ B.take 10 = [4, 0, 0, 0, 0, 0, 0, 1, 2, 3] := by
  refine ⟨(putP knP).1, by rw [putP_ok knP_check], (getP_putP knP_check).1, ?_, ?_⟩
  · rw [putP_ok knP_check]
    show (sealF 4 (more32 0) (rawP knP)).length = 14
    rw [sealF_length, knP_raw]; rfl
  · rw [putP_ok knP_check]
    show (sealF 4 (more32 0) (rawP knP)).take 10 = _
    rw [knP_raw]
    unfold sealF
    rw [List.take_left' (by rfl)]
theorem knP_rd (w : World) : PacRd w knP none 0 0 := ⟨Rd.nil_ _, by unfold i64P knP; simp, by unfold i64P knP; simp, by unfold i64P knP; simp, by unfold i64P knP; simp, by unfold i64P knP; simp, ⟨Nat.le_refl _, Nat.zero_le _⟩⟩

theorem known21_any (w : World) : Calls Try.prog 16 #[] w (RetQ w true) := by
  obtain ⟨B, h1, h2, h3, h4⟩ := kn_bytes
  have HP := Lib.hid (fun W => pacPut_any knP none 0 0 W (knP_rd W))
  rw [h1] at HP
  have H2 := Lib.hid h2; have H3 := Lib.hid h3; have H4 := Lib.hid h4
  clear h1 h2 h3 h4
  simp only [pacV, knP] at HP
  go_enter Try.func16, Try.ntmps16
  go_wp2_with fail
  refine (HP.out _).mono ?_
  rintro e w1 ⟨A1, n1, c1, rfl, ho1, hx1⟩
  obtain rfl : n1 = 14 := by have h := ho1.len; have := H3.out; simp at h; omega
  have hc1 := ho1.cap
  have hc2 := ho1.capLe
  have HO1 := Lib.hid ho1
  have X1 := Lib.hid hx1
  clear ho1 hx1
  go_wp2_with fail
  refine (pacGet_any B _ _ _ _ HO1.out.rd hc1 (by omega)).mono ?_
  rw [H2.out]
  rintro e w2 ⟨A2, n2, c2, rfl, hp2, hx2⟩
  have HP2 := Lib.hid hp2.rd
  have X2 := Lib.hid hx2
  clear hp2 hx2
  simp only [pacV, knP]
  have i7 : i64P 6 := by unfold i64P; omega
  have i1 : i64P 1 := by unfold i64P; omega
  have i0 : i64P 0 := by unfold i64P; omega
  go_wp2_with fail
  refine (putCommand_ok 7 17 ⟨6, 1, 0, [], [9], []⟩ ⟨none, 0, 0, some ⟨w2.heap.size + 1, 0, none⟩, 1, 1, none, 0, 0⟩ _ ⟨Rd.nil_ _, Rd.lit _ (([9] : List UInt16).map cW) _ _ 1 _ rfl (by simp), RdL.nil_ _ _ _, i7, i1, i0, ⟨Nat.le_refl _, Nat.zero_le _⟩, ⟨Nat.le_refl _, (by decide : (1 : Nat) ≤ 9223372036854775807)⟩, ⟨Nat.le_refl _, Nat.zero_le _⟩⟩ (by omega) (by omega) (by kernel_rfl) (by kernel_rfl)).mono ?_
  rw [knQ_put]
  rintro e w3 ⟨A3, n3, c3, rfl, hp3, hx3⟩
  have HP3 := Lib.hid hp3.rd
  have X3 := Lib.hid hx3
  have Y3 := Lib.hid (fun o : Obj => (Ext.alloc _ _).trans (hx3.trans (Ext.alloc w3 o)))
  clear hp3 hx3
  simp only [pacV]
  obtain rfl : n2 = 0 := by have := HP2.out.len; simp [knP] at this; omega
  obtain rfl : n3 = 6 := by have := HP3.out.len; simp at this; omega
  have HR10 := Lib.hid (show Rd w1 A1 10 (([4, 0, 0, 0, 0, 0, 0, 1, 2, 3] : List UInt8).map cB) by
    have h := HO1.out.rd.take (k := 10) (by omega)
    rwa [← List.map_take, H4.out] at h)
  have hq10 : (10 : Int) ≤ (c1 : Int) := by omega
  have hq10' : 10 ≤ c1 := by omega
  clear hc1 hc2
  go_wp2_with fail
  have XC := Lib.hid ((Ext.alloc w2 (.cells #[.int .i64 4, .int .i64 0, .int .i64 0, .int .i64 258, .int .i64 3, .slice A2 0 c2] 34)).trans ((Ext.alloc _ _).trans X3.out))
  have HD := Lib.hid (fun (o1 o2 : Obj) => X2.out.trans (XC.out.trans (Ext.duo w3 o1 o2)))
  refine (same_any [4, 0, 0, 0, 0, 0, 0, 1, 2, 3] [4, 0, 0, 0, 0, 0, 0, 1, 2, 3] _ _ 10 10 _ _ _ (HR10.out.ext (HD.out _ _)) (Rd.lit _ (([4, 0, 0, 0, 0, 0, 0, 1, 2, 3] : List UInt8).map cB) _ _ 10 _ rfl (by simp)) (by unfold maxLen; omega)).mono ?_
  rintro e w4 ⟨rfl, hb4⟩
  rw [decide_eq_true rfl]
  have X4 := Lib.hid (Ext.of hb4)
  clear hb4
  have hb3 := heap_alloc_new w2 (.cells #[.int .i64 4, .int .i64 0, .int .i64 0, .int .i64 258, .int .i64 3, .slice A2 0 c2] 34)
  have hq3 := (Ext.alloc (w3.alloc (.cells #[.int .i64 3, .int .i64 0, .int .i64 0, .int .i64 7, .int .i64 0, .slice A3 6 c3] 34)) (.cells #[.int .u8 4, .int .u8 0, .int .u8 0, .int .u8 0, .int .u8 0, .int .u8 0, .int .u8 0, .int .u8 1, .int .u8 2, .int .u8 3] 5)).block (heap_alloc_new w3 (.cells #[.int .i64 3, .int .i64 0, .int .i64 0, .int .i64 7, .int .i64 0, .slice A3 6 c3] 34))
  have HQ4 := Lib.hid (X4.out.block hq3)
  have X34 := Lib.hid ((Ext.duo w3 _ _).trans X4.out)
  have hb4 := (((Ext.alloc _ _).trans X3.out).trans X34.out).block hb3
  obtain ⟨d0, d1, d2, d3, d4, d5, -⟩ := box6 hb4
  clear hb3 hq3 hb4
  go_wp2_with fail
  refine (samePac_eq knP A2 none 0 0 c2 0 _ (HP2.out.ext (XC.out.trans X34.out)) (knP_rd _)).mono ?_
  rintro e w5 ⟨rfl, hx5⟩
  clear d0 d1 d2 d3 d4 d5
  obtain ⟨d0, d1, d2, d3, d4, d5, -⟩ := box6 (hx5.block HQ4.out)
  have DD := fun o : Obj => box6 ((hx5.trans (Ext.alloc w5 o)).block HQ4.out)
  have e0 := fun o => (DD o).1
  have e1 := fun o => (DD o).2.1
  have e2 := fun o => (DD o).2.2.1
  have e3 := fun o => (DD o).2.2.2.1
  have e4 := fun o => (DD o).2.2.2.2.1
  have e5 := fun o => (DD o).2.2.2.2.2.1
  have X5 := Lib.hid hx5
  clear hx5 DD
  go_wp2_with fail
  refine (samePac_eq ⟨3, 0, 0, 7, 0, [17, 6, 0, 1, 0, 9]⟩ A3 (some ⟨w5.heap.size, 0, none⟩) 6 6 c3 6 _ (HP3.out.ext (X34.out.trans (X5.out.trans (Ext.alloc _ _)))) ⟨Rd.lit _ (([17, 6, 0, 1, 0, 9] : List UInt8).map cB) _ _ 6 _ rfl rfl, by unfold i64P; simp, by unfold i64P; simp, by unfold i64P; simp, by unfold i64P; simp, by unfold i64P; simp, ⟨Nat.le_refl _, (by decide : (6 : Nat) ≤ 9223372036854775807)⟩⟩).mono ?_
  rintro e w6 ⟨rfl, hx6⟩
  go_wp2_with fail
  go_ret
  exact ⟨rfl, X1.out.trans (X2.out.trans (XC.out.trans (X34.out.trans (X5.out.trans ((Ext.alloc _ _).trans hx6)))))⟩
end Go.Proofs.Ytjmddiffeffgnaa
