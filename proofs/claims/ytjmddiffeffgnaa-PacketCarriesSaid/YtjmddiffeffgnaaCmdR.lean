/- Contract of outstationref21.PutCommand, whatever the command. -/
import Derived.Test.YtjmddiffeffgnaaCmd
namespace Go.Proofs.Ytjmddiffeffgnaa
set_option linter.unusedVariables false
set_option linter.unusedSimpArgs false
set_option maxRecDepth 100000
set_option maxHeartbeats 2000000
open Go Go.RowKit Go.Out

theorem rputCommand_id (id unit : Int) (a : AskD) (s : AskS) (w : World) (hid : id < 1 ∨ (1 ≤ id ∧ 1099511627776 < id)) :
    Calls Try.prog 19 #[cmdV id unit a s] w (RetGP w (pac0, 3)) := by
  obtain ⟨code, addr, count, on, set, parts⟩ := a
  obtain ⟨A1, n1, c1, A2, n2, c2, A3, n3, c3⟩ := s
  have HID := Lib.hid hid
  clear hid
  simp only [cmdV]
  go_enter Try.func19, Try.ntmps19
  go_wp2_with fail
  refine (rbt_f id 1 1099511627776 _ HID.out).mono ?_
  rintro e v_ ⟨rfl, rfl⟩
  go_wp2_with fail
  exact bodyPost_ret (v := .tuple #[pacV pac0 none 0 0, .int .i64 3]) (by simp [results, Try.results19, go_sem, pacV, pac0]) rfl ⟨none, 0, 0, rfl, pacOw0 _ _, Ext.duo _ _ _⟩
theorem rputCommand_unit (id unit : Int) (a : AskD) (s : AskS) (w : World) (hid : 1 ≤ id ∧ id ≤ 1099511627776) (hU : unit < 1 ∨ (1 ≤ unit ∧ 247 < unit)) :
    Calls Try.prog 19 #[cmdV id unit a s] w (RetGP w (pac0, 24)) := by
  obtain ⟨code, addr, count, on, set, parts⟩ := a
  obtain ⟨A1, n1, c1, A2, n2, c2, A3, n3, c3⟩ := s
  have HID := Lib.hid hid
  have HU := Lib.hid hU
  clear hid hU
  simp only [cmdV]
  go_enter Try.func19, Try.ntmps19
  go_wp2_with fail
  refine (rbt_t id 1 1099511627776 _ HID.out).mono ?_
  rintro e v_ ⟨rfl, rfl⟩
  go_wp2_with fail
  refine (rbt_f unit 1 247 _ HU.out).mono ?_
  rintro e v_ ⟨rfl, rfl⟩
  go_wp2_with fail
  exact bodyPost_ret (v := .tuple #[pacV pac0 none 0 0, .int .i64 24]) (by simp [results, Try.results19, go_sem, pacV, pac0]) rfl ⟨none, 0, 0, rfl, pacOw0 _ _, Ext.duo _ _ _⟩
theorem rputCommand_ask (id unit : Int) (a : AskD) (s : AskS) (w : World) (hr : AskRd w a s) (hid : 1 ≤ id ∧ id ≤ 1099511627776) (hU : 1 ≤ unit ∧ unit ≤ 247) (hK : checkF a ≠ 0) :
    Calls Try.prog 19 #[cmdV id unit a s] w (RetGP w (pac0, checkF a)) := by
  have HP := Lib.hid (fun (W : World) (hX : Ext w W) => ref3Put_any a s W (hr.ext hX))
  have hp : putA a = ([], checkF a) := by unfold putA; rw [if_pos hK]
  rw [hp] at HP
  have hne : (checkF a != 0) = true := by simpa using hK
  generalize checkF a = E at *
  have HID := Lib.hid hid
  have HU := Lib.hid hU
  clear hr hK hp hid hU
  obtain ⟨code, addr, count, on, set, parts⟩ := a
  obtain ⟨A1, n1, c1, A2, n2, c2, A3, n3, c3⟩ := s
  simp only [askV] at HP
  simp only [cmdV]
  go_enter Try.func19, Try.ntmps19
  go_wp2_with fail
  refine (rbt_t id 1 1099511627776 _ HID.out).mono ?_
  rintro e v_ ⟨rfl, rfl⟩
  go_wp2_with fail
  refine (rbt_t unit 1 247 _ HU.out).mono ?_
  rintro e v_ ⟨rfl, rfl⟩
  go_wp2_with fail
  refine (HP.out _ (Ext.duo _ _ _)).mono ?_
  rintro e w1 ⟨A4, n, c4, rfl, ho, hx1⟩
  have hB2 := hx1.block (heap_at _ (.cells #[.int .i64 0, .int .i64 0, .int .i64 0, .int .i64 0, .int .i64 0, .slice none 0 0] 34) (w.heap.size + 1) (by simp))
  obtain ⟨b0, b1, b2, b3, b4, b5, f0, f1, f2, f3, f4, f5⟩ := box6 hB2
  have X1 := Lib.hid ((Ext.duo _ _ _).trans hx1)
  clear ho hx1 hB2
  go_wp2_with fail
  refine bodyPost_ret (v := .tuple #[pacV pac0 none 0 0, .int .i64 E]) (by simp [results, Try.results19, go_sem, pacV, pac0, *]) rfl ⟨none, 0, 0, rfl, pacOw0 _ _, ?_⟩
  repeat' (first | with_reducible exact X1.out | with_reducible refine Ext.set' ?_ (by simp) _)
theorem rputCommand_read (id unit : Int) (a : AskD) (s : AskS) (w : World) (hr : AskRd w a s) (hid : 1 ≤ id ∧ id ≤ 1099511627776) (hU : 1 ≤ unit ∧ unit ≤ 247) (hK : checkF a = 0) (hW : writesF a.code = false) :
    Calls Try.prog 19 #[cmdV id unit a s] w (RetGP w (pac0, 20)) := by
  have HP := Lib.hid (fun (W : World) (hX : Ext w W) => ref3Put_any a s W (hr.ext hX))
  have HWR := Lib.hid (fun (W : World) => refWrites_any a s W)
  rw [hW] at HWR
  have hp2 : (putA a).2 = 0 := by rw [putA_ok hK]
  rw [hp2] at HP
  generalize (putA a).1 = xs at *
  have HID := Lib.hid hid
  have HU := Lib.hid hU
  clear hr hK hp2 hid hU hW
  obtain ⟨code, addr, count, on, set, parts⟩ := a
  obtain ⟨A1, n1, c1, A2, n2, c2, A3, n3, c3⟩ := s
  simp only [askV] at HP HWR
  simp only [cmdV]
  go_enter Try.func19, Try.ntmps19
  go_wp2_with fail
  refine (rbt_t id 1 1099511627776 _ HID.out).mono ?_
  rintro e v_ ⟨rfl, rfl⟩
  go_wp2_with fail
  refine (rbt_t unit 1 247 _ HU.out).mono ?_
  rintro e v_ ⟨rfl, rfl⟩
  go_wp2_with fail
  refine (HP.out _ (Ext.duo _ _ _)).mono ?_
  rintro e w1 ⟨A4, n, c4, rfl, ho, hx1⟩
  obtain ⟨d0, d1, d2, d3, d4, d5, d6, d7⟩ := box8 (hx1.block ((Ext.alloc _ _).block (heap_alloc_new w (.cells #[.int .i64 id, .int .i64 unit, .int .i64 code, .int .i64 addr, .int .i64 count, .slice A1 n1 c1, .slice A2 n2 c2, .slice A3 n3 c3] 28))))
  have hB1 := Lib.hid (hx1.block (heap_at _ (.cells #[.int .i64 0, .int .i64 0, .int .i64 0, .int .i64 0, .int .i64 0, .slice none 0 0] 34) (w.heap.size + 1) (by simp)))
  have X1 := Lib.hid ((Ext.duo _ _ _).trans hx1)
  clear ho hx1
  go_wp2_with fail
  refine (HWR.out _).mono ?_
  rintro e w2 ⟨rfl, hx2⟩
  obtain ⟨b0, b1, b2, b3, b4, b5, f0, f1, f2, f3, f4, f5⟩ := box6 (hx2.block hB1.out)
  have X2 := Lib.hid (X1.out.trans hx2)
  clear d0 d1 d2 d3 d4 d5 d6 d7 hx2 hB1
  go_wp2_with fail
  refine bodyPost_ret (v := .tuple #[pacV pac0 none 0 0, .int .i64 20]) (by simp [results, Try.results19, go_sem, pacV, pac0, *]) rfl ⟨none, 0, 0, rfl, pacOw0 _ _, ?_⟩
  repeat' (first | with_reducible exact X2.out | with_reducible refine Ext.set' ?_ (by simp) _)
theorem rputCommand_ok (id : Int) (U : Nat) (a : AskD) (s : AskS) (w : World) (hr : AskRd w a s) (hid : 1 ≤ id ∧ id ≤ 1099511627776) (hU : 1 ≤ U ∧ U ≤ 247) (hK : checkF a = 0) (hW : writesF a.code = true) :
    Calls Try.prog 19 #[cmdV id (U : Int) a s] w (RetGP w (⟨3, 0, 0, id, 0, UInt8.ofNat U :: (putA a).1⟩, 0)) := by
  have HP := Lib.hid (fun (W : World) (hX : Ext w W) => ref3Put_any a s W (hr.ext hX))
  have HWR := Lib.hid (fun (W : World) => refWrites_any a s W)
  rw [hW] at HWR
  have hp2 : (putA a).2 = 0 := by rw [putA_ok hK]
  have hlen := (getA_put hK).2.2
  rw [hp2] at HP
  generalize (putA a).1 = xs at *
  have hU8 : (UInt8.ofNat U).toNat = U := by simp; omega
  have hUw : IntKind.u8.wrap (U : Int) = (U : Int) := by rw [IntKind.wrap_u8]; omega
  have HID := Lib.hid hid
  clear hr hK hW hp2 hid
  obtain ⟨code, addr, count, on, set, parts⟩ := a
  obtain ⟨A1, n1, c1, A2, n2, c2, A3, n3, c3⟩ := s
  simp only [askV] at HP HWR
  simp only [cmdV]
  go_enter Try.func19, Try.ntmps19
  go_wp2_with fail
  refine (rbt_t id 1 1099511627776 _ HID.out).mono ?_
  rintro e v_ ⟨rfl, rfl⟩
  go_wp2_with fail
  refine (rbt_t (U : Int) 1 247 _ (by omega)).mono ?_
  rintro e v_ ⟨rfl, rfl⟩
  go_wp2_with fail
  refine (HP.out _ (Ext.duo _ _ _)).mono ?_
  rintro e w1 ⟨A4, n, c4, rfl, ho, hx1⟩
  have hn : xs.length = n := by have := ho.len; simpa using this
  obtain ⟨d0, d1, d2, d3, d4, d5, d6, d7⟩ := box8 (hx1.block ((Ext.alloc _ _).block (heap_alloc_new w (.cells #[.int .i64 id, .int .i64 (U : Int), .int .i64 code, .int .i64 addr, .int .i64 count, .slice A1 n1 c1, .slice A2 n2 c2, .slice A3 n3 c3] 28))))
  have HO := Lib.hid ho
  have X1 := Lib.hid hx1
  clear ho hx1
  go_wp2_with fail
  refine (HWR.out _).mono ?_
  rintro e w2 ⟨rfl, hx2⟩
  clear d0 d1 d2 d3 d4 d5 d6 d7
  obtain ⟨d0, d1, d2, d3, d4, d5, d6, d7⟩ := box8 ((X1.out.trans hx2).block ((Ext.alloc _ _).block (heap_alloc_new w (.cells #[.int .i64 id, .int .i64 (U : Int), .int .i64 code, .int .i64 addr, .int .i64 count, .slice A1 n1 c1, .slice A2 n2 c2, .slice A3 n3 c3] 28))))
  have hB2 := (X1.out.trans hx2).block (heap_at _ (.cells #[.int .i64 0, .int .i64 0, .int .i64 0, .int .i64 0, .int .i64 0, .slice none 0 0] 34) (w.heap.size + 1) (by simp))
  have hz2 : w.heap.size + 1 < w2.heap.size := lt_of_heap hB2
  have HB2 := Lib.hid hB2
  have HO2 := Lib.hid (HO.out.ext hx2)
  have X2 := Lib.hid ((Ext.duo _ _ _).trans (X1.out.trans hx2))
  have Y2 := Lib.hid (X1.out.trans hx2)
  clear hB2 hx2
  have HF := Lib.hid (show Own (w2.alloc (.cells #[.int .u8 (U : Int)] 5)).drew (w.heap.size + 2) 5 IsU8 (some ⟨w2.heap.size, 0, none⟩) 1 1 ([UInt8.ofNat U].map cB) from (Own.first w2 (w.heap.size + 2) (by omega) (UInt8.ofNat U) U hU8))
  have HRD := Lib.hid (HO2.out.rd.ext (Ext.drew' (Ext.alloc w2 (.cells #[.int .u8 (U : Int)] 5))))
  have XA := Lib.hid (Ext.drew' (Ext.alloc w2 (.cells #[.int .u8 (U : Int)] 5)))
  have DD := fun o : Obj => box8 ((Y2.out.trans (Ext.alloc w2 o)).block ((Ext.alloc _ _).block (heap_alloc_new w (.cells #[.int .i64 id, .int .i64 (U : Int), .int .i64 code, .int .i64 addr, .int .i64 count, .slice A1 n1 c1, .slice A2 n2 c2, .slice A3 n3 c3] 28))))
  have da0 := fun o => (DD o).1
  have da1 := fun o => (DD o).2.1
  clear DD
  go_wp2_with fail
  go_region_law ((
    refine step_u8 (base := w.heap.size + 2) rfl (.tmp 36) (.tmp 37) rfl rfl HF.out rfl HRD.out isU8_map (by omega) (Nat.le_trans (by omega) XA.out.size) ?_
    intro A7 c7 w5 hown hg hbk
    rw [← List.map_append] at hown
    have hB5 := (hg.block (w.heap.size + 1) (Nat.lt_of_lt_of_le hz2 XA.out.size) (fun e => by simp [blk] at e; omega)).trans (XA.out.block HB2.out)
    obtain ⟨b0, b1, b2, b3, b4, b5, f0, f1, f2, f3, f4, f5⟩ := box6 hB5
    have HO7 := Lib.hid hown
    have Y7 := (Y2.out.trans XA.out).grown' hg (fun g hg => by have := (HF.out.lt g hg).1; simp; omega)
    obtain ⟨h0, h1, -⟩ := box8 (Y7.block ((Ext.alloc _ _).block (heap_alloc_new w (.cells #[.int .i64 id, .int .i64 (U : Int), .int .i64 code, .int .i64 addr, .int .i64 count, .slice A1 n1 c1, .slice A2 n2 c2, .slice A3 n3 c3] 28))))
    have X7 := Lib.hid ((X2.out.trans XA.out).grown' hg (fun g hg => by have := (HF.out.lt g hg).1; omega))
    clear hown hg hbk hB5 Y7))
  all_goals
    go_wp2_with fail
    refine bodyPost_ret (v := .tuple #[pacV ⟨3, 0, 0, id, 0, [UInt8.ofNat U] ++ xs⟩ A7 (1 + n) c7, .int .i64 0]) (by simp [results, Try.results19, go_sem, pacV, *]) rfl ⟨A7, 1 + n, c7, rfl, ⟨?_, i64P_lit 3 (by omega), i64P_lit 0 (by omega), i64P_lit 0 (by omega), i64P_lit id (by have := HID.out; omega), i64P_lit 0 (by omega)⟩, ?_⟩
    · refine Own.mono (base := w.heap.size + 2) ?_ (by omega)
      show Own _ _ _ _ _ _ _ (List.map cB ([UInt8.ofNat U] ++ xs))
      repeat' (first | with_reducible exact HO7.out | with_reducible refine Own.set_below ?_ (by simp) _)
    · repeat' (first | with_reducible exact X7.out | with_reducible refine Ext.set' ?_ (by simp) _)
theorem rputCommand_any (id unit : Int) (a : AskD) (s : AskS) (w : World) (hr : AskRd w a s) :
    Calls Try.prog 19 #[cmdV id unit a s] w (RetGP w (putC id unit a)) := by
  unfold putC
  by_cases h1 : id < 1 ∨ 1099511627776 < id
  · rw [if_pos h1]; exact rputCommand_id id unit a s w (by omega)
  · rw [if_neg h1]
    by_cases h2 : unit < 1 ∨ 247 < unit
    · rw [if_pos h2]; exact rputCommand_unit id unit a s w (by omega) (by omega)
    · rw [if_neg h2]
      by_cases h3 : checkF a ≠ 0
      · rw [if_pos h3]; exact rputCommand_ask id unit a s w hr (by omega) (by omega) h3
      · rw [if_neg h3]
        by_cases h4 : writesF a.code = false
        · rw [if_pos h4]; exact rputCommand_read id unit a s w hr (by omega) (by omega) (by simpa using h3) h4
        · rw [if_neg h4]
          obtain ⟨U, rfl⟩ := Int.eq_ofNat_of_zero_le (show 0 ≤ unit by omega)
          exact rputCommand_ok id U a s w hr (by omega) (by omega) (by simpa using h3) (by simpa using h4)
end Go.Proofs.Ytjmddiffeffgnaa
