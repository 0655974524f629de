/- Contracts of PutCommand: the program's and the reference's, whatever the command. -/
import Derived.Test.YtjmddiffeffgnaaPac7
import Derived.Test.YtjmddiffeffgnaaPacR
import Derived.Test.YtjmddiffeffgnaaAskRP3
namespace Go.Proofs.Ytjmddiffeffgnaa
set_option linter.unusedVariables false
set_option linter.unusedSimpArgs false
set_option maxRecDepth 100000
set_option maxHeartbeats 2000000
open Go Go.RowKit Go.Out

/-- The packet of a command, or why there is none. -/
def putC (id unit : Int) (a : AskD) : PacD × Int :=
  if id < 1 ∨ 1099511627776 < id then (pac0, 3) else if unit < 1 ∨ 247 < unit then (pac0, 24) else if checkF a ≠ 0 then (pac0, checkF a)
  else if writesF a.code = false then (pac0, 20) else (⟨3, 0, 0, id, 0, UInt8.ofNat unit.toNat :: (putA a).1⟩, 0)

theorem putCommand_id (id unit : Int) (a : AskD) (s : AskS) (w : World) (hid : id < 1 ∨ (1 ≤ id ∧ 1099511627776 < id)) :
    Calls Try.prog 18 #[cmdV id unit a s] w (RetGP w (pac0, 3)) := by
  obtain ⟨code, addr, count, on, set, parts⟩ := a
  obtain ⟨A1, n1, c1, A2, n2, c2, A3, n3, c3⟩ := s
  have HID := Lib.hid hid
  clear hid
  simp only [cmdV]
  go_enter Try.func18, Try.ntmps18
  go_wp2_with fail
  refine (out_t id 1 1099511627776 _ HID.out).mono ?_
  rintro e v_ ⟨rfl, rfl⟩
  go_wp2_with fail
  exact bodyPost_ret (v := .tuple #[pacV pac0 none 0 0, .int .i64 3]) (by simp [results, Try.results18, go_sem, pacV, pac0]) rfl ⟨none, 0, 0, rfl, pacOw0 _ _, Ext.duo _ _ _⟩
theorem putCommand_unit (id unit : Int) (a : AskD) (s : AskS) (w : World) (hid : 1 ≤ id ∧ id ≤ 1099511627776) (hU : unit < 1 ∨ (1 ≤ unit ∧ 247 < unit)) :
    Calls Try.prog 18 #[cmdV id unit a s] w (RetGP w (pac0, 24)) := by
  obtain ⟨code, addr, count, on, set, parts⟩ := a
  obtain ⟨A1, n1, c1, A2, n2, c2, A3, n3, c3⟩ := s
  have HID := Lib.hid hid
  have HU := Lib.hid hU
  clear hid hU
  simp only [cmdV]
  go_enter Try.func18, Try.ntmps18
  go_wp2_with fail
  refine (out_f id 1 1099511627776 _ HID.out).mono ?_
  rintro e v_ ⟨rfl, rfl⟩
  go_wp2_with fail
  refine (out_t unit 1 247 _ HU.out).mono ?_
  rintro e v_ ⟨rfl, rfl⟩
  go_wp2_with fail
  exact bodyPost_ret (v := .tuple #[pacV pac0 none 0 0, .int .i64 24]) (by simp [results, Try.results18, go_sem, pacV, pac0]) rfl ⟨none, 0, 0, rfl, pacOw0 _ _, Ext.duo _ _ _⟩
theorem putCommand_ask (id unit : Int) (a : AskD) (s : AskS) (w : World) (hr : AskRd w a s) (hid : 1 ≤ id ∧ id ≤ 1099511627776) (hU : 1 ≤ unit ∧ unit ≤ 247) (hK : checkF a ≠ 0) :
    Calls Try.prog 18 #[cmdV id unit a s] w (RetGP w (pac0, checkF a)) := by
  have HP := Lib.hid (fun (W : World) (hX : Ext w W) => askPut_any a s W (hr.ext hX))
  have hp : putA a = ([], checkF a) := by unfold putA; rw [if_pos hK]
  rw [hp] at HP
  have hne : (checkF a != 0) = true := by simpa using hK
  generalize checkF a = E at *
  have HID := Lib.hid hid
  have HU := Lib.hid hU
  clear hr hK hp hid hU
  obtain ⟨code, addr, count, on, set, parts⟩ := a
  obtain ⟨A1, n1, c1, A2, n2, c2, A3, n3, c3⟩ := s
  simp only [askV] at HP
  simp only [cmdV]
  go_enter Try.func18, Try.ntmps18
  go_wp2_with fail
  refine (out_f id 1 1099511627776 _ HID.out).mono ?_
  rintro e v_ ⟨rfl, rfl⟩
  go_wp2_with fail
  refine (out_f unit 1 247 _ HU.out).mono ?_
  rintro e v_ ⟨rfl, rfl⟩
  go_wp2_with fail
  refine (HP.out _ (Ext.duo _ _ _)).mono ?_
  rintro e w1 ⟨A4, n, c4, rfl, ho, hx1⟩
  have hB2 := hx1.block (heap_at _ (.cells #[.int .i64 0, .int .i64 0, .int .i64 0, .int .i64 0, .int .i64 0, .slice none 0 0] 34) (w.heap.size + 1) (by simp))
  obtain ⟨b0, b1, b2, b3, b4, b5, f0, f1, f2, f3, f4, f5⟩ := box6 hB2
  have X1 := Lib.hid ((Ext.duo _ _ _).trans hx1)
  clear ho hx1 hB2
  go_wp2_with fail
  refine bodyPost_ret (v := .tuple #[pacV pac0 none 0 0, .int .i64 E]) (by simp [results, Try.results18, go_sem, pacV, pac0, *]) rfl ⟨none, 0, 0, rfl, pacOw0 _ _, ?_⟩
  repeat' (first | with_reducible exact X1.out | with_reducible refine Ext.set' ?_ (by simp) _)
theorem putCommand_read (id unit : Int) (a : AskD) (s : AskS) (w : World) (hr : AskRd w a s) (hid : 1 ≤ id ∧ id ≤ 1099511627776) (hU : 1 ≤ unit ∧ unit ≤ 247) (hK : checkF a = 0) (hW : writesF a.code = false) :
    Calls Try.prog 18 #[cmdV id unit a s] w (RetGP w (pac0, 20)) := by
  have HP := Lib.hid (fun (W : World) (hX : Ext w W) => askPut_any a s W (hr.ext hX))
  have HWR := Lib.hid (fun (W : World) => writes_any a s W)
  rw [hW] at HWR
  have hp2 : (putA a).2 = 0 := by rw [putA_ok hK]
  rw [hp2] at HP
  generalize (putA a).1 = xs at *
  have HID := Lib.hid hid
  have HU := Lib.hid hU
  clear hr hK hp2 hid hU hW
  obtain ⟨code, addr, count, on, set, parts⟩ := a
  obtain ⟨A1, n1, c1, A2, n2, c2, A3, n3, c3⟩ := s
  simp only [askV] at HP HWR
  simp only [cmdV]
  go_enter Try.func18, Try.ntmps18
  go_wp2_with fail
  refine (out_f id 1 1099511627776 _ HID.out).mono ?_
  rintro e v_ ⟨rfl, rfl⟩
  go_wp2_with fail
  refine (out_f unit 1 247 _ HU.out).mono ?_
  rintro e v_ ⟨rfl, rfl⟩
  go_wp2_with fail
  refine (HP.out _ (Ext.duo _ _ _)).mono ?_
  rintro e w1 ⟨A4, n, c4, rfl, ho, hx1⟩
  obtain ⟨d0, d1, d2, d3, d4, d5, d6, d7⟩ := box8 (hx1.block ((Ext.alloc _ _).block (heap_alloc_new w (.cells #[.int .i64 id, .int .i64 unit, .int .i64 code, .int .i64 addr, .int .i64 count, .slice A1 n1 c1, .slice A2 n2 c2, .slice A3 n3 c3] 28))))
  have hB1 := Lib.hid (hx1.block (heap_at _ (.cells #[.int .i64 0, .int .i64 0, .int .i64 0, .int .i64 0, .int .i64 0, .slice none 0 0] 34) (w.heap.size + 1) (by simp)))
  have X1 := Lib.hid ((Ext.duo _ _ _).trans hx1)
  clear ho hx1
  go_wp2_with fail
  refine (HWR.out _).mono ?_
  rintro e w2 ⟨rfl, hx2⟩
  obtain ⟨b0, b1, b2, b3, b4, b5, f0, f1, f2, f3, f4, f5⟩ := box6 (hx2.block hB1.out)
  have X2 := Lib.hid (X1.out.trans hx2)
  clear d0 d1 d2 d3 d4 d5 d6 d7 hx2 hB1
  go_wp2_with fail
  refine bodyPost_ret (v := .tuple #[pacV pac0 none 0 0, .int .i64 20]) (by simp [results, Try.results18, go_sem, pacV, pac0, *]) rfl ⟨none, 0, 0, rfl, pacOw0 _ _, ?_⟩
  repeat' (first | with_reducible exact X2.out | with_reducible refine Ext.set' ?_ (by simp) _)
theorem putCommand_any (id unit : Int) (a : AskD) (s : AskS) (w : World) (hr : AskRd w a s) :
    Calls Try.prog 18 #[cmdV id unit a s] w (RetGP w (putC id unit a)) := by
  unfold putC
  by_cases h1 : id < 1 ∨ 1099511627776 < id
  · rw [if_pos h1]; exact putCommand_id id unit a s w (by omega)
  · rw [if_neg h1]
    by_cases h2 : unit < 1 ∨ 247 < unit
    · rw [if_pos h2]; exact putCommand_unit id unit a s w (by omega) (by omega)
    · rw [if_neg h2]
      by_cases h3 : checkF a ≠ 0
      · rw [if_pos h3]; exact putCommand_ask id unit a s w hr (by omega) (by omega) h3
      · rw [if_neg h3]
        by_cases h4 : writesF a.code = false
        · rw [if_pos h4]; exact putCommand_read id unit a s w hr (by omega) (by omega) (by simpa using h3) h4
        · rw [if_neg h4]
          obtain ⟨U, rfl⟩ := Int.eq_ofNat_of_zero_le (show 0 ≤ unit by omega)
          exact putCommand_ok id U a s w hr (by omega) (by omega) (by simpa using h3) (by simpa using h4)
end Go.Proofs.Ytjmddiffeffgnaa
