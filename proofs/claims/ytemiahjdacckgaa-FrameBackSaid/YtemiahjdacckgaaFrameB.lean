/- The walk of FrameBack: for every input true; nothing that was there turns. -/
import Derived.Test.YtemiahjdacckgaaFrameW
import Derived.Test.YtemiahjdacckgaaSees
namespace Go.Proofs.Ytemiahjdacckgaa
set_option linter.unusedVariables false
open Go Go.RowKit Go.Out

theorem rtu_ok' {u : UInt8} {b : List UInt8} {m : Nat} (hl : b.length = m) (h1 : 1 ≤ u.toNat) (h2 : u.toNat ≤ 247) (h3 : 1 ≤ m) (h4 : m ≤ 253) : ∃ S, rtuF u b = (S, 0) ∧ openRtuF S = (u, b, 0) ∧ S.length = 3 + m := by
  subst hl
  have h0 := rtu_fits.2 ⟨⟨h1, h2⟩, h3, h4⟩
  obtain ⟨a1, a2, _⟩ := openRtu_rtu h0
  exact ⟨_, by rw [← h0], a1, a2⟩
theorem put_ok' {id : Nat} {u : UInt8} {b : List UInt8} {m : Nat} (hl : b.length = m) (hid : id < 65536) (h3 : 1 ≤ m) (h4 : m ≤ 253) : ∃ S, putTF ⟨id, u, b⟩ = (S, 0) ∧ S.length = 7 + m ∧ ∀ more, getTF (S ++ more) = (⟨id, u, b⟩, 7 + m, 0) := by
  subst hl
  have h0 : (putTF ⟨id, u, b⟩).2 = 0 := put_fits.2 ⟨h3, h4⟩
  exact ⟨_, by rw [← h0], (get_put hid h0 []).2, fun more => (get_put hid h0 more).1⟩

set_option maxHeartbeats 2000000 in
theorem lawFrameBack (id : Nat) (u : UInt8) (b : List UInt8) (A : Option Addr) (m c : Nat) (more : List UInt8) (A' : Option Addr) (m' c' : Nat) (w : World) (hid : id < 65536) (hr : Rd w A m (b.map cB)) (hc : m ≤ c) (hb : c * 1 ≤ 140737488351232)
    (hr' : Rd w A' m' (more.map cB)) (hc' : m' ≤ c') (_ : c' ≤ 9223372036854775807) (hb' : c' * 1 ≤ 140737488351232) :
    Calls Try.prog 12 #[.agg #[.int .u16 (id : Int), .int .u8 (u.toNat : Int), .slice A m c], .slice A' m' c'] w fun e w' => e = .returned (.bool true) ∧ Below w.heap.size w w' := by
  have Hl := Lib.hid hr.length
  have X0 : Ext w (w.alloc (.cells #[.int .u16 (id : Int), .int .u8 (u.toNat : Int), .slice A m c] 34)) := Ext.alloc _ _
  have HF0 : (w.alloc (.cells #[.int .u16 (id : Int), .int .u8 (u.toNat : Int), .slice A m c] 34)).heap[w.heap.size]? = some (.cells #[.int .u16 (id : Int), .int .u8 (u.toNat : Int), .slice A m c] 34 (0, 0)) := heap_alloc_new w _
  have Hr := Lib.hid (hr.ext X0); have Hr' := Lib.hid (hr'.ext X0); clear hr hr'
  have hul := u.toNat_lt
  have HF := Lib.hid HF0; clear HF0
  rcases Nat.lt_or_ge 65536 m with hm | hm
  · go_enter Try.func12, Try.ntmps12
    go_wp2_with fail
    refine (known5_any _).mono ?_
    rintro e w4 ⟨rfl, hb4⟩
    go_wp2_with fail
    go_ret
    exact ⟨rfl, (X0.trans hb4).below⟩
  · rcases Nat.lt_or_ge 65536 m' with hm' | hm'
    · have hm1 : ¬ 65536 < m := by omega
      go_enter Try.func12, Try.ntmps12
      go_wp2_with fail
      refine (known5_any _).mono ?_
      rintro e w4 ⟨rfl, hb4⟩
      go_wp2_with fail
      go_ret
      exact ⟨rfl, (X0.trans hb4).below⟩
    · have hm1 : ¬ 65536 < m := by omega
      have hm1' : ¬ 65536 < m' := by omega
      have hd0 : ∀ (W : World), Ext (w.alloc (.cells #[.int .u16 (id : Int), .int .u8 (u.toNat : Int), .slice A m c] 34)) W → W.cell? ⟨w.heap.size, 0, none⟩ = some (.int .u16 (id : Int)) ∧ W.cell? ⟨w.heap.size, 1, none⟩ = some (.int .u8 (u.toNat : Int)) ∧ W.cell? ⟨w.heap.size, 2, none⟩ = some (.slice A m c) := fun W X => ⟨(cell_of_row _ _ _ _ _ _ (X.block HF.out)).trans rfl, (cell_of_row _ _ _ _ _ _ (X.block HF.out)).trans rfl, (cell_of_row _ _ _ _ _ _ (X.block HF.out)).trans rfl⟩
      have Hd := Lib.hid hd0; clear hd0
      by_cases hfit : 1 ≤ m ∧ m ≤ 253
      · obtain ⟨S, hS, hSl, hSg⟩ := put_ok' (id := id) (u := u) Hl.out hid hfit.1 hfit.2
        obtain ⟨f1, f2⟩ := hfit
        have HS := Lib.hid hS; have HSl := Lib.hid hSl; have HSg := Lib.hid hSg; clear hS hSl hSg
        have hd253 : decide ((m : Int) ≤ 253) = true := by simp; omega
        by_cases hun : 1 ≤ u.toNat ∧ u.toNat ≤ 247
        · have hu1 : 1 ≤ u.toNat := hun.1
          have hu2 : decide ((u.toNat : Int) ≤ 247) = true := by simp; omega
          obtain ⟨S2, hS2, hO2, hSl2⟩ := rtu_ok' Hl.out hun.1 hun.2 f1 f2
          have HS2 := Lib.hid hS2; have HO2 := Lib.hid hO2; have HSl2 := Lib.hid hSl2; clear hS2 hO2 hSl2 hun
          go_enter Try.func12, Try.ntmps12
          go_wp2_with fail
          refine (tcpPut_any id u b _ _ _ _ hid Hr.out (by omega)).mono ?_
          rintro e w1 ⟨A1, n1, c1, rfl, ho, hb1⟩
          rw [HS.out] at ho ⊢
          have hn1 : n1 = 7 + m := by have := ho.len; simp at this; rw [← this, HSl.out]
          have X1 : Ext _ w1 := hb1
          obtain ⟨-, d1, d2⟩ := Hd.out w1 X1
          have Ho1 := Lib.hid ho; have Hn1 := Lib.hid hn1; clear ho hn1 hb1
          go_wp2_with fail
          refine (rtu_any u b _ _ _ _ (Hr.out.ext X1) (by omega)).mono ?_
          rintro e w2 ⟨A2, n2, c2, rfl, ho, hb2⟩
          have X2 : Ext w1 w2 := hb2
          obtain ⟨-, d1, d2⟩ := Hd.out w2 (X1.trans X2)
          rw [HS2.out] at ho ⊢
          have hn2 : n2 = 3 + m := by have := ho.len; simp at this; rw [← this, HSl2.out]
          have Ho2 := Lib.hid ho; have Hn2 := Lib.hid hn2; clear ho hn2 hb2
          go_wp2_with fail
          refine (copy_any S _ _ _ _ ((Ho1.out.ext X2).rd) (by have := Hn1.out; omega)).mono ?_
          rintro e w3 ⟨A3, c3, rfl, ho, hb3⟩
          have X3 : Ext w2 w3 := hb3
          have Ho3 := Lib.hid ho; clear ho hb3
          have HR' := Lib.hid (Hr'.out.ext (X1.trans (X2.trans X3)))
          go_wp2_with (at_builtin; go_must (refine app_u8 _ rfl (.tmp 75) (.tmp 76) rfl rfl Ho3.out rfl HR'.out isU8_map (by have := Hn1.out; omega) X3.size ?_); intro A4 c4 w4 hown4 hg4 hbk4)
          rw [← List.map_append] at hown4
          have X4 : Ext w2 w4 := X3.grown' hg4 (fun k hk => (Ho3.out.lt k hk).1)
          have Ho4 := Lib.hid hown4; clear hown4 hg4 hbk4
          refine (tcpGet_any (S ++ more) _ _ _ _ Ho4.out.rd Ho4.out.cap (by have := Hn1.out; omega)).mono ?_
          rintro e w5 ⟨A5, n5, c5, rfl, ho, hb5⟩
          rw [HSg.out] at ho ⊢
          have X5 : Ext w4 w5 := hb5
          have hn5 : n5 = m := by have := ho.len; simp at this; rw [← this, Hl.out]
          obtain rfl : m = n5 := hn5.symm
          have Ho5 := Lib.hid ho; clear ho hb5
          clear d1 d2
          obtain ⟨d0, d1, d2⟩ := Hd.out (w5.alloc (.cells #[.int .u16 (id : Int), .int .u8 (u.toNat : Int), .slice A5 m c5] 34)) (X1.trans (X2.trans (X4.trans (X5.trans (Ext.alloc _ _)))))
          have ht7 : (7 + (m : Int) != 7 + (m : Int)) = false := by simp
          have hn1i : (n1 : Int) = 7 + (m : Int) := by have := Hn1.out; omega
          go_wp2_with fail
          refine (tcpSame_any ⟨id, u, b⟩ _ _ _ _ _ _ _ (Ho5.out.rd.ext (Ext.alloc _ _)) (Hr.out.ext (X1.trans (X2.trans (X4.trans (X5.trans (Ext.alloc _ _)))))) (by omega)).mono ?_
          rintro e w6 ⟨rfl, hb6⟩
          have X6 : Ext w5 w6 := (Ext.alloc _ _).trans hb6
          clear d0 d1 d2 hn1i
          have X26 : Ext w2 w6 := X4.trans (X5.trans X6)
          go_wp2_with fail
          refine (openRtu_any S2 _ _ _ _ ((Ho2.out.ext X26).rd) Ho2.out.cap).mono ?_
          rintro e w7 ⟨A7, n7, c7, rfl, ho, hb7⟩
          rw [HO2.out] at ho ⊢
          have X7 : Ext w6 w7 := hb7
          obtain rfl : m = n7 := by have := ho.len; simp at this; rw [← this, Hl.out]
          have Ho7 := Lib.hid ho; clear ho hb7
          obtain ⟨-, d1, d2⟩ := Hd.out w7 (X1.trans (X2.trans (X26.trans X7)))
          go_wp2_with fail
          refine (same_any b b _ _ _ _ _ _ _ Ho7.out.rd (Hr.out.ext (X1.trans (X2.trans (X26.trans X7)))) (by unfold maxLen; omega)).mono ?_
          rintro e w8 ⟨rfl, hb8⟩
          rw [decide_eq_true rfl]
          have X8 : Ext w7 w8 := hb8
          clear d1 d2
          obtain ⟨-, d1, d2⟩ := Hd.out w8 (X1.trans (X2.trans (X26.trans (X7.trans X8))))
          have hn2i : (n2 : Int) = 3 + (m : Int) := by have := Hn2.out; omega
          go_wp2_with fail
          refine (known5_any _).mono ?_
          rintro e w9 ⟨rfl, hb9⟩
          go_wp2_with fail
          go_ret
          exact ⟨rfl, (X0.trans (X1.trans (X2.trans (X26.trans (X7.trans (X8.trans hb9)))))).below⟩
        · have hun' : (rtuF u b).2 ≠ 0 := fun h => by have := rtu_fits.1 h; omega
          have htF : ((rtuF u b).2 == 0) = false := by simp [hun']
          rcases Nat.lt_or_ge u.toNat 1 with hu1 | hu1
          · have hu1' : decide (1 ≤ (u.toNat : Int)) = false := by simp; omega
            clear hun hun'
            go_enter Try.func12, Try.ntmps12
            go_wp2_with fail
            refine (tcpPut_any id u b _ _ _ _ hid Hr.out (by omega)).mono ?_
            rintro e w1 ⟨A1, n1, c1, rfl, ho, hb1⟩
            rw [HS.out] at ho ⊢
            have hn1 : n1 = 7 + m := by have := ho.len; simp at this; rw [← this, HSl.out]
            have X1 : Ext _ w1 := hb1
            obtain ⟨-, d1, d2⟩ := Hd.out w1 X1
            have Ho1 := Lib.hid ho; have Hn1 := Lib.hid hn1; clear ho hn1 hb1
            go_wp2_with fail
            refine (rtu_any u b _ _ _ _ (Hr.out.ext X1) (by omega)).mono ?_
            rintro e w2 ⟨A2, n2, c2, rfl, ho, hb2⟩
            have X2 : Ext w1 w2 := hb2
            obtain ⟨-, d1, d2⟩ := Hd.out w2 (X1.trans X2)
            generalize (rtuF u b).2 = FE at *
            clear ho hb2
            go_wp2_with fail
            refine (copy_any S _ _ _ _ ((Ho1.out.ext X2).rd) (by have := Hn1.out; omega)).mono ?_
            rintro e w3 ⟨A3, c3, rfl, ho, hb3⟩
            have X3 : Ext w2 w3 := hb3
            have Ho3 := Lib.hid ho; clear ho hb3
            have HR' := Lib.hid (Hr'.out.ext (X1.trans (X2.trans X3)))
            go_wp2_with (at_builtin; go_must (refine app_u8 _ rfl (.tmp 75) (.tmp 76) rfl rfl Ho3.out rfl HR'.out isU8_map (by have := Hn1.out; omega) X3.size ?_); intro A4 c4 w4 hown4 hg4 hbk4)
            rw [← List.map_append] at hown4
            have X4 : Ext w2 w4 := X3.grown' hg4 (fun k hk => (Ho3.out.lt k hk).1)
            have Ho4 := Lib.hid hown4; clear hown4 hg4 hbk4
            refine (tcpGet_any (S ++ more) _ _ _ _ Ho4.out.rd Ho4.out.cap (by have := Hn1.out; omega)).mono ?_
            rintro e w5 ⟨A5, n5, c5, rfl, ho, hb5⟩
            rw [HSg.out] at ho ⊢
            have X5 : Ext w4 w5 := hb5
            have hn5 : n5 = m := by have := ho.len; simp at this; rw [← this, Hl.out]
            obtain rfl : m = n5 := hn5.symm
            have Ho5 := Lib.hid ho; clear ho hb5
            clear d1 d2
            obtain ⟨d0, d1, d2⟩ := Hd.out (w5.alloc (.cells #[.int .u16 (id : Int), .int .u8 (u.toNat : Int), .slice A5 m c5] 34)) (X1.trans (X2.trans (X4.trans (X5.trans (Ext.alloc _ _)))))
            have ht7 : (7 + (m : Int) != 7 + (m : Int)) = false := by simp
            have hn1i : (n1 : Int) = 7 + (m : Int) := by have := Hn1.out; omega
            go_wp2_with fail
            refine (tcpSame_any ⟨id, u, b⟩ _ _ _ _ _ _ _ (Ho5.out.rd.ext (Ext.alloc _ _)) (Hr.out.ext (X1.trans (X2.trans (X4.trans (X5.trans (Ext.alloc _ _)))))) (by omega)).mono ?_
            rintro e w6 ⟨rfl, hb6⟩
            have X6 : Ext w5 w6 := (Ext.alloc _ _).trans hb6
            clear d0 d1 d2 hn1i
            go_wp2_with fail
            refine (known5_any _).mono ?_
            rintro e w9 ⟨rfl, hb9⟩
            go_wp2_with fail
            go_ret
            exact ⟨rfl, (X0.trans (X1.trans (X2.trans (X4.trans (X5.trans (X6.trans hb9)))))).below⟩
          · have hu2 : decide ((u.toNat : Int) ≤ 247) = false := by simp; omega
            clear hun hun'
            go_enter Try.func12, Try.ntmps12
            go_wp2_with fail
            refine (tcpPut_any id u b _ _ _ _ hid Hr.out (by omega)).mono ?_
            rintro e w1 ⟨A1, n1, c1, rfl, ho, hb1⟩
            rw [HS.out] at ho ⊢
            have hn1 : n1 = 7 + m := by have := ho.len; simp at this; rw [← this, HSl.out]
            have X1 : Ext _ w1 := hb1
            obtain ⟨-, d1, d2⟩ := Hd.out w1 X1
            have Ho1 := Lib.hid ho; have Hn1 := Lib.hid hn1; clear ho hn1 hb1
            go_wp2_with fail
            refine (rtu_any u b _ _ _ _ (Hr.out.ext X1) (by omega)).mono ?_
            rintro e w2 ⟨A2, n2, c2, rfl, ho, hb2⟩
            have X2 : Ext w1 w2 := hb2
            obtain ⟨-, d1, d2⟩ := Hd.out w2 (X1.trans X2)
            generalize (rtuF u b).2 = FE at *
            clear ho hb2
            go_wp2_with fail
            refine (copy_any S _ _ _ _ ((Ho1.out.ext X2).rd) (by have := Hn1.out; omega)).mono ?_
            rintro e w3 ⟨A3, c3, rfl, ho, hb3⟩
            have X3 : Ext w2 w3 := hb3
            have Ho3 := Lib.hid ho; clear ho hb3
            have HR' := Lib.hid (Hr'.out.ext (X1.trans (X2.trans X3)))
            go_wp2_with (at_builtin; go_must (refine app_u8 _ rfl (.tmp 75) (.tmp 76) rfl rfl Ho3.out rfl HR'.out isU8_map (by have := Hn1.out; omega) X3.size ?_); intro A4 c4 w4 hown4 hg4 hbk4)
            rw [← List.map_append] at hown4
            have X4 : Ext w2 w4 := X3.grown' hg4 (fun k hk => (Ho3.out.lt k hk).1)
            have Ho4 := Lib.hid hown4; clear hown4 hg4 hbk4
            refine (tcpGet_any (S ++ more) _ _ _ _ Ho4.out.rd Ho4.out.cap (by have := Hn1.out; omega)).mono ?_
            rintro e w5 ⟨A5, n5, c5, rfl, ho, hb5⟩
            rw [HSg.out] at ho ⊢
            have X5 : Ext w4 w5 := hb5
            have hn5 : n5 = m := by have := ho.len; simp at this; rw [← this, Hl.out]
            obtain rfl : m = n5 := hn5.symm
            have Ho5 := Lib.hid ho; clear ho hb5
            clear d1 d2
            obtain ⟨d0, d1, d2⟩ := Hd.out (w5.alloc (.cells #[.int .u16 (id : Int), .int .u8 (u.toNat : Int), .slice A5 m c5] 34)) (X1.trans (X2.trans (X4.trans (X5.trans (Ext.alloc _ _)))))
            have ht7 : (7 + (m : Int) != 7 + (m : Int)) = false := by simp
            have hn1i : (n1 : Int) = 7 + (m : Int) := by have := Hn1.out; omega
            go_wp2_with fail
            refine (tcpSame_any ⟨id, u, b⟩ _ _ _ _ _ _ _ (Ho5.out.rd.ext (Ext.alloc _ _)) (Hr.out.ext (X1.trans (X2.trans (X4.trans (X5.trans (Ext.alloc _ _)))))) (by omega)).mono ?_
            rintro e w6 ⟨rfl, hb6⟩
            have X6 : Ext w5 w6 := (Ext.alloc _ _).trans hb6
            clear d0 d1 d2 hn1i
            go_wp2_with fail
            refine (known5_any _).mono ?_
            rintro e w9 ⟨rfl, hb9⟩
            go_wp2_with fail
            go_ret
            exact ⟨rfl, (X0.trans (X1.trans (X2.trans (X4.trans (X5.trans (X6.trans hb9)))))).below⟩
      · have hE : (putTF ⟨id, u, b⟩).2 ≠ 0 := fun h => hfit (by have := put_fits.1 h; simp only [Hl.out] at this; exact this)
        have hFE : (rtuF u b).2 ≠ 0 := fun h => hfit (by have := (rtu_fits.1 h).2; rw [Hl.out] at this; exact this)
        have htE : ((putTF ⟨id, u, b⟩).2 == 0) = false := by simp [hE]
        have htF : ((rtuF u b).2 == 0) = false := by simp [hFE]
        clear hE hFE
        rcases Nat.lt_or_ge m 1 with hm0 | hm0
        · have hd1 : decide (1 ≤ (m : Int)) = false := by simp; omega
          clear hfit
          go_enter Try.func12, Try.ntmps12
          go_wp2_with fail
          refine (tcpPut_any id u b _ _ _ _ hid Hr.out (by omega)).mono ?_
          rintro e w1 ⟨A1, n1, c1, rfl, ho, hb1⟩
          generalize (putTF ⟨id, u, b⟩).2 = EE at *
          have X1 : Ext _ w1 := hb1
          obtain ⟨-, d1, d2⟩ := Hd.out w1 X1
          clear ho hb1
          go_wp2_with fail
          refine (rtu_any u b _ _ _ _ (Hr.out.ext X1) (by omega)).mono ?_
          rintro e w2 ⟨A2, n2, c2, rfl, ho, hb2⟩
          have X2 : Ext w1 w2 := hb2
          obtain ⟨-, d1, d2⟩ := Hd.out w2 (X1.trans X2)
          generalize (rtuF u b).2 = FE at *
          clear ho hb2
          go_wp2_with fail
          all_goals
            refine (known5_any _).mono ?_
            rintro e w9 ⟨rfl, hb9⟩
            go_wp2_with fail
            go_ret
            exact ⟨rfl, (X0.trans (X1.trans (X2.trans hb9))).below⟩
        · have hd253 : decide ((m : Int) ≤ 253) = false := by simp; omega
          clear hfit
          go_enter Try.func12, Try.ntmps12
          go_wp2_with fail
          refine (tcpPut_any id u b _ _ _ _ hid Hr.out (by omega)).mono ?_
          rintro e w1 ⟨A1, n1, c1, rfl, ho, hb1⟩
          generalize (putTF ⟨id, u, b⟩).2 = EE at *
          have X1 : Ext _ w1 := hb1
          obtain ⟨-, d1, d2⟩ := Hd.out w1 X1
          clear ho hb1
          go_wp2_with fail
          refine (rtu_any u b _ _ _ _ (Hr.out.ext X1) (by omega)).mono ?_
          rintro e w2 ⟨A2, n2, c2, rfl, ho, hb2⟩
          have X2 : Ext w1 w2 := hb2
          obtain ⟨-, d1, d2⟩ := Hd.out w2 (X1.trans X2)
          generalize (rtuF u b).2 = FE at *
          clear ho hb2
          go_wp2_with fail
          all_goals
            refine (known5_any _).mono ?_
            rintro e w9 ⟨rfl, hb9⟩
            go_wp2_with fail
            go_ret
            exact ⟨rfl, (X0.trans (X1.trans (X2.trans hb9))).below⟩
end Go.Proofs.Ytemiahjdacckgaa
