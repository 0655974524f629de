/- UnitSilent, the walk: what is no frame, or another unit's, is not answered. -/
import Derived.Test.YtpjmhckdeeonbaaUnitLa2
import Derived.StillTailTactics
import Derived.Deep.RegionWith
namespace Go.Out
open Go Go.RowKit
theorem doU_exc (u : UnitD) (a : AskD) : (doU u a).2.exc = 0 ∨ ∃ k : Nat, 1 ≤ k ∧ k ≤ 3 ∧ (doU u a).2.exc = (k : Int) := by
  unfold doU
  split
  · exact .inr ⟨1, by omega, by omega, rfl⟩
  · split
    · exact .inr ⟨3, by omega, by omega, rfl⟩
    · split
      · exact .inr ⟨2, by omega, by omega, rfl⟩
      · split
        · exact .inl rfl
        · split
          · exact .inl rfl
          · split <;> exact .inl rfl
theorem b0_ofNat (x : Nat) (l : List UInt8) (h : x < 256) : b0 (UInt8.ofNat x :: l) = x := toNat_ofNat8 h
/-- What a unit answers to a frame of its own is a frame of its own. -/
theorem hear_back {u : UnitD} {b : List UInt8} (hu : UnitOk u) (h0 : (openRtuF b).2.2 = 0) (h1 : (openRtuF b).1.toNat = u.addr) (h2 : b0 (openRtuF b).2.1 < 128) :
    ∃ p, openRtuF (hearU u b).2 = ((openRtuF b).1, p, 0) ∧ 1 ≤ p.length ∧ b0 p % 128 = b0 (openRtuF b).2.1 := by
  obtain ⟨l1, l2, l3, l4⟩ := open_some h0
  have fin : ∀ p : List UInt8, 1 ≤ p.length → p.length ≤ 253 → b0 p % 128 = b0 (openRtuF b).2.1 → ∃ q, openRtuF (rtuF (openRtuF b).1 p).1 = ((openRtuF b).1, q, 0) ∧ 1 ≤ q.length ∧ b0 q % 128 = b0 (openRtuF b).2.1 := fun p e1 e2 e3 =>
    ⟨p, (openRtu_rtu (rtu_fits.2 ⟨⟨l3, l4⟩, e1, e2⟩)).1, e1, e3⟩
  unfold hearU
  rw [if_neg (by simp [h0, h1]; omega)]
  split
  · exact fin _ (by simp) (by simp) (by rw [b0_ofNat _ _ (by omega)]; omega)
  · split
    · exact fin _ (by simp) (by simp) (by rw [b0_ofNat _ _ (by omega)]; omega)
    · rename_i hne hz
      have hz : (getA (openRtuF b).2.1).2 = 0 := Classical.not_not.1 hz
      have hk := getA_ok_check hz
      have hp := putA_get hz
      generalize (getA (openRtuF b).2.1).1 = a at *
      have hcl := code_lt hk
      have hcode : b0 (openRtuF b).2.1 = a.code.toNat := by
        rw [putA_ok hk] at hp
        have h := congrArg (fun x : List UInt8 × Int => b0 x.1) hp
        simp only at h
        rw [← h, b0_ofNat _ _ (by omega)]
      have hck := doU_check (u := u) hu hk
      obtain ⟨-, -, g1, g2⟩ := getR_putR hck
      refine fin _ (by omega) g2 ?_
      rcases doU_exc u a with he | ⟨k, k1, k2, he⟩
      · have := (putR_shape hck he).2.2.1
        omega
      · rw [putR_ex hck k1 he, b0_ofNat _ _ (by omega)]
        omega
end Go.Out
namespace Go.Proofs.Ytpjmhckdeeonbaa
set_option linter.unusedVariables false
set_option linter.unusedSimpArgs false
set_option maxRecDepth 100000
set_option maxHeartbeats 1000000
open Go Go.RowKit Go.Out

theorem madeU_ok (z : Int) (l : List AskD) : UnitOk (madeU z l) := by
  have hp := pickF_lt z 64 (by omega)
  exact playU_ok (newU_ok (by omega) (by omega))
theorem madeU_wrote (z : Int) (l : List AskD) : (madeU z l).wrote ≤ 60 := by
  have h := playU_wrote (newU 5 (1 + pickF z 64)) (l.take 60)
  rw [List.length_take] at h
  have h2 : (newU 5 (1 + pickF z 64)).wrote = 0 := rfl
  show (playU (newU 5 (1 + pickF z 64)) (l.take 60)).wrote ≤ 60
  omega
theorem madeU_addr (z : Int) (l : List AskD) : (madeU z l).addr = 5 := (playU_addr (newU 5 (1 + pickF z 64)) (l.take 60)).1
theorem lawUnitSilent (z : Int) (l : List AskD) (A : Option Addr) (n c : Nat) (b : List UInt8) (B : Option Addr) (m k : Nat) (w : World) (wf : (Lit.int .i64 z).wf = true) (hr : RdL askK w A n l) (hc : n ≤ c) (hm : c ≤ 9223372036854775807)
    (hrb : Rd w B m (b.map cB)) (hcb : m ≤ k) (hmb : k ≤ 9223372036854775807) (hbb : k * 1 ≤ 140737488351232) : Calls Try.prog 10 #[.int .i64 z, .slice A n c, .slice B m k] w (RetQ w true) := by
  have HLG := Lib.hid (long19_any l A n c w hr (by omega))
  have HMD := Lib.hid (fun W (hX : Ext w W) => made19_any z l A n c W (hr.ext hX) (by omega))
  have HB := Lib.hid hrb
  have HOK := Lib.hid (madeU_ok z l)
  have HWR := Lib.hid (madeU_wrote z l)
  have HAD := Lib.hid (madeU_addr z l)
  clear hr
  generalize madeU z l = u at *
  go_enter Try.func10, Try.ntmps10
  go_wp2_with fail
  refine HLG.out.mono ?_
  rintro e w1 ⟨P, rfl, hx⟩
  have HX := Lib.hid hx
  clear hx HLG
  cases P
  · by_cases hlong : 65536 < m
    · have hl : (65536 : Int) < (m : Int) := by omega
      go_wp2_with fail
      refine (known19_any _).mono ?_
      rintro e w2 ⟨rfl, hx2⟩
      go_wp2_with fail
      go_ret
      exact ⟨rfl, HX.out.trans hx2⟩
    · have hl : ¬ (65536 : Int) < (m : Int) := by omega
      go_wp2_with fail
      refine (HMD.out _ HX.out).mono ?_
      rintro e w2 ⟨s, rfl, hU, hx2, hF⟩
      have HX2 := Lib.hid (HX.out.trans hx2); have HU2 := Lib.hid hU; have HF : Hid (FromU w.heap.size s) := by
        obtain ⟨f0, f1, f2, f3, f4⟩ := hF
        have := HX.out.size
        exact ⟨by omega, by omega, by omega, by omega, by omega⟩
      clear hU hx2 hF HX
      go_wp2_with fail
      refine (whole_any u s z _ HU2.out HOK.out).mono ?_
      rintro e w3 ⟨A3, n3, c3, rfl, ho3, hx3⟩
      have HO3 := Lib.hid ho3; have HX3 := Lib.hid (HX2.out.trans hx3); have HU3 := Lib.hid (HU2.out.ext hx3)
      have HL3 : Hid (LtU s w2.heap.size) := HU2.out.lt
      clear ho3 hx3
      go_wp2_with fail
      refine (writes_u u s _ HU3.out).mono ?_
      rintro e w4 ⟨rfl, rfl⟩
      go_wp2_with fail
      refine (hear_any u s b B m k _ HU3.out HOK.out (HB.out.ext HX3.out) hcb (by have := HWR.out; omega)).mono ?_
      rintro e w5 ⟨A5, n5, c5, rfl, ho5, hU5, hO5⟩
      have HX5 := Lib.hid (OnlyU.ext hO5 HF.out HX3.out)
      have HO5 := Lib.hid ho5; have HU5 := Lib.hid hU5
      have HW5 : Hid (Rd w5 A3 n3 ((wholeU u (pickF z 64)).map cW)) := (HO3.out.kept fun g hg => by
        obtain ⟨q1, q2⟩ := HO3.out.lt g hg
        obtain ⟨f0, f1, f2, f3, f4⟩ := HL3.out
        exact hO5.block g q2 (by omega) (by omega) (by omega) (by omega) (by omega)).rd
      clear ho5 hU5 hO5 HO3 HU3 HX3
      go_wp2_with fail
      refine (openRtu_any b B m k _ (HB.out.ext HX5.out) hcb).mono ?_
      rintro e w6 ⟨A6, n6, c6, rfl, ho6, hb6⟩
      have HX6 := Lib.hid (HX5.out.trans (Ext.of hb6))
      have HO5' := Lib.hid (HO5.out.ext (Ext.of hb6)); have HU6 := Lib.hid (HU5.out.ext (Ext.of hb6)); have HW6 := Lib.hid (HW5.out.ext (Ext.of hb6))
      have HO6 := Lib.hid ho6
      clear ho6 hb6 HO5 HU5 HW5 HX5
      by_cases hH : (openRtuF b).2.2 = 0 ∧ (openRtuF b).1.toNat = u.addr ∧ b0 (openRtuF b).2.1 < 128
      · obtain ⟨h1, h2, h3⟩ := hH
        obtain ⟨p, hp, hp1, hp2⟩ := hear_back HOK.out h1 h2 h3
        have hls := (open_some h1).1
        have HRB := Lib.hid (openRtu_any (hearU u b).2 A5 n5 c5 _ HO5'.out.rd HO5'.out.cap)
        rw [hp] at HRB
        rw [HAD.out] at h2
        clear hp
        obtain ⟨O, hO⟩ : ∃ O, openRtuF b = O := ⟨_, rfl⟩
        rw [hO] at h1 h2 h3 hp2 hls HRB HO6 ⊢
        clear hO
        obtain ⟨to, pdu, e0⟩ := O
        simp only at h1 h2 h3 hp2 hls HRB HO6 ⊢
        subst h1
        have hl6 := HO6.out.len
        simp only [List.length_map] at hl6
        obtain ⟨b1, o1, rfl, hb1, hl1, hc1⟩ := HO6.out.rd.u8at (k := 0) (by omega)
        have hx : b0 pdu = pdu[0].toNat := by unfold b0; rw [List.getD_eq_getElem?_getD, List.getElem?_eq_getElem hl1]; rfl
        rw [hx] at h3 hp2
        rw [Nat.add_zero] at hc1
        generalize pdu[0].toNat = y at *
        have hto : ((to.toNat : Int) == 5) = true := by simp; omega
        have hn6 : (0 : Int) < (n6 : Int) := by omega
        have hy : (y : Int) < 128 := by omega
        clear h2
        go_wp2_with fail
        refine HRB.out.mono ?_
        rintro e w7 ⟨A7, n7, c7, rfl, ho7, hb7⟩
        have HX7 := Lib.hid (HX6.out.trans (Ext.of hb7))
        have hc7 := (Ext.of hb7).cell hb1 hc1
        have hl7 := ho7.len
        simp only [List.length_map] at hl7
        obtain ⟨b2, o2, rfl, hb2, hl2, hc2⟩ := ho7.rd.u8at (k := 0) (by omega)
        have hx2 : b0 p = p[0].toNat := by unfold b0; rw [List.getD_eq_getElem?_getD, List.getElem?_eq_getElem hl2]; rfl
        rw [hx2] at hp2
        rw [Nat.add_zero] at hc2
        generalize p[0].toNat = x at *
        have hn7 : (0 : Int) < (n7 : Int) := by omega
        have hxy : ((x : Int) % 128 == (y : Int)) = true := by simp; omega
        have hxy2 : ((x : Int).tmod 128 == (y : Int)) = true := by rw [Int.tmod_eq_emod_of_nonneg (by omega)]; exact hxy
        have hxy3 : (x % 128 == y) = true := by simp; omega
        have hn7' : 0 < n7 := by omega
        have hn6' : 0 < n6 := by omega
        clear ho7 HRB hc1 hp2
        go_wp2_with fail
        have HSS : Hid (∀ W, Ext w7 W → W.cell? ⟨b2, o2, none⟩ = some (.int .u8 (x : Int)) ∧ W.cell? ⟨b1, o1, none⟩ = some (.int .u8 (y : Int))) := fun W hX => ⟨hX.cell hb2 hc2, hX.cell (Nat.lt_of_lt_of_le hb1 (Ext.of hb7).size) hc7⟩
        clear hb7
        go_region_held3 (fun W => W.cell? ⟨b2, o2, none⟩ = some (.int .u8 (x : Int)) ∧ W.cell? ⟨b1, o1, none⟩ = some (.int .u8 (y : Int))) (first | go_keep | exact HSS.out _ X8.out) ((first
          | (go_at_call 36
             with_reducible refine Calls.mono (known19_any _) ?_
             rintro e w8 ⟨rfl, hx8⟩
             have X8 := Lib.hid ((Ext.draw w7).trans hx8)
             clear hx8)))
        go_wp2_with fail
        go_ret
        exact ⟨rfl, HX7.out.trans X8.out⟩
      · have hno : hearU u b = (u, []) := by
          unfold hearU; rw [if_pos]
          by_cases h1 : (openRtuF b).2.2 = 0
          · by_cases h2 : (openRtuF b).1.toNat = u.addr
            · exact .inr (.inr (Nat.le_of_not_lt fun h => hH ⟨h1, h2, h⟩))
            · exact .inr (.inl h2)
          · exact .inl h1
        rw [hno] at HO5' HU6
        simp only at HU6 HO5'
        obtain rfl : n5 = 0 := by have := HO5'.out.len; simpa using this.symm
        have HWH := Lib.hid (fun W (h : UnitAt W s u) => whole_any u s z W h HOK.out)
        have HWL : Hid ((((wholeU u (pickF z 64)).map cW)).length ≤ 1000) := by
          have hp := pickF_lt z 64 (by omega)
          unfold Hid wholeU
          rw [List.length_map, wholeK_length]
          omega
        have HWT := Lib.hid (fun W (h : UnitAt W s u) => writes_u u s W h)
        unfold pU at HWT
        have hH2 : (openRtuF b).2.2 ≠ 0 ∨ (openRtuF b).2.2 = 0 ∧ (openRtuF b).1.toNat ≠ 5 ∨ (openRtuF b).2.2 = 0 ∧ (openRtuF b).1.toNat = 5 ∧ ¬ b0 (openRtuF b).2.1 < 128 ∧ 1 ≤ (openRtuF b).2.1.length := by
          rw [HAD.out] at hH
          by_cases h1 : (openRtuF b).2.2 = 0
          · have hl := (open_some h1).1
            by_cases h2 : (openRtuF b).1.toNat = 5
            · exact .inr (.inr ⟨h1, h2, fun h => hH ⟨h1, h2, h⟩, hl⟩)
            · exact .inr (.inl ⟨h1, h2⟩)
          · exact .inl h1
        clear hH hno
        obtain ⟨O, hO⟩ : ∃ O, openRtuF b = O := ⟨_, rfl⟩
        rw [hO] at hH2 HO6 ⊢
        clear hO
        obtain ⟨to, pdu, e0⟩ := O
        simp only at hH2 HO6 ⊢
        rcases hH2 with h1 | ⟨rfl, h2⟩ | ⟨rfl, h2, h3, h4⟩
        · have he : (e0 == 0) = false := by simp [h1]
          clear h1
          go_wp2_with fail
          refine (HWH.out _ HU6.out).mono ?_
          rintro e w7 ⟨A7, n7, c7, rfl, ho7, hx7⟩
          have HX7 := Lib.hid (HX6.out.trans hx7)
          have HU7 := Lib.hid (HU6.out.ext hx7)
          have HS7 := Lib.hid (sameW_any _ _ A3 A7 n3 n7 c3 c7 w7 (HW6.out.ext hx7) ho7.rd (by have h1 := HW6.out.1; have h2 := HWL.out; unfold maxLen; omega))
          rw [decide_eq_true rfl] at HS7
          clear ho7 hx7
          go_wp2_with fail
          refine HS7.out.mono ?_
          rintro e w8 ⟨rfl, hb8⟩
          have HX8 := Lib.hid (HX7.out.trans (Ext.of hb8))
          have HU8 := Lib.hid (HU7.out.ext (Ext.of hb8))
          clear hb8
          go_wp2_with fail
          refine (HWT.out _ HU8.out).mono ?_
          rintro e w9 ⟨rfl, rfl⟩
          go_wp2_with fail
          refine (known19_any _).mono ?_
          rintro e w10 ⟨rfl, hx10⟩
          go_wp2_with fail
          go_ret
          exact ⟨rfl, HX8.out.trans hx10⟩
        · have hto : ((to.toNat : Int) == 5) = false := by simp; omega
          clear h2
          go_wp2_with fail
          refine (HWH.out _ HU6.out).mono ?_
          rintro e w7 ⟨A7, n7, c7, rfl, ho7, hx7⟩
          have HX7 := Lib.hid (HX6.out.trans hx7)
          have HU7 := Lib.hid (HU6.out.ext hx7)
          have HS7 := Lib.hid (sameW_any _ _ A3 A7 n3 n7 c3 c7 w7 (HW6.out.ext hx7) ho7.rd (by have h1 := HW6.out.1; have h2 := HWL.out; unfold maxLen; omega))
          rw [decide_eq_true rfl] at HS7
          clear ho7 hx7
          go_wp2_with fail
          refine HS7.out.mono ?_
          rintro e w8 ⟨rfl, hb8⟩
          have HX8 := Lib.hid (HX7.out.trans (Ext.of hb8))
          have HU8 := Lib.hid (HU7.out.ext (Ext.of hb8))
          clear hb8
          go_wp2_with fail
          refine (HWT.out _ HU8.out).mono ?_
          rintro e w9 ⟨rfl, rfl⟩
          go_wp2_with fail
          refine (known19_any _).mono ?_
          rintro e w10 ⟨rfl, hx10⟩
          go_wp2_with fail
          go_ret
          exact ⟨rfl, HX8.out.trans hx10⟩
        · have hto : ((to.toNat : Int) == 5) = true := by simp; omega
          have hl6 := HO6.out.len
          simp only [List.length_map] at hl6
          obtain ⟨b1, o1, rfl, hb1, hl1, hc1⟩ := HO6.out.rd.u8at (k := 0) (by omega)
          have hx : b0 pdu = pdu[0].toNat := by unfold b0; rw [List.getD_eq_getElem?_getD, List.getElem?_eq_getElem hl1]; rfl
          rw [hx] at h3
          rw [Nat.add_zero] at hc1
          generalize pdu[0].toNat = y at *
          have hn6 : (0 : Int) < (n6 : Int) := by omega
          have hy : ¬ (y : Int) < 128 := by omega
          clear h2
          go_wp2_with fail
          refine (HWH.out _ HU6.out).mono ?_
          rintro e w7 ⟨A7, n7, c7, rfl, ho7, hx7⟩
          have HX7 := Lib.hid (HX6.out.trans hx7)
          have HU7 := Lib.hid (HU6.out.ext hx7)
          have HS7 := Lib.hid (sameW_any _ _ A3 A7 n3 n7 c3 c7 w7 (HW6.out.ext hx7) ho7.rd (by have h1 := HW6.out.1; have h2 := HWL.out; unfold maxLen; omega))
          rw [decide_eq_true rfl] at HS7
          clear ho7 hx7
          go_wp2_with fail
          refine HS7.out.mono ?_
          rintro e w8 ⟨rfl, hb8⟩
          have HX8 := Lib.hid (HX7.out.trans (Ext.of hb8))
          have HU8 := Lib.hid (HU7.out.ext (Ext.of hb8))
          clear hb8
          go_wp2_with fail
          refine (HWT.out _ HU8.out).mono ?_
          rintro e w9 ⟨rfl, rfl⟩
          go_wp2_with fail
          refine (known19_any _).mono ?_
          rintro e w10 ⟨rfl, hx10⟩
          go_wp2_with fail
          go_ret
          exact ⟨rfl, HX8.out.trans hx10⟩
  · go_wp2_with fail
    refine (known19_any _).mono ?_
    rintro e w2 ⟨rfl, hx2⟩
    go_wp2_with fail
    go_ret
    exact ⟨rfl, HX.out.trans hx2⟩
end Go.Proofs.Ytpjmhckdeeonbaa
