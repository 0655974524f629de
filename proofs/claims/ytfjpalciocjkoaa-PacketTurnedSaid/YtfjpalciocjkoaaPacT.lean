/- The walk of PacketTurned: for every input true. -/
import Derived.Test.YtfjpalciocjkoaaPac7
import Derived.Test.YtfjpalciocjkoaaPick
namespace Go.Proofs.Ytfjpalciocjkoaa
set_option linter.unusedVariables false
set_option linter.unusedSimpArgs false
set_option maxRecDepth 100000
set_option maxHeartbeats 6000000
open Go Go.RowKit Go.Out

theorem turn_skip1 {l : List UInt8} {at_ M i : Nat} (h : ¬ (M / 2 ^ i % 2 = 1 ∧ (at_ + i) / 8 < l.length)) : turn l at_ M (i + 1) = ((turn l at_ M i).1, (turn l at_ M i).2) := if_neg h
theorem turn_hit1 {l : List UInt8} {at_ M i : Nat} (h : M / 2 ^ i % 2 = 1 ∧ (at_ + i) / 8 < l.length) : turn l at_ M (i + 1) = (Out.flip (turn l at_ M i).1 (at_ + i), (turn l at_ M i).2 + 1) := if_pos h
theorem xor_bit1 (x : UInt8) (r : Nat) (hr : r < 8) : (.int .u8 (bits .xor .u8 (x.toNat : Int) ((2 : Int) ^ r % 256)) : Value) = cB (x ^^^ bit8 r) := by
  have h2 : (2 : Nat) ^ r ≤ 2 ^ 7 := Nat.pow_le_pow_right (by omega) (by omega)
  have e0 : (bit8 r).toNat = 2 ^ r := by unfold bit8; simp; omega
  have e : (2 : Int) ^ r % 256 = (((bit8 r).toNat : Nat) : Int) := by
    rw [e0]
    have e1 : (2 : Int) ^ r = ((2 ^ r : Nat) : Int) := by simp
    rw [e1]; omega
  rw [e, u8_xor_nat _ _ x.toNat_lt (bit8 r).toNat_lt]; unfold cB; rw [UInt8.toNat_xor]
theorem flip_cell1 (l : List UInt8) (K : Nat) (h : K / 8 < l.length) : (Out.flip l K).map cB = (l.map cB).set (K / 8) (.int .u8 (bits .xor .u8 ((l[K / 8].toNat : Nat) : Int) ((2 : Int) ^ (K % 8) % 256))) := by
  unfold Out.flip
  rw [xor_bit1 _ _ (by omega), List.map_set, List.getD_eq_getElem?_getD, List.getElem?_eq_getElem h]; rfl

theorem lawPacketTurned (p : PacD) (A : Option Addr) (n c : Nat) (at_ mask : Int) (w : World) (hr : PacRd w p A n c) (_hb : c * 1 ≤ 140737488351232) (_wf : (Lit.int .i64 at_).wf = true) (wfm : (Lit.int .u32 mask).wf = true) : Calls Try.prog 7 #[pacV p A n c, .int .i64 at_, .int .u32 mask] w (RetQ w true) := by
  have HP := Lib.hid (fun W (hX : Ext w W) => pacPut_any p A n c W (hr.ext hX))
  have hmb := bounds_u32 wfm
  obtain ⟨M, rfl⟩ := Int.eq_ofNat_of_zero_le hmb.1
  have hM : M < 4294967296 := by have := hmb.2; omega
  clear _hb _wf wfm hmb
  by_cases hK : checkP p = 0
  · obtain ⟨h1, h2, h3⟩ := getP_putP hK
    have hp2 : (putP p).2 = 0 := by rw [putP_ok hK]
    rw [hp2] at HP
    have HSM := Lib.hid (fun (W : World) (B : Option Addr) (m cb : Nat) (hX : Ext w W) (hb : PacRd W p B m cb) => samePac_eq p A B n m c cb W (hr.ext hX) hb)
    have HT := Lib.hid (fun at_ h => getP_turned hK at_ M 32 hM h)
    have HS := Lib.hid (fun at_ h => getP_same hK at_ M 32 h)
    generalize (putP p).1 = b at *
    obtain ⟨N, hN⟩ : ∃ N, b.length = N := ⟨_, rfl⟩
    rw [hN] at h2 h3
    have HN := Lib.hid hN
    have HM := Lib.hid hM
    clear hr hK hp2 h1 hN
    obtain ⟨kd, ep, sq, id, cd, l⟩ := p
    simp only [pacV] at HP HSM ⊢
    have hw8 : IntKind.i64.wrap (8 * (N : Int)) = 8 * (N : Int) := IntWalk.i64_in _ (by omega)
    go_enter Try.func7, Try.ntmps7
    go_wp2_with fail
    refine (HP.out _ (Ext.alloc _ _)).mono ?_
    rintro e w1 ⟨A1, m, c1, rfl, ho, hx1⟩
    obtain rfl : m = N := by have h1 := ho.len; have h2 := HN.out; simp at h1; omega
    have Ho := Lib.hid (ho.mono (base' := w.heap.size + 1) (by simp))
    have hk2 := ho.capLe
    have Y1 := Lib.hid hx1
    clear ho hx1
    go_wp2_with fail
    have hpk := pick_any at_ (8 * m) w1 (by omega) (by omega)
    rw [show (((8 * m : Nat)) : Int) = 8 * (m : Int) by omega] at hpk
    refine hpk.mono ?_
    clear hpk
    rintro e w2 ⟨at1, hat, rfl, rfl⟩
    go_wp2_with fail
    go_loopw [9, 10, 11] (fun nn i _ wr => ∃ k : Nat, k ≤ 32 ∧ i = .int .i64 k ∧ nn = .int .i64 ((turn b at1 M k).2 : Nat) ∧ Hid (Own wr (w.heap.size + 1) 5 IsU8 A1 m c1 ((turn b at1 M k).1.map cB)) ∧ Hid (Ext (w.alloc (.cells #[.int .i64 kd, .int .i64 ep, .int .i64 sq, .int .i64 id, .int .i64 cd, .slice A n c] 25)) wr)) (fun _ i _ _ => 32 - (intOf i).toNat)
    case atStart => exact ⟨0, by omega, rfl, rfl, Ho, Y1⟩
    case round =>
      obtain ⟨k, hk, rfl, rfl, HOw, HEx⟩ := hrel
      by_cases hlt : k < 32
      · have hcnt := turn_count b at1 M k
        have hlen := turn_length b at1 M k
        rw [HN.out] at hlen
        have hskip := @turn_skip1 b at1 M k
        have hhit := @turn_hit1 b at1 M k
        rw [HN.out] at hskip hhit
        obtain ⟨K, hK⟩ : ∃ K, at1 + k = K := ⟨_, rfl⟩
        have hKi : (at1 : Int) + (k : Int) = (K : Int) := by omega
        rw [hK] at hskip hhit
        generalize hL : (turn b at1 M k).1 = L at *
        generalize hC : (turn b at1 M k).2 = C at *
        have hshr : (M : Int) / 2 ^ k = ((M / 2 ^ k : Nat) : Int) := by simp
        have hXM : M / 2 ^ k < 4294967296 := Nat.lt_of_le_of_lt (Nat.div_le_self _ _) hM
        generalize M / 2 ^ k = X at *
        have HK := Lib.hid hK; have Hhit := Lib.hid hhit; have Hskip := Lib.hid hskip; have Hlen := Lib.hid hlen
        clear hK hhit hskip hlen hL hC
        have e5 : (X : Int).tmod 2 = (X : Int) % 2 := Int.tmod_eq_emod_of_nonneg (by omega)
        have e1 : IntKind.i64.wrap ((K : Int) / 8) = (K : Int) / 8 := IntWalk.i64_in _ (by omega)
        have e6 : (K : Int).tdiv 8 = (K : Int) / 8 := Int.tdiv_eq_ediv_of_nonneg (by omega)
        have e7 : (K : Int).tmod 8 = (K : Int) % 8 := Int.tmod_eq_emod_of_nonneg (by omega)
        rcases Nat.mod_two_eq_zero_or_one X with hX | hX
        · have ht : ((X : Int) % 2 == 1) = false := by simp; omega
          go_wp2_with fail
          go_roundw
          case rel => exact ⟨k + 1, by omega, by go_num, by rw [Hskip.out (by omega)], by rw [Hskip.out (by omega)]; exact HOw, HEx⟩
          case measure => simp [intOf]; omega
        · have ht : ((X : Int) % 2 == 1) = true := by simp; omega
          rcases Nat.lt_or_ge (K / 8) m with hKm | hKm
          · have hki : (K : Int) / 8 < (m : Int) := by omega
            have e2 : 0 ≤ (K : Int) / 8 := by omega
            have e4 : ((K : Int) / 8).toNat = K / 8 := by omega
            have e8 : 0 ≤ (K : Int) % 8 := by omega
            have e9 : ((K : Int) % 8).toNat = K % 8 := by omega
            obtain ⟨g, off, rfl, hgb, hcx, hfx⟩ := HOw.out.at_ hKm
            have hkl : K / 8 < L.length := by rw [Hlen.out]; exact hKm
            have hfl := flip_cell1 L K hkl
            have hcy : wr.cell? ⟨g, off + K / 8, none⟩ = some (.int .u8 ((L[K / 8].toNat : Nat) : Int)) := by rw [hcx, List.getElem?_map, List.getElem?_eq_getElem hkl]; rfl
            generalize L[K / 8].toNat = Y at *
            have Hfl := Lib.hid hfl; clear hfl hcx hkl
            go_wp2_with fail
            go_roundw
            case rel => exact ⟨k + 1, by omega, by go_num, by rw [Hhit.out ⟨hX, hKm⟩]; simp, by rw [Hhit.out ⟨hX, hKm⟩, Hfl.out]; exact Own.set_ HOw.out (isU8_bits _ _ _), HEx.out.set' (by simpa using hgb) _⟩
            case measure => simp [intOf]; omega
          · have hki : ¬ (K : Int) / 8 < (m : Int) := by omega
            go_wp2_with fail
            go_roundw
            case rel => exact ⟨k + 1, by omega, by go_num, by rw [Hskip.out (by omega)], by rw [Hskip.out (by omega)]; exact HOw, HEx⟩
            case measure => simp [intOf]; omega
      · obtain rfl : k = 32 := by omega
        have hlen := turn_length b at1 M 32
        rw [HN.out] at hlen
        have hT := HT.out at1
        have hS := HS.out at1
        clear HT HS
        generalize (turn b at1 M 32).1 = L at *
        generalize (turn b at1 M 32).2 = C at *
        have HL := Lib.hid hlen
        have hcap := HOw.out.cap
        clear hlen
        by_cases hC : C = 0
        · have HG := Lib.hid (hS hC)
          subst hC
          clear hS hT
          go_wp2_with fail
          refine (pacGet_any L _ _ _ _ HOw.out.rd hcap (by omega)).mono ?_
          rw [HG.out]
          rintro e w3 ⟨A2, n2, c2, rfl, hp, hx3⟩
          have HR := Lib.hid hp.rd
          have X3 := Lib.hid (fun o => (Ext.alloc _ _).trans (HEx.out.trans (hx3.trans (Ext.alloc w3 o))))
          have DD := fun o : Obj => box6 ((HEx.out.trans (hx3.trans (Ext.alloc w3 o))).block (heap_alloc_new w _))
          have d0 := fun o => (DD o).1
          have d1 := fun o => (DD o).2.1
          have d2 := fun o => (DD o).2.2.1
          have d3 := fun o => (DD o).2.2.2.1
          have d4 := fun o => (DD o).2.2.2.2.1
          have d5 := fun o => (DD o).2.2.2.2.2.1
          clear hp hx3 DD
          simp only [pacV]
          go_wp2_with fail
          refine (HSM.out _ A2 n2 c2 (X3.out _) (HR.out.ext (Ext.alloc _ _))).mono ?_
          rintro e w4 ⟨rfl, hx4⟩
          have X4 := Lib.hid ((X3.out _).trans hx4)
          clear hx4
          go_wp2_with fail
          refine (known21_any _).mono ?_
          rintro e w5 ⟨rfl, hx5⟩
          go_wp2_with fail
          go_ret
          exact ⟨rfl, X4.out.trans hx5⟩
        · have HG := Lib.hid (hT hC)
          have hC0 : ((C : Int) == 0) = false := by simp; omega
          clear hS hT hC
          go_wp2_with fail
          refine (pacGet_any L _ _ _ _ HOw.out.rd hcap (by omega)).mono ?_
          rw [HG.out]
          rintro e w3 ⟨A2, n2, c2, rfl, hp, hx3⟩
          have HR := Lib.hid hp.rd
          have X3 := Lib.hid ((Ext.alloc _ _).trans (HEx.out.trans hx3))
          clear hp hx3
          simp only [pacV, pac0]
          go_wp2_with fail
          refine (samePac_eq pac0 A2 none n2 0 c2 0 _ (HR.out.ext (Ext.alloc _ _)) (pacOw0 _ 0).rd).mono ?_
          rintro e w4 ⟨rfl, hx4⟩
          have X4 := Lib.hid (X3.out.trans ((Ext.alloc _ _).trans hx4))
          clear hx4
          go_wp2_with fail
          refine (known21_any _).mono ?_
          rintro e w5 ⟨rfl, hx5⟩
          go_wp2_with fail
          go_ret
          exact ⟨rfl, X4.out.trans hx5⟩
  · rw [putP_no hK] at HP
    obtain ⟨K, hK2⟩ : ∃ K, checkP p = K := ⟨_, rfl⟩
    rw [hK2] at HP hK
    have hne : (K != 0) = true := by simpa using hK
    simp only at HP
    clear hr hK2
    obtain ⟨kd, ep, sq, id, cd, l⟩ := p
    simp only [pacV] at HP ⊢
    go_enter Try.func7, Try.ntmps7
    go_wp2_with fail
    refine (HP.out _ (Ext.alloc _ _)).mono ?_
    rintro e w2 ⟨P1, m, k, rfl, ho, hx2⟩
    have X2 := Lib.hid ((Ext.alloc _ _).trans hx2)
    clear ho hx2
    go_wp2_with fail
    refine (known21_any _).mono ?_
    rintro e w5 ⟨rfl, hx5⟩
    go_wp2_with fail
    go_ret
    exact ⟨rfl, X2.out.trans hx5⟩
end Go.Proofs.Ytfjpalciocjkoaa
