/- The walk of MasterDeaf. -/
import Derived.Test.YtomcipkmohhpjaaGreatG13
import Derived.Test.YtomcipkmohhpjaaGreatG07
import Derived.Test.YtomcipkmohhpjaaGreatPick
namespace Go.Proofs.YtomcipkmohhpjaaGreat
set_option linter.unusedVariables false
set_option linter.unusedSimpArgs false
set_option maxRecDepth 100000
set_option maxHeartbeats 6000000
open Go Go.RowKit Go.Out

theorem xor_bitM (x : UInt8) (r : Nat) (hr : r < 8) : (.int .u8 (bits .xor .u8 (x.toNat : Int) ((2 : Int) ^ r % 256)) : Value) = cB (x ^^^ bit8 r) := by
  have h2 : (2 : Nat) ^ r ≤ 2 ^ 7 := Nat.pow_le_pow_right (by omega) (by omega)
  have e0 : (bit8 r).toNat = 2 ^ r := by unfold bit8; simp; omega
  have e : (2 : Int) ^ r % 256 = (((bit8 r).toNat : Nat) : Int) := by
    rw [e0]
    have e1 : (2 : Int) ^ r = ((2 ^ r : Nat) : Int) := by simp
    rw [e1]; omega
  rw [e, u8_xor_nat _ _ x.toNat_lt (bit8 r).toNat_lt]; unfold cB; rw [UInt8.toNat_xor]
theorem flip_cellM (l : List UInt8) (K : Nat) (h : K / 8 < l.length) : (Out.flip l K).map cB = (l.map cB).set (K / 8) (.int .u8 (bits .xor .u8 ((l[K / 8].toNat : Nat) : Int) ((2 : Int) ^ (K % 8) % 256))) := by
  unfold Out.flip
  rw [xor_bitM _ _ (by omega), List.map_set, List.getD_eq_getElem?_getD, List.getElem?_eq_getElem h]; rfl
theorem putR_err (a : AskD) (r : RepD) : (putR a r).2 = checkR a r := by
  unfold putR
  split
  · rfl
  · rename_i h; split
    · exact (Classical.not_not.1 h).symm
    · split <;> exact (Classical.not_not.1 h).symm
theorem new50 (w : World) : Calls Tryz.prog 7 #[.int .i64 5, .int .i64 0] w (RetNewM MasAt w (newM 5 0)) := mas_new 5 0 rfl w
theorem new55 (w : World) : Calls Tryz.prog 7 #[.int .i64 5, .int .i64 5] w (RetNewM MasAt w (newM 5 5)) := mas_new 5 5 rfl w
theorem lawDeaf (unit : Int) (a : AskD) (s : AskS) (r : RepD) (t : RepS) (bit : Int) (w : World) (wfu : (Lit.int .i64 unit).wf = true) (ha : AskRd w a s) (hr : RepRd w r t) (wfb : (Lit.int .i64 bit).wf = true) :
    Calls Tryz.prog 14 #[.int .i64 unit, askV a s, repV r t, .int .i64 bit] w (RetQ w true) := by
  have HL := Lib.hid (fun W => longAsk_any a s W)
  have HR := Lib.hid (fun W (hX : Ext w W) => longReply_any r t W (hr.ext hX))
  have HP := Lib.hid (fun W (hX : Ext w W) => replyPut_any a r s t W (ha.ext hX) (hr.ext hX))
  have HST := Lib.hid (fun W p F (hX : Ext w W) (hM : MasAt W p F (newM 5 0)) => mas_start 0 unit a s W p F (newM 5 0) hM (newM_ok rfl) (ha.ext hX))
  rw [putR_err] at HP
  generalize decide (70000 < s.n1 ∨ 70000 < s.n2 ∨ 70000 < s.n3) = P at *
  generalize longR r = Q at *
  clear ha hr wfb wfu
  simp only [askV, repV, pM] at HL HR HP HST ⊢
  go_enter Tryz.func14, Tryz.ntmps14
  go_wp2_with fail
  refine (HL.out _).mono ?_
  rintro e w1 ⟨rfl, hx⟩
  have Z := Lib.hid (show Ext w w1 from ((Ext.alloc _ _).trans (Ext.alloc _ _)).trans hx)
  have BA := Lib.hid (show w1.heap[w.heap.size]? = some (.cells #[.int .i64 a.code, .int .i64 a.addr, .int .i64 a.count, .slice s.A1 s.n1 s.c1, .slice s.A2 s.n2 s.c2, .slice s.A3 s.n3 s.c3] 37 (0, 0)) from hx.block ((Ext.alloc _ _).block (heap_at _ _ _ (by simp))))
  have BR := Lib.hid (show w1.heap[w.heap.size + 1]? = some (.cells #[.int .i64 r.exc, .slice t.A1 t.n1 t.c1, .slice t.A2 t.n2 t.c2, .slice t.A3 t.n3 t.c3] 40 (0, 0)) from hx.block (heap_at _ _ _ (by simp)))
  have X := Lib.hid Z.out
  clear hx Z HL
  obtain ⟨d0, d1, d2, d3, d4, d5⟩ := cells6 BA.out
  obtain ⟨g0, g1, g2, g3⟩ := cells4 BR.out
  cases P with
  | true =>
    go_wp2_with fail
    refine (works_any _).mono ?_
    rintro e w2 ⟨rfl, hx⟩
    go_wp2_with fail
    go_ret
    exact ⟨rfl, X.out.trans hx⟩
  | false =>
    go_wp2_with fail
    refine (HR.out _ X.out).mono ?_
    rintro e w2 ⟨rfl, hx⟩
    have Z := Lib.hid (show Ext w1 w2 from hx)
    replace BA := Lib.hid (Z.out.block BA.out)
    replace BR := Lib.hid (Z.out.block BR.out)
    replace X := Lib.hid (X.out.trans Z.out)
    clear d0 d1 d2 d3 d4 d5 g0 g1 g2 g3
    clear hx Z HR
    cases Q with
    | true =>
      go_wp2_with fail
      refine (works_any _).mono ?_
      rintro e w3 ⟨rfl, hx⟩
      go_wp2_with fail
      go_ret
      exact ⟨rfl, X.out.trans hx⟩
    | false =>
      have hsz2 : w.heap.size + 1 < w2.heap.size := lt_of_heap BR.out
      go_wp2_with fail
      refine (new50 _).mono ?_
      rintro e w3 ⟨p, F, rfl, hm, hx, hF⟩
      unfold pM
      replace BA := Lib.hid (hx.block BA.out)
      replace BR := Lib.hid (hx.block BR.out)
      replace X := Lib.hid (X.out.trans hx)
      have hsz3 := hx.size
      have HM := Lib.hid hm
      have HF := Lib.hid hF
      clear hm hF hx
      obtain ⟨d0, d1, d2, d3, d4, d5⟩ := cells6 BA.out
      go_wp2_with fail
      refine (HST.out _ p F X.out HM.out).mono ?_
      rintro e w4 ⟨F4, A4, n4, c4, rfl, hm, ho, hf, how, hna⟩
      replace BA := Lib.hid ((ho.block w.heap.size (by omega) (fun q => by have := HF.out _ q; omega)).trans BA.out)
      replace BR := Lib.hid ((ho.block (w.heap.size + 1) (by omega) (fun q => by have := HF.out _ q; omega)).trans BR.out)
      replace X := Lib.hid (ho.ext X.out (fun k hk => by have := HF.out k hk; omega))
      replace HF : Hid (∀ k, F4 k → w2.heap.size ≤ k) := fun k hk => by
        rcases hf k hk with q | q
        · exact HF.out k q
        · omega
      replace HM := Lib.hid hm
      clear hm ho hf how hna HST d0 d1 d2 d3 d4 d5
      obtain ⟨d0, d1, d2, d3, d4, d5⟩ := cells6 BA.out
      obtain ⟨g0, g1, g2, g3⟩ := cells4 BR.out
      go_wp2_with fail
      refine (HP.out _ X.out).mono ?_
      rintro e w5 ⟨A5, n5, c5, rfl, how, hx⟩
      replace HM := Lib.hid (HM.out.ext hx)
      replace X := Lib.hid (X.out.trans hx)
      have HO5 := Lib.hid how
      clear how hx HP d0 d1 d2 d3 d4 d5 g0 g1 g2 g3 BA BR
      by_cases hE : startE (newM 5 0) 0 unit a = 0
      case neg =>
        have t1 : (startE (newM 5 0) 0 unit a != 0) = true := by simp [hE]
        generalize startE (newM 5 0) 0 unit a = E at *
        go_wp2_with fail
        refine (works_any _).mono ?_
        rintro e w6 ⟨rfl, hx⟩
        go_wp2_with fail
        go_ret
        exact ⟨rfl, X.out.trans hx⟩
      case pos =>
      by_cases hC : checkR a r = 0
      case neg =>
        rw [hE]
        have t1 : (checkR a r != 0) = true := by simp [hC]
        generalize checkR a r = E at *
        go_wp2_with fail
        refine (works_any _).mono ?_
        rintro e w6 ⟨rfl, hx⟩
        go_wp2_with fail
        go_ret
        exact ⟨rfl, X.out.trans hx⟩
      case pos =>
      rw [hE, hC]
      obtain ⟨f1, f2, f3, f4⟩ := answer_frame hE hC
      have f5 := fun k => openRtu_flip (k := k) f1
      have hdm : startM (newM 5 0) 0 unit a = ⟨5, 0, true, unit.toNat, 1, 0, a, frameF unit a⟩ := by unfold startM; rw [if_pos hE]; rfl
      have hokm := startM_ok (now := 0) (unit := unit) (a := a) (newM_ok (t := 5) (r := 0) rfl)
      obtain ⟨-, hu1, -⟩ := startE_zero hE
      rw [hdm] at HM hokm
      obtain ⟨dm, hdd⟩ : ∃ x, (⟨5, 0, true, unit.toNat, 1, 0, a, frameF unit a⟩ : MasD) = x := ⟨_, rfl⟩
      have hdu : dm.under = true := by rw [← hdd]
      have f6 := f4 dm hdu (by rw [← hdd]) (by rw [← hdd])
      have hn5 : (putR a r).1.length = n5 := by have := HO5.out.len; simpa using this
      rw [hdd] at HM hokm
      clear hdd hdm f4 hE hC
      have hwu : IntKind.u8.wrap unit = ((UInt8.ofNat unit.toNat).toNat : Int) := by
        rw [toNat_ofNat8 (by omega)]
        have := IntWalk.u8_in unit (by omega)
        omega
      generalize UInt8.ofNat unit.toNat = u at *
      have HRT := Lib.hid (rtu_any u (putR a r).1 A5 n5 c5 w5 HO5.out.rd (by omega))
      generalize rtuF u (putR a r).1 = R at *
      obtain ⟨fr, fe⟩ := R
      obtain rfl : fe = 0 := f1
      have Hf5 := Lib.hid f5; have Hf6 := Lib.hid f6; have Hok := Lib.hid hokm
      have Hfl : Hid (fr.length = 3 + (putR a r).1.length) := f2
      clear f5 f6 hokm f2
      go_wp2_with fail
      refine HRT.out.mono ?_
      rintro e w6 ⟨A6, n6, c6, rfl, how, hx⟩
      have HLT := Lib.hid HM.out.lt
      have hw5 := X.out.size
      replace HM := Lib.hid (HM.out.ext (Ext.of hx))
      replace X := Lib.hid (X.out.trans (Ext.of hx))
      have HO6 := Lib.hid how
      have hn6 : fr.length = n6 := by have := how.len; simpa using this
      have hnb : 3 ≤ n6 ∧ n6 ≤ 256 := by have h9 : fr.length = 3 + (putR a r).1.length := Hfl.out; omega
      clear how hx HO5 HRT
      obtain ⟨N, hN⟩ : ∃ N, 8 * n6 = N := ⟨_, rfl⟩
      have hw8 : IntKind.i64.wrap (8 * (n6 : Int)) = (N : Int) := by rw [IntWalk.i64_in _ (by omega)]; omega
      have HPK := Lib.hid (pick_any bit N w6 (by omega) (by omega))
      go_wp2_with fail
      refine HPK.out.mono ?_
      rintro e v_ ⟨k, hk, rfl, rfl⟩
      have e5 : True := trivial
      have e1 : IntKind.i64.wrap ((k : Int) / 8) = (k : Int) / 8 := IntWalk.i64_in _ (by omega)
      have e6 : (k : Int).tdiv 8 = (k : Int) / 8 := Int.tdiv_eq_ediv_of_nonneg (by omega)
      have e7 : (k : Int).tmod 8 = (k : Int) % 8 := Int.tmod_eq_emod_of_nonneg (by omega)
      have hki : (k : Int) / 8 < (n6 : Int) := by omega
      have e2 : 0 ≤ (k : Int) / 8 := by omega
      have e4 : ((k : Int) / 8).toNat = k / 8 := by omega
      have e8 : 0 ≤ (k : Int) % 8 := by omega
      have e9 : ((k : Int) % 8).toNat = k % 8 := by omega
      have hKm : k / 8 < n6 := by omega
      have hkl : k / 8 < fr.length := by omega
      have hkl2 : k / 8 < (Out.flip fr k).length := by rw [flip_length]; exact hkl
      obtain ⟨g, off, rfl, hgb, hcx, hfx⟩ := HO6.out.at_ hKm
      have hfl := flip_cellM fr k hkl
      have hcy : w6.cell? ⟨g, off + k / 8, none⟩ = some (.int .u8 ((fr[k / 8].toNat : Nat) : Int)) := by rw [hcx, List.getElem?_map, List.getElem?_eq_getElem hkl]; rfl
      have hfl2 := flip_cellM (Out.flip fr k) k hkl2
      have hg1 : (Out.flip fr k)[k / 8]? = some ((Out.flip fr k)[k / 8]) := List.getElem?_eq_getElem hkl2
      rw [flip_flip fr k hkl] at hfl2
      have Hno : Hid (hearsB dm (Out.flip fr k) = false) := by
        have := Hf5.out k hkl
        show hearsB dm (Out.flip fr k) = false
        unfold hearsB; rw [decide_eq_false this]; simp
      generalize fr[k / 8].toNat = Y at *
      generalize hfk : Out.flip fr k = fk at *
      generalize hy2 : fk[k / 8] = Y2 at *
      generalize hy3 : Y2.toNat = Y3 at *
      have Hfl1 := Lib.hid hfl; have Hfl2 := Lib.hid hfl2; have HG1 := Lib.hid hg1
      clear hfl hfl2 hcx hg1 HPK hy2 hkl2 hfk
      have hgF : ∀ q, F4 q → q ≠ g := fun q hq e => by have := HLT.out q hq; omega
      have HO7 : Hid (Own (w6.setCell ⟨g, off + k / 8, none⟩ (.int .u8 (bits .xor .u8 (Y : Int) ((2 : Int) ^ (k % 8) % 256)))) w5.heap.size 5 IsU8 (some ⟨g, off, none⟩) n6 c6 (fk.map cB)) := by
        unfold Hid; rw [Hfl1.out]; exact Own.set_ HO6.out (isU8_bits _ _ _)
      have HM7 : Hid (MasAt (w6.setCell ⟨g, off + k / 8, none⟩ (.int .u8 (bits .xor .u8 (Y : Int) ((2 : Int) ^ (k % 8) % 256)))) p F4 dm) := HM.out.set_far (fun q => hgF _ q rfl) _
      have X7 : Hid (Ext w (w6.setCell ⟨g, off + k / 8, none⟩ (.int .u8 (bits .xor .u8 (Y : Int) ((2 : Int) ^ (k % 8) % 256))))) := X.out.set' (by simp only; omega) _
      clear Hfl1
      go_wp2_with fail
      generalize w6.setCell ⟨g, off + k / 8, none⟩ (.int .u8 (bits .xor .u8 (Y : Int) ((2 : Int) ^ (k % 8) % 256))) = w7 at *
      have HH := Lib.hid (mas_hear fk _ n6 c6 w7 p F4 dm HM7.out Hok.out HO7.out.rd ⟨HO7.out.cap, HO7.out.capLe⟩ (by omega))
      rw [show hearM dm fk = dm from by unfold hearM; rw [Hno.out]; rfl, show hearO dm fk = out0 from by unfold hearO; rw [Hno.out]; rfl, Hno.out] at HH
      unfold pM at HH
      refine HH.out.mono ?_
      rintro e w8 ⟨t8, rfl, hm8, ho8, -⟩
      simp only [outV, repV, out0, rep0]
      have HM8 := Lib.hid (hm8.ext (Ext.alloc w8 (.cells #[.int .i64 0, .int .i64 0, .slice t8.A1 t8.n1 t8.c1, .slice t8.A2 t8.n2 t8.c2, .slice t8.A3 t8.n3 t8.c3, .int .i64 0] 59)))
      have HO8 := Lib.hid ((HO7.out.only ho8 (fun q hq hf => by cases hq; exact hgF _ hf rfl)).ext (Ext.alloc w8 (.cells #[.int .i64 0, .int .i64 0, .slice t8.A1 t8.n1 t8.c1, .slice t8.A2 t8.n2 t8.c2, .slice t8.A3 t8.n3 t8.c3, .int .i64 0] 59)))
      have X8 := Lib.hid ((ho8.ext X7.out (fun q hq => by have := HF.out q hq; omega)).trans (Ext.alloc w8 (.cells #[.int .i64 0, .int .i64 0, .slice t8.A1 t8.n1 t8.c1, .slice t8.A2 t8.n2 t8.c2, .slice t8.A3 t8.n3 t8.c3, .int .i64 0] 59)))
      clear hm8 ho8 HH HM7 HO7 X7
      go_wp2_with fail
      generalize w8.alloc (.cells #[.int .i64 0, .int .i64 0, .slice t8.A1 t8.n1 t8.c1, .slice t8.A2 t8.n2 t8.c2, .slice t8.A3 t8.n3 t8.c3, .int .i64 0] 59) = w8' at *
      have HBZ := Lib.hid (mas_busy p F4 dm w8' HM8.out Hok.out)
      rw [hdu] at HBZ
      unfold pM at HBZ
      refine HBZ.out.mono ?_
      rintro e v_ ⟨rfl, rfl⟩
      obtain ⟨g', off', hge, -, hcx, hfx8⟩ := HO8.out.at_ hKm
      injection hge with hge
      injection hge with hge1 hge2 hge3
      subst hge1 hge2
      have hcy8 : w8'.cell? ⟨g, off + k / 8, none⟩ = some (.int .u8 (Y3 : Int)) := by rw [hcx, List.getElem?_map, HG1.out]; show some (cB Y2) = _; unfold cB; rw [hy3]
      clear hcx hge3 hcy hfx HBZ
      have HO9 : Hid (Own (w8'.setCell ⟨g, off + k / 8, none⟩ (.int .u8 (bits .xor .u8 (Y3 : Int) ((2 : Int) ^ (k % 8) % 256)))) w5.heap.size 5 IsU8 (some ⟨g, off, none⟩) n6 c6 (fr.map cB)) := by
        unfold Hid; rw [Hfl2.out]; exact Own.set_ HO8.out (isU8_bits _ _ _)
      have HM9 : Hid (MasAt (w8'.setCell ⟨g, off + k / 8, none⟩ (.int .u8 (bits .xor .u8 (Y3 : Int) ((2 : Int) ^ (k % 8) % 256)))) p F4 dm) := HM8.out.set_far (fun q => hgF _ q rfl) _
      have X9 : Hid (Ext w (w8'.setCell ⟨g, off + k / 8, none⟩ (.int .u8 (bits .xor .u8 (Y3 : Int) ((2 : Int) ^ (k % 8) % 256))))) := X8.out.set' (by simp only; omega) _
      clear Hfl2
      go_wp2_with fail
      generalize w8'.setCell ⟨g, off + k / 8, none⟩ (.int .u8 (bits .xor .u8 (Y3 : Int) ((2 : Int) ^ (k % 8) % 256))) = w9 at *
      have HH := Lib.hid (mas_hear fr _ n6 c6 w9 p F4 dm HM9.out Hok.out HO9.out.rd ⟨HO9.out.cap, HO9.out.capLe⟩ (by omega))
      rw [Hf6.out.1] at HH
      unfold pM at HH
      refine HH.out.mono ?_
      rintro e w10 ⟨t10, rfl, hm10, ho10, -⟩
      have X10 := Lib.hid (ho10.ext X9.out (fun q hq => by have := HF.out q hq; omega))
      clear hm10 ho10 HH HM9 HO9 X9
      generalize hearO dm fr = oo at *
      obtain ⟨o1, ⟨o2, o3, o4, o5⟩, o6⟩ := oo
      simp only [outV, repV]
      go_wp2_with fail
      refine (works_any _).mono ?_
      rintro e w11 ⟨rfl, hx⟩
      go_wp2_with fail
      go_ret
      exact ⟨rfl, X10.out.trans hx⟩
end Go.Proofs.YtomcipkmohhpjaaGreat
