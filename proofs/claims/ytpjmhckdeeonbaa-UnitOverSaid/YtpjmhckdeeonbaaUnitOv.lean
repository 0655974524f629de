/- UnitOver, the walk: a request that comes as a frame is answered by the frame of what Do answers. -/
import Derived.Test.YtpjmhckdeeonbaaUnitLa2
import Derived.Test.YtpjmhckdeeonbaaRepGA
namespace Go.Out
open Go Go.RowKit
theorem doU_files (u : UnitD) (a : AskD) : (doU u a).2.files = [] := by
  unfold doU
  split
  · rfl
  · split
    · rfl
    · split
      · rfl
      · split
        · rfl
        · split
          · rfl
          · split <;> rfl
end Go.Out
namespace Go.Proofs.Ytpjmhckdeeonbaa
set_option linter.unusedVariables false
set_option linter.unusedSimpArgs false
set_option maxRecDepth 100000
set_option maxHeartbeats 1000000
open Go Go.RowKit Go.Out

theorem over_ok (z : Int) (l : List AskD) : UnitOk (madeU z l) := by
  have hp := pickF_lt z 64 (by omega)
  exact playU_ok (newU_ok (by omega) (by omega))
theorem over_wrote (z : Int) (l : List AskD) : (madeU z l).wrote ≤ 60 := by
  have h := playU_wrote (newU 5 (1 + pickF z 64)) (l.take 60)
  rw [List.length_take] at h
  have h2 : (newU 5 (1 + pickF z 64)).wrote = 0 := rfl
  show (playU (newU 5 (1 + pickF z 64)) (l.take 60)).wrote ≤ 60
  omega
theorem over_addr (z : Int) (l : List AskD) : (madeU z l).addr = 5 := (playU_addr (newU 5 (1 + pickF z 64)) (l.take 60)).1
theorem apart_from {s t : UnitS} {B : Nat} (hs : LtU s B) (ht : FromU B t) : Apart2 t s := by
  obtain ⟨a0, a1, a2, a3, a4⟩ := hs
  obtain ⟨b0, b1, b2, b3, b4⟩ := ht
  rintro k (rfl | rfl | rfl | rfl | rfl) <;> exact ⟨by omega, by omega, by omega, by omega, by omega⟩
theorem apart_sym {s t : UnitS} (h : Apart2 s t) : Apart2 t s := by
  intro k hk
  refine ⟨fun e => ?_, fun e => ?_, fun e => ?_, fun e => ?_, fun e => ?_⟩
  · obtain ⟨a0, a1, a2, a3, a4⟩ := h k (.inl e); rcases hk with h | h | h | h | h <;> contradiction
  · obtain ⟨a0, a1, a2, a3, a4⟩ := h k (.inr (.inl e)); rcases hk with h | h | h | h | h <;> contradiction
  · obtain ⟨a0, a1, a2, a3, a4⟩ := h k (.inr (.inr (.inl e))); rcases hk with h | h | h | h | h <;> contradiction
  · obtain ⟨a0, a1, a2, a3, a4⟩ := h k (.inr (.inr (.inr (.inl e)))); rcases hk with h | h | h | h | h <;> contradiction
  · obtain ⟨a0, a1, a2, a3, a4⟩ := h k (.inr (.inr (.inr (.inr e)))); rcases hk with h | h | h | h | h <;> contradiction
theorem from_mono {s : UnitS} {B B' : Nat} (h : FromU B' s) (hb : B ≤ B') : FromU B s := by
  obtain ⟨a0, a1, a2, a3, a4⟩ := h
  exact ⟨by omega, by omega, by omega, by omega, by omega⟩
theorem lawUnitOver (z : Int) (l : List AskD) (A : Option Addr) (n c : Nat) (a : AskD) (t : AskS) (w : World) (wf : (Lit.int .i64 z).wf = true) (hr : RdL askK w A n l) (hc : n ≤ c) (hm : c ≤ 9223372036854775807) (hra : AskRd w a t) :
    Calls Try.prog 13 #[.int .i64 z, .slice A n c, askV a t] w (RetQ w true) := by
  have HLG := Lib.hid (fun W (hX : Ext w W) => long19_any l A n c W (hr.ext hX) (by omega))
  have HMD := Lib.hid (fun W (hX : Ext w W) => made19_any z l A n c W (hr.ext hX) (by omega))
  have HLA := Lib.hid (fun W => longAsk_any a t W)
  have HPA := Lib.hid (fun W (hX : Ext w W) => askPut_any a t W (hra.ext hX))
  have HGR := Lib.hid (fun b A N c W (hX : Ext w W) => replyGet_any a b t A N c W (hra.ext hX))
  have HOK := Lib.hid (over_ok z l)
  have HWR := Lib.hid (over_wrote z l)
  have HAD := Lib.hid (over_addr z l)
  have HRA := Lib.hid hra
  clear hr hra
  generalize madeU z l = u at *
  obtain ⟨U2, hU2⟩ : ∃ p, doU u a = p := ⟨_, rfl⟩
  have hfl := doU_files u a
  have hbad := @doU_bad u a
  have hput := @hearU_put u a HOK.out
  have hchk := @doU_check u a HOK.out
  rw [hU2] at hfl hbad hput hchk
  obtain ⟨u1, ex, on', set', files'⟩ := U2
  simp only at hfl hbad hput hchk
  subst hfl
  rw [HAD.out] at hput
  have HDO := Lib.hid (fun s W (hU : UnitAt W s u) (hA : AskRd W a t) => @do_v u u1 s W hU HOK.out (by have := HWR.out; omega) a.code a.addr a.count ex a.on on' a.set set' a.parts [] t.A1 t.A2 t.A3 t.n1 t.c1 t.n2 t.c2 t.n3 t.c3 hA hU2)
  have HBAD := Lib.hid hbad; have HPUT := Lib.hid hput; have HCHK := Lib.hid hchk
  clear hbad hput hchk hU2
  obtain ⟨e2, hpe⟩ : ∃ e, (putA a).2 = e := ⟨_, rfl⟩
  have HE2 : Hid (e2 ≠ 0 → checkF a ≠ 0) := by
    unfold Hid; rw [← hpe]; intro h hk; rw [putA_ok hk] at h; exact h rfl
  have HE0 : Hid (e2 = 0 → checkF a = 0) := by
    unfold Hid; rw [← hpe]; intro h; by_cases hk : checkF a = 0
    · exact hk
    · rw [putA_no hk] at h; exact h
  rw [hpe] at HPA
  clear hpe
  obtain ⟨code, addr, count, on, set, parts⟩ := a
  obtain ⟨A1, n1, c1, A2, n2, c2, A3, n3, c3⟩ := t
  simp only [askV] at HLA HPA HGR HDO ⊢
  go_enter Try.func13, Try.ntmps13
  go_wp2_with fail
  refine (HLG.out _ (Ext.alloc _ _)).mono ?_
  rintro e w1 ⟨P, rfl, hx⟩
  have X1 := Lib.hid hx
  obtain ⟨q, hq⟩ : ∃ q, w.heap.size = q := ⟨_, rfl⟩
  have HB := Lib.hid (heap_alloc_new w (.cells #[.int .i64 code, .int .i64 addr, .int .i64 count, .slice A1 n1 c1, .slice A2 n2 c2, .slice A3 n3 c3] 26))
  have E0 := Lib.hid (Ext.alloc w (.cells #[.int .i64 code, .int .i64 addr, .int .i64 count, .slice A1 n1 c1, .slice A2 n2 c2, .slice A3 n3 c3] 26))
  have hz0 : q + 1 = (w.alloc (.cells #[.int .i64 code, .int .i64 addr, .int .i64 count, .slice A1 n1 c1, .slice A2 n2 c2, .slice A3 n3 c3] 26)).heap.size := by simp [hq]
  rw [hq] at HB
  simp only [hq]
  generalize w.alloc (.cells #[.int .i64 code, .int .i64 addr, .int .i64 count, .slice A1 n1 c1, .slice A2 n2 c2, .slice A3 n3 c3] 26) = v at *
  clear hx HLG
  obtain ⟨d0, d1, d2, d3, d4, d5⟩ := cells6 (X1.out.block HB.out)
  cases P
  · go_wp2_with fail
    refine (HLA.out _).mono ?_
    rintro e w2 ⟨rfl, hx2⟩
    have X2 := Lib.hid (X1.out.trans hx2)
    clear hx2 d0 d1 d2 d3 d4 d5 HLA
    generalize decide (70000 < n1 ∨ 70000 < n2 ∨ 70000 < n3) = Q
    cases Q
    · go_wp2_with fail
      refine (HMD.out _ (E0.out.trans X2.out)).mono ?_
      rintro e w3 ⟨s1, rfl, hU, hx3, hF⟩
      have X3 := Lib.hid (X2.out.trans hx3); have V3 := Lib.hid hU; have F1 : Hid (FromU v.heap.size s1) := from_mono hF X2.out.size
      clear hU hx3 hF
      go_wp2_with fail
      refine (HMD.out _ (E0.out.trans X3.out)).mono ?_
      rintro e w4 ⟨s2, rfl, hU, hx4, hF⟩
      have X4 := Lib.hid (X3.out.trans hx4); have W4 := Lib.hid hU; have V4 := Lib.hid (V3.out.ext hx4); have F2 : Hid (FromU v.heap.size s2) := from_mono hF X3.out.size
      have AP := Lib.hid (apart_from V3.out.lt hF)
      have L2 : Hid (LtU s2 w4.heap.size) := hU.lt
      clear hU hx4 hF V3
      obtain ⟨d0, d1, d2, d3, d4, d5⟩ := cells6 (X4.out.block HB.out)
      go_wp2_with fail
      refine (HDO.out s1 _ V4.out (HRA.out.ext (E0.out.trans X4.out))).mono ?_
      rintro e w5 ⟨B1, m1, k1, B2, m2, k2, B3, m3, k3, rfl, hro, hU, hO⟩
      have X5 := Lib.hid (OnlyU.ext hO F1.out X4.out); have V5 := Lib.hid hU; have W5 := Lib.hid (W4.out.other hO AP.out); have R5 := Lib.hid hro
      have z5 : w4.heap.size ≤ w5.heap.size := hO.size
      clear hU hO hro V4 W4 d0 d1 d2 d3 d4 d5
      have HB9 := Lib.hid (heap_alloc_new w5 (.cells #[.int .i64 ex, .slice B1 m1 k1, .slice B2 m2 k2, .slice B3 m3 k3] 29))
      have E6 := Lib.hid (Ext.alloc w5 (.cells #[.int .i64 ex, .slice B1 m1 k1, .slice B2 m2 k2, .slice B3 m3 k3] 29))
      obtain ⟨d0, d1, d2, d3, d4, d5⟩ := cells6 (E6.out.block (X5.out.block HB.out))
      go_wp2_with fail
      refine (HPA.out _ (E0.out.trans (X5.out.trans E6.out))).mono ?_
      rintro e w7 ⟨A7, n7, c7, rfl, ho7, hx7⟩
      have E7 := Lib.hid (E6.out.trans hx7); have O7 := Lib.hid ho7; have HB7 := Lib.hid (hx7.block HB9.out)
      clear d0 d1 d2 d3 d4 d5 hx7 ho7 HB9 E6
      obtain ⟨g0, g1, g2, g3⟩ := cells4 HB7.out
      by_cases he : e2 = 0
      · subst he
        have hk := HE0.out rfl
        obtain ⟨p1, p2, p3⟩ := HPUT.out hk
        obtain ⟨gr, gr2, gr3, gr4⟩ := getR_putR (HCHK.out hk)
        have op := (openRtu_rtu p3).1
        have hl7 := O7.out.len
        have hpl := (getA_put hk).2.2
        simp only [List.length_map] at hl7
        obtain ⟨⟨f, fe⟩, hf⟩ : ∃ p, rtuF (UInt8.ofNat 5) (putA ⟨code, addr, count, on, set, parts⟩).1 = p := ⟨_, rfl⟩
        have HRT : Hid (∀ W, Rd W A7 n7 ((putA ⟨code, addr, count, on, set, parts⟩).1.map cB) → Calls Try.prog 49 #[.int .u8 5, .slice A7 n7 c7] W (RetS W 5 (f, 0))) := by
          intro W h
          have h2 := rtu_any (UInt8.ofNat 5) _ A7 n7 c7 W h (by omega)
          rw [hf] at h2 p2
          simp only at p2
          rw [p2] at h2
          exact h2
        rw [hf] at p1
        simp only at p1
        clear hf p2 p3 HPUT HCHK HBAD HE0 HE2 HPA
        generalize (rtuF (UInt8.ofNat 5) (putR ⟨code, addr, count, on, set, parts⟩ ⟨ex, on', set', []⟩).1).1 = gb at *
        generalize (putR ⟨code, addr, count, on, set, parts⟩ ⟨ex, on', set', []⟩).1 = pr at *
        have HP1 := Lib.hid p1; have HOP := Lib.hid op; have HGR1 := Lib.hid gr
        clear p1 op gr gr2
        go_wp2_with fail
        refine (HRT.out _ O7.out.rd).mono ?_
        rintro e w8 ⟨A8, n8, c8, rfl, ho8, hb8⟩
        have E8 := Lib.hid (E7.out.trans (Ext.of hb8)); have HB8 := Lib.hid ((Ext.of hb8).block HB7.out)
        have HH := Lib.hid (hear_any u s2 f A8 n8 c8 w8 (W5.out.ext E8.out) HOK.out ho8.rd ho8.cap (by have := HWR.out; omega))
        unfold pU at HH
        clear ho8 hb8 HRT g0 g1 g2 g3 HB7
        go_wp2_with fail
        refine HH.out.mono ?_
        rintro e w9 ⟨A9, n9, c9, rfl, ho9, hU9, hO9⟩
        rw [HP1.out] at ho9 hU9
        simp only at ho9 hU9
        have W9 := Lib.hid hU9; have V9 := Lib.hid ((V5.out.ext E8.out).other hO9 (apart_sym AP.out))
        have HB9 := Lib.hid (hO9.keep L2.out z5 HB8.out)
        have X9 := Lib.hid (OnlyU.ext hO9 F2.out (X5.out.trans E8.out))
        have R9 := Lib.hid (rep_only R5.out rfl ((OnlyU.of_ext E8.out).trans hO9) L2.out (Nat.le_refl _))
        have HOR := Lib.hid (openRtu_any gb A9 n9 c9 w9 ho9.rd ho9.cap)
        rw [HOP.out] at HOR
        clear ho9 hU9 hO9 HH HB8 HP1 V5 W5
        go_wp2_with fail
        refine HOR.out.mono ?_
        rintro e w10 ⟨A10, n10, c10, rfl, ho10, hb10⟩
        have X10 := Lib.hid (X9.out.trans (Ext.of hb10))
        have hl10 := ho10.len
        simp only [List.length_map] at hl10
        have HG := Lib.hid (HGR.out pr A10 n10 c10 w10 (E0.out.trans X10.out) ho10.rd ⟨ho10.cap, ho10.capLe⟩ (by omega))
        rw [HGR1.out] at HG
        have W10 := Lib.hid (W9.out.ext (Ext.of hb10)); have V10 := Lib.hid (V9.out.ext (Ext.of hb10)); have R10 := Lib.hid (R9.out.ext (Ext.of hb10)); have HB10 := Lib.hid ((Ext.of hb10).block HB9.out)
        obtain ⟨d0, d1, d2, d3, d4, d5⟩ := cells6 (X10.out.block HB.out)
        clear ho10 hb10 HOR W9 V9 R9 HB9
        go_wp2_with fail
        refine HG.out.mono ?_
        rintro e w11 ⟨⟨C1, p1, y1, C2, p2, y2, C3, p3, y3⟩, rfl, hro, hx11⟩
        simp only [repV]
        have X11 := Lib.hid (X10.out.trans hx11)
        have HB11 := Lib.hid (hx11.block HB10.out)
        have SR := Lib.hid (fun W (hX : Ext w11 W) => same_reply ⟨ex, on', set', []⟩ ⟨B1, m1, k1, B2, m2, k2, B3, m3, k3⟩ ⟨C1, p1, y1, C2, p2, y2, C3, p3, y3⟩ W ((R10.out.ext hx11).ext hX) (hro.rd.ext hX))
        have W11 := Lib.hid (W10.out.ext hx11); have V11 := Lib.hid (V10.out.ext hx11)
        simp only [repV] at SR
        have E12 := Lib.hid (Ext.alloc w11 (.cells #[.int .i64 ex, .slice C1 p1 y1, .slice C2 p2 y2, .slice C3 p3 y3] 29))
        clear d0 d1 d2 d3 d4 d5 hro hx11 HG W10 V10 R10 HB10
        obtain ⟨b0, b1, b2, b3⟩ := cells4 (E12.out.block HB11.out)
        have VW := Lib.hid (fun W (h : UnitAt W s1 u1) => writes_u u1 s1 W h); have WW := Lib.hid (fun W (h : UnitAt W s2 u1) => writes_u u1 s2 W h)
        unfold pU at VW WW
        go_wp2_with fail
        refine (SR.out _ E12.out).mono ?_
        rintro e w12 ⟨rfl, hx12⟩
        have E13 := Lib.hid (E12.out.trans hx12)
        clear b0 b1 b2 b3 hx12
        go_wp2_with fail
        refine (VW.out _ (V11.out.ext E13.out)).mono ?_
        rintro e w13 ⟨rfl, rfl⟩
        go_wp2_with fail
        refine (WW.out _ (W11.out.ext E13.out)).mono ?_
        rintro e w13 ⟨rfl, rfl⟩
        go_wp2_with fail
        refine (known19_any _).mono ?_
        rintro e w14 ⟨rfl, hx14⟩
        go_wp2_with fail
        go_ret
        exact ⟨rfl, E0.out.trans (X11.out.trans (E13.out.trans hx14))⟩
      · have hee : (e2 != 0) = true := by simp [he]
        obtain ⟨rfl, hex⟩ := HBAD.out (HE2.out he)
        have hexx : ex = 1 ∨ ex = 3 := by
          rcases hex with h | h
          · exact .inl (congrArg RepD.exc h)
          · exact .inr (congrArg RepD.exc h)
        have VW := Lib.hid (fun W (h : UnitAt W s1 u1) => writes_u u1 s1 W h); have WW := Lib.hid (fun W (h : UnitAt W s2 u1) => writes_u u1 s2 W h)
        unfold pU at VW WW
        clear hex HBAD
        rcases hexx with rfl | rfl
        all_goals
          go_wp2_with fail
          refine (VW.out _ (V5.out.ext E7.out)).mono ?_
          rintro e w8 ⟨rfl, rfl⟩
          go_wp2_with fail
          refine (WW.out _ (W5.out.ext E7.out)).mono ?_
          rintro e w8 ⟨rfl, rfl⟩
          go_wp2_with fail
          refine (known19_any _).mono ?_
          rintro e w8 ⟨rfl, hx8⟩
          go_wp2_with fail
          go_ret
          exact ⟨rfl, E0.out.trans (X5.out.trans (E7.out.trans hx8))⟩
    · go_wp2_with fail
      refine (known19_any _).mono ?_
      rintro e w3 ⟨rfl, hx3⟩
      go_wp2_with fail
      go_ret
      exact ⟨rfl, E0.out.trans (X2.out.trans hx3)⟩
  · go_wp2_with fail
    refine (known19_any _).mono ?_
    rintro e w2 ⟨rfl, hx2⟩
    go_wp2_with fail
    go_ret
    exact ⟨rfl, E0.out.trans (X1.out.trans hx2)⟩
end Go.Proofs.Ytpjmhckdeeonbaa
