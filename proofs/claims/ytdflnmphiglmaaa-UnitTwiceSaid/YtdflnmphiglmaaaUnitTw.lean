/- UnitTwice, the walk. -/
import Derived.Test.YtdflnmphiglmaaaUnitTwP
namespace Go.Proofs.Ytdflnmphiglmaaa
set_option linter.unusedVariables false
set_option linter.unusedSimpArgs false
set_option maxRecDepth 100000
set_option maxHeartbeats 1000000
open Go Go.RowKit Go.Out

theorem own_only {s : UnitS} {a b : World} {B base n c : Nat} {t : TypeId} {p : Value → Prop} {A : Option Addr} {xs : List Value} (h : Own a base t p A n c xs) (ho : OnlyU s a b) (hl : LtU s B) (hB : B ≤ base) : Own b base t p A n c xs := by
  obtain ⟨l0, l1, l2, l3, l4⟩ := hl
  exact h.kept fun g hg => by
    obtain ⟨q1, q2⟩ := h.lt g hg
    exact ho.block g q2 (by omega) (by omega) (by omega) (by omega) (by omega)
theorem get_w {u : UnitD} {s : UnitS} {w : World} (k i r : Int) (v : UInt16) (nv : Int) (hv : (v.toNat : Int) = nv) (hu : UnitOk u) (hs : getU u k i = (v, r)) (h : UnitAt w s u) : Calls Try.prog 16 #[.pointer (some ⟨s.p, 0, none⟩), .int .i64 k, .int .i64 i] w
    (fun e w' => e = .returned (.tuple #[.int .u16 nv, .int .i64 r]) ∧ w = w') := by
  have h2 := get_u u s k i w hu h
  unfold getV at h2
  rw [hs, hv] at h2
  exact h2
theorem wrote19_any (u : UnitD) (s : UnitS) (a : AskD) (t : AskS) (w : World) (hU : UnitAt w s u) (hu : UnitOk u) (hra : AskRd w a t) (ha : 0 ≤ a.addr ∧ a.addr ≤ 65535) (hl1 : a.on.length ≤ 1968) (hl2 : a.set.length ≤ 123)
    (hon : ∀ i (h : i < a.on.length), getU u 1 (a.addr + (i : Int)) = (b2w a.on[i], 0)) (hset : ∀ i (h : i < a.set.length), getU u 3 (a.addr + (i : Int)) = (a.set[i], 0)) :
    Calls Try.prog 13 #[.pointer (some ⟨s.p, 0, none⟩), askV a t] w (RetQ w true) := by
  have hn1 := hra.n1; have hn2 := hra.n2
  obtain ⟨code, addr, count, on, set, parts⟩ := a
  obtain ⟨A1, n1, c1, A2, n2, c2, A3, n3, c3⟩ := t
  simp only at ha hl1 hl2 hon hset hn1 hn2
  simp only [askV]
  have HRA := Lib.hid hra; have HU := Lib.hid hU; have HOK := Lib.hid hu; have HON := Lib.hid hon; have HSET := Lib.hid hset
  clear hra hU hu hon hset
  go_enter Try.func13, Try.ntmps13
  go_wp2_with fail
  have HB := Lib.hid (heap_alloc_new w (.cells #[.int .i64 code, .int .i64 addr, .int .i64 count, .slice A1 n1 c1, .slice A2 n2 c2, .slice A3 n3 c3] 27))
  have E0 := Lib.hid (Ext.alloc w (.cells #[.int .i64 code, .int .i64 addr, .int .i64 count, .slice A1 n1 c1, .slice A2 n2 c2, .slice A3 n3 c3] 27))
  generalize w.alloc (.cells #[.int .i64 code, .int .i64 addr, .int .i64 count, .slice A1 n1 c1, .slice A2 n2 c2, .slice A3 n3 c3] 27) = v at *
  obtain ⟨d0, d1, d2, d3, d4, d5⟩ := cells6 HB.out
  have UV := Lib.hid (HU.out.ext E0.out)
  go_loopw [4, 5, 6, 7] (fun r i _ _ wr => ∃ k : Nat, r = .bool false ∧ k ≤ n1 ∧ i = .int .i64 (k : Int) ∧ wr = v) (fun _ i _ _ _ => n1 - (intOf i).toNat)
  case atStart => exact ⟨0, rfl, Nat.zero_le _, rfl, rfl⟩
  case round =>
    obtain ⟨k, rfl, hk, rfl, rfl⟩ := hrel
    rcases Nat.lt_or_ge k n1 with hlt | hge
    · obtain ⟨b, o, hA, hb, hlo, hc⟩ := (HRA.out.on.ext E0.out).boat hlt
      have hw : IntKind.i64.wrap (addr + (k : Int)) = addr + (k : Int) := IntWalk.i64_in _ (by omega)
      have hg := HON.out k (by omega)
      generalize on[k] = x at *
      subst hA
      cases x
      all_goals
        first | have HG := Lib.hid (get_w (w := wr) 1 (addr + (k : Int)) 0 0 0 rfl HOK.out hg UV.out) | have HG := Lib.hid (get_w (w := wr) 1 (addr + (k : Int)) 0 1 1 rfl HOK.out hg UV.out)
        clear hg
        go_wp2_with fail
        refine HG.out.mono ?_
        rintro e w2 ⟨rfl, rfl⟩
        go_wp2_with fail
        go_roundw
        case rel => exact ⟨k + 1, by first | rfl | trivial, by omega, by go_num, by first | rfl | trivial⟩
        case measure => simp [intOf]; omega
    · have hk1 : ¬ (k : Int) < (n1 : Int) := by omega
      go_wp2_with fail
      go_loopw [4, 8, 9, 10] (fun r i _ _ w3 => ∃ j : Nat, r = .bool false ∧ j ≤ n2 ∧ i = .int .i64 (j : Int) ∧ w3 = wr) (fun _ i _ _ _ => n2 - (intOf i).toNat)
      case atStart => exact ⟨0, rfl, Nat.zero_le _, rfl, rfl⟩
      case round =>
        obtain ⟨j, rfl, hj, rfl, rfl⟩ := hrel
        rcases Nat.lt_or_ge j n2 with hlt | hge2
        · obtain ⟨b, o, hA, hb, hlo, hc⟩ := (HRA.out.set.ext E0.out).u16at hlt
          have hw : IntKind.i64.wrap (addr + (j : Int)) = addr + (j : Int) := IntWalk.i64_in _ (by omega)
          have hg := HSET.out j (by omega)
          have HG := Lib.hid (get_w 3 (addr + (j : Int)) 0 set[j] _ rfl HOK.out hg UV.out)
          clear hg
          generalize set[j].toNat = x at *
          subst hA
          go_wp2_with fail
          refine HG.out.mono ?_
          rintro e w4 ⟨rfl, rfl⟩
          go_wp2_with fail
          go_roundw
          case rel => exact ⟨j + 1, by first | rfl | trivial, by omega, by go_num, by first | rfl | trivial⟩
          case measure => simp [intOf]; omega
        · go_wp2_with fail
          go_ret
          exact ⟨rfl, E0.out⟩
theorem lawUnitTwice (z : Int) (l : List AskD) (A : Option Addr) (n c : Nat) (a : AskD) (t : AskS) (w : World) (wf : (Lit.int .i64 z).wf = true) (hr : RdL askK w A n l) (hc : n ≤ c) (hm : c ≤ 9223372036854775807) (hra : AskRd w a t) :
    Calls Try.prog 3 #[.int .i64 z, .slice A n c, askV a t] w (RetQ w true) := by
  have HLG := Lib.hid (fun W (hX : Ext w W) => long19_any l A n c W (hr.ext hX) (by omega))
  have HMD := Lib.hid (fun W (hX : Ext w W) => made19_any z l A n c W (hr.ext hX) (by omega))
  have HLA := Lib.hid (fun W => longAsk_any a t W)
  have HOK : Hid (UnitOk (madeU z l)) := by
    have hp := pickF_lt z 64 (by omega)
    exact playU_ok (newU_ok (by omega) (by omega))
  have HWR : Hid ((madeU z l).wrote ≤ 60) := by
    have h := playU_wrote (newU 5 (1 + pickF z 64)) (l.take 60)
    rw [List.length_take] at h
    have h2 : (newU 5 (1 + pickF z 64)).wrote = 0 := rfl
    show (playU (newU 5 (1 + pickF z 64)) (l.take 60)).wrote ≤ 60
    omega
  have HRA := Lib.hid hra
  clear hr hra
  generalize madeU z l = u at *
  obtain ⟨U1, hU1⟩ : ∃ p, doU u a = p := ⟨_, rfl⟩
  have hfl : (doU u a).2.files = [] := by
    unfold doU
    split
    · rfl
    · split
      · rfl
      · split
        · rfl
        · split
          · rfl
          · split
            · rfl
            · split <;> rfl
  have htw := @doU_twice u a HOK.out
  have hok1 := @doU_ok u a HOK.out
  have hwr1 := doU_wrote u a
  have hth := @doU_there (doU u a).1 a hok1
  obtain ⟨U2, hU2⟩ : ∃ p, doU (doU u a).1 a = p := ⟨_, rfl⟩
  rw [hU2] at htw hth
  rw [hU1] at hfl htw hok1 hwr1 hU2
  obtain ⟨u1, ex, on', set', files'⟩ := U1
  obtain ⟨u2, D2⟩ := U2
  simp only at hfl htw hok1 hwr1 hU2 hth
  subst hfl
  obtain ⟨rfl, hsame, hrd, hwt⟩ := htw
  simp only at hrd hwt hth
  have hok2 : UnitOk u2 := by have h := @doU_ok u1 a hok1; rw [hU2] at h; exact h
  have HDO1 := Lib.hid (fun s W (hU : UnitAt W s u) (hA : AskRd W a t) => @do_v u u1 s W hU HOK.out (by have := HWR.out; omega) a.code a.addr a.count ex a.on on' a.set set' a.parts [] t.A1 t.A2 t.A3 t.n1 t.c1 t.n2 t.c2 t.n3 t.c3 hA hU1)
  have HDO2 := Lib.hid (fun s W (hU : UnitAt W s u1) (hA : AskRd W a t) => @do_v u1 u2 s W hU hok1 (by have := HWR.out; omega) a.code a.addr a.count ex a.on on' a.set set' a.parts [] t.A1 t.A2 t.A3 t.n1 t.c1 t.n2 t.c2 t.n3 t.c3 hA hU2)
  have HW2 : Hid (ex = 0 → ¬ a.code ≤ 4 → ∀ s W, UnitAt W s u2 → AskRd W a t → Calls Try.prog 13 #[.pointer (some ⟨s.p, 0, none⟩), askV a t] W (RetQ W true)) := by
    intro he hcd s W hU hA
    obtain ⟨q1, q2, q3, q4, q5, q6⟩ := hth he hcd
    exact wrote19_any u2 s a t W hU hok2 hA ⟨q1, q2⟩ q3 q4 q5 q6
  have HSM := Lib.hid (wholeU_same hsame (pickF z 64))
  have HRD := Lib.hid hrd; have HWT := Lib.hid hwt; have HOK1 := Lib.hid hok1; have HOK2 := Lib.hid hok2
  have HRU : Hid (u1 = u → u2 = u) := by
    rintro rfl
    rw [hU1] at hU2
    exact (congrArg Prod.fst hU2).symm
  have HLN : Hid (∀ x : UnitD, (((wholeU x (pickF z 64)).map cW)).length ≤ 1000) := by
    intro x
    have hp := pickF_lt z 64 (by omega)
    unfold wholeU
    rw [List.length_map, wholeK_length]
    omega
  clear hU1 hU2 hsame hrd hwt hok1 hok2 hth hwr1
  obtain ⟨code, addr, count, on, set, parts⟩ := a
  obtain ⟨A1, n1, c1, A2, n2, c2, A3, n3, c3⟩ := t
  simp only [askV] at HLA HDO1 HDO2 HW2 ⊢
  go_enter Try.func3, Try.ntmps3
  go_wp2_with fail
  refine (HLG.out _ (Ext.alloc _ _)).mono ?_
  rintro e w1 ⟨P, rfl, hx⟩
  have X1 := Lib.hid hx
  obtain ⟨q, hq⟩ : ∃ q, w.heap.size = q := ⟨_, rfl⟩
  have HB := Lib.hid (heap_alloc_new w (.cells #[.int .i64 code, .int .i64 addr, .int .i64 count, .slice A1 n1 c1, .slice A2 n2 c2, .slice A3 n3 c3] 27))
  have E0 := Lib.hid (Ext.alloc w (.cells #[.int .i64 code, .int .i64 addr, .int .i64 count, .slice A1 n1 c1, .slice A2 n2 c2, .slice A3 n3 c3] 27))
  rw [hq] at HB
  simp only [hq]
  generalize w.alloc (.cells #[.int .i64 code, .int .i64 addr, .int .i64 count, .slice A1 n1 c1, .slice A2 n2 c2, .slice A3 n3 c3] 27) = v at *
  clear hx HLG
  obtain ⟨d0, d1, d2, d3, d4, d5⟩ := cells6 (X1.out.block HB.out)
  cases P
  · go_wp2_with fail
    refine (HLA.out _).mono ?_
    rintro e w2 ⟨rfl, hx2⟩
    have X2 := Lib.hid (X1.out.trans hx2)
    clear hx2 d0 d1 d2 d3 d4 d5 HLA
    generalize decide (70000 < n1 ∨ 70000 < n2 ∨ 70000 < n3) = Q
    cases Q
    · go_wp2_with fail
      refine (HMD.out _ (E0.out.trans X2.out)).mono ?_
      rintro e w3 ⟨s, rfl, hU, hx3, hF⟩
      have X3 := Lib.hid (X2.out.trans hx3); have V3 := Lib.hid hU; have F1 : Hid (FromU v.heap.size s) := by
        obtain ⟨f0, f1, f2, f3, f4⟩ := hF
        have := X2.out.size
        exact ⟨by omega, by omega, by omega, by omega, by omega⟩
      have L3 : Hid (LtU s w3.heap.size) := hU.lt
      clear hU hx3 hF
      have HWA := Lib.hid (fun W (h : UnitAt W s u) => writes_u u s W h); have HWC := Lib.hid (fun W (h : UnitAt W s u2) => writes_u u2 s W h)
      unfold pU at HWA HWC
      go_wp2_with fail
      refine (HWA.out _ V3.out).mono ?_
      rintro e w0 ⟨rfl, rfl⟩
      go_wp2_with fail
      refine (whole_any u s z _ V3.out HOK.out).mono ?_
      rintro e w4 ⟨A4, n4, c4, rfl, ho4, hx4⟩
      have X4 := Lib.hid (X3.out.trans hx4); have V4 := Lib.hid (V3.out.ext hx4); have W4 := Lib.hid ho4
      have z4 : w3.heap.size ≤ w4.heap.size := hx4.size
      clear ho4 hx4 V3
      obtain ⟨d0, d1, d2, d3, d4, d5⟩ := cells6 (X4.out.block HB.out)
      go_wp2_with fail
      refine (HDO1.out s _ V4.out (HRA.out.ext (E0.out.trans X4.out))).mono ?_
      rintro e w5 ⟨B1, m1, k1, B2, m2, k2, B3, m3, k3, rfl, hro, hU, hO⟩
      have X5 := Lib.hid (OnlyU.ext hO F1.out X4.out); have V5 := Lib.hid hU; have R5 := Lib.hid hro; have W5 := Lib.hid (own_only W4.out hO L3.out (Nat.le_refl _))
      have z5 : w4.heap.size ≤ w5.heap.size := hO.size
      have HB9 := Lib.hid (heap_alloc_new w5 (.cells #[.int .i64 ex, .slice B1 m1 k1, .slice B2 m2 k2, .slice B3 m3 k3] 37))
      clear hU hO hro V4 W4 d0 d1 d2 d3 d4 d5
      go_wp2_with fail
      refine (whole_any u1 s z _ (V5.out.ext (Ext.alloc _ _)) HOK1.out).mono ?_
      rintro e w6 ⟨A6, n6, c6, rfl, ho6, hx6⟩
      have E6 := Lib.hid ((Ext.alloc w5 (.cells #[.int .i64 ex, .slice B1 m1 k1, .slice B2 m2 k2, .slice B3 m3 k3] 37)).trans hx6)
      have HB6 := Lib.hid (hx6.block HB9.out); have X6 := Lib.hid (X5.out.trans E6.out); have V6 := Lib.hid (V5.out.ext E6.out); have W6 := Lib.hid (W5.out.ext E6.out); have N6 := Lib.hid ho6
      have z6 : w5.heap.size ≤ w6.heap.size := E6.out.size
      clear ho6 hx6 V5 W5 HB9
      obtain ⟨d0, d1, d2, d3, d4, d5⟩ := cells6 (X6.out.block HB.out)
      go_wp2_with fail
      refine (HDO2.out s _ V6.out (HRA.out.ext (E0.out.trans X6.out))).mono ?_
      rintro e w7 ⟨C1, p1, y1, C2, p2, y2, C3, p3, y3, rfl, hro, hU, hO⟩
      have X7 := Lib.hid (OnlyU.ext hO F1.out X6.out); have V7 := Lib.hid hU; have S7 := Lib.hid hro.rd
      have R7 := Lib.hid (rep_only R5.out rfl ((OnlyU.of_ext E6.out).trans hO) L3.out z4)
      have W7 := Lib.hid (own_only W6.out hO L3.out (Nat.le_refl _)); have N7 := Lib.hid (own_only N6.out hO L3.out (by simp; omega)); have HB7 := Lib.hid (hO.keep L3.out (by omega) HB6.out)
      have HB12 := Lib.hid (heap_alloc_new w7 (.cells #[.int .i64 ex, .slice C1 p1 y1, .slice C2 p2 y2, .slice C3 p3 y3] 37))
      clear hU hO hro V6 W6 N6 HB6 R5 d0 d1 d2 d3 d4 d5
      go_wp2_with fail
      refine (whole_any u2 s z _ (V7.out.ext (Ext.alloc _ _)) HOK2.out).mono ?_
      rintro e w8 ⟨A8, n8, c8, rfl, ho8, hx8⟩
      have E8 := Lib.hid ((Ext.alloc w7 (.cells #[.int .i64 ex, .slice C1 p1 y1, .slice C2 p2 y2, .slice C3 p3 y3] 37)).trans hx8)
      have HK10 := Lib.hid (E8.out.block HB7.out); have HK12 := Lib.hid (hx8.block HB12.out)
      have X8 := Lib.hid (X7.out.trans E8.out); have V8 := Lib.hid (V7.out.ext E8.out); have W8 := Lib.hid ((W7.out.ext E8.out).rd); have N8 := Lib.hid ((N7.out.ext E8.out).rd); have O8 := Lib.hid ho8.rd
      have SR := Lib.hid (same_reply ⟨ex, on', set', []⟩ ⟨B1, m1, k1, B2, m2, k2, B3, m3, k3⟩ ⟨C1, p1, y1, C2, p2, y2, C3, p3, y3⟩ w8 (R7.out.ext E8.out) (S7.out.ext E8.out))
      simp only [repV] at SR
      clear ho8 hx8 V7 W7 N7 R7 S7 HB7 HB12
      rw [HSM.out] at O8
      obtain ⟨b0, b1, b2, b3⟩ := cells4 HK10.out
      obtain ⟨g0, g1, g2, g3⟩ := cells4 HK12.out
      have HS1 := Lib.hid (fun W (hX : Ext w8 W) => sameW_any _ _ A6 A8 n6 n8 c6 c8 W (N8.out.ext hX) (O8.out.ext hX) (by have h1 := N8.out.1; have h2 := HLN.out u1; unfold maxLen; omega))
      simp only [decide_true] at HS1
      go_wp2_with fail
      refine SR.out.mono ?_
      rintro e w9 ⟨rfl, hx9⟩
      have E9 := Lib.hid hx9
      clear b0 b1 b2 b3 g0 g1 g2 g3 hx9
      go_wp2_with fail
      refine (HS1.out _ E9.out).mono ?_
      rintro e w10 ⟨rfl, hb10⟩
      have E10 := Lib.hid (E9.out.trans (Ext.of hb10))
      clear hb10
      obtain ⟨b0, b1, b2, b3⟩ := cells4 (E10.out.block HK10.out)
      obtain ⟨d0, d1, d2, d3, d4, d5⟩ := cells6 ((X8.out.trans E10.out).block HB.out)
      by_cases hcase : ex ≠ 0 ∨ code ≤ 4
      · have hu1 := HRD.out hcase
        have hu2 := HRU.out hu1
        subst hu1 hu2
        have HS2 := Lib.hid (fun W (hX : Ext w8 W) => sameW_any _ _ A4 A6 n4 n6 c4 c6 W (W8.out.ext hX) (N8.out.ext hX) (by have h1 := W8.out.1; have h2 := HLN.out u2; unfold maxLen; omega))
        simp only [decide_true] at HS2
        rcases hcase with h | h
        · have he : (ex != 0) = true := by simp [h]
          clear h
          go_wp2_with fail
          refine (HS2.out _ E10.out).mono ?_
          rintro e w11 ⟨rfl, hb11⟩
          have E11 := Lib.hid (E10.out.trans (Ext.of hb11))
          clear hb11
          go_wp2_with fail
          refine (HWC.out _ (V8.out.ext E11.out)).mono ?_
          rintro e w12 ⟨rfl, rfl⟩
          go_wp2_with fail
          refine (known19_any _).mono ?_
          rintro e w12 ⟨rfl, hx12⟩
          go_wp2_with fail
          go_ret
          exact ⟨rfl, E0.out.trans (X8.out.trans (E11.out.trans hx12))⟩
        · by_cases h0 : ex = 0
          · subst h0
            go_wp2_with fail
            refine (HS2.out _ E10.out).mono ?_
            rintro e w11 ⟨rfl, hb11⟩
            have E11 := Lib.hid (E10.out.trans (Ext.of hb11))
            clear hb11
            go_wp2_with fail
            refine (HWC.out _ (V8.out.ext E11.out)).mono ?_
            rintro e w12 ⟨rfl, rfl⟩
            go_wp2_with fail
            refine (known19_any _).mono ?_
            rintro e w12 ⟨rfl, hx12⟩
            go_wp2_with fail
            go_ret
            exact ⟨rfl, E0.out.trans (X8.out.trans (E11.out.trans hx12))⟩
          · have he : (ex != 0) = true := by simp [h0]
            go_wp2_with fail
            refine (HS2.out _ E10.out).mono ?_
            rintro e w11 ⟨rfl, hb11⟩
            have E11 := Lib.hid (E10.out.trans (Ext.of hb11))
            clear hb11
            go_wp2_with fail
            refine (HWC.out _ (V8.out.ext E11.out)).mono ?_
            rintro e w12 ⟨rfl, rfl⟩
            go_wp2_with fail
            refine (known19_any _).mono ?_
            rintro e w12 ⟨rfl, hx12⟩
            go_wp2_with fail
            go_ret
            exact ⟨rfl, E0.out.trans (X8.out.trans (E11.out.trans hx12))⟩
      · have h0 : ex = 0 := Classical.not_not.1 fun h => hcase (.inl h)
        have h4 : ¬ code ≤ 4 := fun h => hcase (.inr h)
        have HT := Lib.hid (HWT.out h0 (by omega)); have HW := Lib.hid (HW2.out h0 (by omega))
        subst h0
        clear hcase
        go_wp2_with fail
        refine (HW.out s _ (V8.out.ext E10.out) (HRA.out.ext (E0.out.trans (X8.out.trans E10.out)))).mono ?_
        rintro e w11 ⟨rfl, hx11⟩
        have E11 := Lib.hid (E10.out.trans hx11)
        have HT2 : Hid (((u2.wrote : Nat) : Int) = (u.wrote : Int) + 2) := by have h := HT.out; unfold Hid; omega
        have hw2 : IntKind.i64.wrap ((u.wrote : Int) + 2) = (u.wrote : Int) + 2 := IntWalk.i64_in _ (by have := HWR.out; omega)
        clear hx11 HT
        have HWD := Lib.hid (HWC.out w11 (V8.out.ext E11.out))
        unfold RetN at HWD
        rw [HT2.out] at HWD
        go_wp2_with fail
        refine HWD.out.mono ?_
        rintro e w12 ⟨rfl, rfl⟩
        go_wp2_with fail
        refine (known19_any _).mono ?_
        rintro e w12 ⟨rfl, hx12⟩
        go_wp2_with fail
        go_ret
        exact ⟨rfl, E0.out.trans (X8.out.trans (E11.out.trans hx12))⟩
    · go_wp2_with fail
      refine (known19_any _).mono ?_
      rintro e w3 ⟨rfl, hx3⟩
      go_wp2_with fail
      go_ret
      exact ⟨rfl, E0.out.trans (X2.out.trans hx3)⟩
  · go_wp2_with fail
    refine (known19_any _).mono ?_
    rintro e w2 ⟨rfl, hx2⟩
    go_wp2_with fail
    go_ret
    exact ⟨rfl, E0.out.trans (X1.out.trans hx2)⟩
end Go.Proofs.Ytdflnmphiglmaaa
