/- Chapter 18: how a list of calls is opened that comes in; long; MasterRuns. (genmasrn.py prints this.) -/
import Derived.Test.YtomcipkmohhpjaaGreatG14
namespace Go.Out
open Go Go.RowKit
set_option linter.unusedVariables false
structure Short18 (x : Op18) : Prop where
  d : x.data.length ≤ 1024
  a : x.ask.on.length ≤ 70000 ∧ x.ask.set.length ≤ 70000 ∧ x.ask.parts.length ≤ 70000
end Go.Out
namespace Go.Proofs.YtomcipkmohhpjaaGreat
open Go Go.RowKit Go.ChangeShapes Go.WideShapes Go.Deep Go.Out
set_option linter.unusedVariables false
set_option linter.unusedSimpArgs false
set_option maxRecDepth 100000
set_option maxHeartbeats 2000000
/-- A call's fourteen cells. -/
def op18K : Kind Op18 := ⟨14, fun w cs x => ∃ (s : AskS) (t : RepS) (B : Option Addr) (m k : Nat), cs = [.int .i64 x.kind, .int .i64 x.now, .int .i64 x.unit, .int .i64 x.ask.code, .int .i64 x.ask.addr, .int .i64 x.ask.count, .slice s.A1 s.n1 s.c1, .slice s.A2 s.n2 s.c2, .slice s.A3 s.n3 s.c3, .int .i64 x.rep.exc, .slice t.A1 t.n1 t.c1, .slice t.A2 t.n2 t.c2, .slice t.A3 t.n3 t.c3, .slice B m k] ∧
    AskRd w x.ask s ∧ RepRd w x.rep t ∧ Rd w B m (x.data.map cB) ∧ m ≤ k ∧ k ≤ 9223372036854775807,
  fun ⟨s, t, B, m, k, h, ha, hr, hb, h1, h2⟩ hx => ⟨s, t, B, m, k, h, ha.ext hx, hr.ext hx, hb.ext hx, h1, h2⟩⟩
theorem ops18_at {w : World} {A : Option Addr} {n i : Nat} {l : List Op18} (h : RdL op18K w A n l) (hk : i < n) : ∃ b off, ∃ hl : i < l.length, ∃ (s : AskS) (t : RepS) (B : Option Addr) (m k : Nat), A = some ⟨b, off, none⟩ ∧ b < w.heap.size ∧ AskRd w l[i].ask s ∧ RepRd w l[i].rep t ∧ Rd w B m (l[i].data.map cB) ∧ m ≤ k ∧ k ≤ 9223372036854775807 ∧
    ∀ W, Ext w W → (W.cell? ⟨b, off + i * 14, none⟩ = some (.int .i64 l[i].kind) ∧ W.cell? ⟨b, off + i * 14 + 1, none⟩ = some (.int .i64 l[i].now) ∧ W.cell? ⟨b, off + i * 14 + 2, none⟩ = some (.int .i64 l[i].unit) ∧ W.cell? ⟨b, off + i * 14 + 3, none⟩ = some (.int .i64 l[i].ask.code) ∧ W.cell? ⟨b, off + i * 14 + 4, none⟩ = some (.int .i64 l[i].ask.addr) ∧ W.cell? ⟨b, off + i * 14 + 5, none⟩ = some (.int .i64 l[i].ask.count) ∧ W.cell? ⟨b, off + i * 14 + 6, none⟩ = some (.slice s.A1 s.n1 s.c1) ∧ W.cell? ⟨b, off + i * 14 + 7, none⟩ = some (.slice s.A2 s.n2 s.c2) ∧ W.cell? ⟨b, off + i * 14 + 8, none⟩ = some (.slice s.A3 s.n3 s.c3) ∧ W.cell? ⟨b, off + i * 14 + 9, none⟩ = some (.int .i64 l[i].rep.exc) ∧ W.cell? ⟨b, off + i * 14 + 10, none⟩ = some (.slice t.A1 t.n1 t.c1) ∧ W.cell? ⟨b, off + i * 14 + 11, none⟩ = some (.slice t.A2 t.n2 t.c2) ∧ W.cell? ⟨b, off + i * 14 + 12, none⟩ = some (.slice t.A3 t.n3 t.c3) ∧ W.cell? ⟨b, off + i * 14 + 13, none⟩ = some (.slice B m k)) := by
  obtain ⟨b, off, rfl, hbk, hl', cs, -, hc, s, t, B, m, k, rfl, ha, hr, hrb, h1, h2⟩ := h.at_ hk
  refine ⟨b, off, hl', s, t, B, m, k, rfl, hbk, ha, hr, hrb, h1, h2, fun W hX => ?_⟩
  have hq : ∀ j v, [.int .i64 l[i].kind, .int .i64 l[i].now, .int .i64 l[i].unit, .int .i64 l[i].ask.code, .int .i64 l[i].ask.addr, .int .i64 l[i].ask.count, .slice s.A1 s.n1 s.c1, .slice s.A2 s.n2 s.c2, .slice s.A3 s.n3 s.c3, .int .i64 l[i].rep.exc, .slice t.A1 t.n1 t.c1, .slice t.A2 t.n2 t.c2, .slice t.A3 t.n3 t.c3, .slice B m k][j]? = some v → w.cell? ⟨b, off + (i * 14 + j), none⟩ = some v := fun j v hv => hc j v hv
  exact ⟨hX.cell hbk (by have h := hq 0 _ rfl; rwa [show off + (i * 14 + 0) = off + i * 14 by omega] at h), hX.cell hbk (by have h := hq 1 _ rfl; rwa [show off + (i * 14 + 1) = off + i * 14 + 1 by omega] at h), hX.cell hbk (by have h := hq 2 _ rfl; rwa [show off + (i * 14 + 2) = off + i * 14 + 2 by omega] at h), hX.cell hbk (by have h := hq 3 _ rfl; rwa [show off + (i * 14 + 3) = off + i * 14 + 3 by omega] at h), hX.cell hbk (by have h := hq 4 _ rfl; rwa [show off + (i * 14 + 4) = off + i * 14 + 4 by omega] at h), hX.cell hbk (by have h := hq 5 _ rfl; rwa [show off + (i * 14 + 5) = off + i * 14 + 5 by omega] at h), hX.cell hbk (by have h := hq 6 _ rfl; rwa [show off + (i * 14 + 6) = off + i * 14 + 6 by omega] at h), hX.cell hbk (by have h := hq 7 _ rfl; rwa [show off + (i * 14 + 7) = off + i * 14 + 7 by omega] at h), hX.cell hbk (by have h := hq 8 _ rfl; rwa [show off + (i * 14 + 8) = off + i * 14 + 8 by omega] at h), hX.cell hbk (by have h := hq 9 _ rfl; rwa [show off + (i * 14 + 9) = off + i * 14 + 9 by omega] at h), hX.cell hbk (by have h := hq 10 _ rfl; rwa [show off + (i * 14 + 10) = off + i * 14 + 10 by omega] at h), hX.cell hbk (by have h := hq 11 _ rfl; rwa [show off + (i * 14 + 11) = off + i * 14 + 11 by omega] at h), hX.cell hbk (by have h := hq 12 _ rfl; rwa [show off + (i * 14 + 12) = off + i * 14 + 12 by omega] at h), hX.cell hbk (by have h := hq 13 _ rfl; rwa [show off + (i * 14 + 13) = off + i * 14 + 13 by omega] at h)⟩
theorem long18_any (l : List Op18) (A : Option Addr) (n c : Nat) (w : World) (hr : RdL op18K w A n l) :
    Calls Tryz.prog 5 #[.slice A n c] w (fun e w' => ∃ b : Bool, e = .returned (.bool b) ∧ Ext w w' ∧ (b = false → n ≤ 100 ∧ ∀ (i : Nat) (x : Op18), l[i]? = some x → Short18 x)) := by
  have HR := Lib.hid hr
  have hln := hr.length
  have Hln : Hid (l.length = n) := hln
  clear hr hln
  by_cases hn : n ≤ 100
  case neg =>
    have h1 : (100 : Int) < (n : Int) := by omega
    go_enter Tryz.func5, Tryz.ntmps5
    go_wp2_with fail
    go_ret
    exact ⟨true, rfl, Ext.refl _, fun h => by cases h⟩
  case pos =>
  have h1 : ¬ (100 : Int) < (n : Int) := by omega
  go_enter Tryz.func5, Tryz.ntmps5
  go_wp2_with fail
  go_loopw [3] (fun i wr => ∃ k : Nat, k ≤ n ∧ i = .int .i64 (k : Int) ∧ Hid (Ext w wr) ∧ Hid (∀ (i : Nat) (x : Op18), i < k → l[i]? = some x → Short18 x)) (fun i _ => n - (intOf i).toNat)
  case atStart => exact ⟨0, Nat.zero_le _, rfl, Ext.refl _, fun i x h => by omega⟩
  case round =>
    obtain ⟨i, hk, rfl, X, HS⟩ := hrel
    rcases Nat.lt_or_ge i n with hlt | hge
    · obtain ⟨b, off, hl, s, t, B, m, k, rfl, hb, ha, hrp, hd, hmk, hkk, hcells⟩ := ops18_at HR.out hlt
      have hdl := hd.length; have e1 := ha.n1; have e2 := ha.n2; have e3 := ha.n3
      have HAD : Hid (l[i].data.length = m ∧ l[i].ask.on.length = s.n1 ∧ l[i].ask.set.length = s.n2 ∧ l[i].ask.parts.length = s.n3) := ⟨hdl, e1, e2, e3⟩
      have HC := Lib.hid hcells
      have hla := fun W => longAsk_any l[i].ask s W
      have hlr := fun W (hX : Ext w W) => longReply_any l[i].rep t W (hrp.ext hX)
      have HI : Hid (l[i]? = some l[i]) := List.getElem?_eq_getElem hl
      clear hcells ha hrp hd hdl e1 e2 e3
      simp only [askV] at hla
      simp only [repV] at hlr
      generalize l[i] = o at *
      have HLA := Lib.hid hla; have HLR := Lib.hid hlr
      clear hla hlr
      have i1 : (i : Int) < (n : Int) := by omega
      have i2 : (0 : Int) ≤ (i : Int) := by omega
      obtain ⟨x0, x1, x2, x3, x4, x5, x6, x7, x8, x9, x10, x11, x12, x13⟩ := HC.out _ X.out
      by_cases hm : 1024 < m
      case pos =>
        have i3 : (1024 : Int) < (m : Int) := by omega
        go_wp2_with fail
        go_ret
        exact ⟨true, rfl, X.out, fun h => by cases h⟩
      case neg =>
      have i3 : ¬ (1024 : Int) < (m : Int) := by omega
      go_wp2_with fail
      refine (HLA.out _).mono ?_
      rintro e w1 ⟨rfl, hx⟩
      have X1 := Lib.hid (X.out.trans hx)
      clear hx x0 x1 x2 x3 x4 x5 x6 x7 x8 x9 x10 x11 x12 x13 HLA
      by_cases hP : 70000 < s.n1 ∨ 70000 < s.n2 ∨ 70000 < s.n3
      case pos =>
        rw [decide_eq_true hP]
        go_wp2_with fail
        go_ret
        exact ⟨true, rfl, X1.out, fun h => by cases h⟩
      case neg =>
      rw [decide_eq_false hP]
      obtain ⟨x0, x1, x2, x3, x4, x5, x6, x7, x8, x9, x10, x11, x12, x13⟩ := HC.out _ X1.out
      go_wp2_with fail
      refine (HLR.out _ X1.out).mono ?_
      rintro e w2 ⟨rfl, hx⟩
      have X2 := Lib.hid (X1.out.trans hx)
      clear hx x0 x1 x2 x3 x4 x5 x6 x7 x8 x9 x10 x11 x12 x13 HLR
      generalize longR o.rep = Q at *
      cases Q with
      | true =>
        go_wp2_with fail
        go_ret
        exact ⟨true, rfl, X2.out, fun h => by cases h⟩
      | false =>
        go_wp2_with fail
        go_roundw
        case rel => exact ⟨i + 1, by omega, by go_num, X2, fun j x hj hx => by
          rcases Nat.lt_or_ge j i with q | q
          · exact HS.out j x q hx
          · obtain rfl : j = i := by omega
            rw [HI.out] at hx
            injection hx with hx
            subst hx
            obtain ⟨g1, g2, g3, g4⟩ := HAD.out
            exact ⟨by omega, by omega, by omega, by omega⟩⟩
        case measure => simp [intOf]; omega
    · obtain rfl : i = n := by omega
      go_wp2_with fail
      go_ret
      exact ⟨false, rfl, X.out, fun _ => ⟨hn, fun j x hx => HS.out j x (by have := (List.getElem?_eq_some_iff.1 hx).1; have := Hln.out; omega) hx⟩⟩
theorem both_any (o : Op18) (s : AskS) (t : RepS) (B : Option Addr) (m k : Nat) (w0 w : World) (p q : Nat) (F G : Nat → Prop) (d : MasD) (h : Both w0 w p F q G d) (hs : Short18 o) (ha : AskRd w0 o.ask s) (hr : RepRd w0 o.rep t) (hd : Rd w0 B m (o.data.map cB)) (hc : m ≤ k ∧ k ≤ 9223372036854775807) :
    Calls Tryz.prog 9 #[pM p, pM q, op18V o s t B m k] w (RetBothE w0 p q) := by
  have e1 := ha.n1; have e2 := ha.n2; have e3 := ha.n3; have e4 := hd.length
  obtain ⟨s1, s2, s3, s4⟩ := hs
  have hm : m ≤ 1048576 := by omega
  obtain ⟨kind, now, unit, a, r, data⟩ := o
  simp only at e1 e2 e3 e4 s1 s2 s3 s4 ha hr hd
  unfold op18V
  simp only
  by_cases k0 : kind = 0
  · subst k0
    exact both_start now unit a r data s t B m k w0 w p q F G d h (fun W hX => ha.ext hX) (by omega) (by omega) (by omega)
  by_cases k1 : kind = 1
  · subst k1
    exact both_hear now unit a r data s t B m k w0 w p q F G d h (fun W hX => hd.ext hX) hc hm
  by_cases k2 : kind = 2
  · subst k2
    exact both_tick now unit a r data s t B m k w0 w p q F G d h
  by_cases k3 : kind = 3
  · subst k3
    exact both_answer now unit a r data s t B m k w0 w p q F G d h (fun W hX => hr.ext hX) (fun W hX => hd.ext hX) hc hm
  exact both_none kind now unit a r data s t B m k w0 w p q F G d h (by simpa using k0) (by simpa using k1) (by simpa using k2) (by simpa using k3)
theorem lawRuns (timeout retries : Int) (l : List Op18) (A : Option Addr) (n c : Nat) (w : World) (wft : (Lit.int .i64 timeout).wf = true) (wfr : (Lit.int .i64 retries).wf = true) (hr : RdL op18K w A n l) (hlc : n ≤ c) (hlm : c ≤ 9223372036854775807) :
    Calls Tryz.prog 3 #[.int .i64 timeout, .int .i64 retries, .slice A n c] w (RetQ w true) := by
  have HR := Lib.hid hr
  have HL := Lib.hid (long18_any l A n c w hr)
  clear hr wft wfr
  go_enter Tryz.func3, Tryz.ntmps3
  go_wp2_with fail
  refine HL.out.mono ?_
  rintro e w1 ⟨b, rfl, hx, hsh⟩
  have X1 := Lib.hid hx; have HSH := Lib.hid hsh
  clear hx hsh HL
  cases b with
  | true =>
    go_wp2_with fail
    refine (works_any _).mono ?_
    rintro e w2 ⟨rfl, hx⟩
    go_wp2_with fail
    go_ret
    exact ⟨rfl, X1.out.trans hx⟩
  | false =>
    have HS := Lib.hid (HSH.out rfl)
    clear HSH
    by_cases hN : newE timeout retries = 0
    case neg =>
      have HNO := Lib.hid (fun W => mas_newNo timeout retries hN W)
      have HNR := Lib.hid (fun W => rem_newNo timeout retries hN W)
      go_wp2_with fail
      refine (HNO.out _).mono ?_
      rintro e v_ ⟨rfl, rfl⟩
      go_wp2_with fail
      refine (HNR.out _).mono ?_
      rintro e v_ ⟨rfl, rfl⟩
      go_wp2_with fail
      refine (works_any _).mono ?_
      rintro e w2 ⟨rfl, hx⟩
      go_wp2_with fail
      go_ret
      exact ⟨rfl, X1.out.trans hx⟩
    case pos =>
    obtain ⟨hT, hR⟩ : (1 ≤ timeout ∧ timeout ≤ 1048576) ∧ 0 ≤ retries ∧ retries ≤ 5 := by
      unfold newE at hN; split at hN
      · cases hN
      · omega
    obtain ⟨T, rfl⟩ := Int.eq_ofNat_of_zero_le (show 0 ≤ timeout by omega)
    obtain ⟨R, rfl⟩ := Int.eq_ofNat_of_zero_le hR.1
    have HNW := Lib.hid (fun W => mas_new T R hN W)
    have HNR := Lib.hid (fun W => rem_new T R hN W)
    have HOK : Hid (MasOk (newM T R)) := newM_ok hN
    go_wp2_with fail
    refine (HNW.out _).mono ?_
    rintro e w2 ⟨p, F, rfl, hm, hx2, hF⟩
    unfold pM
    have M2 := Lib.hid hm; have X2 := Lib.hid hx2; have HF := Lib.hid hF
    clear hm hx2 hF
    go_wp2_with fail
    refine (HNR.out _).mono ?_
    rintro e w3 ⟨q, G, rfl, hm, hx3, hG⟩
    unfold pM
    have T3 : Hid (Both w w3 p F q G (newM T R)) := ⟨M2.out.ext hx3, hm, HOK.out, (X1.out.trans X2.out).trans hx3, fun k hk => Nat.le_trans X1.out.size (HF.out k hk), fun k hk => Nat.le_trans X1.out.size (Nat.le_trans X2.out.size (hG k hk)), fun k hF hG' => by have := M2.out.lt k hF; have := hG k hG'; omega⟩
    have T3' : Hid (∃ F G d, Both w w3 p F q G d) := ⟨F, G, _, T3.out⟩
    clear hm hx3 hG HNW HNR M2 X2 HF T3 HOK hN hT hR X1
    go_wp2_with fail
    go_loopw [11] (fun i wr => ∃ k : Nat, k ≤ n ∧ i = .int .i64 (k : Int) ∧ Hid (∃ F G d, Both w wr p F q G d)) (fun i _ => n - (intOf i).toNat)
    case atStart => exact ⟨0, Nat.zero_le _, rfl, T3'⟩
    case round =>
      obtain ⟨i, hk, rfl, HT⟩ := hrel
      clear T3'
      obtain ⟨F, G, d, hB⟩ := HT.out
      have T := Lib.hid hB
      clear hB HT
      rcases Nat.lt_or_ge i n with hlt | hge
      · obtain ⟨b, off, hl, s, t, B, m, k, rfl, hb, ha, hrp, hd, hmk, hkk, hcells⟩ := ops18_at HR.out hlt
        have hbo := both_any l[i] s t B m k w wr.drew p q F G d (T.out.ext (Ext.draw _)) (HS.out.2 i _ (List.getElem?_eq_getElem hl)) ha hrp hd ⟨hmk, hkk⟩
        have HC := Lib.hid hcells
        clear hcells ha hrp hd
        unfold op18V pM at hbo
        generalize l[i] = o at *
        have HD := Lib.hid hbo
        clear hbo
        have i1 : (i : Int) < (n : Int) := by omega
        have i2 : (0 : Int) ≤ (i : Int) := by omega
        obtain ⟨x0, x1, x2, x3, x4, x5, x6, x7, x8, x9, x10, x11, x12, x13⟩ := HC.out _ T.out.x
        go_wp2_with fail
        go_region_law ((first
          | (go_simp
             go_at_call 9
             with_reducible refine Calls.mono HD.out ?_
             rintro e w5 ⟨rfl, F5, G5, d5, hT⟩
             have T5 := Lib.hid hT
             have hbz := mas_busy p F5 d5 w5 hT.a hT.ok
             have c2 : w5.cell? ⟨q, 2, none⟩ = some (.bool d5.under) := by
               obtain ⟨s9, A9, n9, c9, h9, -⟩ := hT.b
               unfold remRow at h9
               exact (cells13 h9).2.2.1
             simp only [pM] at hbz
             have HBZ := Lib.hid hbz
             clear hT hbz)
          | (go_simp
             go_at_call 10
             with_reducible refine Calls.mono HBZ.out ?_
             rintro e w6 ⟨rfl, rfl⟩)))
        all_goals
          have hdd : (d5.under != d5.under) = false := by simp
          go_wp2_with fail
          go_roundw
          case rel => exact ⟨i + 1, by omega, by go_num, ⟨F5, G5, d5, T5.out⟩⟩
          case measure => simp [intOf]; omega
      · have i1 : ¬ (i : Int) < (n : Int) := by omega
        go_wp2_with fail
        refine (works_any _).mono ?_
        rintro e w2 ⟨rfl, hx⟩
        go_wp2_with fail
        go_ret
        exact ⟨rfl, T.out.x.trans hx⟩
end Go.Proofs.YtomcipkmohhpjaaGreat
