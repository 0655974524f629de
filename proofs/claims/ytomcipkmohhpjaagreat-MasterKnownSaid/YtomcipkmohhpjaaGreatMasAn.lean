/- Rows, as they are opened. -/
import Derived.Test.YtomcipkmohhpjaaGreatG14
import Derived.Test.YtomcipkmohhpjaaGreatMasDf
namespace Go.Out
open Go Go.RowKit Go.ChangeShapes Go.WideShapes Go.Deep
set_option linter.unusedVariables false
end Go.Out
namespace Go.Proofs.YtomcipkmohhpjaaGreat
set_option linter.unusedVariables false
set_option linter.unusedSimpArgs false
set_option maxRecDepth 100000
open Go Go.RowKit Go.ChangeShapes Go.WideShapes Go.Deep Go.Out

/-- A row's cell. -/
def rowK : Kind (List UInt8) := ⟨1, fun w cs l => ∃ A n c, cs = [.slice A n c] ∧ Rd w A n (l.map cB) ∧ n ≤ c ∧ c ≤ 9223372036854775807, fun ⟨A, n, c, h, hr, h1, h2⟩ hx => ⟨A, n, c, h, hr.ext hx, h1, h2⟩⟩
theorem rows_at {w : World} {A : Option Addr} {n k : Nat} {l : List (List UInt8)} (h : RdL rowK w A n l) (hk : k < n) : ∃ b off B m c, A = some ⟨b, off, none⟩ ∧ b < w.heap.size ∧ w.cell? ⟨b, off + k, none⟩ = some (.slice B m c) ∧ Rd w B m ((l.getD k []).map cB) ∧ m ≤ c ∧ c ≤ 9223372036854775807 := by
  obtain ⟨b, off, e, hb, hl, cs, -, hc, B, m, c, rfl, hr, h1, h2⟩ := h.at_ hk
  refine ⟨b, off, B, m, c, e, hb, ?_, ?_, h1, h2⟩
  · have := hc 0 _ rfl
    rw [show off + (k * rowK.k + 0) = off + k from by show off + (k * 1 + 0) = _; omega] at this
    exact this
  · rw [List.getD_eq_getElem?_getD, List.getElem?_eq_getElem hl]; exact hr
end Go.Proofs.YtomcipkmohhpjaaGreat

namespace Go.Out
open Go Go.RowKit
set_option linter.unusedVariables false
/-- Where a master of timeout 5, retries 5 is behind i ticks. -/
structure AnsInv (d0 : MasD) (i : Nat) (d : MasD) : Prop where
  ok : MasOk d
  t : d.timeout = 5
  r : d.retries = 5
  u : d.unit = d0.unit
  a : d.ask = d0.ask
  on : d.under = true → 1 ≤ d.tries ∧ d.tries ≤ 6 ∧ d.last + 5 = 5 * d.tries ∧ i ≤ 5 * d.tries
  off : d.under = false → 31 ≤ i
theorem AnsInv.tick {d0 d : MasD} {i : Nat} (h : AnsInv d0 i d) (hi : i ≤ 50) : AnsInv d0 (i + 1) (tickM d (i : Int)) := by
  have hok := tickM_ok (now := (i : Int)) h.ok
  have h1 := h.on; have h2 := h.off; have ht := h.t; have hr := h.r
  rcases tickK_cases d (i : Int) with ⟨e, hh⟩ | ⟨g1, g2, g3, g4, ⟨e, h5⟩ | ⟨e, h5⟩⟩
  · have e1 : tickM d (i : Int) = d := by unfold tickM; rw [if_pos e]
    rw [e1] at hok ⊢
    refine ⟨hok, ht, hr, h.u, h.a, fun hu => ?_, fun hu => ?_⟩
    · have := h1 hu
      rcases hh with q | ⟨-, q⟩ | ⟨-, -, -, q⟩
      · rw [hu] at q; cases q
      · omega
      · omega
    · have := h2 hu; omega
  · have e1 : tickM d (i : Int) = { d with under := false } := by unfold tickM; rw [if_neg (by omega), if_pos e]
    have := h1 g1
    rw [e1] at hok ⊢
    exact ⟨hok, ht, hr, h.u, h.a, fun hu => absurd hu (by simp), fun _ => by omega⟩
  · have e1 : tickM d (i : Int) = { d with tries := d.tries + 1, last := i } := by unfold tickM; rw [if_neg (by omega), if_neg (by omega)]; simp
    have := h1 g1
    rw [e1] at hok ⊢
    refine ⟨hok, ht, hr, h.u, h.a, fun _ => ?_, fun hu => absurd hu (by simp [g1])⟩
    simp only; omega
end Go.Out
namespace Go.Proofs.YtomcipkmohhpjaaGreat
set_option linter.unusedVariables false
set_option linter.unusedSimpArgs false
set_option maxRecDepth 100000
set_option maxHeartbeats 8000000
open Go Go.RowKit Go.Out

theorem lawAnswered (unit : Int) (a : AskD) (s : AskS) (r : RepD) (t : RepS) (l : List (List UInt8)) (A : Option Addr) (n c : Nat) (w : World) (wfu : (Lit.int .i64 unit).wf = true) (ha : AskRd w a s) (hr : RepRd w r t) (hl : RdL rowK w A n l) (hlc : n ≤ c) (hlm : c ≤ 9223372036854775807) :
    Calls Tryz.prog 13 #[.int .i64 unit, askV a s, repV r t, .slice A n c] w (RetQ w true) := by
  have HL := Lib.hid (fun W => longAsk_any a s W)
  have HR := Lib.hid (fun W (hX : Ext w W) => longReply_any r t W (hr.ext hX))
  have HP := Lib.hid (fun W (hX : Ext w W) => replyPut_any a r s t W (ha.ext hX) (hr.ext hX))
  have HST := Lib.hid (fun W p F (hX : Ext w W) (hM : MasAt W p F (newM 5 5)) => mas_start 0 unit a s W p F (newM 5 5) hM (newM_ok rfl) (ha.ext hX))
  have HRR := Lib.hid hr
  have HA := Lib.hid hl
  rw [putR_err] at HP
  generalize decide (70000 < s.n1 ∨ 70000 < s.n2 ∨ 70000 < s.n3) = P at *
  generalize longR r = Q at *
  clear ha hr wfu hl
  simp only [askV, repV, pM] at HL HR HP HST ⊢
  go_enter Tryz.func13, Tryz.ntmps13
  go_wp2_with fail
  refine (HL.out _).mono ?_
  rintro e w1 ⟨rfl, hx⟩
  have X0 := Lib.hid (show Ext w w1 from ((Ext.alloc _ _).trans (Ext.alloc _ _)).trans hx)
  have BA := Lib.hid (show w1.heap[w.heap.size]? = some (.cells #[.int .i64 a.code, .int .i64 a.addr, .int .i64 a.count, .slice s.A1 s.n1 s.c1, .slice s.A2 s.n2 s.c2, .slice s.A3 s.n3 s.c3] 37 (0, 0)) from hx.block ((Ext.alloc _ _).block (heap_at _ _ _ (by simp))))
  have BR := Lib.hid (show w1.heap[w.heap.size + 1]? = some (.cells #[.int .i64 r.exc, .slice t.A1 t.n1 t.c1, .slice t.A2 t.n2 t.c2, .slice t.A3 t.n3 t.c3] 40 (0, 0)) from hx.block (heap_at _ _ _ (by simp)))
  clear hx HL
  obtain ⟨d0, d1, d2, d3, d4, d5⟩ := cells6 BA.out
  obtain ⟨g0, g1, g2, g3⟩ := cells4 BR.out
  cases P with
  | true =>
    go_wp2_with fail
    refine (works_any _).mono ?_
    rintro e w2 ⟨rfl, hx⟩
    go_wp2_with fail
    go_ret
    exact ⟨rfl, X0.out.trans hx⟩
  | false =>
    go_wp2_with fail
    refine (HR.out _ X0.out).mono ?_
    rintro e w2 ⟨rfl, hx⟩
    have X := Lib.hid hx
    clear d0 d1 d2 d3 d4 d5 g0 g1 g2 g3
    clear hx HR
    cases Q with
    | true =>
      go_wp2_with fail
      refine (works_any _).mono ?_
      rintro e w3 ⟨rfl, hx⟩
      go_wp2_with fail
      go_ret
      exact ⟨rfl, X0.out.trans (X.out.trans hx)⟩
    | false =>
      by_cases hn50 : n ≤ 50
      case neg =>
        have hq : (50 : Int) < (n : Int) := by omega
        go_wp2_with fail
        refine (works_any _).mono ?_
        rintro e w3 ⟨rfl, hx⟩
        go_wp2_with fail
        go_ret
        exact ⟨rfl, X0.out.trans (X.out.trans hx)⟩
      case pos =>
      have hq : ¬ (50 : Int) < (n : Int) := by omega
      go_wp2_with fail
      refine (new55 _).mono ?_
      rintro e w3 ⟨p, F, rfl, hm, hx, hF⟩
      unfold pM
      have hsz2 := X.out.size
      replace X := Lib.hid (X.out.trans hx)
      have HM := Lib.hid hm
      have HF : Hid (∀ k, F k → w1.heap.size ≤ k) := fun k hk => Nat.le_trans hsz2 (hF k hk)
      clear hm hF hx hq
      obtain ⟨d0, d1, d2, d3, d4, d5⟩ := cells6 (X.out.block BA.out)
      go_wp2_with fail
      refine (HST.out _ p F (X0.out.trans X.out) HM.out).mono ?_
      rintro e w4 ⟨F4, A4, n4, c4, rfl, hm, ho, hf, how, hna⟩
      have hsz3 := X.out.size
      replace X := Lib.hid (ho.ext X.out HF.out)
      replace HF : Hid (∀ k, F4 k → w1.heap.size ≤ k) := fun k hk => by
        rcases hf k hk with q | q
        · exact HF.out k q
        · omega
      replace HM := Lib.hid hm
      clear hm ho hf how hna HST d0 d1 d2 d3 d4 d5
      obtain ⟨d0, d1, d2, d3, d4, d5⟩ := cells6 (X.out.block BA.out)
      obtain ⟨g0, g1, g2, g3⟩ := cells4 (X.out.block BR.out)
      go_wp2_with fail
      refine (HP.out _ (X0.out.trans X.out)).mono ?_
      rintro e w5 ⟨A5, n5, c5, rfl, how, hx⟩
      replace HM := Lib.hid (HM.out.ext hx)
      replace X := Lib.hid (X.out.trans hx)
      have HO5 := Lib.hid how
      clear how hx HP d0 d1 d2 d3 d4 d5 g0 g1 g2 g3 BA
      by_cases hE : startE (newM 5 5) 0 unit a = 0
      case neg =>
        have t1 : (startE (newM 5 5) 0 unit a != 0) = true := by simp [hE]
        generalize startE (newM 5 5) 0 unit a = E at *
        go_wp2_with fail
        refine (works_any _).mono ?_
        rintro e w6 ⟨rfl, hx⟩
        go_wp2_with fail
        go_ret
        exact ⟨rfl, X0.out.trans (X.out.trans hx)⟩
      case pos =>
      by_cases hC : checkR a r = 0
      case neg =>
        rw [hE]
        have t1 : (checkR a r != 0) = true := by simp [hC]
        generalize checkR a r = E at *
        go_wp2_with fail
        refine (works_any _).mono ?_
        rintro e w6 ⟨rfl, hx⟩
        go_wp2_with fail
        go_ret
        exact ⟨rfl, X0.out.trans (X.out.trans hx)⟩
      case pos =>
      rw [hE, hC]
      obtain ⟨f1, f2, f3, f4⟩ := answer_frame hE hC
      have hdm : startM (newM 5 5) 0 unit a = ⟨5, 5, true, unit.toNat, 1, 0, a, frameF unit a⟩ := by unfold startM; rw [if_pos hE]; rfl
      have hokm := startM_ok (now := 0) (unit := unit) (a := a) (newM_ok (t := 5) (r := 5) rfl)
      obtain ⟨-, hu1, -⟩ := startE_zero hE
      rw [hdm] at HM hokm
      obtain ⟨dm, hdd⟩ : ∃ x, (⟨5, 5, true, unit.toNat, 1, 0, a, frameF unit a⟩ : MasD) = x := ⟨_, rfl⟩
      have hin : AnsInv dm 0 dm := by
        rw [hdd] at hokm
        refine ⟨hokm, by rw [← hdd], by rw [← hdd], rfl, rfl, fun _ => by subst hdd; exact ⟨Nat.le_refl 1, (show (1 : Nat) ≤ 6 by omega), rfl, Nat.zero_le _⟩, fun q => by rw [← hdd] at q; cases q⟩
      have f6 : ∀ d, AnsInv dm n d → d.under = true → hearsB d (rtuF (UInt8.ofNat unit.toNat) (putR a r).1).1 = true ∧ hearO d (rtuF (UInt8.ofNat unit.toNat) (putR a r).1).1 = ⟨if r.exc ≠ 0 then 2 else 1, r, d.tries⟩ := fun d hd hu => f4 d hu (by rw [hd.u, ← hdd]) (by rw [hd.a, ← hdd])
      have hn5 : (putR a r).1.length = n5 := by have := HO5.out.len; simpa using this
      rw [hdd] at HM
      clear hdd hdm f4 hE hC hokm
      have hwu : IntKind.u8.wrap unit = ((UInt8.ofNat unit.toNat).toNat : Int) := by
        rw [toNat_ofNat8 (by omega)]
        have := IntWalk.u8_in unit (by omega)
        omega
      generalize UInt8.ofNat unit.toNat = u at *
      have HRT := Lib.hid (rtu_any u (putR a r).1 A5 n5 c5 w5 HO5.out.rd (by omega))
      generalize rtuF u (putR a r).1 = R at *
      obtain ⟨fr, fe⟩ := R
      obtain rfl : fe = 0 := f1
      have Hf6 := Lib.hid f6; have HIN := Lib.hid hin
      have Hfl : Hid (fr.length = 3 + (putR a r).1.length) := f2
      clear f6 f2 hin
      go_wp2_with fail
      refine HRT.out.mono ?_
      rintro e w6 ⟨A6, n6, c6, rfl, how, hx⟩
      have HLT := Lib.hid HM.out.lt
      have hw5 := X.out.size
      replace HM := Lib.hid (HM.out.ext (Ext.of hx))
      replace X := Lib.hid (X.out.trans (Ext.of hx))
      have HO6 := Lib.hid how
      have hn6 : fr.length = n6 := by have := how.len; simpa using this
      have hnb : 3 ≤ n6 ∧ n6 ≤ 256 := by have h9 : fr.length = 3 + (putR a r).1.length := Hfl.out; omega
      clear how hx HO5 HRT hwu hu1
      have hgF : Hid (∀ g, blk A6 = some g → ¬ F4 g) := fun g hg hf => by have h1 := (HO6.out.lt g hg).1; have h2 := HLT.out g hf; omega
      go_wp2_with fail
      go_loopw [17, 18, 19] (fun i _ _ wr => ∃ k : Nat, ∃ d : MasD, k ≤ n ∧ i = .int .i64 (k : Int) ∧ Hid (AnsInv dm k d) ∧ Hid (MasAt wr p F4 d) ∧ Hid (Ext w1 wr) ∧ Hid (Own wr w5.heap.size 5 IsU8 A6 n6 c6 (fr.map cB))) (fun i _ _ _ => n - (intOf i).toNat)
      case atStart => exact ⟨0, dm, Nat.zero_le _, rfl, HIN, HM, X, HO6⟩
      case round =>
        clear HM X HO6 HIN HLT
        obtain ⟨k, d, hk, rfl, HI, HM, X, HO6⟩ := hrel
        rcases Nat.lt_or_ge k n with hlt | hge
        · obtain ⟨b1, o1, B1, m1, k1, rfl, hb1, hc1, hr1, hm1, hcm1⟩ := rows_at (HA.out.ext (X0.out.trans X.out)) hlt
          have i1 : (0 : Int) ≤ (k : Int) := by omega
          have i2 : (k : Int) < (n : Int) := by omega
          have i5 : IntKind.i64.wrap ((k : Int) + 1) = (k : Int) + 1 := IntWalk.i64_in _ (by omega)
          by_cases hm : m1 ≤ 1024
          · have hm2 : ¬ (1024 : Int) < (m1 : Int) := by omega
            have HH := Lib.hid (mas_hear (l.getD k []) B1 m1 k1 wr p F4 d HM.out HI.out.ok hr1 ⟨hm1, hcm1⟩ (by omega))
            unfold pM at HH
            clear hr1
            go_wp2_with fail
            refine HH.out.mono ?_
            rintro e w8 ⟨t8, rfl, hm8, ho8, -⟩
            have X8 := Lib.hid (ho8.ext X.out HF.out)
            have HO8 := Lib.hid (HO6.out.only ho8 hgF.out)
            have HM8 := Lib.hid hm8
            clear hm8 ho8 HH HM X HO6
            cases hv : hearsB d (l.getD k []) with
            | true =>
              rw [show hearM d (l.getD k []) = { d with under := false } from by unfold hearM; rw [if_pos hv]] at HM8
              have hok := hearM_ok (b := l.getD k []) HI.out.ok
              rw [show hearM d (l.getD k []) = { d with under := false } from by unfold hearM; rw [if_pos hv]] at hok
              generalize hearO d (l.getD k []) = oo at *
              obtain ⟨q1, ⟨q2, q3, q4, q5⟩, q6⟩ := oo
              simp only [outV, repV]
              have HBZ := Lib.hid (fun W (hX : Ext w8 W) => mas_busy p F4 _ W (HM8.out.ext hX) hok)
              simp only [pM] at HBZ
              go_wp2_with fail
              refine (HBZ.out _ (Ext.alloc _ _)).mono ?_
              rintro e v_ ⟨rfl, rfl⟩
              go_wp2_with fail
              refine (works_any _).mono ?_
              rintro e w9 ⟨rfl, hx⟩
              go_wp2_with fail
              go_ret
              exact ⟨rfl, X0.out.trans (X8.out.trans ((Ext.alloc _ _).trans hx))⟩
            | false =>
              rw [show hearM d (l.getD k []) = d from by unfold hearM; rw [hv]; rfl] at HM8
              generalize hearO d (l.getD k []) = oo at *
              obtain ⟨q1, ⟨q2, q3, q4, q5⟩, q6⟩ := oo
              simp only [outV, repV]
              have HT := Lib.hid (fun W (hX : Ext w8 W) => mas_tick (k : Int) W p F4 d (HM8.out.ext hX) HI.out.ok)
              simp only [pM] at HT
              go_wp2_with fail
              refine (HT.out _ (Ext.alloc _ _)).mono ?_
              rintro e w9 ⟨A9, n9, c9, rfl, hm9, ho9, -⟩
              have X9 := Lib.hid (ho9.ext (X8.out.trans (Ext.alloc _ _)) HF.out)
              have HO9 := Lib.hid ((HO8.out.ext (Ext.alloc _ _)).only ho9 hgF.out)
              have HM9 := Lib.hid hm9
              clear hm9 ho9 HT HM8 X8 HO8
              go_wp2_with fail
              go_roundw
              case rel => exact ⟨k + 1, tickM d (k : Int), by omega, by go_num, HI.out.tick (by omega), HM9, X9, HO9⟩
              case measure => simp [intOf]; omega
          · have hm2 : (1024 : Int) < (m1 : Int) := by omega
            clear hr1
            go_wp2_with fail
            refine (works_any _).mono ?_
            rintro e w9 ⟨rfl, hx⟩
            go_wp2_with fail
            go_ret
            exact ⟨rfl, X0.out.trans (X.out.trans hx)⟩
        · obtain rfl : k = n := by omega
          have i2 : ¬ (k : Int) < (k : Int) := by omega
          have HBZ := Lib.hid (mas_busy p F4 d wr HM.out HI.out.ok)
          simp only [pM] at HBZ
          go_wp2_with fail
          refine HBZ.out.mono ?_
          rintro e v_ ⟨rfl, rfl⟩
          clear HBZ
          cases hu : d.under with
          | false =>
            have h25 : (25 : Int) < (k : Int) := by have := HI.out.off hu; omega
            go_wp2_with fail
            refine (works_any _).mono ?_
            rintro e w9 ⟨rfl, hx⟩
            go_wp2_with fail
            go_ret
            exact ⟨rfl, X0.out.trans (X.out.trans hx)⟩
          | true =>
            obtain ⟨u1, u2⟩ := Hf6.out d HI.out hu
            have hon := HI.out.on hu
            have HH := Lib.hid (mas_hear fr A6 n6 c6 wr p F4 d HM.out HI.out.ok HO6.out.rd ⟨HO6.out.cap, HO6.out.capLe⟩ (by omega))
            have hok := hearM_ok (b := fr) HI.out.ok
            have e9 : hearM d fr = { d with under := false } := by unfold hearM; rw [if_pos u1]
            rw [e9] at HH hok
            rw [u1, u2] at HH
            simp only [pM] at HH
            go_wp2_with fail
            refine HH.out.mono ?_
            rintro e w8 ⟨t8, rfl, hm8, ho8, hr8⟩
            have X8 := Lib.hid (ho8.ext X.out HF.out)
            have HO8 := Lib.hid (HO6.out.only ho8 hgF.out)
            have HM8 := Lib.hid hm8
            have HR8 := Lib.hid hr8.rd
            have hcp := hr8.rd
            simp only [outV, repV]
            clear hm8 ho8 HH HM X HO6 hr8
            have t5 : ¬ (d.tries : Int) < 1 := by omega
            have t6 : ¬ (6 : Int) < (d.tries : Int) := by omega
            by_cases hx0 : r.exc = 0
            · rw [if_neg (by simpa using hx0)]
              have t1 : (r.exc != 0) = false := by simp [hx0]
              have t2 : (r.exc == 0) = true := by simp [hx0]
              clear hx0
              go_wp2_with fail
              have HQ9 := Lib.hid (heap_alloc_new w8 (.cells #[.int .i64 1, .int .i64 r.exc, .slice t8.A1 t8.n1 t8.c1, .slice t8.A2 t8.n2 t8.c2, .slice t8.A3 t8.n3 t8.c3, .int .i64 (d.tries : Int)] 59))
              have X9 := Lib.hid (X8.out.trans (Ext.alloc w8 (.cells #[.int .i64 1, .int .i64 r.exc, .slice t8.A1 t8.n1 t8.c1, .slice t8.A2 t8.n2 t8.c2, .slice t8.A3 t8.n3 t8.c3, .int .i64 (d.tries : Int)] 59)))
              have HM9 := Lib.hid (HM8.out.ext (Ext.alloc w8 (.cells #[.int .i64 1, .int .i64 r.exc, .slice t8.A1 t8.n1 t8.c1, .slice t8.A2 t8.n2 t8.c2, .slice t8.A3 t8.n3 t8.c3, .int .i64 (d.tries : Int)] 59)))
              have HO9 := Lib.hid (HO8.out.ext (Ext.alloc w8 (.cells #[.int .i64 1, .int .i64 r.exc, .slice t8.A1 t8.n1 t8.c1, .slice t8.A2 t8.n2 t8.c2, .slice t8.A3 t8.n3 t8.c3, .int .i64 (d.tries : Int)] 59)))
              have HSR := Lib.hid (sameReply_eq r t8 t (w8.alloc (.cells #[.int .i64 1, .int .i64 r.exc, .slice t8.A1 t8.n1 t8.c1, .slice t8.A2 t8.n2 t8.c2, .slice t8.A3 t8.n3 t8.c3, .int .i64 (d.tries : Int)] 59)) (HR8.out.ext (Ext.alloc w8 (.cells #[.int .i64 1, .int .i64 r.exc, .slice t8.A1 t8.n1 t8.c1, .slice t8.A2 t8.n2 t8.c2, .slice t8.A3 t8.n3 t8.c3, .int .i64 (d.tries : Int)] 59))) (HRR.out.ext (X0.out.trans X9.out)) (Nat.le_trans hcp.cap1.1 hcp.cap1.2) (Nat.le_trans hcp.cap2.1 hcp.cap2.2) (Nat.le_trans hcp.cap3.1 hcp.cap3.2))
              clear HM8 HO8 X8 HR8 hcp
              generalize w8.alloc (.cells #[.int .i64 1, .int .i64 r.exc, .slice t8.A1 t8.n1 t8.c1, .slice t8.A2 t8.n2 t8.c2, .slice t8.A3 t8.n3 t8.c3, .int .i64 (d.tries : Int)] 59) = w9 at *
              have HBZ := Lib.hid (mas_busy p F4 _ w9 HM9.out hok)
              simp only [pM] at HBZ
              simp only [repV] at HSR
              refine HBZ.out.mono ?_
              rintro e v_ ⟨rfl, rfl⟩
              obtain ⟨v0, v1, v2, v3, v4, v5⟩ := cells6 HQ9.out
              obtain ⟨g0, g1, g2, g3⟩ := cells4 (X9.out.block BR.out)
              go_wp2_with fail
              refine HSR.out.mono ?_
              rintro e w10 ⟨rfl, hx⟩
              clear v0 v1 v2 v3 v4 v5 g0 g1 g2 g3
              have X10 := Lib.hid (X9.out.trans hx)
              have HM10 := Lib.hid (HM9.out.ext hx)
              have HO10 := Lib.hid (HO9.out.ext hx)
              obtain ⟨v0, v1, v2, v3, v4, v5⟩ := cells6 (hx.block HQ9.out)
              obtain ⟨g0, g1, g2, g3⟩ := cells4 (X10.out.block BR.out)
              clear HM9 HO9 HQ9 HBZ HSR hx
              have HH := Lib.hid (mas_hear fr A6 n6 c6 w10 p F4 _ HM10.out hok HO10.out.rd ⟨HO10.out.cap, HO10.out.capLe⟩ (by omega))
              rw [show hearsB { d with under := false } fr = false from by unfold hearsB; simp] at HH
              simp only [pM] at HH
              go_wp2_with fail
              refine HH.out.mono ?_
              rintro e w11 ⟨t11, rfl, -, ho11, -⟩
              have X11 := Lib.hid (ho11.ext X10.out HF.out)
              generalize hearO { d with under := false } fr = oo at *
              obtain ⟨q1, ⟨q2, q3, q4, q5⟩, q6⟩ := oo
              simp only [outV, repV]
              clear ho11 HH
              go_wp2_with fail
              refine (works_any _).mono ?_
              rintro e w12 ⟨rfl, hx⟩
              go_wp2_with fail
              go_ret
              exact ⟨rfl, X0.out.trans (X11.out.trans hx)⟩
            · rw [if_pos hx0]
              have t1 : (r.exc != 0) = true := by simp [hx0]
              have t2 : (r.exc == 0) = false := by simp [hx0]
              clear hx0
              go_wp2_with fail
              have HQ9 := Lib.hid (heap_alloc_new w8 (.cells #[.int .i64 2, .int .i64 r.exc, .slice t8.A1 t8.n1 t8.c1, .slice t8.A2 t8.n2 t8.c2, .slice t8.A3 t8.n3 t8.c3, .int .i64 (d.tries : Int)] 59))
              have X9 := Lib.hid (X8.out.trans (Ext.alloc w8 (.cells #[.int .i64 2, .int .i64 r.exc, .slice t8.A1 t8.n1 t8.c1, .slice t8.A2 t8.n2 t8.c2, .slice t8.A3 t8.n3 t8.c3, .int .i64 (d.tries : Int)] 59)))
              have HM9 := Lib.hid (HM8.out.ext (Ext.alloc w8 (.cells #[.int .i64 2, .int .i64 r.exc, .slice t8.A1 t8.n1 t8.c1, .slice t8.A2 t8.n2 t8.c2, .slice t8.A3 t8.n3 t8.c3, .int .i64 (d.tries : Int)] 59)))
              have HO9 := Lib.hid (HO8.out.ext (Ext.alloc w8 (.cells #[.int .i64 2, .int .i64 r.exc, .slice t8.A1 t8.n1 t8.c1, .slice t8.A2 t8.n2 t8.c2, .slice t8.A3 t8.n3 t8.c3, .int .i64 (d.tries : Int)] 59)))
              have HSR := Lib.hid (sameReply_eq r t8 t (w8.alloc (.cells #[.int .i64 2, .int .i64 r.exc, .slice t8.A1 t8.n1 t8.c1, .slice t8.A2 t8.n2 t8.c2, .slice t8.A3 t8.n3 t8.c3, .int .i64 (d.tries : Int)] 59)) (HR8.out.ext (Ext.alloc w8 (.cells #[.int .i64 2, .int .i64 r.exc, .slice t8.A1 t8.n1 t8.c1, .slice t8.A2 t8.n2 t8.c2, .slice t8.A3 t8.n3 t8.c3, .int .i64 (d.tries : Int)] 59))) (HRR.out.ext (X0.out.trans X9.out)) (Nat.le_trans hcp.cap1.1 hcp.cap1.2) (Nat.le_trans hcp.cap2.1 hcp.cap2.2) (Nat.le_trans hcp.cap3.1 hcp.cap3.2))
              clear HM8 HO8 X8 HR8 hcp
              generalize w8.alloc (.cells #[.int .i64 2, .int .i64 r.exc, .slice t8.A1 t8.n1 t8.c1, .slice t8.A2 t8.n2 t8.c2, .slice t8.A3 t8.n3 t8.c3, .int .i64 (d.tries : Int)] 59) = w9 at *
              have HBZ := Lib.hid (mas_busy p F4 _ w9 HM9.out hok)
              simp only [pM] at HBZ
              simp only [repV] at HSR
              refine HBZ.out.mono ?_
              rintro e v_ ⟨rfl, rfl⟩
              obtain ⟨v0, v1, v2, v3, v4, v5⟩ := cells6 HQ9.out
              obtain ⟨g0, g1, g2, g3⟩ := cells4 (X9.out.block BR.out)
              go_wp2_with fail
              refine HSR.out.mono ?_
              rintro e w10 ⟨rfl, hx⟩
              clear v0 v1 v2 v3 v4 v5 g0 g1 g2 g3
              have X10 := Lib.hid (X9.out.trans hx)
              have HM10 := Lib.hid (HM9.out.ext hx)
              have HO10 := Lib.hid (HO9.out.ext hx)
              obtain ⟨v0, v1, v2, v3, v4, v5⟩ := cells6 (hx.block HQ9.out)
              obtain ⟨g0, g1, g2, g3⟩ := cells4 (X10.out.block BR.out)
              clear HM9 HO9 HQ9 HBZ HSR hx
              have HH := Lib.hid (mas_hear fr A6 n6 c6 w10 p F4 _ HM10.out hok HO10.out.rd ⟨HO10.out.cap, HO10.out.capLe⟩ (by omega))
              rw [show hearsB { d with under := false } fr = false from by unfold hearsB; simp] at HH
              simp only [pM] at HH
              go_wp2_with fail
              refine HH.out.mono ?_
              rintro e w11 ⟨t11, rfl, -, ho11, -⟩
              have X11 := Lib.hid (ho11.ext X10.out HF.out)
              generalize hearO { d with under := false } fr = oo at *
              obtain ⟨q1, ⟨q2, q3, q4, q5⟩, q6⟩ := oo
              simp only [outV, repV]
              clear ho11 HH
              go_wp2_with fail
              refine (works_any _).mono ?_
              rintro e w12 ⟨rfl, hx⟩
              go_wp2_with fail
              go_ret
              exact ⟨rfl, X0.out.trans (X11.out.trans hx)⟩
end Go.Proofs.YtomcipkmohhpjaaGreat
