/- The walk of MasterSilent. -/
import Derived.Test.YtomcipkmohhpjaaGreatG14
import Derived.Test.YtomcipkmohhpjaaGreatG13
import Derived.Test.YtomcipkmohhpjaaGreatPick
namespace Go.Out
open Go Go.RowKit Go.ChangeShapes Go.WideShapes Go.Deep
set_option linter.unusedVariables false
/-- Whole numbers that lie in a row. -/
def intK : Kind Int := ⟨1, fun _ cs x => cs = [.int .i64 x], fun h _ => h⟩
theorem intsM_at {w : World} {A : Option Addr} {n k : Nat} {l : List Int} (h : RdL intK w A n l) (hk : k < n) : ∃ b off x, A = some ⟨b, off, none⟩ ∧ b < w.heap.size ∧ w.cell? ⟨b, off + k, none⟩ = some (.int .i64 x) := by
  obtain ⟨b, off, e, hb, hl, cs, -, hc, rfl⟩ := h.at_ hk
  refine ⟨b, off, l[k], e, hb, ?_⟩
  have := hc 0 _ rfl
  rw [show off + (k * intK.k + 0) = off + k from by show off + (k * 1 + 0) = _; omega] at this
  exact this
/-- What is known of a master that waits. -/
structure SilInv (T R : Nat) (U : Nat) (fr : List UInt8) (N : Nat) (d : MasD) : Prop where
  ok : MasOk d
  u : d.under = true
  t : d.timeout = T
  r : d.retries = R
  un : d.unit = U
  f : d.frame = fr
  l : d.last ≤ N
theorem hears_other {d : MasD} {unit : Int} {b : List UInt8} (hu : 1 ≤ unit ∧ unit ≤ 247) (hd : d.unit = unit.toNat) {u : UInt8} (h : (u.toNat : Int) = unit % 247 + 1) (hb : 1 ≤ b.length ∧ b.length ≤ 253) : hearsB d (rtuF u b).1 = false := by
  have h0 : (rtuF u b).2 = 0 := rtu_fits.2 (by omega)
  obtain ⟨o1, -⟩ := openRtu_rtu h0
  unfold hearsB
  rw [o1, decide_eq_false (show ¬ u.toNat = d.unit by omega)]; simp
theorem hears_nil (d : MasD) : hearsB d [] = false := by
  have : openRtuF [] = (0, [], 1) := rfl
  unfold hearsB; rw [this]; simp
end Go.Out
namespace Go.Proofs.YtomcipkmohhpjaaGreat
set_option linter.unusedVariables false
set_option linter.unusedSimpArgs false
set_option maxRecDepth 100000
set_option maxHeartbeats 8000000
open Go Go.RowKit Go.ChangeShapes Go.WideShapes Go.Deep Go.Out

theorem lawSilent (timeout retries unit : Int) (a : AskD) (s : AskS) (l : List Int) (A : Option Addr) (n c : Nat) (w : World) (wft : (Lit.int .i64 timeout).wf = true) (wfr : (Lit.int .i64 retries).wf = true) (wfu : (Lit.int .i64 unit).wf = true) (ha : AskRd w a s) (hl : RdL intK w A n l) (hlc : n ≤ c) (hlm : c ≤ 9223372036854775807) :
    Calls Tryz.prog 12 #[.int .i64 timeout, .int .i64 retries, .int .i64 unit, askV a s, .slice A n c] w (RetQ w true) := by
  have HL := Lib.hid (fun W => longAsk_any a s W)
  have HAA := Lib.hid ha
  have HA := Lib.hid hl
  clear ha wfu wft wfr hl
  by_cases hN : newE timeout retries = 0
  case neg =>
    have HNO := Lib.hid (fun W => mas_newNo timeout retries hN W)
    simp only [askV] at HL ⊢
    go_enter Tryz.func12, Tryz.ntmps12
    go_wp2_with fail
    refine (HNO.out _).mono ?_
    rintro e v_ ⟨rfl, rfl⟩
    go_wp2_with fail
    refine (works_any _).mono ?_
    rintro e w2 ⟨rfl, hx⟩
    go_wp2_with fail
    go_ret
    exact ⟨rfl, (Ext.alloc _ _).trans hx⟩
  case pos =>
  obtain ⟨hT, hR⟩ : (1 ≤ timeout ∧ timeout ≤ 1048576) ∧ 0 ≤ retries ∧ retries ≤ 5 := by
    unfold newE at hN; split at hN
    · cases hN
    · omega
  obtain ⟨T, rfl⟩ := Int.eq_ofNat_of_zero_le (show 0 ≤ timeout by omega)
  obtain ⟨R, rfl⟩ := Int.eq_ofNat_of_zero_le hR.1
  have HNW := Lib.hid (fun W => mas_new T R hN W)
  have HST := Lib.hid (fun W p F (hX : Ext w W) (hM : MasAt W p F (newM T R)) => mas_start 0 unit a s W p F (newM T R) hM (newM_ok hN) (HAA.out.ext hX))
  generalize decide (70000 < s.n1 ∨ 70000 < s.n2 ∨ 70000 < s.n3) = P at *
  simp only [askV, pM] at HL HST ⊢
  go_enter Tryz.func12, Tryz.ntmps12
  go_wp2_with fail
  refine (HNW.out _).mono ?_
  rintro e w1 ⟨p, F, rfl, hm, hx, hF⟩
  unfold pM
  have BA := Lib.hid (hx.block (heap_alloc_new w (.cells #[.int .i64 a.code, .int .i64 a.addr, .int .i64 a.count, .slice s.A1 s.n1 s.c1, .slice s.A2 s.n2 s.c2, .slice s.A3 s.n3 s.c3] 37)))
  have X := Lib.hid ((Ext.alloc w (.cells #[.int .i64 a.code, .int .i64 a.addr, .int .i64 a.count, .slice s.A1 s.n1 s.c1, .slice s.A2 s.n2 s.c2, .slice s.A3 s.n3 s.c3] 37)).trans hx)
  have HM := Lib.hid hm
  have HF : Hid (∀ k, F k → w.heap.size + 1 ≤ k) := fun k hk => by have := hF k hk; simpa using this
  clear hm hx hF HNW
  have hlt1 : w.heap.size < w1.heap.size := lt_of_heap BA.out
  obtain ⟨d0, d1, d2, d3, d4, d5⟩ := cells6 BA.out
  go_wp2_with fail
  refine (HL.out _).mono ?_
  rintro e w2 ⟨rfl, hx⟩
  replace BA := Lib.hid (hx.block BA.out)
  replace X := Lib.hid (X.out.trans hx)
  replace HM := Lib.hid (HM.out.ext hx)
  have hlt2 := hx.size
  clear hx HL d0 d1 d2 d3 d4 d5
  cases P with
  | true =>
    go_wp2_with fail
    refine (works_any _).mono ?_
    rintro e w3 ⟨rfl, hx⟩
    go_wp2_with fail
    go_ret
    exact ⟨rfl, X.out.trans hx⟩
  | false =>
    by_cases hn3 : n ≤ 300
    case neg =>
      have hq : (300 : Int) < (n : Int) := by omega
      go_wp2_with fail
      refine (works_any _).mono ?_
      rintro e w3 ⟨rfl, hx⟩
      go_wp2_with fail
      go_ret
      exact ⟨rfl, X.out.trans hx⟩
    case pos =>
    have hq : ¬ (300 : Int) < (n : Int) := by omega
    obtain ⟨d0, d1, d2, d3, d4, d5⟩ := cells6 BA.out
    go_wp2_with fail
    refine (HST.out _ p F X.out HM.out).mono ?_
    rintro e w3 ⟨F4, A4, n4, c4, rfl, hm, ho, hf, how, hna⟩
    replace BA := Lib.hid ((ho.block w.heap.size (by omega) (fun q => by have := HF.out _ q; omega)).trans BA.out)
    replace X := Lib.hid (ho.ext X.out (fun k hk => by have := HF.out k hk; omega))
    replace HF : Hid (∀ k, F4 k → w.heap.size + 1 ≤ k) := fun k hk => by
      rcases hf k hk with q | q
      · exact HF.out k q
      · omega
    replace HM := Lib.hid hm
    have HO4 := Lib.hid how
    have hgF : Hid (∀ g, blk A4 = some g → ¬ F4 g) := hna
    clear hm ho hf how hna HST d0 d1 d2 d3 d4 d5 hq
    by_cases hE : startE (newM T R) 0 unit a = 0
    case neg =>
      have t1 : (startE (newM T R) 0 unit a != 0) = true := by simp [hE]
      have hd : startM (newM T R) 0 unit a = newM T R := by unfold startM; rw [if_neg hE]
      have hb0 : startB (newM T R) 0 unit a = [] := by unfold startB; rw [if_neg hE]
      rw [hd] at HM
      rw [hb0] at HO4
      obtain rfl : n4 = 0 := HO4.out.len.symm
      have HBZ := Lib.hid (mas_busy p F4 _ w3 HM.out (newM_ok hN))
      rw [show (newM T R).under = false from rfl] at HBZ
      simp only [pM] at HBZ
      clear hd hb0
      generalize startE (newM T R) 0 unit a = E at *
      go_wp2_with fail
      refine HBZ.out.mono ?_
      rintro e v_ ⟨rfl, rfl⟩
      go_wp2_with fail
      refine (works_any _).mono ?_
      rintro e w6 ⟨rfl, hx⟩
      go_wp2_with fail
      go_ret
      exact ⟨rfl, X.out.trans hx⟩
    case pos =>
    rw [hE]
    have hdm : startM (newM T R) 0 unit a = ⟨T, R, true, unit.toNat, 1, 0, a, frameF unit a⟩ := by unfold startM; rw [if_pos hE]; rfl
    have hbm : startB (newM T R) 0 unit a = frameF unit a := by unfold startB; rw [if_pos hE]
    have hokm := startM_ok (now := 0) (unit := unit) (a := a) (newM_ok hN)
    obtain ⟨-, hu1, hck, -⟩ := startE_zero hE
    rw [hdm] at HM hokm
    rw [hbm] at HO4
    have hin : Hid (SilInv T R unit.toNat (frameF unit a) 0 ⟨T, R, true, unit.toNat, 1, 0, a, frameF unit a⟩) := ⟨hokm, rfl, rfl, rfl, rfl, rfl, Nat.le_refl _⟩
    have hd1 : (⟨T, R, true, unit.toNat, 1, 0, a, frameF unit a⟩ : MasD).tries = 1 := rfl
    have hd2 : (⟨T, R, true, unit.toNat, 1, 0, a, frameF unit a⟩ : MasD).last = 0 := rfl
    generalize (⟨T, R, true, unit.toNat, 1, 0, a, frameF unit a⟩ : MasD) = dm at *
    have hfl : (frameF unit a).length ≤ 256 := (frameF_len hu1 hck).1
    have hfl1 : 3 ≤ (frameF unit a).length := by have := (openRtu_rtu (frameF_len hu1 hck).2.1).2.1; unfold frameF; omega
    have hcl := code_lt hck
    generalize frameF unit a = fr at *
    clear hdm hbm hokm hE
    obtain ⟨d0, d1, d2, d3, d4, d5⟩ := cells6 BA.out
    have q1 : unit.tmod 247 = unit % 247 := Int.tmod_eq_emod_of_nonneg (by omega)
    have q2 : IntKind.i64.wrap (unit % 247 + 1) = unit % 247 + 1 := IntWalk.i64_in _ (by omega)
    have q4 : IntKind.i64.wrap (unit % 247) = unit % 247 := IntWalk.i64_in _ (by omega)
    have q3 : IntKind.u8.wrap (unit % 247 + 1) = unit % 247 + 1 := IntWalk.u8_in _ (by omega)
    go_wp2_with fail
    obtain ⟨x0, hx0⟩ : ∃ x : UInt8, (x.toNat : Int) = a.code + 128 := ⟨UInt8.ofNat (a.code + 128).toNat, by rw [toNat_ofNat8 (by omega)]; omega⟩
    obtain ⟨u0, hu0⟩ : ∃ x : UInt8, (x.toNat : Int) = unit % 247 + 1 := ⟨UInt8.ofNat (unit % 247 + 1).toNat, by rw [toNat_ofNat8 (by omega)]; omega⟩
    have hoth := fun (d : MasD) (hd : d.unit = unit.toNat) => hears_other (d := d) (b := [x0, 1]) hu1 hd hu0 (by simp)
    have HRT := Lib.hid (rtu_any u0 [x0, 1] (some ⟨w3.heap.size, 0, none⟩) 2 2 (w3.alloc (.cells #[.int .u8 (x0.toNat : Int), .int .u8 1] 5)) (by
      refine ⟨rfl, fun _ => ⟨w3.heap.size, 0, rfl, by simp, fun i x hi => ?_⟩⟩
      match i, hi with
      | 0, hi => cases hi; exact (cell_of_row _ _ 0 _ _ _ (heap_alloc_new w3 _)).trans rfl
      | 1, hi => cases hi; exact (cell_of_row _ _ 1 _ _ _ (heap_alloc_new w3 _)).trans rfl) (by omega))
    rw [hx0, hu0] at HRT
    have Hoth := Lib.hid hoth
    have hl0 : (rtuF u0 [x0, 1]).1.length = 5 := (openRtu_rtu (rtu_fits.2 ⟨by omega, by simp, by simp⟩)).2.1
    generalize (rtuF u0 [x0, 1]) = R0 at *
    obtain ⟨ot, oe⟩ := R0
    have hl5 : ot.length = 5 := hl0
    clear hl0
    clear hoth hx0 hu0 q1 q2 q3 q4 hcl hck
    refine HRT.out.mono ?_
    rintro e w4 ⟨A5, n5, c5, rfl, how, hx⟩
    have X3 := Lib.hid ((Ext.alloc w3 (.cells #[.int .u8 (a.code + 128), .int .u8 1] 5)).trans (Ext.of hx))
    have HLT := Lib.hid HM.out.lt
    have HO5 := Lib.hid how
    have hgG : Hid (∀ g, blk A5 = some g → ¬ F4 g) := fun g hg hf => by
      have h1 := (how.lt g hg).1
      have h2 := HLT.out g hf
      simp at h1; omega
    have hc5 := how.cap
    have hcl5 := how.capLe
    replace HM := Lib.hid (HM.out.ext X3.out)
    replace HO4 := Lib.hid (HO4.out.ext X3.out)
    replace X := Lib.hid (X.out.trans X3.out)
    clear how hx HRT d0 d1 d2 d3 d4 d5 BA X3 HAA
    have hn5 : n5 = 5 := by
      have h9 := HO5.out.len
      rw [List.length_map] at h9
      exact h9.symm.trans hl5
    have hn4 : Hid (fr.length = n4) := by unfold Hid; have := HO4.out.len; simpa using this
    replace hn5 : n5 ≤ 5 := by omega
    clear hl5
    generalize (w3.alloc (.cells #[.int .u8 (a.code + 128), .int .u8 1] 5)).heap.size = b5 at *
    clear HLT
    go_wp2_with fail
    go_loopw [16, 17, 18, 19, 20, 21, 22, 23, 24, 25, 26] (fun now last sent i _ _ _ _ _ _ _ wr => ∃ (k N : Nat) (d : MasD), k ≤ n ∧ N ≤ k * 1048576 ∧ i = .int .i64 (k : Int) ∧ now = .int .i64 (N : Int) ∧ last = .int .i64 (d.last : Int) ∧ sent = .int .i64 (d.tries : Int) ∧ Hid (SilInv T R unit.toNat fr N d) ∧ Hid (MasAt wr p F4 d) ∧ Hid (Ext w wr) ∧ Hid (Own wr w2.heap.size 5 IsU8 A4 n4 c4 (fr.map cB)) ∧ Hid (Own wr b5 5 IsU8 A5 n5 c5 (ot.map cB))) (fun _ _ _ i _ _ _ _ _ _ _ _ => n - (intOf i).toNat)
    case atStart => exact ⟨0, 0, dm, Nat.zero_le _, Nat.zero_le _, rfl, rfl, by rw [hd2]; rfl, by rw [hd1]; rfl, hin, HM, X, HO4, HO5⟩
    case round =>
      clear hin HM X HO4 HO5 hd1 hd2
      obtain ⟨k, N, d, hk, hNk, rfl, rfl, rfl, rfl, HI, HM, X, HO4, HO5⟩ := hrel
      have HBZ := Lib.hid (mas_busy p F4 d wr HM.out HI.out.ok)
      rw [HI.out.u] at HBZ
      simp only [pM] at HBZ
      rcases Nat.lt_or_ge k n with hlt | hge
      · obtain ⟨b1, o1, x, rfl, hb1, hcx⟩ := intsM_at (HA.out.ext X.out) hlt
        have i1 : (0 : Int) ≤ (k : Int) := by omega
        have i2 : (k : Int) < (n : Int) := by omega
        have i5 : IntKind.i64.wrap ((k : Int) + 1) = (k : Int) + 1 := IntWalk.i64_in _ (by omega)
        have HPK := Lib.hid (pick_any x 1048576 wr (by omega) (by omega))
        go_wp2_with fail
        refine HBZ.out.mono ?_
        rintro e v_ ⟨rfl, rfl⟩
        go_wp2_with fail
        refine HPK.out.mono ?_
        rintro e v_ ⟨r, hr, rfl, rfl⟩
        obtain ⟨M, hM⟩ : ∃ M, N + r = M := ⟨_, rfl⟩
        have hw : IntKind.i64.wrap ((N : Int) + (r : Int)) = (M : Int) := by rw [IntWalk.i64_in _ (by omega)]; omega
        have hl := HI.out.l
        have HH := Lib.hid (mas_hear ot A5 n5 c5 wr p F4 d HM.out HI.out.ok HO5.out.rd ⟨hc5, hcl5⟩ (by omega))
        have ho1 := Hoth.out d HI.out.un
        rw [show hearM d ot = d from by unfold hearM; rw [ho1]; rfl, ho1] at HH
        simp only [pM] at HH
        clear HBZ HPK hcx ho1
        go_wp2_with fail
        refine HH.out.mono ?_
        rintro e w8 ⟨t8, rfl, hm8, ho8, -⟩
        have X8 := Lib.hid (ho8.ext X.out (fun k hk => by have := HF.out k hk; omega))
        have HO48 := Lib.hid (HO4.out.only ho8 hgF.out)
        have HO58 := Lib.hid (HO5.out.only ho8 hgG.out)
        have HH2 := Lib.hid (fun W (hX : Ext w8 W) => mas_hear [] none 0 0 W p F4 d (hm8.ext hX) HI.out.ok (Rd.nil_ _) ⟨Nat.le_refl _, Nat.zero_le _⟩ (by omega))
        rw [show hearM d [] = d from by unfold hearM; rw [hears_nil]; rfl, hears_nil] at HH2
        simp only [pM] at HH2
        clear hm8 ho8 HH HM X HO4 HO5
        generalize hearO d ot = oo at *
        obtain ⟨q1, ⟨q2, q3, q4, q5⟩, q6⟩ := oo
        simp only [outV, repV]
        go_wp2_with fail
        refine (HH2.out _ (Ext.alloc _ _)).mono ?_
        rintro e w9 ⟨t9, rfl, hm9, ho9, -⟩
        have X9 := Lib.hid (ho9.ext (X8.out.trans (Ext.alloc _ _)) (fun k hk => by have := HF.out k hk; omega))
        have HO49 := Lib.hid ((HO48.out.ext (Ext.alloc _ _)).only ho9 hgF.out)
        have HO59 := Lib.hid ((HO58.out.ext (Ext.alloc _ _)).only ho9 hgG.out)
        have HTK := Lib.hid (fun W (hX : Ext w9 W) => mas_tick (M : Int) W p F4 d (hm9.ext hX) HI.out.ok)
        simp only [pM] at HTK
        have hok2 := tickM_ok (now := (M : Int)) HI.out.ok
        clear hm9 ho9 HH2 X8 HO48 HO58
        generalize hearO d [] = oo at *
        obtain ⟨z1, ⟨z2, z3, z4, z5⟩, z6⟩ := oo
        simp only [outV, repV]
        have hdt := HI.out.t
        have hdr := HI.out.r
        have hdf := HI.out.f
        have htr := HI.out.ok.tr
        have hsub : IntKind.i64.wrap ((M : Int) - (d.last : Int)) = (M : Int) - (d.last : Int) := IntWalk.i64_in _ (by omega)
        rcases tickK_cases d (M : Int) with ⟨e, hh⟩ | ⟨g1, g2, g3, g4, ⟨e, h5⟩ | ⟨e, h5⟩⟩
        · have hlt2 : (M : Int) - (d.last : Int) < (T : Int) := by
            rcases hh with q | ⟨-, q⟩ | ⟨-, -, -, q⟩
            · rw [HI.out.u] at q; cases q
            · omega
            · omega
          rw [show tickM d (M : Int) = d from by unfold tickM; rw [if_pos e], show tickB d (M : Int) = [] from by unfold tickB; rw [if_neg (by omega)], show tickO d (M : Int) = out0 from by unfold tickO; rw [if_neg (by omega)], show decide (tickK d (M : Int) = 2) = false from by simp; omega] at HTK
          have h9 : ¬ (T : Int) ≤ (M : Int) - (d.last : Int) := by omega
          clear hh e hlt2
          go_wp2_with fail
          refine (HTK.out _ (Ext.alloc _ _)).mono ?_
          rintro e w10 ⟨A9, n9, c9, rfl, hm10, ho10, how⟩
          obtain rfl : n9 = 0 := how.len.symm
          have X10 := Lib.hid ((ho10.ext (X9.out.trans (Ext.alloc _ _)) (fun k hk => by have := HF.out k hk; omega)).trans (Ext.alloc w10 (.cells #[.int .i64 0, .int .i64 0, .slice none 0 0, .slice none 0 0, .slice none 0 0, .int .i64 0] 59)))
          have HO4A := Lib.hid (((HO49.out.ext (Ext.alloc _ _)).only ho10 hgF.out).ext (Ext.alloc w10 (.cells #[.int .i64 0, .int .i64 0, .slice none 0 0, .slice none 0 0, .slice none 0 0, .int .i64 0] 59)))
          have HO5A := Lib.hid (((HO59.out.ext (Ext.alloc _ _)).only ho10 hgG.out).ext (Ext.alloc w10 (.cells #[.int .i64 0, .int .i64 0, .slice none 0 0, .slice none 0 0, .slice none 0 0, .int .i64 0] 59)))
          have HMA := Lib.hid (hm10.ext (Ext.alloc w10 (.cells #[.int .i64 0, .int .i64 0, .slice none 0 0, .slice none 0 0, .slice none 0 0, .int .i64 0] 59)))
          clear how hm10 ho10 HTK
          simp only [outV, repV, out0, rep0, repS0]
          go_wp2_with fail
          go_roundw
          case rel => exact ⟨k + 1, M, d, by omega, by omega, by go_num, rfl, rfl, rfl, ⟨HI.out.ok, HI.out.u, HI.out.t, HI.out.r, HI.out.un, HI.out.f, by omega⟩, HMA, X10, HO4A, HO5A⟩
          case measure => simp [intOf]; omega
        · have e1 : tickM d (M : Int) = { d with under := false } := by unfold tickM; rw [if_neg (by omega), if_pos e]
          rw [e1] at hok2
          rw [e1, show tickB d (M : Int) = [] from by unfold tickB; rw [if_neg (by omega)], show tickO d (M : Int) = ⟨3, rep0, d.tries⟩ from by unfold tickO; rw [if_pos e], show decide (tickK d (M : Int) = 2) = true from by simp; omega] at HTK
          have h9 : (T : Int) ≤ (M : Int) - (d.last : Int) := by omega
          have hR1 : IntKind.i64.wrap ((R : Int) + 1) = (d.tries : Int) := by rw [IntWalk.i64_in _ (by omega)]; omega
          clear e1
          go_wp2_with fail
          refine (HTK.out _ (Ext.alloc _ _)).mono ?_
          rintro e w10 ⟨A9, n9, c9, rfl, hm10, ho10, how⟩
          obtain rfl : n9 = 0 := how.len.symm
          have X10 := Lib.hid ((ho10.ext (X9.out.trans (Ext.alloc _ _)) (fun k hk => by have := HF.out k hk; omega)).trans (Ext.alloc w10 (.cells #[.int .i64 3, .int .i64 0, .slice none 0 0, .slice none 0 0, .slice none 0 0, .int .i64 (d.tries : Int)] 59)))
          have HBZ := Lib.hid (mas_busy p F4 _ (w10.alloc (.cells #[.int .i64 3, .int .i64 0, .slice none 0 0, .slice none 0 0, .slice none 0 0, .int .i64 (d.tries : Int)] 59)) (hm10.ext (Ext.alloc w10 (.cells #[.int .i64 3, .int .i64 0, .slice none 0 0, .slice none 0 0, .slice none 0 0, .int .i64 (d.tries : Int)] 59))) hok2)
          simp only [pM] at HBZ
          obtain ⟨v0, v1, v2, v3, v4, v5⟩ := cells6 (heap_alloc_new w10 (.cells #[.int .i64 3, .int .i64 0, .slice none 0 0, .slice none 0 0, .slice none 0 0, .int .i64 (d.tries : Int)] 59))
          clear how hm10 ho10 HTK
          simp only [outV, repV, rep0, repS0]
          go_wp2_with fail
          refine HBZ.out.mono ?_
          rintro e v_ ⟨rfl, rfl⟩
          go_wp2_with fail
          refine (works_any _).mono ?_
          rintro e w11 ⟨rfl, hx⟩
          go_wp2_with fail
          go_ret
          exact ⟨rfl, X10.out.trans hx⟩
        · have e1 : tickM d (M : Int) = { d with tries := d.tries + 1, last := M } := by unfold tickM; rw [if_neg (by omega), if_neg (by omega)]; simp
          rw [e1] at hok2
          rw [e1, show tickB d (M : Int) = fr from by unfold tickB; rw [if_pos e, hdf], show tickO d (M : Int) = out0 from by unfold tickO; rw [if_neg (by omega)], show decide (tickK d (M : Int) = 2) = false from by simp; omega] at HTK
          have h9 : ¬ (M : Int) - (d.last : Int) < (T : Int) := by omega
          have h8 : ¬ (R : Int) < (d.tries : Int) := by omega
          have hs1 : IntKind.i64.wrap ((d.tries : Int) + 1) = ((d.tries + 1 : Nat) : Int) := by rw [IntWalk.i64_in _ (by omega)]; omega
          clear e1
          go_wp2_with fail
          refine (HTK.out _ (Ext.alloc _ _)).mono ?_
          rintro e w10 ⟨A9, n9, c9, rfl, hm10, ho10, how⟩
          have hn9 : fr.length = n9 := by have := how.len; simpa using this
          obtain rfl : n9 = n4 := by have := hn4.out; omega
          have h7 : (0 : Int) < (n9 : Int) := by omega
          have X10 := Lib.hid ((ho10.ext (X9.out.trans (Ext.alloc _ _)) (fun k hk => by have := HF.out k hk; omega)).trans (Ext.alloc w10 (.cells #[.int .i64 0, .int .i64 0, .slice none 0 0, .slice none 0 0, .slice none 0 0, .int .i64 0] 59)))
          have HO4A := Lib.hid (((HO49.out.ext (Ext.alloc _ _)).only ho10 hgF.out).ext (Ext.alloc w10 (.cells #[.int .i64 0, .int .i64 0, .slice none 0 0, .slice none 0 0, .slice none 0 0, .int .i64 0] 59)))
          have HO5A := Lib.hid (((HO59.out.ext (Ext.alloc _ _)).only ho10 hgG.out).ext (Ext.alloc w10 (.cells #[.int .i64 0, .int .i64 0, .slice none 0 0, .slice none 0 0, .slice none 0 0, .int .i64 0] 59)))
          have HMA := Lib.hid (hm10.ext (Ext.alloc w10 (.cells #[.int .i64 0, .int .i64 0, .slice none 0 0, .slice none 0 0, .slice none 0 0, .int .i64 0] 59)))
          have HSB := Lib.hid (same_any fr fr A9 A4 n9 n9 c9 c4 (w10.alloc (.cells #[.int .i64 0, .int .i64 0, .slice none 0 0, .slice none 0 0, .slice none 0 0, .int .i64 0] 59)) (how.rd.ext (Ext.alloc w10 (.cells #[.int .i64 0, .int .i64 0, .slice none 0 0, .slice none 0 0, .slice none 0 0, .int .i64 0] 59))) HO4A.out.rd (by unfold maxLen; omega))
          rw [decide_eq_true rfl] at HSB
          clear how hm10 ho10 HTK
          simp only [outV, repV, out0, rep0, repS0]
          go_wp2_with fail
          refine HSB.out.mono ?_
          rintro e w11 ⟨rfl, hx⟩
          go_wp2_with fail
          go_roundw
          case rel => exact ⟨k + 1, M, { d with tries := d.tries + 1, last := M }, by omega, by omega, by go_num, rfl, rfl, by go_num, ⟨hok2, HI.out.u, HI.out.t, HI.out.r, HI.out.un, HI.out.f, Nat.le_refl _⟩, HMA.out.ext (Ext.of hx), X10.out.trans (Ext.of hx), HO4A.out.ext (Ext.of hx), HO5A.out.ext (Ext.of hx)⟩
          case measure => simp [intOf]; omega
      · have i2 : ¬ (k : Int) < (n : Int) := by omega
        go_wp2_with fail
        refine HBZ.out.mono ?_
        rintro e v_ ⟨rfl, rfl⟩
        go_wp2_with fail
        refine (works_any _).mono ?_
        rintro e w11 ⟨rfl, hx⟩
        go_wp2_with fail
        go_ret
        exact ⟨rfl, X.out.trans hx⟩
end Go.Proofs.YtomcipkmohhpjaaGreat
