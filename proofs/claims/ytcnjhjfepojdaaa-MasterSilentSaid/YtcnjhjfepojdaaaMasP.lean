/- The chapter's request, and that it works. -/
import Derived.Test.YtcnjhjfepojdaaaMasI
import Derived.Test.YtcnjhjfepojdaaaMasW
import Derived.Test.YtcnjhjfepojdaaaMasT
namespace Go.Proofs.Ytcnjhjfepojdaaa
set_option linter.unusedVariables false
set_option linter.unusedSimpArgs false
set_option maxRecDepth 100000
set_option maxHeartbeats 2000000
open Go Go.RowKit Go.Out

def ask1 : AskD := ⟨3, 0, 1, [], [], []⟩
theorem ask1_rd (W : World) : AskRd W ask1 askS0 := ⟨Rd.nil_ _, Rd.nil_ _, RdL.nil_ _ _ _, by unfold i64P ask1; simp, by unfold i64P ask1; simp, by unfold i64P ask1; simp, ⟨Nat.le_refl _, Nat.zero_le _⟩, ⟨Nat.le_refl _, Nat.zero_le _⟩, ⟨Nat.le_refl _, Nat.zero_le _⟩⟩
theorem one_any (w : World) : Calls Try.prog 14 #[] w (fun e w' => e = .returned (askV ask1 askS0) ∧ Ext w w') := by
  unfold askV ask1 askS0
  go_enter Try.func14, Try.ntmps14
  go_wp2_with fail
  obtain ⟨c0, c1, c2, c3, c4, c5⟩ := cells6 (heap_alloc_new w (.cells #[.int .i64 3, .int .i64 0, .int .i64 1, .slice none 0 0, .slice none 0 0, .slice none 0 0] 26))
  exact bodyPost_ret (v := .agg #[.int .i64 3, .int .i64 0, .int .i64 1, .slice none 0 0, .slice none 0 0, .slice none 0 0]) (by simp [results, Try.results14, go_sem, c0, c1, c2, c3, c4, c5]) rfl ⟨rfl, Ext.alloc _ _⟩
def dM1 : MasD := ⟨3, 1, true, 1, 1, 10, ask1, frameF 1 ask1⟩
theorem chk1 : checkF ask1 = 0 := by kernel_rfl
theorem st1 : startE (newM 3 1) 10 1 ask1 = 0 := by kernel_rfl
theorem st2 : startM (newM 3 1) 10 1 ask1 = dM1 := by unfold startM; rw [if_pos st1]; rfl
theorem st3 : startB (newM 3 1) 10 1 ask1 = frameF 1 ask1 := by unfold startB; rw [if_pos st1]
theorem fr1 : (frameF 1 ask1).length = 8 := by kernel_rfl
def dM2 : MasD := { dM1 with tries := 2, last := 13 }
def dM3 : MasD := { dM2 with under := false }
theorem tk1 : tickK dM1 12 = 0 := by kernel_rfl
theorem tk2 : tickK dM1 13 = 1 := by kernel_rfl
theorem tk3 : tickK dM2 16 = 2 := by kernel_rfl
theorem dM1_ok : MasOk dM1 := st2 ▸ startM_ok (newM_ok rfl)
theorem tm1 : tickM dM1 12 = dM1 := by unfold tickM; rw [if_pos tk1]
theorem tb1 : tickB dM1 12 = [] := by unfold tickB; rw [if_neg (by rw [tk1]; decide)]
theorem to1 : tickO dM1 12 = out0 := by unfold tickO; rw [if_neg (by rw [tk1]; decide)]
theorem tm2 : tickM dM1 13 = dM2 := by unfold tickM; rw [if_neg (by rw [tk2]; decide), if_neg (by rw [tk2]; decide)]; rfl
theorem tb2 : tickB dM1 13 = frameF 1 ask1 := by unfold tickB; rw [if_pos tk2]; rfl
theorem to2 : tickO dM1 13 = out0 := by unfold tickO; rw [if_neg (by rw [tk2]; decide)]
theorem tm3 : tickM dM2 16 = dM3 := by unfold tickM; rw [if_neg (by rw [tk3]; decide), if_pos tk3]; rfl
theorem tb3 : tickB dM2 16 = [] := by unfold tickB; rw [if_neg (by rw [tk3]; decide)]
theorem to3 : tickO dM2 16 = ⟨3, rep0, 2⟩ := by unfold tickO; rw [if_pos tk3]; rfl
theorem dM2_ok : MasOk dM2 := tm2 ▸ tickM_ok dM1_ok
theorem dM3_ok : MasOk dM3 := tm3 ▸ tickM_ok dM2_ok
theorem new31 (w : World) : Calls Try.prog 4 #[.int .i64 3, .int .i64 1] w (RetNewM MasAt w (newM 3 1)) := mas_new 3 1 rfl w
theorem start1 (w : World) (p : Nat) (F : Nat → Prop) (h : MasAt w p F (newM 3 1)) : Calls Try.prog 7 #[pM p, .int .i64 10, .int .i64 1, askV ask1 askS0] w (RetStart MasAt w p F dM1 (frameF 1 ask1) 0) := by
  have := mas_start 10 1 ask1 askS0 w p F (newM 3 1) h (newM_ok rfl) (ask1_rd _)
  rw [st1, st2, st3] at this
  exact this
theorem tick1 (w : World) (p : Nat) (F : Nat → Prop) (h : MasAt w p F dM1) : Calls Try.prog 12 #[pM p, .int .i64 12] w (RetTick MasAt w p F dM1 [] out0 false) := by
  have := mas_tick 12 w p F dM1 h dM1_ok
  rw [tm1, tb1, to1, tk1] at this
  exact this
theorem tick2 (w : World) (p : Nat) (F : Nat → Prop) (h : MasAt w p F dM1) : Calls Try.prog 12 #[pM p, .int .i64 13] w (RetTick MasAt w p F dM2 (frameF 1 ask1) out0 false) := by
  have := mas_tick 13 w p F dM1 h dM1_ok
  rw [tm2, tb2, to2, tk2] at this
  exact this
theorem tick3 (w : World) (p : Nat) (F : Nat → Prop) (h : MasAt w p F dM2) : Calls Try.prog 12 #[pM p, .int .i64 16] w (RetTick MasAt w p F dM3 [] ⟨3, rep0, 2⟩ true) := by
  have := mas_tick 16 w p F dM2 h dM2_ok
  rw [tm3, tb3, to3, tk3] at this
  exact this
theorem works_any (w : World) : Calls Try.prog 6 #[] w (RetQ w true) := by
  go_enter Try.func6, Try.ntmps6
  go_wp2_with fail
  refine (new31 w).mono ?_
  rintro e1 w1 ⟨p, F, rfl, hm1, hx1, hF⟩
  unfold pM
  go_wp2_with fail
  refine (one_any w1).mono ?_
  rintro e2 w2 ⟨rfl, hx2⟩
  have M2 := Lib.hid (hm1.ext hx2)
  have X2 := Lib.hid (hx1.trans hx2)
  have HF := Lib.hid hF
  have hl2 := hx1.size
  clear hm1 hx1 hx2 hF
  have HS := Lib.hid (start1 w2 p F M2.out)
  unfold pM at HS
  go_wp2_with fail
  refine HS.out.mono ?_
  rintro e3 w3 ⟨F3, A3, n3, c3, rfl, hm3, ho3, hf3, how3, hna3⟩
  have M3 := Lib.hid hm3
  have X3 := Lib.hid (ho3.ext X2.out HF.out)
  have HF3 : Hid (∀ k, F3 k → w.heap.size ≤ k) := fun k hk => by have := X2.out.size; rcases hf3 k hk with q | q; exact HF.out k q; omega
  have O3 := Lib.hid how3
  have HN3 := Lib.hid hna3
  obtain rfl : n3 = 8 := by have := how3.len; rw [List.length_map, fr1] at this; exact this.symm
  clear hm3 ho3 hf3 how3 hna3 HS M2
  have HT := Lib.hid (tick1 w3 p F3 M3.out)
  unfold pM at HT
  go_wp2_with fail
  refine HT.out.mono ?_
  rintro e4 w4 ⟨A4, n4, c4, rfl, hm4, ho4, how4⟩
  obtain rfl : n4 = 0 := how4.len.symm
  simp only [outV, repV, rep0, repS0, out0]
  have M4 := Lib.hid (hm4.ext (Ext.alloc w4 (.cells #[.int .i64 0, .int .i64 0, .slice none 0 0, .slice none 0 0, .slice none 0 0, .int .i64 0] 43)))
  have Q4 : Hid (Only F3 w3 (w4.alloc (.cells #[.int .i64 0, .int .i64 0, .slice none 0 0, .slice none 0 0, .slice none 0 0, .int .i64 0] 43))) := ho4.trans (Only.of_ext (F := F3) (Ext.alloc w4 (.cells #[.int .i64 0, .int .i64 0, .slice none 0 0, .slice none 0 0, .slice none 0 0, .int .i64 0] 43))) (fun _ _ q => q)
  clear hm4 ho4 how4 HT M3
  go_wp2_with fail
  generalize w4.alloc (.cells #[.int .i64 0, .int .i64 0, .slice none 0 0, .slice none 0 0, .slice none 0 0, .int .i64 0] 43) = w4' at *
  have HT := Lib.hid (tick2 w4' p F3 M4.out)
  unfold pM at HT
  refine HT.out.mono ?_
  rintro e5 w5 ⟨A5, n5, c5, rfl, hm5, ho5, how5⟩
  obtain rfl : n5 = 8 := by have := how5.len; rw [List.length_map, fr1] at this; exact this.symm
  simp only [outV, repV, rep0, repS0, out0]
  have M5 := Lib.hid (hm5.ext (Ext.alloc w5 (.cells #[.int .i64 0, .int .i64 0, .slice none 0 0, .slice none 0 0, .slice none 0 0, .int .i64 0] 43)))
  have Q5 : Hid (Only F3 w4' (w5.alloc (.cells #[.int .i64 0, .int .i64 0, .slice none 0 0, .slice none 0 0, .slice none 0 0, .int .i64 0] 43))) := ho5.trans (Only.of_ext (F := F3) (Ext.alloc w5 (.cells #[.int .i64 0, .int .i64 0, .slice none 0 0, .slice none 0 0, .slice none 0 0, .int .i64 0] 43))) (fun _ _ q => q)
  have O5 := Lib.hid (how5.ext (Ext.alloc w5 (.cells #[.int .i64 0, .int .i64 0, .slice none 0 0, .slice none 0 0, .slice none 0 0, .int .i64 0] 43)))
  have HN5 : Hid (∀ g, blk A5 = some g → ¬ F3 g) := fun g hg hf => by have h1 := (how5.lt g hg).1; have h2 := M4.out.lt g hf; omega
  clear hm5 ho5 how5 HT M4
  go_wp2_with fail
  generalize w5.alloc (.cells #[.int .i64 0, .int .i64 0, .slice none 0 0, .slice none 0 0, .slice none 0 0, .int .i64 0] 43) = w5' at *
  have HT := Lib.hid (tick3 w5' p F3 M5.out)
  unfold pM at HT
  refine HT.out.mono ?_
  rintro e6 w6 ⟨A6, n6, c6, rfl, hm6, ho6, how6⟩
  obtain rfl : n6 = 0 := how6.len.symm
  simp only [outV, repV, rep0, repS0, out0]
  have HB6 := Lib.hid (heap_alloc_new w6 (.cells #[.int .i64 3, .int .i64 0, .slice none 0 0, .slice none 0 0, .slice none 0 0, .int .i64 2] 43))
  have M6 := Lib.hid (hm6.ext (Ext.alloc w6 (.cells #[.int .i64 3, .int .i64 0, .slice none 0 0, .slice none 0 0, .slice none 0 0, .int .i64 2] 43)))
  have Q6 : Hid (Only F3 w5' (w6.alloc (.cells #[.int .i64 3, .int .i64 0, .slice none 0 0, .slice none 0 0, .slice none 0 0, .int .i64 2] 43))) := ho6.trans (Only.of_ext (F := F3) (Ext.alloc w6 (.cells #[.int .i64 3, .int .i64 0, .slice none 0 0, .slice none 0 0, .slice none 0 0, .int .i64 2] 43))) (fun _ _ q => q)
  clear hm6 ho6 how6 HT M5
  go_wp2_with fail
  generalize w6.alloc (.cells #[.int .i64 3, .int .i64 0, .slice none 0 0, .slice none 0 0, .slice none 0 0, .int .i64 2] 43) = w6' at *
  have HQ := Lib.hid ((Q4.out.trans Q5.out (fun _ _ q => q)).trans Q6.out (fun _ _ q => q))
  have HX6 := Lib.hid (HQ.out.ext X3.out HF3.out)
  have HSB := Lib.hid (fun W (hX : Ext w6' W) => same_any (frameF 1 ask1) (frameF 1 ask1) A3 A5 8 8 c3 c5 W ((O3.out.only HQ.out HN3.out).rd.ext hX) ((O5.out.only Q6.out HN5.out).rd.ext hX) (by unfold maxLen; omega))
  rw [decide_eq_true rfl] at HSB
  have HBZ := Lib.hid (fun W (hX : Ext w6' W) => mas_busy p F3 dM3 W (M6.out.ext hX) dM3_ok)
  rw [show dM3.under = false from rfl] at HBZ
  unfold pM at HBZ
  have HC := Lib.hid (fun W (hX : Ext w6' W) => (show W.cell? ⟨w6.heap.size, 0, none⟩ = some (.int .i64 3) ∧ W.cell? ⟨w6.heap.size, 5, none⟩ = some (.int .i64 2) from ⟨(cells6 (hX.block HB6.out)).1, (cells6 (hX.block HB6.out)).2.2.2.2.2⟩))
  clear Q4 Q5 Q6 O3 O5 HN3 HN5 M6 HQ X3 X2 HF HF3
  generalize w6.heap.size = g at *
  go_wp2_with fail
  refine (HSB.out _ (Ext.refl _)).mono ?_
  rintro e7 w7 ⟨rfl, hx7⟩
  have X7 := Lib.hid (Ext.of hx7)
  obtain ⟨x0, x5⟩ := HC.out _ X7.out
  clear hx7
  go_wp2_with fail
  refine (HBZ.out _ X7.out).mono ?_
  rintro e8 w8 ⟨rfl, rfl⟩
  go_wp2_with fail
  go_ret
  exact ⟨rfl, HX6.out.trans X7.out⟩
end Go.Proofs.Ytcnjhjfepojdaaa

namespace Go.Out
open Go Go.RowKit
set_option linter.unusedVariables false

theorem flip_flip (l : List UInt8) (k : Nat) (h : k / 8 < l.length) : flip (flip l k) k = l := by
  unfold flip
  rw [List.set_set]
  have e : (l.set (k / 8) (l.getD (k / 8) 0 ^^^ bit8 (k % 8))).getD (k / 8) 0 = l.getD (k / 8) 0 ^^^ bit8 (k % 8) := by
    rw [List.getD_eq_getElem?_getD, List.getElem?_set_self h]; rfl
  rw [e, UInt8.xor_assoc, UInt8.xor_self, UInt8.xor_zero, List.getD_eq_getElem?_getD, List.getElem?_eq_getElem h]
  exact List.set_getElem_self h
theorem turn_one (l : List UInt8) (k : Nat) (h : k / 8 < l.length) : turn l k 1 1 = (flip l k, 1) := by
  show (if 1 / 2 ^ 0 % 2 = 1 ∧ (k + 0) / 8 < l.length then (flip (turn l k 1 0).1 (k + 0), (turn l k 1 0).2 + 1) else turn l k 1 0) = _
  rw [if_pos ⟨rfl, h⟩]; rfl
theorem openRtu_flip {u : UInt8} {b : List UInt8} {k : Nat} (h : (rtuF u b).2 = 0) (hk : k / 8 < (rtuF u b).1.length) : (openRtuF (flip (rtuF u b).1 k)).2.2 ≠ 0 := by
  obtain ⟨-, hl, hs, -⟩ := openRtu_rtu h
  have hf := rtu_fits.1 h
  have e := open16_turned (u :: b) k 1 1 (by omega) (by rw [turn_one _ _ (by rw [← hs]; exact hk)]; show (1 : Nat) ≠ 0; omega)
  rw [turn_one _ _ (by rw [← hs]; exact hk), ← hs] at e
  unfold openRtuF
  rw [flip_length, if_neg (by omega), if_neg (by omega), e]
  decide
/-- What the chapter's frames are. -/
theorem answer_frame {unit : Int} {a : AskD} {r : RepD} {d : MasD} {now : Int} (hs : startE d now unit a = 0) (hr : checkR a r = 0) : (rtuF (UInt8.ofNat unit.toNat) (putR a r).1).2 = 0 ∧ (rtuF (UInt8.ofNat unit.toNat) (putR a r).1).1.length = 3 + (putR a r).1.length ∧ (putR a r).1.length ≤ 253 ∧
    ∀ m : MasD, m.under = true → m.unit = unit.toNat → m.ask = a → hearsB m (rtuF (UInt8.ofNat unit.toNat) (putR a r).1).1 = true ∧ hearO m (rtuF (UInt8.ofNat unit.toNat) (putR a r).1).1 = ⟨if r.exc ≠ 0 then 2 else 1, r, m.tries⟩ := by
  obtain ⟨-, h2, -⟩ := startE_zero hs
  obtain ⟨g1, g2, g3, g4⟩ := getR_putR hr
  have hn : (UInt8.ofNat unit.toNat).toNat = unit.toNat := toNat_ofNat8 (by omega)
  have h0 : (rtuF (UInt8.ofNat unit.toNat) (putR a r).1).2 = 0 := rtu_fits.2 (by rw [hn]; omega)
  obtain ⟨o1, o2, -⟩ := openRtu_rtu h0
  refine ⟨h0, o2, g4, fun m e1 e2 e3 => ?_⟩
  have hb : hearsB m (rtuF (UInt8.ofNat unit.toNat) (putR a r).1).1 = true := by
    unfold hearsB; rw [o1, e1, e2, e3, g1, hn]; simp
  refine ⟨hb, ?_⟩
  unfold hearO; rw [if_pos hb, o1, e3, g1]
end Go.Out
