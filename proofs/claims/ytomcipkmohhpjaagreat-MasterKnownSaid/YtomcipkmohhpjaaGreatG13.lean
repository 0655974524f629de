/- The chapter's request, and that it works. -/
import Derived.Test.YtomcipkmohhpjaaGreatG10
import Derived.Test.YtomcipkmohhpjaaGreatG12
import Derived.Test.YtomcipkmohhpjaaGreatG08
import Derived.Test.YtomcipkmohhpjaaGreatG07
import Derived.Test.YtomcipkmohhpjaaGreatG05
import Derived.Test.YtomcipkmohhpjaaGreatG00
import Derived.Test.YtomcipkmohhpjaaGreatG06
import Derived.Deep.RegionLaw
import Derived.Test.YtomcipkmohhpjaaGreatG04
import Derived.Test.YtomcipkmohhpjaaGreatG02
import Derived.Test.YtomcipkmohhpjaaGreatAskG5
namespace Go.Proofs.YtomcipkmohhpjaaGreat
set_option linter.unusedVariables false
set_option linter.unusedSimpArgs false
set_option maxRecDepth 100000
set_option maxHeartbeats 2000000
open Go Go.RowKit Go.Out

def ask1 : AskD := ⟨3, 0, 1, [], [], []⟩
theorem ask1_rd (W : World) : AskRd W ask1 askS0 := ⟨Rd.nil_ _, Rd.nil_ _, RdL.nil_ _ _ _, by unfold i64P ask1; simp, by unfold i64P ask1; simp, by unfold i64P ask1; simp, ⟨Nat.le_refl _, Nat.zero_le _⟩, ⟨Nat.le_refl _, Nat.zero_le _⟩, ⟨Nat.le_refl _, Nat.zero_le _⟩⟩
theorem one_any (w : World) : Calls Tryz.prog 11 #[] w (fun e w' => e = .returned (askV ask1 askS0) ∧ Ext w w') := by
  unfold askV ask1 askS0
  go_enter Tryz.func11, Tryz.ntmps11
  go_wp2_with fail
  obtain ⟨c0, c1, c2, c3, c4, c5⟩ := cells6 (heap_alloc_new w (.cells #[.int .i64 3, .int .i64 0, .int .i64 1, .slice none 0 0, .slice none 0 0, .slice none 0 0] 37))
  exact bodyPost_ret (v := .agg #[.int .i64 3, .int .i64 0, .int .i64 1, .slice none 0 0, .slice none 0 0, .slice none 0 0]) (by simp [results, Tryz.results11, go_sem, c0, c1, c2, c3, c4, c5]) rfl ⟨rfl, Ext.alloc _ _⟩
def dM1 : MasD := ⟨3, 1, true, 1, 1, 10, ask1, frameF 1 ask1⟩
theorem st1 : startE (newM 3 1) 10 1 ask1 = 0 := by kernel_rfl
theorem st2 : startM (newM 3 1) 10 1 ask1 = dM1 := by unfold startM; rw [if_pos st1]; rfl
theorem st3 : startB (newM 3 1) 10 1 ask1 = frameF 1 ask1 := by unfold startB; rw [if_pos st1]
theorem fr1 : (frameF 1 ask1).length = 8 := by kernel_rfl
def dM2 : MasD := { dM1 with tries := 2, last := 13 }
def dM3 : MasD := { dM2 with under := false }
theorem tk1 : tickK dM1 12 = 0 := by kernel_rfl
theorem tk2 : tickK dM1 13 = 1 := by kernel_rfl
theorem tk3 : tickK dM2 16 = 2 := by kernel_rfl
theorem dM1_ok : MasOk dM1 := st2 ▸ startM_ok (newM_ok rfl)
theorem tm1 : tickM dM1 12 = dM1 := by unfold tickM; rw [if_pos tk1]
theorem tb1 : tickB dM1 12 = [] := by unfold tickB; rw [if_neg (by rw [tk1]; decide)]
theorem to1 : tickO dM1 12 = out0 := by unfold tickO; rw [if_neg (by rw [tk1]; decide)]
theorem tm2 : tickM dM1 13 = dM2 := by unfold tickM; rw [if_neg (by rw [tk2]; decide), if_neg (by rw [tk2]; decide)]; rfl
theorem tb2 : tickB dM1 13 = frameF 1 ask1 := by unfold tickB; rw [if_pos tk2]; rfl
theorem to2 : tickO dM1 13 = out0 := by unfold tickO; rw [if_neg (by rw [tk2]; decide)]
theorem tm3 : tickM dM2 16 = dM3 := by unfold tickM; rw [if_neg (by rw [tk3]; decide), if_pos tk3]; rfl
theorem tb3 : tickB dM2 16 = [] := by unfold tickB; rw [if_neg (by rw [tk3]; decide)]
theorem to3 : tickO dM2 16 = ⟨3, rep0, 2⟩ := by unfold tickO; rw [if_pos tk3]; rfl
theorem dM2_ok : MasOk dM2 := tm2 ▸ tickM_ok dM1_ok
theorem dM3_ok : MasOk dM3 := tm3 ▸ tickM_ok dM2_ok
theorem new31 (w : World) : Calls Tryz.prog 7 #[.int .i64 3, .int .i64 1] w (RetNewM MasAt w (newM 3 1)) := mas_new 3 1 rfl w
theorem start1 (w : World) (p : Nat) (F : Nat → Prop) (h : MasAt w p F (newM 3 1)) : Calls Tryz.prog 17 #[pM p, .int .i64 10, .int .i64 1, askV ask1 askS0] w (RetStart MasAt w p F dM1 (frameF 1 ask1) 0) := by
  have := mas_start 10 1 ask1 askS0 w p F (newM 3 1) h (newM_ok rfl) (ask1_rd _)
  rw [st1, st2, st3] at this
  exact this
theorem tick1 (w : World) (p : Nat) (F : Nat → Prop) (h : MasAt w p F dM1) : Calls Tryz.prog 18 #[pM p, .int .i64 12] w (RetTick MasAt w p F dM1 [] out0 false) := by
  have := mas_tick 12 w p F dM1 h dM1_ok
  rw [tm1, tb1, to1, tk1] at this
  exact this
theorem tick2 (w : World) (p : Nat) (F : Nat → Prop) (h : MasAt w p F dM1) : Calls Tryz.prog 18 #[pM p, .int .i64 13] w (RetTick MasAt w p F dM2 (frameF 1 ask1) out0 false) := by
  have := mas_tick 13 w p F dM1 h dM1_ok
  rw [tm2, tb2, to2, tk2] at this
  exact this
theorem tick3 (w : World) (p : Nat) (F : Nat → Prop) (h : MasAt w p F dM2) : Calls Tryz.prog 18 #[pM p, .int .i64 16] w (RetTick MasAt w p F dM3 [] ⟨3, rep0, 2⟩ true) := by
  have := mas_tick 16 w p F dM2 h dM2_ok
  rw [tm3, tb3, to3, tk3] at this
  exact this
theorem works_any (w : World) : Calls Tryz.prog 6 #[] w (RetQ w true) := by
  go_enter Tryz.func6, Tryz.ntmps6
  go_wp2_with fail
  refine (new31 w).mono ?_
  rintro e1 w1 ⟨p, F, rfl, hm1, hx1, hF⟩
  unfold pM
  go_wp2_with fail
  refine (one_any w1).mono ?_
  rintro e2 w2 ⟨rfl, hx2⟩
  have M2 := Lib.hid (hm1.ext hx2)
  have X2 := Lib.hid (hx1.trans hx2)
  have HF := Lib.hid hF
  have hl2 := hx1.size
  clear hm1 hx1 hx2 hF
  have HS := Lib.hid (start1 w2 p F M2.out)
  unfold pM at HS
  go_wp2_with fail
  refine HS.out.mono ?_
  rintro e3 w3 ⟨F3, A3, n3, c3, rfl, hm3, ho3, hf3, how3, hna3⟩
  have M3 := Lib.hid hm3
  have X3 := Lib.hid (ho3.ext X2.out HF.out)
  have HF3 : Hid (∀ k, F3 k → w.heap.size ≤ k) := fun k hk => by have := X2.out.size; rcases hf3 k hk with q | q; exact HF.out k q; omega
  have O3 := Lib.hid how3
  have HN3 := Lib.hid hna3
  obtain rfl : n3 = 8 := by have := how3.len; rw [List.length_map, fr1] at this; exact this.symm
  clear hm3 ho3 hf3 how3 hna3 HS M2
  have HT := Lib.hid (tick1 w3 p F3 M3.out)
  unfold pM at HT
  go_wp2_with fail
  refine HT.out.mono ?_
  rintro e4 w4 ⟨A4, n4, c4, rfl, hm4, ho4, how4⟩
  obtain rfl : n4 = 0 := how4.len.symm
  simp only [outV, repV, rep0, repS0, out0]
  have M4 := Lib.hid (hm4.ext (Ext.alloc w4 (.cells #[.int .i64 0, .int .i64 0, .slice none 0 0, .slice none 0 0, .slice none 0 0, .int .i64 0] 59)))
  have Q4 : Hid (Only F3 w3 (w4.alloc (.cells #[.int .i64 0, .int .i64 0, .slice none 0 0, .slice none 0 0, .slice none 0 0, .int .i64 0] 59))) := ho4.trans (Only.of_ext (F := F3) (Ext.alloc w4 (.cells #[.int .i64 0, .int .i64 0, .slice none 0 0, .slice none 0 0, .slice none 0 0, .int .i64 0] 59))) (fun _ _ q => q)
  clear hm4 ho4 how4 HT M3
  go_wp2_with fail
  generalize w4.alloc (.cells #[.int .i64 0, .int .i64 0, .slice none 0 0, .slice none 0 0, .slice none 0 0, .int .i64 0] 59) = w4' at *
  have HT := Lib.hid (tick2 w4' p F3 M4.out)
  unfold pM at HT
  refine HT.out.mono ?_
  rintro e5 w5 ⟨A5, n5, c5, rfl, hm5, ho5, how5⟩
  obtain rfl : n5 = 8 := by have := how5.len; rw [List.length_map, fr1] at this; exact this.symm
  simp only [outV, repV, rep0, repS0, out0]
  have M5 := Lib.hid (hm5.ext (Ext.alloc w5 (.cells #[.int .i64 0, .int .i64 0, .slice none 0 0, .slice none 0 0, .slice none 0 0, .int .i64 0] 59)))
  have Q5 : Hid (Only F3 w4' (w5.alloc (.cells #[.int .i64 0, .int .i64 0, .slice none 0 0, .slice none 0 0, .slice none 0 0, .int .i64 0] 59))) := ho5.trans (Only.of_ext (F := F3) (Ext.alloc w5 (.cells #[.int .i64 0, .int .i64 0, .slice none 0 0, .slice none 0 0, .slice none 0 0, .int .i64 0] 59))) (fun _ _ q => q)
  have O5 := Lib.hid (how5.ext (Ext.alloc w5 (.cells #[.int .i64 0, .int .i64 0, .slice none 0 0, .slice none 0 0, .slice none 0 0, .int .i64 0] 59)))
  have HN5 : Hid (∀ g, blk A5 = some g → ¬ F3 g) := fun g hg hf => by have h1 := (how5.lt g hg).1; have h2 := M4.out.lt g hf; omega
  clear hm5 ho5 how5 HT M4
  go_wp2_with fail
  generalize w5.alloc (.cells #[.int .i64 0, .int .i64 0, .slice none 0 0, .slice none 0 0, .slice none 0 0, .int .i64 0] 59) = w5' at *
  have HT := Lib.hid (tick3 w5' p F3 M5.out)
  unfold pM at HT
  refine HT.out.mono ?_
  rintro e6 w6 ⟨A6, n6, c6, rfl, hm6, ho6, how6⟩
  obtain rfl : n6 = 0 := how6.len.symm
  simp only [outV, repV, rep0, repS0, out0]
  have HB6 := Lib.hid (heap_alloc_new w6 (.cells #[.int .i64 3, .int .i64 0, .slice none 0 0, .slice none 0 0, .slice none 0 0, .int .i64 2] 59))
  have M6 := Lib.hid (hm6.ext (Ext.alloc w6 (.cells #[.int .i64 3, .int .i64 0, .slice none 0 0, .slice none 0 0, .slice none 0 0, .int .i64 2] 59)))
  have Q6 : Hid (Only F3 w5' (w6.alloc (.cells #[.int .i64 3, .int .i64 0, .slice none 0 0, .slice none 0 0, .slice none 0 0, .int .i64 2] 59))) := ho6.trans (Only.of_ext (F := F3) (Ext.alloc w6 (.cells #[.int .i64 3, .int .i64 0, .slice none 0 0, .slice none 0 0, .slice none 0 0, .int .i64 2] 59))) (fun _ _ q => q)
  clear hm6 ho6 how6 HT M5
  go_wp2_with fail
  generalize w6.alloc (.cells #[.int .i64 3, .int .i64 0, .slice none 0 0, .slice none 0 0, .slice none 0 0, .int .i64 2] 59) = w6' at *
  have HQ := Lib.hid ((Q4.out.trans Q5.out (fun _ _ q => q)).trans Q6.out (fun _ _ q => q))
  have HX6 := Lib.hid (HQ.out.ext X3.out HF3.out)
  have HSB := Lib.hid (fun W (hX : Ext w6' W) => same_any (frameF 1 ask1) (frameF 1 ask1) A3 A5 8 8 c3 c5 W ((O3.out.only HQ.out HN3.out).rd.ext hX) ((O5.out.only Q6.out HN5.out).rd.ext hX) (by unfold maxLen; omega))
  rw [decide_eq_true rfl] at HSB
  have HBZ := Lib.hid (fun W (hX : Ext w6' W) => mas_busy p F3 dM3 W (M6.out.ext hX) dM3_ok)
  rw [show dM3.under = false from rfl] at HBZ
  unfold pM at HBZ
  have HC := Lib.hid (fun W (hX : Ext w6' W) => (show W.cell? ⟨w6.heap.size, 0, none⟩ = some (.int .i64 3) ∧ W.cell? ⟨w6.heap.size, 5, none⟩ = some (.int .i64 2) from ⟨(cells6 (hX.block HB6.out)).1, (cells6 (hX.block HB6.out)).2.2.2.2.2⟩))
  clear Q4 Q5 Q6 O3 O5 HN3 HN5 M6 HQ X3 X2 HF HF3
  generalize w6.heap.size = g at *
  go_wp2_with fail
  refine (HSB.out _ (Ext.refl _)).mono ?_
  rintro e7 w7 ⟨rfl, hx7⟩
  have X7 := Lib.hid (Ext.of hx7)
  obtain ⟨x0, x5⟩ := HC.out _ X7.out
  clear hx7
  go_wp2_with fail
  refine (HBZ.out _ X7.out).mono ?_
  rintro e8 w8 ⟨rfl, rfl⟩
  go_wp2_with fail
  go_ret
  exact ⟨rfl, HX6.out.trans X7.out⟩
end Go.Proofs.YtomcipkmohhpjaaGreat

namespace Go.Out
open Go Go.RowKit
set_option linter.unusedVariables false

theorem flip_flip (l : List UInt8) (k : Nat) (h : k / 8 < l.length) : flip (flip l k) k = l := by
  unfold flip
  rw [List.set_set]
  have e : (l.set (k / 8) (l.getD (k / 8) 0 ^^^ bit8 (k % 8))).getD (k / 8) 0 = l.getD (k / 8) 0 ^^^ bit8 (k % 8) := by
    rw [List.getD_eq_getElem?_getD, List.getElem?_set_self h]; rfl
  rw [e, UInt8.xor_assoc, UInt8.xor_self, UInt8.xor_zero, List.getD_eq_getElem?_getD, List.getElem?_eq_getElem h]
  exact List.set_getElem_self h
theorem turn_one (l : List UInt8) (k : Nat) (h : k / 8 < l.length) : turn l k 1 1 = (flip l k, 1) := by
  show (if 1 / 2 ^ 0 % 2 = 1 ∧ (k + 0) / 8 < l.length then (flip (turn l k 1 0).1 (k + 0), (turn l k 1 0).2 + 1) else turn l k 1 0) = _
  rw [if_pos ⟨rfl, h⟩]; rfl
theorem openRtu_flip {u : UInt8} {b : List UInt8} {k : Nat} (h : (rtuF u b).2 = 0) (hk : k / 8 < (rtuF u b).1.length) : (openRtuF (flip (rtuF u b).1 k)).2.2 ≠ 0 := by
  obtain ⟨-, hl, hs, -⟩ := openRtu_rtu h
  have hf := rtu_fits.1 h
  have e := open16_turned (u :: b) k 1 1 (by omega) (by rw [turn_one _ _ (by rw [← hs]; exact hk)]; show (1 : Nat) ≠ 0; omega)
  rw [turn_one _ _ (by rw [← hs]; exact hk), ← hs] at e
  unfold openRtuF
  rw [flip_length, if_neg (by omega), if_neg (by omega), e]
  decide
/-- What the chapter's frames are. -/
theorem answer_frame {unit : Int} {a : AskD} {r : RepD} {d : MasD} {now : Int} (hs : startE d now unit a = 0) (hr : checkR a r = 0) : (rtuF (UInt8.ofNat unit.toNat) (putR a r).1).2 = 0 ∧ (rtuF (UInt8.ofNat unit.toNat) (putR a r).1).1.length = 3 + (putR a r).1.length ∧ (putR a r).1.length ≤ 253 ∧
    ∀ m : MasD, m.under = true → m.unit = unit.toNat → m.ask = a → hearsB m (rtuF (UInt8.ofNat unit.toNat) (putR a r).1).1 = true ∧ hearO m (rtuF (UInt8.ofNat unit.toNat) (putR a r).1).1 = ⟨if r.exc ≠ 0 then 2 else 1, r, m.tries⟩ := by
  obtain ⟨-, h2, -⟩ := startE_zero hs
  obtain ⟨g1, g2, g3, g4⟩ := getR_putR hr
  have hn : (UInt8.ofNat unit.toNat).toNat = unit.toNat := toNat_ofNat8 (by omega)
  have h0 : (rtuF (UInt8.ofNat unit.toNat) (putR a r).1).2 = 0 := rtu_fits.2 (by rw [hn]; omega)
  obtain ⟨o1, o2, -⟩ := openRtu_rtu h0
  refine ⟨h0, o2, g4, fun m e1 e2 e3 => ?_⟩
  have hb : hearsB m (rtuF (UInt8.ofNat unit.toNat) (putR a r).1).1 = true := by
    unfold hearsB; rw [o1, e1, e2, e3, g1, hn]; simp
  refine ⟨hb, ?_⟩
  unfold hearO; rw [if_pos hb, o1, e3, g1]
end Go.Out

namespace Go.Out
open Go Go.RowKit
theorem xor_cellT (x y : UInt8) : (.int .u8 (bits .xor .u8 (x.toNat : Int) (y.toNat : Int)) : Value) = cB (x ^^^ y) := by
  rw [u8_xor_nat _ _ x.toNat_lt y.toNat_lt]; unfold cB; rw [UInt8.toNat_xor]
end Go.Out
namespace Go.Proofs.YtomcipkmohhpjaaGreat
set_option linter.unusedVariables false
set_option linter.unusedSimpArgs false
set_option maxRecDepth 100000
set_option maxHeartbeats 2000000
open Go Go.RowKit Go.Out

theorem sameOut_any (o : OutD) (t u : RepS) (w : World) (ha : RepRd w o.rep t) (hb : RepRd w o.rep u) :
    Calls Tryz.prog 27 #[outV o t, outV o u] w (RetQ w true) := by
  have HS := Lib.hid (fun W (hX : Ext w W) => sameReply_eq o.rep t u W (ha.ext hX) (hb.ext hX) (by have := ha.cap1; omega) (by have := ha.cap2; omega) (by have := ha.cap3; omega))
  clear ha hb
  obtain ⟨what, ⟨exc, on, set, files⟩, tries⟩ := o
  obtain ⟨A1, n1, c1, A2, n2, c2, A3, n3, c3⟩ := t
  obtain ⟨B1, m1, k1, B2, m2, k2, B3, m3, k3⟩ := u
  simp only [repV] at HS
  simp only [outV]
  go_enter Tryz.func27, Tryz.ntmps27
  go_wp2_with fail
  refine (HS.out _ (ext_pair _ _ _)).mono ?_
  rintro e w1 ⟨rfl, hx⟩
  go_wp2_with fail
  go_ret
  exact ⟨rfl, (ext_pair _ _ _).trans hx⟩

theorem turned18_any (b y : List UInt8) (A B : Option Addr) (n c m k : Nat) (w : World) (hb : Rd w A n (b.map cB)) (hy : Rd w B m (y.map cB)) (hn : n ≤ 140737488355328) (hm : m ≤ 140737488355328) :
    Calls Tryz.prog 30 #[.slice A n c, .slice B m k] w fun e w' => ∃ (X : List UInt8) (A' : Option Addr) (c' : Nat), e = .returned (.slice A' n c') ∧ X.length = n ∧ Own w' w.heap.size 5 IsU8 A' n c' (X.map cB) ∧ Ext w w' := by
  have hl := hb.length; have hly := hy.length
  have HB := Lib.hid hb; have HY := Lib.hid hy
  have Hl : Hid (b.length = n) := hl
  have Hly : Hid (y.length = m) := hly
  clear hb hy hl hly
  go_enter Tryz.func30, Tryz.ntmps30
  go_wp2_with fail
  refine (copy_any b _ _ _ _ HB.out hn).mono ?_
  rintro e w1 ⟨A1, c1, rfl, ho, hx1⟩
  have HO := Lib.hid ho; have X1 := Lib.hid (Ext.of hx1)
  clear ho hx1
  go_wp2_with fail
  go_loopw [6] (fun i wr => ∃ (k : Nat) (X : List UInt8), k ≤ m ∧ i = .int .i64 (k : Int) ∧ Hid (X.length = n) ∧ Hid (Own wr w.heap.size 5 IsU8 A1 n c1 (X.map cB)) ∧ Hid (Ext w wr)) (fun i _ => m - (intOf i).toNat)
  case atStart => exact ⟨0, b, Nat.zero_le _, rfl, Hl, HO, X1⟩
  case round =>
    clear HO X1
    obtain ⟨k, X, hk, rfl, HX, HO, XR⟩ := hrel
    by_cases hgo : k < m ∧ k < n
    · obtain ⟨h1, h2⟩ := hgo
      obtain ⟨g, off, rfl, hgb, hcx, hfx⟩ := HO.out.at_ h2
      obtain ⟨gy, offy, rfl, -, hly, hcy⟩ := (HY.out.ext XR.out).u8at h1
      have hxl : k < X.length := by rw [HX.out]; exact h2
      have hcx2 : wr.cell? ⟨g, off + k, none⟩ = some (.int .u8 ((X[k].toNat : Nat) : Int)) := by rw [hcx, List.getElem?_map, List.getElem?_eq_getElem hxl]; rfl
      have HS : Hid ((X.map cB).set k (.int .u8 (bits .xor .u8 ((X[k].toNat : Nat) : Int) ((y[k].toNat : Nat) : Int))) = (X.set k (X[k] ^^^ y[k])).map cB) := by
        unfold Hid; rw [xor_cellT, List.map_set]
      have HXL : Hid ((X.set k (X[k] ^^^ y[k])).length = n) := by unfold Hid; rw [List.length_set]; exact HX.out
      generalize X.set k (X[k] ^^^ y[k]) = X' at *
      clear hcx
      generalize X[k].toNat = x0 at *
      generalize y[k].toNat = y0 at *
      have i1 : (k : Int) < (m : Int) := by omega
      have i2 : (k : Int) < (n : Int) := by omega
      have i3 : (0 : Int) ≤ (k : Int) := by omega
      have hgs := hgb
      go_wp2_with fail
      go_still_tail 12, (by kernel_rfl)
      change wpList _ _ _ _ _ wr.drew
      go_wp2_with fail
      go_roundw
      case rel => exact ⟨k + 1, X', by omega, by go_num, HXL, by
        unfold Hid; rw [← HS.out]; exact (Own.set_ HO.out (isU8_bits _ _ _)).ext (Ext.draw _), (XR.out.set' (by simp only; omega) _).trans (Ext.draw _)⟩
      case measure => simp [intOf]; omega
    · have hgo2 : ¬ (k : Int) < (m : Int) ∨ ((k : Int) < (m : Int) ∧ ¬ (k : Int) < (n : Int)) := by omega
      rcases hgo2 with hg | ⟨hg, hg2⟩
      all_goals
        go_wp2_with fail
        go_ret
        exact ⟨X, _, _, rfl, HX.out, HO.out, XR.out⟩
/-- Both masters lie there, apart, alike; all that w0 has is as it was. -/
structure Both (w0 w : World) (p : Nat) (F : Nat → Prop) (q : Nat) (G : Nat → Prop) (d : MasD) : Prop where
  a : MasAt w p F d
  b : RemAt w q G d
  ok : MasOk d
  x : Ext w0 w
  fa : ∀ k, F k → w0.heap.size ≤ k
  fb : ∀ k, G k → w0.heap.size ≤ k
  ab : ∀ k, F k → ¬ G k
theorem Both.ext {w0 w w' : World} {p q : Nat} {F G : Nat → Prop} {d : MasD} (h : Both w0 w p F q G d) (hx : Ext w w') : Both w0 w' p F q G d := ⟨h.a.ext hx, h.b.ext hx, h.ok, h.x.trans hx, h.fa, h.fb, h.ab⟩
/-- What neither owns has turned alone. -/
theorem Both.only {w0 w w' : World} {p q : Nat} {F G K : Nat → Prop} {d : MasD} (h : Both w0 w p F q G d) (ho : Only K w w') (hF : ∀ k, F k → ¬ K k) (hG : ∀ k, G k → ¬ K k) (h0 : ∀ k, K k → w0.heap.size ≤ k) : Both w0 w' p F q G d :=
  ⟨h.a.only ho hF, h.b.only ho hG, h.ok, ho.ext h.x h0, h.fa, h.fb, h.ab⟩
def RetBoth (w0 : World) (p q : Nat) (d : MasD) (e : Ending) (w' : World) : Prop := e = .returned (.bool true) ∧ ∃ F G, Both w0 w' p F q G d
theorem outC {W : World} {o : OutD} {t : RepS} {g : Nat} (h : W.heap[g]? = some (.cells #[.int .i64 o.what, .int .i64 o.rep.exc, .slice t.A1 t.n1 t.c1, .slice t.A2 t.n2 t.c2, .slice t.A3 t.n3 t.c3, .int .i64 (o.tries : Int)] 59 (0, 0))) :
    W.cell? ⟨g, 0, none⟩ = some (.int .i64 o.what) ∧ W.cell? ⟨g, 1, none⟩ = some (.int .i64 o.rep.exc) ∧ W.cell? ⟨g, 2, none⟩ = some (.slice t.A1 t.n1 t.c1) ∧ W.cell? ⟨g, 3, none⟩ = some (.slice t.A2 t.n2 t.c2) ∧ W.cell? ⟨g, 4, none⟩ = some (.slice t.A3 t.n3 t.c3) ∧ W.cell? ⟨g, 5, none⟩ = some (.int .i64 (o.tries : Int)) := cells6 h
theorem heard_any (b : List UInt8) (A : Option Addr) (n c : Nat) (w0 w : World) (p q : Nat) (F G : Nat → Prop) (d : MasD) (h : Both w0 w p F q G d) (hb : ∀ W, Only (fun k => F k ∨ G k) w W → Rd W A n (b.map cB)) (hc : n ≤ c ∧ c ≤ 9223372036854775807) (hn : n ≤ 1048576) :
    Calls Tryz.prog 25 #[pM p, pM q, .slice A n c] w (RetBoth w0 p q (hearM d b)) := by
  have HT := Lib.hid h
  have HB := Lib.hid hb
  have HLF := Lib.hid h.a.lt; have HLG := Lib.hid h.b.lt
  have hln := (hb w (Only.refl _ _)).length
  have HN : Hid (b.length = n) := hln
  clear h hb hln
  unfold pM
  go_enter Tryz.func25, Tryz.ntmps25
  go_wp2_with fail
  refine (lent_any b A n c w (HB.out _ (Only.refl _ _)) (by omega)).mono ?_
  rintro e w1 ⟨g, cur, rfl, hg, hh, hcur, hx1⟩
  have X1 := Lib.hid (Ext.of hx1)
  have HH1 := Lib.hid hh; have HCU := Lib.hid hcur
  have hg1 : g < w1.heap.size := lt_of_heap hh
  have HA := Lib.hid (lent_own (l := b) (n := n) hg hh hcur HN.out (by omega))
  have hHE := mas_hear b (some ⟨g, 0, none⟩) n (n + 5) w1 p F d (HT.out.a.ext X1.out) HT.out.ok HA.out.rd ⟨by omega, by omega⟩ (by omega)
  clear hh hcur hx1
  have HQ := Lib.hid hHE
  clear hHE
  generalize hO : hearO d b = oo at *
  generalize hM : hearM d b = dm at *
  generalize hK : hearsB d b = ok at *
  have HOK := hM ▸ hearM_ok (b := b) HT.out.ok
  have HOK' := Lib.hid HOK
  clear HOK
  simp only [pM] at HQ
  go_wp2_with fail
  refine HQ.out.mono ?_
  rintro e w2 ⟨t, rfl, hm, ho, hr⟩
  have HM2 := Lib.hid hm; have HO2 := Lib.hid ho; have HR2 := Lib.hid hr
  clear hm ho hr HQ
  simp only [outV, repV]
  have hs2 := HO2.out.size
  have XA := Lib.hid (Ext.alloc w2 (.cells #[.int .i64 oo.what, .int .i64 oo.rep.exc, .slice t.A1 t.n1 t.c1, .slice t.A2 t.n2 t.c2, .slice t.A3 t.n3 t.c3, .int .i64 (oo.tries : Int)] 59))
  have HRA := Lib.hid (((HT.out.b.ext X1.out).only HO2.out (fun k hk hf => HT.out.ab k hf hk)).ext XA.out)
  have ONA : Hid (Only (fun k => F k ∨ G k) w (w2.alloc (.cells #[.int .i64 oo.what, .int .i64 oo.rep.exc, .slice t.A1 t.n1 t.c1, .slice t.A2 t.n2 t.c2, .slice t.A3 t.n3 t.c3, .int .i64 (oo.tries : Int)] 59))) := ((Only.of_ext (F := fun k => F k ∨ G k) X1.out).trans HO2.out (fun _ _ h => .inl h)).trans (Only.of_ext (F := F) XA.out) (fun _ _ h => .inl h)
  have hHE := rem_hear b A n c (w2.alloc (.cells #[.int .i64 oo.what, .int .i64 oo.rep.exc, .slice t.A1 t.n1 t.c1, .slice t.A2 t.n2 t.c2, .slice t.A3 t.n3 t.c3, .int .i64 (oo.tries : Int)] 59)) q G d HRA.out (HB.out _ ONA.out) hc (by omega)
  rw [hM, hO, hK] at hHE
  clear hM hO hK
  simp only [pM] at hHE
  have HQ := Lib.hid hHE
  have HBX := Lib.hid (heap_alloc_new w2 (.cells #[.int .i64 oo.what, .int .i64 oo.rep.exc, .slice t.A1 t.n1 t.c1, .slice t.A2 t.n2 t.c2, .slice t.A3 t.n3 t.c3, .int .i64 (oo.tries : Int)] 59))
  have HHA := Lib.hid (XA.out.block ((HO2.out.block g hg1 (fun hf => by have := HLF.out g hf; omega)).trans HH1.out))
  have HMA := Lib.hid (HM2.out.ext XA.out)
  have HRP := Lib.hid (HR2.out.ext XA.out)
  have hsA : w2.heap.size < (w2.alloc (.cells #[.int .i64 oo.what, .int .i64 oo.rep.exc, .slice t.A1 t.n1 t.c1, .slice t.A2 t.n2 t.c2, .slice t.A3 t.n3 t.c3, .int .i64 (oo.tries : Int)] 59)).heap.size := lt_of_heap HBX.out
  clear hHE HRA HM2 HR2 XA HH1
  go_wp2_with fail
  generalize w2.alloc (.cells #[.int .i64 oo.what, .int .i64 oo.rep.exc, .slice t.A1 t.n1 t.c1, .slice t.A2 t.n2 t.c2, .slice t.A3 t.n3 t.c3, .int .i64 (oo.tries : Int)] 59) = wA at *
  obtain ⟨g2, hg2⟩ : ∃ g, w2.heap.size = g := ⟨_, rfl⟩
  rw [hg2] at HBX hsA hs2
  try simp only [hg2]
  clear hg2 HO2
  refine HQ.out.mono ?_
  rintro e w3 ⟨t', rfl, hm, ho, hr⟩
  have hlG := fun k (hk : G k) => HLG.out k hk
  have hlF := fun k (hk : F k) => HLF.out k hk
  have hsx1 := X1.out.size
  have hs3 := ho.size
  have HRM3 := Lib.hid (hm.ext (Ext.alloc w3 (.cells #[.int .i64 oo.what, .int .i64 oo.rep.exc, .slice t'.A1 t'.n1 t'.c1, .slice t'.A2 t'.n2 t'.c2, .slice t'.A3 t'.n3 t'.c3, .int .i64 (oo.tries : Int)] 59)))
  have HR3 := Lib.hid (hr.ext (Ext.alloc w3 (.cells #[.int .i64 oo.what, .int .i64 oo.rep.exc, .slice t'.A1 t'.n1 t'.c1, .slice t'.A2 t'.n2 t'.c2, .slice t'.A3 t'.n3 t'.c3, .int .i64 (oo.tries : Int)] 59)))
  have HMM3 := Lib.hid ((HMA.out.only ho (fun k hf hG => HT.out.ab k hf hG)).ext (Ext.alloc w3 (.cells #[.int .i64 oo.what, .int .i64 oo.rep.exc, .slice t'.A1 t'.n1 t'.c1, .slice t'.A2 t'.n2 t'.c2, .slice t'.A3 t'.n3 t'.c3, .int .i64 (oo.tries : Int)] 59)))
  have HBX3 := Lib.hid ((Ext.alloc w3 (.cells #[.int .i64 oo.what, .int .i64 oo.rep.exc, .slice t'.A1 t'.n1 t'.c1, .slice t'.A2 t'.n2 t'.c2, .slice t'.A3 t'.n3 t'.c3, .int .i64 (oo.tries : Int)] 59)).block ((ho.block g2 (by omega) (fun hG => by have := hlG _ hG; omega)).trans HBX.out))
  have HB23 := Lib.hid (heap_alloc_new w3 (.cells #[.int .i64 oo.what, .int .i64 oo.rep.exc, .slice t'.A1 t'.n1 t'.c1, .slice t'.A2 t'.n2 t'.c2, .slice t'.A3 t'.n3 t'.c3, .int .i64 (oo.tries : Int)] 59))
  have HHB := Lib.hid ((Ext.alloc w3 (.cells #[.int .i64 oo.what, .int .i64 oo.rep.exc, .slice t'.A1 t'.n1 t'.c1, .slice t'.A2 t'.n2 t'.c2, .slice t'.A3 t'.n3 t'.c3, .int .i64 (oo.tries : Int)] 59)).block ((ho.block g (by omega) (fun hG => by have := hlG _ hG; omega)).trans HHA.out))
  have HRB := Lib.hid ((HRP.out.agr (fun k h1 h2 => ho.block k h2 (fun hG => by have := hlG _ hG; omega))).ext (Ext.alloc w3 (.cells #[.int .i64 oo.what, .int .i64 oo.rep.exc, .slice t'.A1 t'.n1 t'.c1, .slice t'.A2 t'.n2 t'.c2, .slice t'.A3 t'.n3 t'.c3, .int .i64 (oo.tries : Int)] 59)))
  have ONB : Hid (Only (fun k => F k ∨ G k) w (w3.alloc (.cells #[.int .i64 oo.what, .int .i64 oo.rep.exc, .slice t'.A1 t'.n1 t'.c1, .slice t'.A2 t'.n2 t'.c2, .slice t'.A3 t'.n3 t'.c3, .int .i64 (oo.tries : Int)] 59))) := (ONA.out.trans ho (fun _ _ h => .inr h)).trans (Only.of_ext (F := F) (Ext.alloc w3 (.cells #[.int .i64 oo.what, .int .i64 oo.rep.exc, .slice t'.A1 t'.n1 t'.c1, .slice t'.A2 t'.n2 t'.c2, .slice t'.A3 t'.n3 t'.c3, .int .i64 (oo.tries : Int)] 59))) (fun _ _ h => .inl h)
  have hsB : w3.heap.size < (w3.alloc (.cells #[.int .i64 oo.what, .int .i64 oo.rep.exc, .slice t'.A1 t'.n1 t'.c1, .slice t'.A2 t'.n2 t'.c2, .slice t'.A3 t'.n3 t'.c3, .int .i64 (oo.tries : Int)] 59)).heap.size := lt_of_heap HB23.out
  clear hm ho hr HQ HBX HHA HMA HRP ONA
  simp only [outV, repV]
  have HSO := Lib.hid (fun W (h1 : RepRd W oo.rep t) (h2 : RepRd W oo.rep t') => sameOut_any oo t t' W h1 h2)
  simp only [outV] at HSO
  obtain ⟨v0, v1, v2, v3, v4, v5⟩ := outC HBX3.out
  go_wp2_with fail
  generalize w3.alloc (.cells #[.int .i64 oo.what, .int .i64 oo.rep.exc, .slice t'.A1 t'.n1 t'.c1, .slice t'.A2 t'.n2 t'.c2, .slice t'.A3 t'.n3 t'.c3, .int .i64 (oo.tries : Int)] 59) = wB at *
  obtain ⟨g3, hg3⟩ : ∃ g, w3.heap.size = g := ⟨_, rfl⟩
  rw [hg3] at HB23 hsB hs3
  try simp only [hg3]
  clear hg3 v0 v1 v2 v3 v4 v5
  refine (HSO.out wB HRB.out.rd HR3.out.rd).mono ?_
  rintro e w5 ⟨rfl, hx⟩
  have hB5 : Hid (Both w0 w5 p F q G dm) := ⟨HMM3.out.ext hx, HRM3.out.ext hx, HOK'.out, (ONB.out.ext HT.out.x (fun k hk => hk.elim (HT.out.fa k) (HT.out.fb k))).trans hx, HT.out.fa, HT.out.fb, HT.out.ab⟩
  have HBX5 := Lib.hid (hx.block HBX3.out); have HB25 := Lib.hid (hx.block HB23.out); have HHB5 := Lib.hid (hx.block HHB.out)
  have HRB5 := Lib.hid (HRB.out.ext hx); have HR5 := Lib.hid (HR3.out.ext hx)
  have ON5 : Hid (Only (fun k => F k ∨ G k) w w5) := ONB.out.trans (Only.of_ext (F := F) hx) (fun _ _ h => .inl h)
  have hs5 := hx.size
  clear hx HRM3 HMM3 HBX3 HB23 HHB HRB HR3 ONB
  go_wp2_with fail
  refine (kept_any b A n c g cur w5 (HB.out _ ON5.out) HHB5.out HCU.out (by omega)).mono ?_
  rintro e w6 ⟨rfl, hxx⟩
  have hx := Ext.of hxx
  have hB6 := Lib.hid (hB5.out.ext hx)
  have HBX6 := Lib.hid (hx.block HBX5.out); have HB26 := Lib.hid (hx.block HB25.out); have HHB6 := Lib.hid (hx.block HHB5.out)
  have HRB6 := Lib.hid (HRB5.out.ext hx); have HR6 := Lib.hid (HR5.out.ext hx)
  have hs6 := hx.size
  clear hxx hx hB5 HBX5 HB25 HHB5 HRB5 HR5 ON5
  go_wp2_with fail
  refine (spoil_any (some ⟨g, 0, none⟩) n (n + 5) w.heap.size _ w6 (lent_own (l := b) (n := n) hg HHB6.out HCU.out HN.out (by omega))).mono ?_
  rintro e w7 ⟨rfl, -, hgr⟩
  have ho : Only (fun k => k = g) w6 w7 := Only.of_grown hgr (fun k hk => by simpa [blk] using hk.symm)
  have hB7 := Lib.hid (hB6.out.only ho (fun k hk e => by have := hlF k hk; omega) (fun k hk e => by have := hlG k hk; omega) (fun k hk => by have := HT.out.x.size; omega))
  have HBX7 := Lib.hid ((ho.block g2 (by omega) (fun e => by omega)).trans HBX6.out)
  have HB27 := Lib.hid ((ho.block g3 (by omega) (fun e => by omega)).trans HB26.out)
  have HRB7 := Lib.hid (HRB6.out.agr (fun k h1 h2 => ho.block k h2 (fun e => by omega)))
  have HR7 := Lib.hid (HR6.out.agr (fun k h1 h2 => ho.block k h2 (fun e => by omega)))
  clear hgr ho hB6 HBX6 HB26 HHB6 HRB6 HR6
  obtain ⟨v0, v1, v2, v3, v4, v5⟩ := outC HBX7.out
  obtain ⟨z0, z1, z2, z3, z4, z5⟩ := outC HB27.out
  go_wp2_with fail
  refine (HSO.out w7 HRB7.out.rd HR7.out.rd).mono ?_
  rintro e w8 ⟨rfl, hx⟩
  go_wp2_with fail
  go_ret
  exact ⟨rfl, F, G, hB7.out.ext hx⟩
end Go.Proofs.YtomcipkmohhpjaaGreat

namespace Go.Proofs.YtomcipkmohhpjaaGreat
set_option linter.unusedVariables false
set_option linter.unusedSimpArgs false
set_option maxRecDepth 100000
set_option maxHeartbeats 1000000
open Go Go.RowKit Go.Out

theorem Ext.two (w : World) (o1 o2 : Obj) : Ext w ((w.alloc o1).alloc o2) := (Ext.alloc _ _).trans (Ext.alloc _ _)
end Go.Proofs.YtomcipkmohhpjaaGreat

namespace Go.Out
set_option linter.unusedVariables false
open Go Go.RowKit
end Go.Out
namespace Go.Proofs.YtomcipkmohhpjaaGreat
set_option linter.unusedVariables false
set_option linter.unusedSimpArgs false
set_option maxRecDepth 100000
set_option maxHeartbeats 2000000
open Go Go.RowKit Go.Out

theorem askBox {W : World} {g : Nat} {v0 v1 v2 v3 v4 v5 : Value} (h : W.heap[g]? = some (.cells #[v0, v1, v2, v3, v4, v5] 37 (0, 0))) :
    W.cell? ⟨g, 0, none⟩ = some v0 ∧ W.cell? ⟨g, 1, none⟩ = some v1 ∧ W.cell? ⟨g, 2, none⟩ = some v2 ∧ W.cell? ⟨g, 3, none⟩ = some v3 ∧ W.cell? ⟨g, 4, none⟩ = some v4 ∧ W.cell? ⟨g, 5, none⟩ = some v5 ∧
    W.frozen? ⟨g, 0, none⟩ = false ∧ W.frozen? ⟨g, 1, none⟩ = false ∧ W.frozen? ⟨g, 2, none⟩ = false ∧ W.frozen? ⟨g, 3, none⟩ = false ∧ W.frozen? ⟨g, 4, none⟩ = false ∧ W.frozen? ⟨g, 5, none⟩ = false :=
  ⟨(cell_of_row _ _ _ _ _ _ h).trans rfl, (cell_of_row _ _ _ _ _ _ h).trans rfl, (cell_of_row _ _ _ _ _ _ h).trans rfl, (cell_of_row _ _ _ _ _ _ h).trans rfl, (cell_of_row _ _ _ _ _ _ h).trans rfl, (cell_of_row _ _ _ _ _ _ h).trans rfl,
   frozen_of_row _ _ _ _ _ h, frozen_of_row _ _ _ _ _ h, frozen_of_row _ _ _ _ _ h, frozen_of_row _ _ _ _ _ h, frozen_of_row _ _ _ _ _ h, frozen_of_row _ _ _ _ _ h⟩

end Go.Proofs.YtomcipkmohhpjaaGreat

namespace Go.Out
set_option linter.unusedVariables false
open Go Go.RowKit
/-- The cells of parts, one behind the other. -/
def cellsP (l : List PartD) : List Value := l.flatMap fun p => [.int .i64 p.file, .int .i64 p.record, .int .i64 p.len]
theorem cellsP_length (l : List PartD) : (cellsP l).length = l.length * 3 := by
  unfold cellsP
  induction l with
  | nil => rfl
  | cons p r ih => simp only [List.flatMap_cons, List.length_append, ih, List.length_cons, List.length_nil]; omega
theorem cellsP_at : ∀ (l : List PartD) (k : Nat) (h : k < l.length), (cellsP l)[k * 3]? = some (.int .i64 l[k].file) ∧ (cellsP l)[k * 3 + 1]? = some (.int .i64 l[k].record) ∧ (cellsP l)[k * 3 + 2]? = some (.int .i64 l[k].len)
  | p :: r, 0, _ => ⟨rfl, rfl, rfl⟩
  | p :: r, k + 1, h => by
    have ih := cellsP_at r k (by simpa using h)
    simp only [cellsP, List.flatMap_cons, List.getElem_cons_succ] at ih ⊢
    rw [show (k + 1) * 3 = k * 3 + 3 by omega]
    simpa using ih
/-- Parts that were lent: five marks behind them. -/
def lentP (l : List PartD) : List PartD := l ++ List.replicate 5 ⟨-77, 0, 0⟩
theorem lentP_length (l : List PartD) : (lentP l).length = l.length + 5 := by simp [lentP]
theorem part_fill {cur : Array Value} {T : List Value} {z v0 v1 v2 : Value} {k N : Nat} (h : cur.toList = T.take (k * 3) ++ List.replicate (N - k * 3) z) (hN : T.length = N) (h0 : T[k * 3]? = some v0) (h1 : T[k * 3 + 1]? = some v1) (h2 : T[k * 3 + 2]? = some v2) :
    (((cur.setIfInBounds (k * 3) v0).setIfInBounds (k * 3 + 1) v1).setIfInBounds (k * 3 + 2) v2).toList = T.take ((k + 1) * 3) ++ List.replicate (N - (k + 1) * 3) z := by
  rw [show (k + 1) * 3 = k * 3 + 2 + 1 by omega]
  exact fill_step (fill_step (fill_step h hN h0) hN h1) hN h2
theorem made3 (a : Value) (N : Nat) : madeCells #[a, a, a] N = Array.replicate N a := by
  apply Array.ext
  · simp [size_madeCells]
  · intro i h1 h2
    simp only [madeCells, Array.getElem_map, Array.getElem_range, Array.getElem_replicate]
    have : i % 3 = 0 ∨ i % 3 = 1 ∨ i % 3 = 2 := by omega
    rcases this with h | h | h <;> simp [h]
end Go.Out
namespace Go.Proofs.YtomcipkmohhpjaaGreat
set_option linter.unusedVariables false
set_option linter.unusedSimpArgs false
set_option maxRecDepth 100000
set_option maxHeartbeats 2000000
open Go Go.RowKit Go.Out

theorem info_part' : (Tryz.prog.info? 107).map (fun i => (i.zero, i.size, i.bytes)) = some (some (.agg #[.int .i64 0, .int .i64 0, .int .i64 0]), 3, 24) := by kernel_rfl
theorem make_parts (n : Nat) (hn : n ≤ 70000) (W : World) : (Instr.makeSlice 35 (.int .i64 ((n : Int) + 5)) (.int .i64 ((n : Int) + 5))).run Tryz.prog W = .ok (.slice (some ⟨W.heap.size, 0, none⟩) (n + 5) (n + 5)) (W.alloc (.cells (Array.replicate ((n + 5) * 3) (.int .i64 0)) 107)) := by
  obtain ⟨i, hi, hz, hs, hb⟩ := info_parts info_part'
  have h := run_make (P := Tryz.prog) W 35 107 i _ Tryz.underlying35 hi hz .i64 .i64 ((n : Int) + 5) ((n : Int) + 5) (by omega) (Int.le_refl _) (by rw [hb]; omega) (by omega)
  rw [hs, show ((n : Int) + 5).toNat = n + 5 by omega, show (Value.agg #[.int .i64 0, .int .i64 0, .int .i64 0]).cells = #[.int .i64 0, .int .i64 0, .int .i64 0] by rfl, made3] at h
  exact h

theorem lentParts_any (l : List PartD) (A : Option Addr) (n c : Nat) (w : World) (hr : RdL partK w A n l) (hn : n ≤ 70000) :
    Calls Tryz.prog 44 #[.slice A n c] w fun e w' => ∃ g cur, e = .returned (.slice (some ⟨g, 0, none⟩) n (n + 5)) ∧ w.heap.size ≤ g ∧ w'.heap[g]? = some (.cells cur 107 (0, 0)) ∧ cur.toList = cellsP (lentP l) ∧ Ext w w' := by
  have hl : l.length = n := hr.length
  have Hr := Lib.hid hr; have Hl := Lib.hid hl; clear hr hl
  have hmk := fun W => make_parts n hn W
  have HT : Hid ((cellsP (lentP l)).length = (n + 5) * 3) := by have := Hl.out; unfold Hid; rw [cellsP_length, lentP_length, this]
  have HTA : Hid (∀ k (h : k < n), ∃ p, l[k]? = some p ∧ (cellsP (lentP l))[k * 3]? = some (.int .i64 p.file) ∧ (cellsP (lentP l))[k * 3 + 1]? = some (.int .i64 p.record) ∧ (cellsP (lentP l))[k * 3 + 2]? = some (.int .i64 p.len)) := fun k h => by
    have hk : k < l.length := by have := Hl.out; omega
    have := cellsP_at (lentP l) k (by rw [lentP_length]; omega)
    rw [show (lentP l)[k]'(by rw [lentP_length]; omega) = l[k] by unfold lentP; rw [List.getElem_append_left hk]] at this
    exact ⟨l[k], List.getElem?_eq_getElem hk, this⟩
  have HTB : Hid (∀ k, n ≤ k → k < n + 5 → (cellsP (lentP l))[k * 3]? = some (.int .i64 (-77)) ∧ (cellsP (lentP l))[k * 3 + 1]? = some (.int .i64 0) ∧ (cellsP (lentP l))[k * 3 + 2]? = some (.int .i64 0)) := fun k h1 h2 => by
    have hl := Hl.out
    have := cellsP_at (lentP l) k (by rw [lentP_length]; omega)
    rw [show (lentP l)[k]'(by rw [lentP_length]; omega) = ⟨-77, 0, 0⟩ by unfold lentP; rw [List.getElem_append_right (by omega), List.getElem_replicate]] at this
    exact this
  generalize cellsP (lentP l) = T at *
  go_enter Tryz.func44, Tryz.ntmps44
  go_wp2_with fail
  go_loopw [4] (fun i wr => ∃ (k : Nat) (cur : Array Value), k ≤ n ∧ i = .int .i64 k ∧ wr.heap[w.heap.size]? = some (.cells cur 107 (0, 0)) ∧ Hid (cur.toList = T.take (k * 3) ++ List.replicate ((n + 5) * 3 - k * 3) (.int .i64 0)) ∧ Hid (cur.size = (n + 5) * 3) ∧ Ext w wr) (fun i _ => n - (intOf i).toNat)
  case atStart => exact ⟨0, Array.replicate ((n + 5) * 3) (.int .i64 0), Nat.zero_le _, rfl, heap_alloc_new w _, by simp [Hid], by simp [Hid], Ext.alloc _ _⟩
  case round =>
    obtain ⟨k, cur, hk, rfl, hh, hcur, Hcs, hx⟩ := hrel
    rcases Nat.lt_or_ge k n with hlt | hge
    · obtain ⟨b1, o1, p, hp, rfl, hb1, e0, e1, e2, -⟩ := part_cells (Hr.out.ext hx) hlt
      obtain ⟨p', hp', HV⟩ := HTA.out k hlt
      obtain rfl : p = p' := by rw [hp] at hp'; injection hp'
      have HV2 := Lib.hid HV
      clear hp hp' HV
      generalize p.file = F at *
      generalize p.record = R at *
      generalize p.len = L at *
      obtain ⟨x0, hc0⟩ := heap_cell (k := k * 3) hh (by have := Hcs.out; omega)
      obtain ⟨x1, hc1⟩ := heap_cell (k := k * 3 + 1) hh (by have := Hcs.out; omega)
      obtain ⟨x2, hc2⟩ := heap_cell (k := k * 3 + 2) hh (by have := Hcs.out; omega)
      have z0 := frozen_of_row wr w.heap.size (k * 3) cur _ hh
      have z1 := frozen_of_row wr w.heap.size (k * 3 + 1) cur _ hh
      have z2 := frozen_of_row wr w.heap.size (k * 3 + 2) cur _ hh
      have Hh := Lib.hid hh; clear hh
      go_wp2_with fail
      go_roundw
      case rel => exact ⟨k + 1, _, by omega, by go_num, heap_setCell_same _ _ _ _ _ _ (heap_setCell_same _ _ _ _ _ _ (heap_setCell_same _ _ _ _ _ _ Hh.out)), part_fill hcur.out HT.out HV2.out.1 HV2.out.2.1 HV2.out.2.2, by have := Hcs.out; simp [Hid]; omega, ((hx.set' (by simp) _).set' (by simp) _).set' (by simp) _⟩
      case measure => simp [intOf]; omega
    · obtain rfl : k = n := by omega
      have Hh := Lib.hid hh; clear hh
      go_wp2_with fail
      go_loopw [5] (fun i wr => ∃ (j : Nat) (cur : Array Value), k ≤ j ∧ j ≤ k + 5 ∧ i = .int .i64 j ∧ wr.heap[w.heap.size]? = some (.cells cur 107 (0, 0)) ∧ Hid (cur.toList = T.take (j * 3) ++ List.replicate ((k + 5) * 3 - j * 3) (.int .i64 0)) ∧ Hid (cur.size = (k + 5) * 3) ∧ Ext w wr) (fun i _ => k + 5 - (intOf i).toNat)
      case atStart => exact ⟨k, cur, Nat.le_refl _, by omega, rfl, Hh.out, hcur, Hcs, hx⟩
      case round =>
        obtain ⟨j, cur', hj1, hj2, rfl, hh', hcur', Hcs', hx'⟩ := hrel
        rcases Nat.lt_or_ge j (k + 5) with hlt' | hge'
        · have HV := Lib.hid (HTB.out j hj1 hlt')
          obtain ⟨x0, hc0⟩ := heap_cell (k := j * 3) hh' (by have := Hcs'.out; omega)
          obtain ⟨x1, hc1⟩ := heap_cell (k := j * 3 + 1) hh' (by have := Hcs'.out; omega)
          obtain ⟨x2, hc2⟩ := heap_cell (k := j * 3 + 2) hh' (by have := Hcs'.out; omega)
          have z0 := frozen_of_row _ w.heap.size (j * 3) cur' _ hh'
          have z1 := frozen_of_row _ w.heap.size (j * 3 + 1) cur' _ hh'
          have z2 := frozen_of_row _ w.heap.size (j * 3 + 2) cur' _ hh'
          have Hh' := Lib.hid hh'; clear hh'
          go_wp2_with fail
          go_roundw
          case rel => exact ⟨j + 1, _, by omega, by omega, by go_num, heap_setCell_same _ _ _ _ _ _ (heap_setCell_same _ _ _ _ _ _ (heap_setCell_same _ _ _ _ _ _ Hh'.out)), part_fill hcur'.out HT.out HV.out.1 HV.out.2.1 HV.out.2.2, by have := Hcs'.out; simp [Hid]; omega, ((hx'.set' (by simp) _).set' (by simp) _).set' (by simp) _⟩
          case measure => simp [intOf]; omega
        · obtain rfl : j = k + 5 := by omega
          have Hh' := Lib.hid hh'; clear hh'
          go_wp2_with fail
          go_ret
          exact ⟨_, cur', rfl, Nat.le_refl _, Hh'.out, by have h := hcur'.out; rwa [Nat.sub_self, List.replicate_zero, List.append_nil, List.take_of_length_le (by rw [HT.out]; exact Nat.le_refl _)] at h, hx'⟩

theorem rdL_lent {l : List PartD} {A : Option Addr} {n g : Nat} {cur : Array Value} {w w0 : World} (hr : RdL partK w0 A n l) (hh : w.heap[g]? = some (.cells cur 107 (0, 0))) (hcur : cur.toList = cellsP (lentP l)) : RdL partK w (some ⟨g, 0, none⟩) n l :=
  ⟨hr.length, fun _ => ⟨g, 0, rfl, lt_of_heap hh, fun i x hi => by
    have hl := hr.length
    have hil := (List.getElem?_eq_some_iff.1 hi).1
    have hk : i < (lentP l).length := by rw [lentP_length]; omega
    obtain ⟨h0, h1, h2⟩ := cellsP_at (lentP l) i hk
    have hx : (lentP l)[i] = x := by
      have : l[i] = x := (List.getElem?_eq_some_iff.1 hi).2
      rw [← this]; exact List.getElem_append_left hil
    rw [hx, ← hcur, Array.getElem?_toList] at h0 h1 h2
    obtain ⟨b, off, -, -, hc⟩ := hr.2 (by omega)
    obtain ⟨cs, -, -, hR⟩ := hc i x hi
    refine ⟨partCells x, rfl, ?_, rfl, hR.2.1, hR.2.2.1, hR.2.2.2⟩
    intro j u hu
    rw [Nat.zero_add, cell_of_row _ _ _ _ _ _ hh]
    match j with
    | 0 => simp [partCells] at hu; subst hu; exact h0
    | 1 => simp [partCells] at hu; subst hu; exact h1
    | 2 => simp [partCells] at hu; subst hu; exact h2
    | j + 3 => simp [partCells] at hu⟩⟩

theorem keptParts_any (l : List PartD) (A : Option Addr) (n c g : Nat) (cur : Array Value) (w : World) (hr : RdL partK w A n l) (hh : w.heap[g]? = some (.cells cur 107 (0, 0))) (hcur : cur.toList = cellsP (lentP l)) (hn : n ≤ 70000) :
    Calls Tryz.prog 51 #[.slice (some ⟨g, 0, none⟩) n (n + 5), .slice A n c] w (RetQ w true) := by
  have hl : l.length = n := hr.length
  have hcl : ∀ k (h : k < n + 5), ∃ p, (lentP l)[k]? = some p ∧ w.cell? ⟨g, k * 3, none⟩ = some (.int .i64 p.file) ∧ w.cell? ⟨g, k * 3 + 1, none⟩ = some (.int .i64 p.record) ∧ w.cell? ⟨g, k * 3 + 2, none⟩ = some (.int .i64 p.len) := fun k h => by
    have hk : k < (lentP l).length := by rw [lentP_length]; omega
    obtain ⟨h0, h1, h2⟩ := cellsP_at (lentP l) k hk
    refine ⟨(lentP l)[k], List.getElem?_eq_getElem hk, ?_, ?_, ?_⟩ <;> (rw [cell_of_row _ _ _ _ _ _ hh, ← Array.getElem?_toList, hcur]; assumption)
  have hlt := lt_of_heap hh
  have hrg : RdL partK w (some ⟨g, 0, none⟩) n l := rdL_lent hr hh hcur
  have Hsp := Lib.hid (show ∀ j, n ≤ j → j < n + 5 → w.cell? ⟨g, j * 3, none⟩ = some (.int .i64 (-77)) ∧ w.cell? ⟨g, j * 3 + 1, none⟩ = some (.int .i64 0) ∧ w.cell? ⟨g, j * 3 + 2, none⟩ = some (.int .i64 0) from fun j h1 h2 => by
    obtain ⟨p, hp, r⟩ := hcl j h2
    unfold lentP at hp
    rw [List.getElem?_append_right (by omega), List.getElem?_replicate, if_pos (by omega)] at hp
    injection hp with hp; subst hp; exact r)
  have Hr := Lib.hid hr; have Hrg := Lib.hid hrg; clear hr hrg hl hh hcur hcl
  go_enter Tryz.func51, Tryz.ntmps51
  go_wp2_with fail
  refine (sameParts_eq l _ _ _ _ _ _ Hrg.out Hr.out (by omega)).mono ?_
  rintro e w1 ⟨rfl, hx1⟩
  go_wp2_with fail
  go_loopw [6] (fun i wr => ∃ (j : Nat), n ≤ j ∧ j ≤ n + 5 ∧ i = .int .i64 j ∧ Ext w wr) (fun i _ => n + 5 - (intOf i).toNat)
  case atStart => exact ⟨n, Nat.le_refl _, by omega, rfl, hx1⟩
  case round =>
    obtain ⟨j, hj1, hj2, rfl, hx⟩ := hrel
    rcases Nat.lt_or_ge j (n + 5) with hlt' | hge'
    · obtain ⟨s0, s1, s2⟩ := Hsp.out j hj1 hlt'
      have c0 := hx.cell hlt s0
      have c1 := hx.cell hlt s1
      have c2 := hx.cell hlt s2
      clear s0 s1 s2
      go_wp2_with fail
      go_roundw
      case rel => exact ⟨j + 1, by omega, by omega, by go_num, hx⟩
      case measure => simp [intOf]; omega
    · go_wp2_with fail
      go_ret
      exact ⟨rfl, hx⟩

/-- A request that was lent: rows of the call's own, five marks behind each. -/
structure AskLent (w : World) (base : Nat) (a : AskD) (s t : AskS) : Prop where
  on : ∃ g cur, t.A1 = some ⟨g, 0, none⟩ ∧ t.n1 = s.n1 ∧ t.c1 = s.n1 + 5 ∧ base ≤ g ∧ w.heap[g]? = some (.cells cur 4 (0, 0)) ∧ cur.toList = a.on.map cL ++ List.replicate 5 (.bool true)
  set : ∃ g cur, t.A2 = some ⟨g, 0, none⟩ ∧ t.n2 = s.n2 ∧ t.c2 = s.n2 + 5 ∧ base ≤ g ∧ w.heap[g]? = some (.cells cur 48 (0, 0)) ∧ cur.toList = a.set.map cW ++ List.replicate 5 (.int .u16 42330)
  parts : ∃ g cur, t.A3 = some ⟨g, 0, none⟩ ∧ t.n3 = s.n3 ∧ t.c3 = s.n3 + 5 ∧ base ≤ g ∧ w.heap[g]? = some (.cells cur 107 (0, 0)) ∧ cur.toList = cellsP (lentP a.parts)
theorem AskLent.ext {w w' : World} {base : Nat} {a : AskD} {s t : AskS} (h : AskLent w base a s t) (hx : Ext w w') : AskLent w' base a s t := by
  obtain ⟨⟨g1, c1, p1, p2, p3, p4, p5, p6⟩, ⟨g2, c2, q1, q2, q3, q4, q5, q6⟩, ⟨g3, c3, r1, r2, r3, r4, r5, r6⟩⟩ := h
  exact ⟨⟨g1, c1, p1, p2, p3, p4, hx.block p5, p6⟩, ⟨g2, c2, q1, q2, q3, q4, hx.block q5, q6⟩, ⟨g3, c3, r1, r2, r3, r4, hx.block r5, r6⟩⟩
theorem AskLent.rd {w w0 : World} {base : Nat} {a : AskD} {s t : AskS} (h : AskLent w base a s t) (hr : AskRd w0 a s) (h1 : s.n1 ≤ 70000) (h2 : s.n2 ≤ 70000) (h3 : s.n3 ≤ 70000) : AskRd w a t := by
  have e1 := hr.n1; have e2 := hr.n2
  obtain ⟨⟨g1, c1, p1, p2, p3, p4, p5, p6⟩, ⟨g2, c2, q1, q2, q3, q4, q5, q6⟩, ⟨g3, c3, r1, r2, r3, r4, r5, r6⟩⟩ := h
  obtain ⟨B1, m1, k1, B2, m2, k2, B3, m3, k3⟩ := t
  simp only at p1 p2 p3 q1 q2 q3 r1 r2 r3
  subst p1; subst p2; subst p3; subst q1; subst q2; subst q3; subst r1; subst r2; subst r3
  exact ⟨Rd.of_heap p5 p6 (by simpa using e1), Rd.of_heap q5 q6 (by simpa using e2), rdL_lent hr.parts r5 r6, hr.code, hr.addr, hr.count, ⟨by simp, by simp; omega⟩, ⟨by simp, by simp; omega⟩, ⟨by simp, by simp; omega⟩⟩

theorem lentAsk_any (a : AskD) (s : AskS) (w : World) (hr : AskRd w a s) (h1 : s.n1 ≤ 70000) (h2 : s.n2 ≤ 70000) (h3 : s.n3 ≤ 70000) :
    Calls Tryz.prog 20 #[askV a s] w fun e w' => ∃ t, e = .returned (askV a t) ∧ AskLent w' w.heap.size a s t ∧ Ext w w' := by
  have HR := Lib.hid hr
  obtain ⟨code, addr, count, on, set, parts⟩ := a
  obtain ⟨A1, n1, c1, A2, n2, c2, A3, n3, c3⟩ := s
  simp only at h1 h2 h3
  clear hr
  simp only [askV]
  go_enter Tryz.func20, Tryz.ntmps20
  go_wp2_with fail
  refine (lentL_any on _ _ _ _ (HR.out.on.ext (Ext.two w _ _)) (by show n1 ≤ _; omega)).mono ?_
  rintro e w1 ⟨g1, u1, rfl, hg1, hr1, hu1, hb1⟩
  have hX1 := Ext.of hb1
  have hA := hX1.block ((Ext.alloc _ _).block (heap_alloc_new w (.cells #[.int .i64 code, .int .i64 addr, .int .i64 count, .slice A1 n1 c1, .slice A2 n2 c2, .slice A3 n3 c3] 37)))
  have hB := hX1.block (heap_at _ (.cells #[.int .i64 0, .int .i64 0, .int .i64 0, .slice none 0 0, .slice none 0 0, .slice none 0 0] 37) (w.heap.size + 1) (by simp))
  have hge1 : w.heap.size + 2 ≤ g1 := by simpa using hg1
  obtain ⟨d0, d1, d2, d3, d4, d5, x0, x1, x2, x3, x4, x5⟩ := askBox hA
  have hA2 := heap_setCell_same w1 w.heap.size 3 _ _ (.slice (some ⟨g1, 0, none⟩) n1 (n1 + 5)) hA
  have hB2 := (Below.heap_setCell w1 ⟨w.heap.size, 3, none⟩ (.slice (some ⟨g1, 0, none⟩) n1 (n1 + 5)) (w.heap.size + 1) (by simp)).trans hB
  have hR1 := (Below.heap_setCell w1 ⟨w.heap.size, 3, none⟩ (.slice (some ⟨g1, 0, none⟩) n1 (n1 + 5)) g1 (by simp; omega)).trans hr1
  have X1s := Lib.hid (((Ext.two w _ _).trans hX1).set' (p := ⟨w.heap.size, 3, none⟩) (Nat.le_refl _) (.slice (some ⟨g1, 0, none⟩) n1 (n1 + 5)))
  have HA2 := Lib.hid hA2; have HB2 := Lib.hid hB2; have HR1 := Lib.hid hR1; have HU1 := Lib.hid hu1
  clear hA hB hA2 hB2 hR1 hX1 hb1 hg1 hr1 hu1
  go_wp2_with fail
  refine (lentW_any set _ _ _ _ (HR.out.set.ext X1s.out) (by show n2 ≤ _; omega)).mono ?_
  rintro e w2 ⟨g2, u2, rfl, hg2, hr2, hu2, hb2⟩
  have hX2 := Ext.of hb2
  have hA := hX2.block HA2.out
  have hB := hX2.block HB2.out
  have hR1 := hX2.block HR1.out
  have hz := lt_of_heap HB2.out
  have hge2 : w.heap.size + 2 ≤ g2 := by omega
  clear d0 d1 d2 d3 d4 d5 x0 x1 x2 x3 x4 x5 hz
  obtain ⟨d0, d1, d2, d3, d4, d5, x0, x1, x2, x3, x4, x5⟩ := askBox hA
  have hA2 := heap_setCell_same w2 w.heap.size 4 _ _ (.slice (some ⟨g2, 0, none⟩) n2 (n2 + 5)) hA
  have hB2 := (Below.heap_setCell w2 ⟨w.heap.size, 4, none⟩ (.slice (some ⟨g2, 0, none⟩) n2 (n2 + 5)) (w.heap.size + 1) (by simp)).trans hB
  have hR1s := (Below.heap_setCell w2 ⟨w.heap.size, 4, none⟩ (.slice (some ⟨g2, 0, none⟩) n2 (n2 + 5)) g1 (by simp; omega)).trans hR1
  have hR2s := (Below.heap_setCell w2 ⟨w.heap.size, 4, none⟩ (.slice (some ⟨g2, 0, none⟩) n2 (n2 + 5)) g2 (by simp; omega)).trans hr2
  have X2s := Lib.hid ((X1s.out.trans hX2).set' (p := ⟨w.heap.size, 4, none⟩) (Nat.le_refl _) (.slice (some ⟨g2, 0, none⟩) n2 (n2 + 5)))
  have HA3 := Lib.hid hA2; have HB3 := Lib.hid hB2; have HR1s := Lib.hid hR1s; have HR2s := Lib.hid hR2s; have HU2 := Lib.hid hu2
  clear hA hB hA2 hB2 hR1 hR1s hR2s hX2 hb2 hg2 hr2 hu2 HA2 HB2 HR1
  go_wp2_with fail
  refine (lentParts_any parts _ _ _ _ (HR.out.parts.ext X2s.out) (by show n3 ≤ _; omega)).mono ?_
  rintro e w3 ⟨g3, u3, rfl, hg3, hr3, hu3, hX3⟩
  have hA := hX3.block HA3.out
  have hB := hX3.block HB3.out
  have hR1 := hX3.block HR1s.out
  have hR2 := hX3.block HR2s.out
  have hz := lt_of_heap HB3.out
  have hge3 : w.heap.size + 2 ≤ g3 := by omega
  clear d0 d1 d2 d3 d4 d5 x0 x1 x2 x3 x4 x5 hz
  obtain ⟨d0, d1, d2, d3, d4, d5, x0, x1, x2, x3, x4, x5⟩ := askBox hA
  obtain ⟨f0, f1, f2, f3, f4, f5, y0, y1, y2, y3, y4, y5⟩ := askBox hB
  have X3 := Lib.hid (X2s.out.trans hX3)
  have HR1 := Lib.hid hR1; have HR2 := Lib.hid hR2; have HR3 := Lib.hid hr3; have HU3 := Lib.hid hu3
  clear hA hB hR1 hR2 hX3 hg3 hr3 hu3
  go_wp2_with fail
  refine bodyPost_ret (v := askV ⟨code, addr, count, on, set, parts⟩ ⟨some ⟨g1, 0, none⟩, n1, n1 + 5, some ⟨g2, 0, none⟩, n2, n2 + 5, some ⟨g3, 0, none⟩, n3, n3 + 5⟩) (by simp [results, Tryz.results20, go_sem, askV, *]) rfl ⟨⟨some ⟨g1, 0, none⟩, n1, n1 + 5, some ⟨g2, 0, none⟩, n2, n2 + 5, some ⟨g3, 0, none⟩, n3, n3 + 5⟩, rfl, ⟨⟨g1, u1, rfl, rfl, rfl, by omega, ?_, HU1.out⟩, ⟨g2, u2, rfl, rfl, rfl, by omega, ?_, HU2.out⟩, ⟨g3, u3, rfl, rfl, rfl, by omega, ?_, HU3.out⟩⟩, ?_⟩
  · repeat' (first | with_reducible exact HR1.out | (with_reducible refine (Below.heap_setCell _ _ _ _ (by simp; omega)).trans ?_))
  · repeat' (first | with_reducible exact HR2.out | (with_reducible refine (Below.heap_setCell _ _ _ _ (by simp; omega)).trans ?_))
  · repeat' (first | with_reducible exact HR3.out | (with_reducible refine (Below.heap_setCell _ _ _ _ (by simp; omega)).trans ?_))
  · repeat' (first | with_reducible exact X3.out | with_reducible refine Ext.set' ?_ (by simp) _)

theorem keptAsk_any (a : AskD) (s t : AskS) (base : Nat) (w : World) (hr : AskRd w a s) (hl : AskLent w base a s t) (h1 : s.n1 ≤ 70000) (h2 : s.n2 ≤ 70000) (h3 : s.n3 ≤ 70000) :
    Calls Tryz.prog 22 #[askV a t, askV a s] w (RetQ w true) := by
  obtain ⟨⟨g1, u1, p1, p2, p3, p4, p5, p6⟩, ⟨g2, u2, q1, q2, q3, q4, q5, q6⟩, ⟨g3, u3, r1, r2, r3, r4, r5, r6⟩⟩ := hl
  obtain ⟨B1, m1, k1, B2, m2, k2, B3, m3, k3⟩ := t
  simp only at p1 p2 p3 q1 q2 q3 r1 r2 r3
  subst p1; subst p2; subst p3; subst q1; subst q2; subst q3; subst r1; subst r2; subst r3
  have H1 := Lib.hid (fun (W : World) (hX : Ext w W) => keptL_any a.on s.A1 s.n1 s.c1 g1 u1 W (hr.on.ext hX) (hX.block p5) p6 (by omega))
  have H2 := Lib.hid (fun (W : World) (hX : Ext w W) => keptW_any a.set s.A2 s.n2 s.c2 g2 u2 W (hr.set.ext hX) (hX.block q5) q6 (by omega))
  have H3 := Lib.hid (fun (W : World) (hX : Ext w W) => keptParts_any a.parts s.A3 s.n3 s.c3 g3 u3 W (hr.parts.ext hX) (hX.block r5) r6 h3)
  clear hr p4 p5 p6 q4 q5 q6 r4 r5 r6
  obtain ⟨code, addr, count, on, set, parts⟩ := a
  obtain ⟨A1, n1, c1, A2, n2, c2, A3, n3, c3⟩ := s
  simp only at h1 h2 h3 H1 H2 H3
  simp only [askV]
  go_enter Tryz.func22, Tryz.ntmps22
  go_wp2_with fail
  refine (H1.out _ (Ext.two w _ _)).mono ?_
  rintro e w1 ⟨rfl, hb1⟩
  have hx1 := Ext.of hb1
  obtain ⟨d0, d1, d2, d3, d4, d5⟩ := ask_cells _ ((Ext.alloc _ _).trans hx1)
  obtain ⟨f0, f1, f2, f3, f4, f5⟩ := ask_cells_at (g := w.heap.size + 1) (by simp) _ hx1
  have X1 := Lib.hid ((Ext.two w _ _).trans hx1)
  have Y1 := Lib.hid hx1
  clear hx1 hb1
  go_wp2_with fail
  refine (H2.out _ X1.out).mono ?_
  rintro e w2 ⟨rfl, hb2⟩
  clear d0 d1 d2 d3 d4 d5 f0 f1 f2 f3 f4 f5
  obtain ⟨d0, d1, d2, d3, d4, d5⟩ := ask_cells _ ((Ext.alloc _ _).trans (Y1.out.trans (Ext.of hb2)))
  obtain ⟨f0, f1, f2, f3, f4, f5⟩ := ask_cells_at (g := w.heap.size + 1) (by simp) _ (Y1.out.trans (Ext.of hb2))
  have X2 := Lib.hid (X1.out.trans (Ext.of hb2))
  clear hb2
  go_wp2_with fail
  refine (H3.out _ X2.out).mono ?_
  rintro e w3 ⟨rfl, hx3⟩
  go_wp2_with fail
  go_ret
  exact ⟨rfl, X2.out.trans hx3⟩
end Go.Proofs.YtomcipkmohhpjaaGreat

namespace Go.Proofs.YtomcipkmohhpjaaGreat
set_option linter.unusedVariables false
set_option linter.unusedSimpArgs false
set_option maxRecDepth 100000
set_option maxHeartbeats 1000000
open Go Go.RowKit Go.Out

theorem int_at {w : World} {g k : Nat} {cur : Array Value} {e : TypeId} (hh : w.heap[g]? = some (.cells cur e (0, 0))) (hp : ∀ u ∈ cur.toList, IsI64 u) (hk : k < cur.size) : ∃ n : Int, w.cell? ⟨g, k, none⟩ = some (.int .i64 n) := by
  obtain ⟨u, hu⟩ := heap_cell hh hk
  have hm : u ∈ cur.toList := by
    rw [cell_of_row _ _ _ _ _ _ hh] at hu
    exact Array.mem_toList_iff.2 (Array.mem_of_getElem? hu)
  obtain ⟨n, rfl⟩ := hp u hm
  exact ⟨n, hu⟩
theorem all_set_ints {cur : Array Value} (h : ∀ u ∈ cur.toList, IsI64 u) (k : Nat) (n : Int) : ∀ u ∈ (cur.setIfInBounds k (.int .i64 n)).toList, IsI64 u := by
  intro u hu
  rw [Array.toList_setIfInBounds] at hu
  rcases List.mem_or_eq_of_mem_set hu with hu | hu
  · exact h u hu
  · exact ⟨n, hu⟩

theorem spoilParts_any (A : Option Addr) (n c base : Nat) (l : List PartD) (w : World) (ho : OwP w base (.slice A n c) l) :
    Calls Tryz.prog 54 #[.slice A n c] w fun e w' => e = .returned (.tuple #[]) ∧ w.grownBy w' (blk A) := by
  obtain ⟨⟨xs, ⟨h1, h2⟩, -⟩, hi⟩ := ho
  rcases h2 with ⟨hv, h0⟩ | ⟨g, cap, cur, hv, hbg, hh, hnc, hcm, hcs, ht⟩
  · injection hv with e1 e2 e3
    subst e1; subst e2; subst e3
    clear h1 h0 hi
    go_enter Tryz.func54, Tryz.ntmps54
    go_wp2_with fail
    refine wp_loop_rounds 1 ?_
    rw [rounds_succ]
    go_wp2
    go_end0
    exact ⟨rfl, World.grownBy.refl _ _⟩
  · injection hv with e1 e2 e3
    subst e1; subst e3
    obtain rfl : n = l.length := e2
    unfold maxLen at hcm
    obtain ⟨cur', e', hh', hp⟩ := hi g rfl
    rw [hh] at hh'
    injection hh' with hh'
    injection hh' with q1 q2 q3
    subst q1
    have Hcs := Lib.hid hcs; have Hp := Lib.hid hp; have Hh := Lib.hid hh
    generalize l.length = n at *
    clear ht hcs hp hh h1 q2 q3 hi
    go_enter Tryz.func54, Tryz.ntmps54
    go_wp2_with fail
    go_loopw [3] (fun i wr => ∃ (k : Nat) (cur : Array Value), k ≤ c ∧ i = .int .i64 k ∧ wr.heap[g]? = some (.cells cur 107 (0, 0)) ∧ Hid (cur.size = c * 3) ∧ Hid (∀ u ∈ cur.toList, IsI64 u) ∧ w.grownBy wr (some g)) (fun i _ => c - (intOf i).toNat)
    case atStart => exact ⟨0, cur, by omega, rfl, Hh.out, Hcs, Hp, World.grownBy.refl _ _⟩
    case round =>
      obtain ⟨k, cur', hk, rfl, hh, Hcs', Hp', hg⟩ := hrel
      rcases Nat.lt_or_ge k c with hlt | hge
      · obtain ⟨x0, hc0⟩ := int_at (k := k * 3) hh Hp'.out (by have := Hcs'.out; omega)
        obtain ⟨x1, hc1⟩ := int_at (k := k * 3 + 1) hh Hp'.out (by have := Hcs'.out; omega)
        obtain ⟨x2, hc2⟩ := int_at (k := k * 3 + 2) hh Hp'.out (by have := Hcs'.out; omega)
        have z0 := frozen_of_row wr g (k * 3) cur' _ hh
        have z1 := frozen_of_row wr g (k * 3 + 1) cur' _ hh
        have z2 := frozen_of_row wr g (k * 3 + 2) cur' _ hh
        have Hh' := Lib.hid hh; clear hh
        go_wp2_with fail
        go_roundw
        case rel => exact ⟨k + 1, _, by omega, by go_num, heap_setCell_same _ _ _ _ _ _ (heap_setCell_same _ _ _ _ _ _ (heap_setCell_same _ _ _ _ _ _ Hh'.out)), by have := Hcs'.out; simp [Hid]; omega, all_set_ints (all_set_ints (all_set_ints Hp'.out _ _) _ _) _ _, only_setCell (only_setCell (only_setCell hg (.inl rfl) _) (.inl rfl) _) (.inl rfl) _⟩
        case measure => simp [intOf]; omega
      · obtain rfl : k = c := by omega
        have Hh' := Lib.hid hh; clear hh
        go_wp2_with fail
        go_end0
        exact ⟨rfl, hg⟩

end Go.Proofs.YtomcipkmohhpjaaGreat
