/- A master's Start. -/
import Derived.Test.YtomcipkmohhpjaaGreatG06
import Derived.Test.YtomcipkmohhpjaaGreatAskG5
import Derived.Test.YtomcipkmohhpjaaGreatRepR
import Derived.BigQuiet
import Derived.Deep.QuietTactic
import Derived.Test.YtomcipkmohhpjaaGreatG04
import Derived.Test.YtomcipkmohhpjaaGreatG02
namespace Go.Proofs.YtomcipkmohhpjaaGreat
set_option linter.unusedVariables false
set_option linter.unusedSimpArgs false
set_option maxRecDepth 100000
set_option maxHeartbeats 1000000
open Go Go.RowKit Go.Out

def RetStart (At : World → Nat → (Nat → Prop) → MasD → Prop) (w : World) (p : Nat) (F : Nat → Prop) (d' : MasD) (out : List UInt8) (err : Int) (e : Ending) (w' : World) : Prop :=
  ∃ F' A n c, e = .returned (.tuple #[.slice A n c, .int .i64 err]) ∧ At w' p F' d' ∧ Only F w w' ∧ (∀ k, F' k → F k ∨ w.heap.size ≤ k) ∧ Own w' w.heap.size 5 IsU8 A n c (out.map cB) ∧ ∀ g, blk A = some g → ¬ F' g
theorem RetStart.no {At : World → Nat → (Nat → Prop) → MasD → Prop} {w w' : World} {p : Nat} {F : Nat → Prop} {d : MasD} {err : Int} (h : At w' p F d) (hx : Ext w w') : RetStart At w p F d [] err (.returned (.tuple #[.slice none 0 0, .int .i64 err])) w' :=
  ⟨F, none, 0, 0, rfl, h, .of_ext hx, fun _ => .inl, Own.nil_ _ _ _ _, by simp [blk]⟩
theorem startE_cases (d : MasD) (now unit : Int) (a : AskD) : (d.under = true ∧ startE d now unit a = 11) ∨ (d.under = false ∧ (unit < 1 ∨ 247 < unit) ∧ startE d now unit a = 24) ∨
    (d.under = false ∧ (1 ≤ unit ∧ unit ≤ 247) ∧ checkF a ≠ 0 ∧ startE d now unit a = checkF a) ∨ (d.under = false ∧ (1 ≤ unit ∧ unit ≤ 247) ∧ checkF a = 0 ∧ (now < 0 ∨ 1099511627776 < now) ∧ startE d now unit a = 3) ∨
    (d.under = false ∧ (1 ≤ unit ∧ unit ≤ 247) ∧ checkF a = 0 ∧ (0 ≤ now ∧ now ≤ 1099511627776) ∧ startE d now unit a = 0) := by
  unfold startE
  rcases hu : d.under with _ | _
  · simp only [Bool.false_eq_true, if_false, false_and, false_or, true_and]
    by_cases h1 : unit < 1 ∨ 247 < unit
    · left; exact ⟨h1, by rw [if_pos h1]⟩
    · right
      rw [if_neg h1]
      by_cases h2 : checkF a = 0
      · right
        rw [if_neg (by simp [h2])]
        by_cases h3 : now < 0 ∨ 1099511627776 < now
        · left; exact ⟨by omega, h2, h3, by rw [if_pos h3]⟩
        · right; exact ⟨by omega, h2, by omega, by rw [if_neg h3]⟩
      · left
        exact ⟨by omega, h2, by rw [if_pos h2]⟩
  · left; exact ⟨rfl, by simp⟩
/-- A cell of the master's row is written. -/
theorem masRow_set {w : World} {p k : Nat} {cur : Array Value} (v : Value) (h : w.heap[p]? = some (.cells cur 64 (0, 0))) : (w.setCell ⟨p, k, none⟩ v).heap[p]? = some (.cells (cur.setIfInBounds k v) 64 (0, 0)) := heap_setCell_same w p k _ _ v h
/-- What one master's cells are written does not reach. -/
structure Far (F : Nat → Prop) (p : Nat) (w w1 : World) : Prop where
  far : ∀ k, k ≠ p → w1.heap[k]? = w.heap[k]?
  size : w1.heap.size = w.heap.size
  only : Only F w w1
theorem Far.refl (F : Nat → Prop) (p : Nat) (w : World) : Far F p w w := ⟨fun _ _ => rfl, rfl, Only.refl _ _⟩
theorem Far.set {F : Nat → Prop} {p : Nat} {w w1 : World} (h : Far F p w w1) (hp : F p) (k : Nat) (v : Value) : Far F p w (w1.setCell ⟨p, k, none⟩ v) :=
  ⟨fun g hg => (Below.heap_setCell w1 ⟨p, k, none⟩ v g hg).trans (h.far g hg), by rw [← h.size]; simp [World.setCell], h.only.trans (Only.of_set (F := F) v hp) (fun _ _ q => q)⟩
theorem mas_start_ok (u nw : Nat) (a : AskD) (s : AskS) (w : World) (p : Nat) (F : Nat → Prop) (d : MasD) (h : MasAt w p F d) (hok : MasOk d) (ha : AskRd w a s) (hu : d.under = false) (hU : 1 ≤ u ∧ u ≤ 247) (hk : checkF a = 0) (hnw : nw ≤ 1099511627776) :
    Calls Tryz.prog 17 #[pM p, .int .i64 (nw : Int), .int .i64 (u : Int), askV a s] w (RetStart MasAt w p F ⟨d.timeout, d.retries, true, u, 1, nw, a, frameF (u : Int) a⟩ (frameF (u : Int) a) 0) := by
  have HBZ := Lib.hid (fun W (hX : Ext w W) => mas_busy p F d W (h.ext hX) hok)
  rw [hu] at HBZ
  have HPA := Lib.hid (fun W (hX : Ext w W) => askPut_any a s W (ha.ext hX))
  have hp2 : (putA a).2 = 0 := by rw [putA_ok hk]
  have hga := (getA_put hk).1
  have hpl := (getA_put hk).2
  obtain ⟨fl, fr, -⟩ := frameF_len (unit := (u : Int)) ⟨by omega, by omega⟩ hk
  have hun : (UInt8.ofNat u).toNat = u := toNat_ofNat8 (by omega)
  have hF : (rtuF (UInt8.ofNat u) (putA a).1) = (frameF (u : Int) a, 0) := by
    have e1 : (rtuF (UInt8.ofNat u) (putA a).1).2 = 0 := fr
    rw [← e1]; rfl
  rw [hp2] at HPA
  generalize (putA a).1 = pdu at *
  generalize frameF (u : Int) a = fm at *
  have HRT := Lib.hid (fun W A m c (hr : Rd W A m (pdu.map cB)) (hm : m ≤ 253) => rtu_any (UInt8.ofNat u) pdu A m c W hr (by omega))
  rw [hF, hun] at HRT
  have HGA := Lib.hid (fun W A m c (hr : Rd W A m (pdu.map cB)) (hc : m ≤ c) (hc63 : c ≤ 9223372036854775807) => askGet_any pdu A m c W hr hc hc63 (by omega))
  rw [hga] at HGA
  have HPL := Lib.hid hpl
  have HFL := Lib.hid fl
  obtain ⟨s0, A0, n0, c0, hrow, -, -, -, hfp, hlt⟩ := h
  have HROW : Hid (w.heap[p]? = some (masRow d s0 A0 n0 c0)) := hrow
  have HFP := Lib.hid hfp; have HLT := Lib.hid hlt
  have hpz := hlt p hfp
  have hu8 : IntKind.u8.wrap (u : Int) = (u : Int) := by rw [IntKind.wrap_u8]; omega
  have t1 : ¬ (u : Int) < 1 := by omega
  have t2 : ¬ (247 : Int) < (u : Int) := by omega
  have t3 : decide ((0 : Int) ≤ (nw : Int) ∧ (nw : Int) ≤ 1099511627776) = true := by simp; omega
  have HTM := Lib.hid (fun W => mas_timely (nw : Int) W)
  rw [t3] at HTM
  have HA3 := ha
  clear hrow hfp hlt hga hpl fl fr hF hp2 hk hu hok ha HA3 t3 hun
  obtain ⟨code, addr, count, on, set, parts⟩ := a
  obtain ⟨B1, m1, k1, B2, m2, k2, B3, m3, k3⟩ := s
  simp only [askV] at HPA HGA ⊢
  unfold pM at HBZ ⊢
  go_enter Tryz.func17, Tryz.ntmps17
  go_wp2_with fail
  refine (HBZ.out _ (Ext.alloc _ _)).mono ?_
  rintro e1 v_ ⟨rfl, rfl⟩
  go_wp2_with fail
  refine (HPA.out _ (Ext.alloc _ _)).mono ?_
  rintro e2 w2 ⟨A2, n2, c2, rfl, ho2, hx2⟩
  have hn2 : n2 ≤ 253 := by have h1 := ho2.rd.length; have h2 := HPL.out.2; omega
  have O2 := Lib.hid (ho2.mono (base' := w.heap.size) (by simp))
  have X2 := Lib.hid ((Ext.alloc _ _).trans hx2)
  clear ho2 hx2 HPA HBZ
  go_wp2_with fail
  refine (HTM.out _).mono ?_
  rintro e3 v_ ⟨rfl, rfl⟩
  go_wp2_with fail
  refine (HRT.out _ _ _ _ O2.out.rd hn2).mono ?_
  rintro e4 w4 ⟨A4, n4, c4, rfl, ho4, hb4⟩
  have O4 : Hid (Own w4 w.heap.size 5 IsU8 A4 n4 c4 (fm.map cB)) := ho4.mono X2.out.size
  have OP4 := Lib.hid (O2.out.ext (Ext.of hb4))
  have X4 := Lib.hid (X2.out.trans (Ext.of hb4))
  have hr4 := X4.out.block HROW.out
  unfold masRow at hr4
  have HR4 := Lib.hid hr4
  obtain ⟨q0, q1, q2, q3, q4, q5, q6, q7, q8, q9, q10, q11⟩ := cells12 hr4
  have z2 := frozen_of_row _ _ 2 _ _ hr4
  have z3 := frozen_of_row _ _ 3 _ _ hr4
  have z4 := frozen_of_row _ _ 4 _ _ hr4
  have z11 := frozen_of_row _ _ 11 _ _ hr4
  clear ho4 hb4 hr4 O2 X2 HRT HTM q0 q1 q5 q6 q7 q8 q9 q10 t1 t2
  go_wp2_with fail
  have r1 := masRow_set (k := 11) (.slice A4 n4 c4) HR4.out
  have r2 := masRow_set (k := 2) (.int .i64 1) r1
  have r3 := masRow_set (k := 3) (.int .i64 (nw : Int)) r2
  have r4 := masRow_set (k := 4) (.int .i64 (u : Int)) r3
  have hfar := ((((Far.refl F p w4).set HFP.out 11 (.slice A4 n4 c4)).set HFP.out 2 (.int .i64 1)).set HFP.out 3 (.int .i64 (nw : Int))).set HFP.out 4 (.int .i64 (u : Int))
  have HR5 := Lib.hid r4; have FAR5 := Lib.hid hfar.far; have SZ5 := Lib.hid hfar.size; have ON5 := Lib.hid hfar.only
  clear r1 r2 r3 r4 hfar q2 q3 q4 q11 z2 z3 z4 z11 HR4
  generalize (((w4.setCell ⟨p, 11, none⟩ (.slice A4 n4 c4)).setCell ⟨p, 2, none⟩ (.int .i64 1)).setCell ⟨p, 3, none⟩ (.int .i64 (nw : Int))).setCell ⟨p, 4, none⟩ (.int .i64 (u : Int)) = w5 at *
  have hne : ∀ k, w.heap.size ≤ k → k ≠ p := fun k hk => by omega
  have OP5 := Lib.hid (OP4.out.kept (w' := w5) fun g hg => FAR5.out g (hne g (OP4.out.lt g hg).1))
  have OF5 := Lib.hid (O4.out.kept (w' := w5) fun g hg => FAR5.out g (hne g (O4.out.lt g hg).1))
  refine (HGA.out w5 A2 n2 c2 OP5.out.rd OP5.out.cap OP5.out.capLe).mono ?_
  rintro e6 w6 ⟨s6, rfl, ho6, hx6⟩
  have HR6 := Lib.hid (hx6.block HR5.out)
  have OF6 := Lib.hid (OF5.out.ext hx6)
  have OA6 := Lib.hid ho6
  have X56 := Lib.hid hx6
  have OP6 := Lib.hid (OP5.out.ext hx6)
  obtain ⟨C1, j1, l1, C2, j2, l2, C3, j3, l3⟩ := s6
  simp only [askV]
  obtain ⟨q0, q1, q2, q3, q4, q5, q6, q7, q8, q9, q10, q11⟩ := cells12 HR6.out
  have z5 := frozen_of_row _ _ 5 _ _ HR6.out
  have z6 := frozen_of_row _ _ 6 _ _ HR6.out
  have z7 := frozen_of_row _ _ 7 _ _ HR6.out
  have z8 := frozen_of_row _ _ 8 _ _ HR6.out
  have z9 := frozen_of_row _ _ 9 _ _ HR6.out
  have z10 := frozen_of_row _ _ 10 _ _ HR6.out
  clear ho6 hx6 HGA OP4 O4 OP5 OF5
  go_wp2_with fail
  have r1 := masRow_set (k := 5) (.int .i64 code) HR6.out
  have r2 := masRow_set (k := 6) (.int .i64 addr) r1
  have r3 := masRow_set (k := 7) (.int .i64 count) r2
  have r4 := masRow_set (k := 8) (.slice C1 j1 l1) r3
  have r5 := masRow_set (k := 9) (.slice C2 j2 l2) r4
  have r6 := masRow_set (k := 10) (.slice C3 j3 l3) r5
  have hfar := ((((((Far.refl F p w6).set HFP.out 5 (.int .i64 code)).set HFP.out 6 (.int .i64 addr)).set HFP.out 7 (.int .i64 count)).set HFP.out 8 (.slice C1 j1 l1)).set HFP.out 9 (.slice C2 j2 l2)).set HFP.out 10 (.slice C3 j3 l3)
  have HR7 := Lib.hid r6; have FAR7 := Lib.hid hfar.far; have SZ7 := Lib.hid hfar.size; have ON7 := Lib.hid hfar.only
  clear r1 r2 r3 r4 r5 r6 hfar q0 q1 q2 q3 q4 q5 q6 q7 q8 q9 q10 q11 z5 z6 z7 z8 z9 z10 HR6
  generalize ((((((w6.setCell ⟨p, 5, none⟩ (.int .i64 code)).setCell ⟨p, 6, none⟩ (.int .i64 addr)).setCell ⟨p, 7, none⟩ (.int .i64 count)).setCell ⟨p, 8, none⟩ (.slice C1 j1 l1)).setCell ⟨p, 9, none⟩ (.slice C2 j2 l2)).setCell ⟨p, 10, none⟩ (.slice C3 j3 l3)) = w7 at *
  have OF7 := Lib.hid (OF6.out.kept (w' := w7) fun g hg => FAR7.out g (hne g (OF6.out.lt g hg).1))
  refine (sclone_any fm A4 n4 c4 w7 OF7.out.rd (by have h1 := OF7.out.rd.length; have h2 := HFL.out; omega)).mono ?_
  rintro e8 w8 ⟨A8, n8, c8, rfl, ho8, hx8⟩
  have O8 := Lib.hid ho8; have X8 := Lib.hid hx8
  clear ho8 hx8
  go_wp2_with fail
  go_ret2
  have hx4 := X4.out.size
  have hb5 : w.heap.size ≤ w5.heap.size := by rw [SZ5.out]; exact hx4
  have s5 := SZ5.out; have s56 := X56.out.size; have s7 := SZ7.out; have s8 := X8.out.size
  refine ⟨fun k => F k ∨ (w.heap.size ≤ k ∧ k < w6.heap.size), A8, n8, c8, rfl, ⟨⟨C1, j1, l1, C2, j2, l2, C3, j3, l3⟩, A4, n4, c4, ?_, fun W hW => ?_, OF7.out.cap, OF7.out.capLe, .inl HFP.out, fun k hk => ?_⟩, ?_, fun k hk => ?_, O8.out.mono (by omega), fun g hg hf => ?_⟩
  · exact (X8.out.block HR7.out).trans (by unfold masRow busyN; simp)
  · have hk : ∀ k, w.heap.size ≤ k → k < w6.heap.size → W.heap[k]? = w6.heap[k]? := fun k h1 h2 =>
      (hW.2 k ⟨.inr ⟨h1, h2⟩, hne k h1⟩).trans ((Below.block X8.out k (by omega)).trans (FAR7.out k (hne k h1)))
    have g1 : AskOw W w5.heap.size _ _ := AskOw.agr OA6.out (fun k h1 h2 => hk k (Nat.le_trans hb5 h1) h2)
    have g2 := Own.agr OF6.out hk
    exact ⟨g1.rd, g2.rd⟩
  · rcases hk with hk | hk
    · have := HLT.out k hk; omega
    · omega
  · exact ((((Only.of_ext (F := F) X4.out).trans ON5.out (fun _ _ h => h)).trans (Only.of_ext (F := F) X56.out) (fun _ _ h => h)).trans ON7.out (fun _ _ h => h)).trans (Only.of_ext (F := F) X8.out) (fun _ _ h => h)
  · rcases hk with hk | hk
    · exact .inl hk
    · exact .inr hk.1
  · have h1 := (O8.out.lt g hg).1
    rcases hf with hf | hf
    · have := HLT.out g hf; omega
    · omega

theorem mas_start_no (now unit : Int) (a : AskD) (s : AskS) (w : World) (p : Nat) (F : Nat → Prop) (d : MasD) (h : MasAt w p F d) (hok : MasOk d) (ha : AskRd w a s) (he : startE d now unit a ≠ 0) :
    Calls Tryz.prog 17 #[pM p, .int .i64 now, .int .i64 unit, askV a s] w (RetStart MasAt w p F d [] (startE d now unit a)) := by
  have HM := Lib.hid h
  have HBZ := Lib.hid (fun W (hX : Ext w W) => mas_busy p F d W (h.ext hX) hok)
  have HPA := Lib.hid (fun W (hX : Ext w W) => askPut_any a s W (ha.ext hX))
  have HTM := Lib.hid (fun W => mas_timely now W)
  have hput : (putA a).2 = checkF a := by
    unfold putA; split
    · rfl
    · rename_i h; exact (Classical.not_not.1 h).symm
  rw [hput] at HPA
  generalize (putA a).1 = pdu at *
  rcases startE_cases d now unit a with ⟨h1, h2⟩ | ⟨h1, h2, h3⟩ | ⟨h1, h2, h3, h4⟩ | ⟨h1, h2, h3, h4, h5⟩ | ⟨-, -, -, -, h5⟩
  · rw [h2]
    rw [h1] at HBZ
    clear h h1 h2 hok ha hput he
    obtain ⟨code, addr, count, on, set, parts⟩ := a
    obtain ⟨B1, m1, k1, B2, m2, k2, B3, m3, k3⟩ := s
    simp only [askV] at HPA ⊢
    unfold pM at HBZ ⊢
    go_enter Tryz.func17, Tryz.ntmps17
    go_wp2_with fail
    refine (HBZ.out _ (Ext.alloc _ _)).mono ?_
    rintro e1 v_ ⟨rfl, rfl⟩
    go_wp2_with fail
    go_ret2
    exact .no (HM.out.ext (Ext.alloc _ _)) (Ext.alloc _ _)
  · rw [h3]
    rw [h1] at HBZ
    have h2 : unit < 1 ∨ (¬ unit < 1 ∧ 247 < unit) := by omega
    clear h h1 h3 hok ha hput he
    obtain ⟨code, addr, count, on, set, parts⟩ := a
    obtain ⟨B1, m1, k1, B2, m2, k2, B3, m3, k3⟩ := s
    simp only [askV] at HPA ⊢
    unfold pM at HBZ ⊢
    go_enter Tryz.func17, Tryz.ntmps17
    go_wp2_with fail
    refine (HBZ.out _ (Ext.alloc _ _)).mono ?_
    rintro e1 v_ ⟨rfl, rfl⟩
    rcases h2 with h2 | ⟨h2, h3⟩
    all_goals
      go_wp2_with fail
      go_ret2
      exact .no (HM.out.ext (Ext.alloc _ _)) (Ext.alloc _ _)
  · rw [h4]
    rw [h1] at HBZ
    have t1 : ¬ unit < 1 := by omega
    have t2 : ¬ 247 < unit := by omega
    have t3 : (checkF a != 0) = true := by simp [h3]
    clear h h1 h2 h3 h4 hok ha hput he
    generalize checkF a = K at *
    obtain ⟨code, addr, count, on, set, parts⟩ := a
    obtain ⟨B1, m1, k1, B2, m2, k2, B3, m3, k3⟩ := s
    simp only [askV] at HPA ⊢
    unfold pM at HBZ ⊢
    go_enter Tryz.func17, Tryz.ntmps17
    go_wp2_with fail
    refine (HBZ.out _ (Ext.alloc _ _)).mono ?_
    rintro e1 v_ ⟨rfl, rfl⟩
    go_wp2_with fail
    refine (HPA.out _ (Ext.alloc _ _)).mono ?_
    rintro e2 w2 ⟨A2, n2, c2, rfl, ho2, hx2⟩
    have X2 := Lib.hid ((Ext.alloc _ _).trans hx2)
    clear ho2 hx2 HPA HBZ
    go_wp2_with fail
    go_ret2
    exact .no (HM.out.ext X2.out) X2.out
  · rw [h5]
    rw [h1] at HBZ
    rw [h3] at HPA
    have t1 : ¬ unit < 1 := by omega
    have t2 : ¬ 247 < unit := by omega
    have t3 : decide (0 ≤ now ∧ now ≤ 1099511627776) = false := by simp; omega
    rw [t3] at HTM
    clear h h1 h2 h3 h4 h5 hok ha hput he t3
    obtain ⟨code, addr, count, on, set, parts⟩ := a
    obtain ⟨B1, m1, k1, B2, m2, k2, B3, m3, k3⟩ := s
    simp only [askV] at HPA ⊢
    unfold pM at HBZ ⊢
    go_enter Tryz.func17, Tryz.ntmps17
    go_wp2_with fail
    refine (HBZ.out _ (Ext.alloc _ _)).mono ?_
    rintro e1 v_ ⟨rfl, rfl⟩
    go_wp2_with fail
    refine (HPA.out _ (Ext.alloc _ _)).mono ?_
    rintro e2 w2 ⟨A2, n2, c2, rfl, ho2, hx2⟩
    have X2 := Lib.hid ((Ext.alloc _ _).trans hx2)
    clear ho2 hx2 HPA HBZ
    go_wp2_with fail
    refine (HTM.out _).mono ?_
    rintro e3 v_ ⟨rfl, rfl⟩
    go_wp2_with fail
    go_ret2
    exact .no (HM.out.ext X2.out) X2.out
  · exact absurd h5 he
/-- Start, whatever is asked. -/
theorem mas_start (now unit : Int) (a : AskD) (s : AskS) (w : World) (p : Nat) (F : Nat → Prop) (d : MasD) (h : MasAt w p F d) (hok : MasOk d) (ha : AskRd w a s) :
    Calls Tryz.prog 17 #[pM p, .int .i64 now, .int .i64 unit, askV a s] w (RetStart MasAt w p F (startM d now unit a) (startB d now unit a) (startE d now unit a)) := by
  by_cases he : startE d now unit a = 0
  · obtain ⟨h1, h2, h3, h4, h5⟩ := startE_zero he
    unfold startM startB
    rw [if_pos he, if_pos he, he]
    obtain ⟨u, rfl⟩ : ∃ u : Nat, unit = (u : Int) := ⟨unit.toNat, by omega⟩
    obtain ⟨nw, rfl⟩ : ∃ k : Nat, now = (k : Int) := ⟨now.toNat, by omega⟩
    exact mas_start_ok u nw a s w p F d h hok ha h1 (by omega) h3 (by omega)
  · have := mas_start_no now unit a s w p F d h hok ha he
    unfold startM startB
    rw [if_neg he, if_neg he]
    exact this
end Go.Proofs.YtomcipkmohhpjaaGreat

namespace Go.Out
open Go Go.RowKit
set_option linter.unusedVariables false
theorem tickK_cases (d : MasD) (now : Int) : (tickK d now = 0 ∧ (d.under = false ∨ (d.under = true ∧ (now < 0 ∨ 1099511627776 < now)) ∨ (d.under = true ∧ 0 ≤ now ∧ now ≤ 1099511627776 ∧ now < d.last + d.timeout))) ∨
    (d.under = true ∧ 0 ≤ now ∧ now ≤ 1099511627776 ∧ (d.last : Int) + d.timeout ≤ now ∧ ((tickK d now = 2 ∧ d.retries < d.tries) ∨ (tickK d now = 1 ∧ d.tries ≤ d.retries))) := by
  unfold tickK
  rcases hu : d.under with _ | _
  · left; exact ⟨by simp, .inl rfl⟩
  · simp only [Bool.true_eq_false, false_or, true_and]
    by_cases h1 : now < 0 ∨ 1099511627776 < now
    · left; exact ⟨by rw [if_pos (by omega)], .inl h1⟩
    · by_cases h2 : now < d.last + d.timeout
      · left; exact ⟨by rw [if_pos (by omega)], .inr ⟨by omega, by omega, h2⟩⟩
      · right
        refine ⟨by omega, by omega, by omega, ?_⟩
        rw [if_neg (by omega)]
        by_cases h3 : d.retries < d.tries
        · left; exact ⟨by rw [if_pos h3], h3⟩
        · right; exact ⟨by rw [if_neg h3], by omega⟩
theorem startM_ok {d : MasD} {now unit : Int} {a : AskD} (h : MasOk d) : MasOk (startM d now unit a) := by
  unfold startM
  split
  · rename_i h0
    obtain ⟨h1, h2, h3, h4, h5⟩ := startE_zero h0
    exact ⟨h.t, h.r, fun _ => ⟨Nat.le_refl _, by simp only; omega⟩, by simp only; omega, by simp only; omega, by simp only; omega, fun _ => h3, (frameF_len h2 h3).1⟩
  · exact h
theorem hearM_ok {d : MasD} {b : List UInt8} (h : MasOk d) : MasOk (hearM d b) := by
  unfold hearM
  split
  · exact ⟨h.t, h.r, fun e => absurd e (by simp), h.tr, h.l, h.un, h.a, h.f⟩
  · exact h
theorem tickM_ok {d : MasD} {now : Int} (h : MasOk d) : MasOk (tickM d now) := by
  rcases tickK_cases d now with ⟨e, -⟩ | ⟨h1, h2, h3, h4, ⟨e, h5⟩ | ⟨e, h5⟩⟩
  · unfold tickM; rw [if_pos e]; exact h
  · unfold tickM; rw [if_neg (by omega), if_pos e]
    exact ⟨h.t, h.r, fun e => absurd e (by simp), h.tr, h.l, h.un, h.a, h.f⟩
  · unfold tickM; rw [if_neg (by omega), if_neg (by omega)]
    exact ⟨h.t, h.r, fun _ => ⟨by simp only; omega, (h.u h1).2⟩, by simp only; omega, by simp only; omega, h.un, h.a, h.f⟩
end Go.Out
namespace Go.Proofs.YtomcipkmohhpjaaGreat
set_option linter.unusedVariables false
set_option linter.unusedSimpArgs false
set_option maxRecDepth 100000
set_option maxHeartbeats 1000000
open Go Go.RowKit Go.Out

/-- An outcome as a value. -/
def outV (o : OutD) (t : RepS) : Value := .agg #[.int .i64 o.what, .int .i64 o.rep.exc, .slice t.A1 t.n1 t.c1, .slice t.A2 t.n2 t.c2, .slice t.A3 t.n3 t.c3, .int .i64 (o.tries : Int)]
def repS0 : RepS := ⟨none, 0, 0, none, 0, 0, none, 0, 0⟩
theorem rep0_ow (w : World) (base : Nat) : RepOw w base rep0 repS0 := ⟨Own.nil_ _ _ _ _, Own.nil_ _ _ _ _, OwL.nil_ _ _ _ _, rfl, ⟨Nat.le_refl _, Nat.zero_le _⟩, by unfold i64P rep0; simp⟩
/-- The master has ended what was under way. -/
theorem MasAt.ended {w w1 : World} {p : Nat} {F : Nat → Prop} {d : MasD} (h : MasAt w p F d) (hx : Ext w w1) : MasAt (w1.setCell ⟨p, 2, none⟩ (.int .i64 0)) p F { d with under := false } ∧ Only F w (w1.setCell ⟨p, 2, none⟩ (.int .i64 0)) := by
  obtain ⟨s, A, n, c, h1, h2, h3, h4, h5, h6⟩ := h
  have hr := hx.block h1
  have hk : ∀ k, k ≠ p → k < w.heap.size → (w1.setCell ⟨p, 2, none⟩ (.int .i64 0)).heap[k]? = w.heap[k]? := fun k hk hlt => (Below.heap_setCell w1 ⟨p, 2, none⟩ _ k hk).trans (Below.block hx k hlt)
  have hs : (w1.setCell ⟨p, 2, none⟩ (.int .i64 0)).heap.size = w1.heap.size := by simp [World.setCell]
  refine ⟨⟨s, A, n, c, ?_, fun W hW => ?_, h3, h4, h5, fun k q => by rw [hs]; exact Nat.lt_of_lt_of_le (h6 k q) hx.size⟩, ⟨hx.os, hx.tape, hx.output, by rw [hs]; exact hx.size, fun k hlt hf => hk k (fun e => hf (e ▸ h5)) hlt⟩⟩
  · rw [masRow_set _ hr]; simp [masRow, busyN]
  · exact h2 W (Agr.trans ⟨by rw [hs]; exact hx.size, fun k q => hk k q.2 (h6 k q.1)⟩ hW)
theorem MasAt.set_far {w : World} {p : Nat} {F : Nat → Prop} {d : MasD} (h : MasAt w p F d) {q : Addr} (hq : ¬ F q.block) (u : Value) : MasAt (w.setCell q u) p F d :=
  h.keep (fun k hk => Below.heap_setCell w q u k (fun e => hq (e ▸ hk))) (by simp [World.setCell])
theorem Only.set_new {F : Nat → Prop} {w w1 : World} (h : Only F w w1) {q : Addr} (hq : w.heap.size ≤ q.block) (u : Value) : Only F w (w1.setCell q u) :=
  ⟨h.os, h.tape, h.output, by simpa [World.setCell] using h.size, fun k hk hf => (Below.heap_setCell w1 q u k (by omega)).trans (h.block k hk hf)⟩
theorem Only.drew' {F : Nat → Prop} {w w1 : World} (h : Only F w w1) : Only F w w1.drew := ⟨h.os, h.tape, h.output, h.size, h.block⟩
theorem mas_end (what : Int) (r : RepD) (t : RepS) (w : World) (p : Nat) (F : Nat → Prop) (d : MasD) (h : MasAt w p F d) (hu : d.under = true) :
    Calls Tryz.prog 71 #[pM p, .int .i64 what, repV r t] w (fun e w' => e = .returned (.tuple #[outV ⟨what, r, d.tries⟩ t, .bool true]) ∧ MasAt w' p F { d with under := false } ∧ Only F w w') := by
  have HM := Lib.hid h
  obtain ⟨s, A, n, c, h1, -⟩ := h
  unfold masRow at h1
  have hb : busyN d = d.tries := by unfold busyN; rw [if_pos hu]
  rw [hb] at h1
  have HROW := Lib.hid h1
  clear hb hu h1
  obtain ⟨exc, on, set, files⟩ := r
  obtain ⟨B1, m1, k1, B2, m2, k2, B3, m3, k3⟩ := t
  obtain ⟨timeout, retries, under, unit, tries, last, ask, frame⟩ := d
  simp only at HROW ⊢
  simp only [repV]
  unfold pM
  go_enter Tryz.func71, Tryz.ntmps71
  go_wp2_with fail
  have HB := Lib.hid ((Ext.alloc _ (.cells #[.int .i64 0, .int .i64 0, .slice none 0 0, .slice none 0 0, .slice none 0 0, .int .i64 0] 59)).block (heap_alloc_new w (.cells #[.int .i64 exc, .slice B1 m1 k1, .slice B2 m2 k2, .slice B3 m3 k3] 40)))
  have HO := Lib.hid (heap_at (w.alloc (.cells #[.int .i64 exc, .slice B1 m1 k1, .slice B2 m2 k2, .slice B3 m3 k3] 40)) (.cells #[.int .i64 0, .int .i64 0, .slice none 0 0, .slice none 0 0, .slice none 0 0, .int .i64 0] 59) (w.heap.size + 1) (by simp))
  have X2 := Lib.hid ((Ext.alloc w (.cells #[.int .i64 exc, .slice B1 m1 k1, .slice B2 m2 k2, .slice B3 m3 k3] 40)).trans (Ext.alloc _ (.cells #[.int .i64 0, .int .i64 0, .slice none 0 0, .slice none 0 0, .slice none 0 0, .int .i64 0] 59)))
  generalize (w.alloc (.cells #[.int .i64 exc, .slice B1 m1 k1, .slice B2 m2 k2, .slice B3 m3 k3] 40)).alloc (.cells #[.int .i64 0, .int .i64 0, .slice none 0 0, .slice none 0 0, .slice none 0 0, .int .i64 0] 59) = w2 at *
  obtain ⟨b0, b1, b2, b3⟩ := cells4 HB.out
  obtain ⟨-, -, q2, -⟩ := cells12 (X2.out.block HROW.out)
  have Q2 := fun o => (cells12 ((X2.out.trans (Ext.alloc w2 o)).block HROW.out)).2.2.1
  have B0 := fun o => (cells4 ((Ext.alloc w2 o).block HB.out)).1
  have B1' := fun o => (cells4 ((Ext.alloc w2 o).block HB.out)).2.1
  have B2' := fun o => (cells4 ((Ext.alloc w2 o).block HB.out)).2.2.1
  have B3' := fun o => (cells4 ((Ext.alloc w2 o).block HB.out)).2.2.2
  go_region_law (fail)
  all_goals
    have X3 := Lib.hid (X2.out.trans (Ext.drew' (Ext.alloc w2 (.cells #[.int .i64 what, .int .i64 exc, .slice B1 m1 k1, .slice B2 m2 k2, .slice B3 m3 k3, .int .i64 (tries : Int)] 59))))
    have HO3 := Lib.hid ((Ext.drew' (Ext.alloc w2 (.cells #[.int .i64 what, .int .i64 exc, .slice B1 m1 k1, .slice B2 m2 k2, .slice B3 m3 k3, .int .i64 (tries : Int)] 59))).block HO.out)
    have HU3 : Hid ((w2.alloc (.cells #[.int .i64 what, .int .i64 exc, .slice B1 m1 k1, .slice B2 m2 k2, .slice B3 m3 k3, .int .i64 (tries : Int)] 59)).drew.heap[w2.heap.size]? = some (.cells #[.int .i64 what, .int .i64 exc, .slice B1 m1 k1, .slice B2 m2 k2, .slice B3 m3 k3, .int .i64 (tries : Int)] 59 (0, 0))) := heap_alloc_new w2 _
    have hz2 : w.heap.size + 2 ≤ w2.heap.size := lt_of_heap HO.out
    clear B0 B1' B2' B3' b0 b1 b2 b3 q2 Q2 HB
    generalize (w2.alloc (.cells #[.int .i64 what, .int .i64 exc, .slice B1 m1 k1, .slice B2 m2 k2, .slice B3 m3 k3, .int .i64 (tries : Int)] 59)).drew = w3 at *
    obtain ⟨g2, hg2⟩ : ∃ g, w2.heap.size = g := ⟨_, rfl⟩
    rw [hg2] at HU3 hz2
    try simp only [hg2]
    clear hg2 HO X2
    have hpz := HM.out.lt p HM.out.foot
    have hr3 := X3.out.block HROW.out
    obtain ⟨-, -, q2, -⟩ := cells12 hr3
    have z2 := frozen_of_row _ _ 2 _ _ hr3
    have far : ∀ g i v, g ≠ p → w3.cell? ⟨g, i, none⟩ = some v → (w3.setCell ⟨p, 2, none⟩ (.int .i64 0)).cell? ⟨g, i, none⟩ = some v := fun g i v hg hc => (World.cell?_setCell_far _ _ _ _ (by simpa using Ne.symm hg)).trans hc
    obtain ⟨u0, u1, u2, u3, u4, u5⟩ := cells6 HU3.out
    obtain ⟨v0, v1, v2, v3, v4, v5⟩ := cells6 HO3.out
    have U0 := far g2 0 _ (by omega) u0
    have U1 := far g2 1 _ (by omega) u1
    have U2 := far g2 2 _ (by omega) u2
    have U3 := far g2 3 _ (by omega) u3
    have U4 := far g2 4 _ (by omega) u4
    have U5 := far g2 5 _ (by omega) u5
    have V0 := far (w.heap.size + 1) 0 _ (by omega) v0
    have V1 := far (w.heap.size + 1) 1 _ (by omega) v1
    have V2 := far (w.heap.size + 1) 2 _ (by omega) v2
    have V3 := far (w.heap.size + 1) 3 _ (by omega) v3
    have V4 := far (w.heap.size + 1) 4 _ (by omega) v4
    have V5 := far (w.heap.size + 1) 5 _ (by omega) v5
    have hrV := (Below.heap_setCell w3 ⟨p, 2, none⟩ (.int .i64 0) (w.heap.size + 1) (by simp; omega)).trans HO3.out
    have y0 := frozen_of_row _ _ 0 _ _ hrV
    have y1 := frozen_of_row _ _ 1 _ _ hrV
    have y2 := frozen_of_row _ _ 2 _ _ hrV
    have y3 := frozen_of_row _ _ 3 _ _ hrV
    have y4 := frozen_of_row _ _ 4 _ _ hrV
    have y5 := frozen_of_row _ _ 5 _ _ hrV
    have t0 := heap_setCell_same _ (w.heap.size + 1) 0 _ _ (.int .i64 what) hrV
    have t1 := heap_setCell_same _ (w.heap.size + 1) 1 _ _ (.int .i64 exc) t0
    have t2 := heap_setCell_same _ (w.heap.size + 1) 2 _ _ (.slice B1 m1 k1) t1
    have t3 := heap_setCell_same _ (w.heap.size + 1) 3 _ _ (.slice B2 m2 k2) t2
    have t4 := heap_setCell_same _ (w.heap.size + 1) 4 _ _ (.slice B3 m3 k3) t3
    have t5 := heap_setCell_same _ (w.heap.size + 1) 5 _ _ (.int .i64 (tries : Int)) t4
    have F0 := Lib.hid ((cell_of_row _ _ 0 _ _ _ t0).trans (show _ = some (.int .i64 what) by simp))
    have F1 := Lib.hid ((cell_of_row _ _ 1 _ _ _ t1).trans (show _ = some (.int .i64 exc) by simp))
    have F2 := Lib.hid ((cell_of_row _ _ 2 _ _ _ t2).trans (show _ = some (.slice B1 m1 k1) by simp))
    have F3 := Lib.hid ((cell_of_row _ _ 3 _ _ _ t3).trans (show _ = some (.slice B2 m2 k2) by simp))
    have F4 := Lib.hid ((cell_of_row _ _ 4 _ _ _ t4).trans (show _ = some (.slice B3 m3 k3) by simp))
    have F5 := Lib.hid ((cell_of_row _ _ 5 _ _ _ t5).trans (show _ = some (.int .i64 (tries : Int)) by simp))
    clear t0 t1 t2 t3 t4 t5
    have HEND := Lib.hid (HM.out.ended X3.out)
    have HLT := Lib.hid HM.out.lt
    clear far u0 u1 u2 u3 u4 u5 v0 v1 v2 v3 v4 v5 hrV hr3
    go_wp2_with fail
    refine bodyPost_ret (v := .tuple #[.agg #[.int .i64 what, .int .i64 exc, .slice B1 m1 k1, .slice B2 m2 k2, .slice B3 m3 k3, .int .i64 (tries : Int)], .bool true]) (by simp [results, Tryz.results71, go_sem, F0.out, F1.out, F2.out, F3.out, F4.out, F5.out]) rfl ⟨rfl, ?_, ?_⟩
    · repeat' (first | with_reducible exact HEND.out.1 | with_reducible refine MasAt.set_far ?_ (fun h => by have := HLT.out _ h; simp only at this; omega) _)
    · repeat' (first | with_reducible exact HEND.out.2 | with_reducible refine Only.set_new ?_ (by simp only; omega) _)
end Go.Proofs.YtomcipkmohhpjaaGreat

namespace Go.Proofs.YtomcipkmohhpjaaGreat
set_option linter.unusedVariables false
set_option linter.unusedSimpArgs false
set_option maxRecDepth 100000
set_option maxHeartbeats 1000000
open Go Go.RowKit Go.Out

theorem app_part {ops : Array Oper} {rest : List Oper} {o : Oper} {a : Act} {Q : Exit → Act → World → Prop} (w : World) (hgd : o.guard = none) (s x : Operand)
    (ho : o.op = .call { callee := .builtin .append, args := #[s, x], argTypes := #[35, 35] })
    {base n g : Nat} {v : Value} {xs : List Value} (hs : a.eval s = v) (hown : w.ownsRow base 107 3 v n xs) (hint : IntRow w v) {v0 v1 v2 : Int}
    (hx : a.eval x = .slice (some ⟨g, 0, none⟩) 1 1) (hh : w.heap[g]? = some (.cells #[.int .i64 v0, .int .i64 v1, .int .i64 v2] 107 (0, 0)))
    (hsz : n + 1 ≤ 4398046511104) (hbase : base ≤ w.heap.size)
    (h : ∀ v' w', w'.ownsRow base 107 3 v' (n + 1) (xs ++ [.int .i64 v0, .int .i64 v1, .int .i64 v2]) → IntRow w' v' → w.grownBy w' v.ownBlock → wpList Tryz.prog ops Q rest (a.put o.dst v') w') :
    wpList Tryz.prog ops Q (o :: rest) a w := by
  refine wpList_step fun K hK => ?_
  exact step_part hgd s x ho hs hown hint hx hh hsz hbase fun v' w' h1 h2 h3 => hK _ _ (h v' w' h1 h2 h3)
theorem copyParts_any (l : List PartD) (A : Option Addr) (n c : Nat) (w : World) (hr : RdL partK w A n l) (hn : n ≤ 70000) :
    Calls Tryz.prog 93 #[.slice A n c] w fun e w' => ∃ B m k, e = .returned (.slice B m k) ∧ OwP w' w.heap.size (.slice B m k) l ∧ Ext w w' := by
  have HR := Lib.hid hr
  have hln := hr.length
  have Hln := Lib.hid hln
  clear hr hln
  go_enter Tryz.func93, Tryz.ntmps93
  go_wp2_with fail
  go_loopw [3, 4] (fun v i wr => ∃ (k : Nat), k ≤ n ∧ i = .int .i64 k ∧ Hid (OwP wr w.heap.size v (l.take k)) ∧ Ext w wr) (fun _ i _ => n - (intOf i).toNat)
  case atStart => exact ⟨0, Nat.zero_le _, rfl, by unfold Hid; rw [List.take_zero]; exact OwP.nil_ _ _, Ext.refl _⟩
  case round =>
    obtain ⟨k, hk, rfl, HO, hx⟩ := hrel
    obtain ⟨A1, c1, rfl, -⟩ := HO.out.form
    rcases Nat.lt_or_ge k n with hlt | hge
    · obtain ⟨b1, off, rfl, hb, hl, cs, -, hc, rfl, hf, hrd, hle⟩ := HR.out.at_ hlt
      have e0 := hx.cell hb (hc 0 _ rfl); have e1 := hx.cell hb (hc 1 _ rfl); have e2 := hx.cell hb (hc 2 _ rfl)
      have HT : Hid (l.take (k + 1) = l.take k ++ [⟨l[k].file, l[k].record, l[k].len⟩]) := by
        unfold Hid; rw [List.take_add_one, List.getElem?_eq_getElem hl]; rfl
      have hlk : (l.take k).length = k := by rw [List.length_take]; omega
      have HF : Hid (i64P l[k].file ∧ i64P l[k].record ∧ i64P l[k].len) := ⟨hf, hrd, hle⟩
      rw [show off + (k * partK.k + 0) = off + k * 3 from rfl] at e0
      rw [show off + (k * partK.k + 1) = off + k * 3 + 1 from rfl] at e1
      rw [show off + (k * partK.k + 2) = off + k * 3 + 2 from rfl] at e2
      obtain ⟨⟨xs, hrow, hit⟩, hint⟩ := HO.out
      rw [hlk] at hrow hint
      have Hrow := Lib.hid hrow; have Hit := Lib.hid hit; have Hint := Lib.hid hint
      have HLK := Lib.hid hlk
      have hbs := hx.size
      clear hc hf hrd hle hrow hit hint hlk HO
      generalize hp0 : l[k].file = p0 at *
      generalize hp1 : l[k].record = p1 at *
      generalize hp2 : l[k].len = p2 at *
      clear hp0 hp1 hp2
      try simp only [HLK.out]
      try rw [HLK.out] at Hint
      go_wp2_with (at_builtin; go_must (refine app_part (base := w.heap.size) (xs := xs) _ rfl (.tmp 11) (.tmp 16) rfl rfl (ownsRow_ext Hrow.out (Ext.alloc _ _)) (Hint.out.ext (Ext.alloc _ _)) rfl (heap_alloc_new wr _) (by omega) (by simp; omega) ?_); intro v2 w2 hrow2 hint2 hg2; have HR2 := Lib.hid hrow2; have HI2 := Lib.hid hint2; have HX2 := Lib.hid ((hx.trans (Ext.alloc _ _)).grown' hg2 (fun g hg => (Hrow.out.lt g hg).1)); clear hrow2 hint2 hg2)
      go_roundw
      case rel => exact ⟨k + 1, by omega, by go_num, by
        unfold Hid; rw [HT.out]
        exact ⟨⟨_, by rw [List.length_append, HLK.out]; show w2.ownsRow _ _ 3 v2 (k + 1) (xs ++ [.int .i64 p0, .int .i64 p1, .int .i64 p2]); exact HR2.out, (Hit.out.mono (w' := w2) fun _ _ h => h).snoc ⟨rfl, HF.out.1, HF.out.2.1, HF.out.2.2⟩ rfl⟩, HI2.out⟩, HX2.out⟩
      case measure => simp [intOf]; omega
    · obtain rfl : k = n := by omega
      go_wp2_with fail
      go_ret
      exact ⟨_, _, _, rfl, by have h := HO.out; have e := List.take_of_length_le (show l.length ≤ k by have := Hln.out; omega); rw [e] at h ⊢; exact h, hx⟩
theorem copyAsk_ow (a : AskD) (s : AskS) (w : World) (hr : AskRd w a s) (h1 : s.n1 ≤ 70000) (h2 : s.n2 ≤ 70000) (h3 : s.n3 ≤ 70000) :
    Calls Tryz.prog 47 #[askV a s] w fun e w' => ∃ t, e = .returned (askV a t) ∧ AskOw w' w.heap.size a t ∧ Ext w w' := by
  have HR := Lib.hid hr
  obtain ⟨code, addr, count, on, set, parts⟩ := a
  obtain ⟨A1, n1, c1, A2, n2, c2, A3, n3, c3⟩ := s
  simp only at h1 h2 h3
  clear hr
  simp only [askV]
  go_enter Tryz.func47, Tryz.ntmps47
  go_wp2_with fail
  refine (copyL_any on _ _ _ _ (HR.out.on.ext ((Ext.alloc _ _).trans (Ext.alloc _ _))) (by show n1 ≤ _; omega)).mono ?_
  rintro e w1 ⟨B1, k1, rfl, ho1, hb1⟩
  have hX1 := Ext.of hb1
  have hA : w1.heap[w.heap.size]? = some (.cells #[.int .i64 code, .int .i64 addr, .int .i64 count, .slice A1 n1 c1, .slice A2 n2 c2, .slice A3 n3 c3] 37 (0, 0)) := hX1.block ((Ext.alloc _ _).block (heap_alloc_new w _))
  have hB : w1.heap[w.heap.size + 1]? = some (.cells #[.int .i64 0, .int .i64 0, .int .i64 0, .slice none 0 0, .slice none 0 0, .slice none 0 0] 37 (0, 0)) := hX1.block (heap_at _ _ _ (by simp))
  have X1 := Lib.hid ((Ext.alloc _ _).trans ((Ext.alloc _ _).trans hX1))
  have HO1 := Lib.hid (show Own w1 (w.heap.size + 2) 4 IsBo B1 n1 k1 (on.map cL) from ho1.mono (by simp))
  have d0 : w1.cell? ⟨w.heap.size, 0, none⟩ = some (.int .i64 code) := (cell_of_row _ _ _ _ _ _ hA).trans rfl
  have d1 : w1.cell? ⟨w.heap.size, 1, none⟩ = some (.int .i64 addr) := (cell_of_row _ _ _ _ _ _ hA).trans rfl
  have d2 : w1.cell? ⟨w.heap.size, 2, none⟩ = some (.int .i64 count) := (cell_of_row _ _ _ _ _ _ hA).trans rfl
  have d3 : w1.cell? ⟨w.heap.size, 3, none⟩ = some (.slice A1 n1 c1) := (cell_of_row _ _ _ _ _ _ hA).trans rfl
  have d4 : w1.cell? ⟨w.heap.size, 4, none⟩ = some (.slice A2 n2 c2) := (cell_of_row _ _ _ _ _ _ hA).trans rfl
  have d5 : w1.cell? ⟨w.heap.size, 5, none⟩ = some (.slice A3 n3 c3) := (cell_of_row _ _ _ _ _ _ hA).trans rfl
  have u_0 := frozen_of_row w1 (w.heap.size) 0 _ _ hA
  have u_1 := frozen_of_row w1 (w.heap.size) 1 _ _ hA
  have u_2 := frozen_of_row w1 (w.heap.size) 2 _ _ hA
  have u_3 := frozen_of_row w1 (w.heap.size) 3 _ _ hA
  have u_4 := frozen_of_row w1 (w.heap.size) 4 _ _ hA
  have u_5 := frozen_of_row w1 (w.heap.size) 5 _ _ hA
  have hA2 := heap_setCell_same w1 w.heap.size 3 _ _ (.slice B1 n1 k1) hA
  have hB2 : (w1.setCell ⟨w.heap.size, 3, none⟩ (.slice B1 n1 k1)).heap[w.heap.size + 1]? = some (.cells #[.int .i64 0, .int .i64 0, .int .i64 0, .slice none 0 0, .slice none 0 0, .slice none 0 0] 37 (0, 0)) := (Below.heap_setCell w1 ⟨w.heap.size, 3, none⟩ _ (w.heap.size + 1) (by simp)).trans hB
  have X1s := Lib.hid (X1.out.set' (p := ⟨w.heap.size, 3, none⟩) (Nat.le_refl _) (.slice B1 n1 k1))
  have HO1s := Lib.hid (HO1.out.set_below (q := ⟨w.heap.size, 3, none⟩) (by simp) (.slice B1 n1 k1))
  have HA2 := Lib.hid hA2; have HB2 := Lib.hid hB2
  clear hA hB hA2 hB2 hX1 ho1 hb1
  go_wp2_with fail
  refine (copyW_any set _ _ _ _ (HR.out.set.ext X1s.out) (by show n2 ≤ _; omega)).mono ?_
  rintro e w2 ⟨B2, k2, rfl, ho2, hb2⟩
  have hX2 := Ext.of hb2
  have hA : w2.heap[w.heap.size]? = some (.cells #[.int .i64 code, .int .i64 addr, .int .i64 count, .slice B1 n1 k1, .slice A2 n2 c2, .slice A3 n3 c3] 37 (0, 0)) := hX2.block HA2.out
  have hB := hX2.block HB2.out
  have X2 := Lib.hid (X1s.out.trans hX2)
  have HO1 := Lib.hid (HO1s.out.ext hX2)
  have hz : w.heap.size + 2 ≤ (w1.setCell ⟨w.heap.size, 3, none⟩ (.slice B1 n1 k1)).heap.size := by have := lt_of_heap HB2.out; omega
  have HO2 := Lib.hid (show Own w2 (w.heap.size + 2) 48 IsU16 B2 n2 k2 (set.map cW) from ho2.mono hz)
  clear d0 u_0 d1 u_1 d2 u_2 d3 u_3 d4 u_4 d5 u_5
  have d0 : w2.cell? ⟨w.heap.size, 0, none⟩ = some (.int .i64 code) := (cell_of_row _ _ _ _ _ _ hA).trans rfl
  have d1 : w2.cell? ⟨w.heap.size, 1, none⟩ = some (.int .i64 addr) := (cell_of_row _ _ _ _ _ _ hA).trans rfl
  have d2 : w2.cell? ⟨w.heap.size, 2, none⟩ = some (.int .i64 count) := (cell_of_row _ _ _ _ _ _ hA).trans rfl
  have d3 : w2.cell? ⟨w.heap.size, 3, none⟩ = some (.slice B1 n1 k1) := (cell_of_row _ _ _ _ _ _ hA).trans rfl
  have d4 : w2.cell? ⟨w.heap.size, 4, none⟩ = some (.slice A2 n2 c2) := (cell_of_row _ _ _ _ _ _ hA).trans rfl
  have d5 : w2.cell? ⟨w.heap.size, 5, none⟩ = some (.slice A3 n3 c3) := (cell_of_row _ _ _ _ _ _ hA).trans rfl
  have u_0 := frozen_of_row w2 (w.heap.size) 0 _ _ hA
  have u_1 := frozen_of_row w2 (w.heap.size) 1 _ _ hA
  have u_2 := frozen_of_row w2 (w.heap.size) 2 _ _ hA
  have u_3 := frozen_of_row w2 (w.heap.size) 3 _ _ hA
  have u_4 := frozen_of_row w2 (w.heap.size) 4 _ _ hA
  have u_5 := frozen_of_row w2 (w.heap.size) 5 _ _ hA
  have hA2 := heap_setCell_same w2 w.heap.size 4 _ _ (.slice B2 n2 k2) hA
  have hB2 : (w2.setCell ⟨w.heap.size, 4, none⟩ (.slice B2 n2 k2)).heap[w.heap.size + 1]? = some (.cells #[.int .i64 0, .int .i64 0, .int .i64 0, .slice none 0 0, .slice none 0 0, .slice none 0 0] 37 (0, 0)) := (Below.heap_setCell w2 ⟨w.heap.size, 4, none⟩ _ (w.heap.size + 1) (by simp)).trans hB
  have X2s := Lib.hid (X2.out.set' (p := ⟨w.heap.size, 4, none⟩) (Nat.le_refl _) (.slice B2 n2 k2))
  have HO1t := Lib.hid (HO1.out.set_below (q := ⟨w.heap.size, 4, none⟩) (by simp) (.slice B2 n2 k2))
  have HO2t := Lib.hid (HO2.out.set_below (q := ⟨w.heap.size, 4, none⟩) (by simp) (.slice B2 n2 k2))
  have HA3 := Lib.hid hA2; have HB3 := Lib.hid hB2
  clear hA hB hA2 hB2 hX2 ho2 hb2 hz HA2 HB2 X1s HO1s X1 X2 HO1 HO2
  go_wp2_with fail
  refine (copyParts_any parts _ _ _ _ (HR.out.parts.ext X2s.out) (by show n3 ≤ _; omega)).mono ?_
  rintro e w3 ⟨B3, m3, k3, rfl, ho3, hX3⟩
  have hA : w3.heap[w.heap.size]? = some (.cells #[.int .i64 code, .int .i64 addr, .int .i64 count, .slice B1 n1 k1, .slice B2 n2 k2, .slice A3 n3 c3] 37 (0, 0)) := hX3.block HA3.out
  have hB := hX3.block HB3.out
  have X3 := Lib.hid (X2s.out.trans hX3)
  have HO1u := Lib.hid (HO1t.out.ext hX3)
  have HO2u := Lib.hid (HO2t.out.ext hX3)
  have hz : w.heap.size + 2 ≤ (w2.setCell ⟨w.heap.size, 4, none⟩ (.slice B2 n2 k2)).heap.size := by have := lt_of_heap HB3.out; omega
  have HO3 := Lib.hid (show OwP w3 (w.heap.size + 2) (.slice B3 m3 k3) parts from ho3.mono hz)
  clear d0 u_0 d1 u_1 d2 u_2 d3 u_3 d4 u_4 d5 u_5
  have d0 : w3.cell? ⟨w.heap.size, 0, none⟩ = some (.int .i64 code) := (cell_of_row _ _ _ _ _ _ hA).trans rfl
  have d1 : w3.cell? ⟨w.heap.size, 1, none⟩ = some (.int .i64 addr) := (cell_of_row _ _ _ _ _ _ hA).trans rfl
  have d2 : w3.cell? ⟨w.heap.size, 2, none⟩ = some (.int .i64 count) := (cell_of_row _ _ _ _ _ _ hA).trans rfl
  have d3 : w3.cell? ⟨w.heap.size, 3, none⟩ = some (.slice B1 n1 k1) := (cell_of_row _ _ _ _ _ _ hA).trans rfl
  have d4 : w3.cell? ⟨w.heap.size, 4, none⟩ = some (.slice B2 n2 k2) := (cell_of_row _ _ _ _ _ _ hA).trans rfl
  have d5 : w3.cell? ⟨w.heap.size, 5, none⟩ = some (.slice A3 n3 c3) := (cell_of_row _ _ _ _ _ _ hA).trans rfl
  have u_0 := frozen_of_row w3 (w.heap.size) 0 _ _ hA
  have u_1 := frozen_of_row w3 (w.heap.size) 1 _ _ hA
  have u_2 := frozen_of_row w3 (w.heap.size) 2 _ _ hA
  have u_3 := frozen_of_row w3 (w.heap.size) 3 _ _ hA
  have u_4 := frozen_of_row w3 (w.heap.size) 4 _ _ hA
  have u_5 := frozen_of_row w3 (w.heap.size) 5 _ _ hA
  have HBB := Lib.hid hB
  clear hB hX3 ho3 hz HA3 HB3 X2s HO1t HO2t
  have f0 : w3.cell? ⟨w.heap.size + 1, 0, none⟩ = some (.int .i64 0) := (cell_of_row _ _ _ _ _ _ HBB.out).trans rfl
  have f1 : w3.cell? ⟨w.heap.size + 1, 1, none⟩ = some (.int .i64 0) := (cell_of_row _ _ _ _ _ _ HBB.out).trans rfl
  have f2 : w3.cell? ⟨w.heap.size + 1, 2, none⟩ = some (.int .i64 0) := (cell_of_row _ _ _ _ _ _ HBB.out).trans rfl
  have f3 : w3.cell? ⟨w.heap.size + 1, 3, none⟩ = some (.slice none 0 0) := (cell_of_row _ _ _ _ _ _ HBB.out).trans rfl
  have f4 : w3.cell? ⟨w.heap.size + 1, 4, none⟩ = some (.slice none 0 0) := (cell_of_row _ _ _ _ _ _ HBB.out).trans rfl
  have f5 : w3.cell? ⟨w.heap.size + 1, 5, none⟩ = some (.slice none 0 0) := (cell_of_row _ _ _ _ _ _ HBB.out).trans rfl
  have y_0 := frozen_of_row w3 (w.heap.size + 1) 0 _ _ HBB.out
  have y_1 := frozen_of_row w3 (w.heap.size + 1) 1 _ _ HBB.out
  have y_2 := frozen_of_row w3 (w.heap.size + 1) 2 _ _ HBB.out
  have y_3 := frozen_of_row w3 (w.heap.size + 1) 3 _ _ HBB.out
  have y_4 := frozen_of_row w3 (w.heap.size + 1) 4 _ _ HBB.out
  have y_5 := frozen_of_row w3 (w.heap.size + 1) 5 _ _ HBB.out
  clear hA
  go_wp2_with fail
  refine bodyPost_ret (v := askV ⟨code, addr, count, on, set, parts⟩ ⟨B1, n1, k1, B2, n2, k2, B3, m3, k3⟩) (by simp [results, Tryz.results47, go_sem, askV, *]) rfl ⟨⟨B1, n1, k1, B2, n2, k2, B3, m3, k3⟩, rfl, ⟨?_, ?_, ?_, HR.out.code, HR.out.addr, HR.out.count⟩, ?_⟩
  · refine Own.mono (base := w.heap.size + 2) ?_ (by omega)
    repeat' (first | with_reducible exact HO1u.out | with_reducible refine Own.set_below ?_ (by simp) _)
  · refine Own.mono (base := w.heap.size + 2) ?_ (by omega)
    repeat' (first | with_reducible exact HO2u.out | with_reducible refine Own.set_below ?_ (by simp) _)
  · refine OwP.mono (base := w.heap.size + 2) ?_ (by omega)
    repeat' (first | with_reducible exact HO3.out | with_reducible refine OwP.set_below ?_ (by simp) _)
  · repeat' (first | with_reducible exact X3.out | with_reducible refine Ext.set' ?_ (by simp) _)
end Go.Proofs.YtomcipkmohhpjaaGreat

namespace Go.Proofs.YtomcipkmohhpjaaGreat
set_option linter.unusedVariables false
set_option linter.unusedSimpArgs false
set_option maxRecDepth 100000
set_option maxHeartbeats 1000000
open Go Go.RowKit Go.Out

theorem packed3_any (l : List Bool) (A : Option Addr) (m c : Nat) (w : World) (hr : Rd w A m (l.map cL)) (hm : m ≤ 140737488355328) :
    Calls Tryz.prog 90 #[.slice A m c] w (RetOwn w 5 IsU8 (need m) ((bitsF l).map cB)) := by
  have Hr := Lib.hid hr; clear hr
  have hN : need m ≤ 140737488355328 := by unfold need; omega
  have hmk : ∀ W : World, (Instr.makeSlice 41 (.int .i64 (((m : Int) + 7) / 8)) (.int .i64 (((m : Int) + 7) / 8))).run Tryz.prog W = .ok (.slice (some ⟨W.heap.size, 0, none⟩) (need m) (need m)) (W.alloc (.cells (Array.replicate (need m) (.int .u8 0)) 5)) := fun W => by
    have h := run_make1 (P := Tryz.prog) 41 5 (.int .u8 0) 1 Tryz.underlying41 info_u8 rfl (need m) (by omega) (by omega) W
    rw [show ((need m : Nat) : Int) = ((m : Int) + 7) / 8 by unfold need; omega] at h
    exact h
  have HN : Hid (need m = (m + 7) / 8) := by unfold Hid need; rfl
  generalize need m = N at *
  go_enter Tryz.func90, Tryz.ntmps90
  go_wp2_with fail
  go_loopw [4] (fun i wr => ∃ (k : Nat) (cur : Array Value), k ≤ m ∧ i = .int .i64 k ∧ wr.heap[w.heap.size]? = some (.cells cur 5 (0, 0)) ∧ Hid (cur.toList = (bitsN (l.take k) N).map cB) ∧ Hid (cur.size = N) ∧ Below w.heap.size w wr) (fun i _ => m - (intOf i).toNat)
  case atStart => exact ⟨0, _, Nat.zero_le _, rfl, heap_alloc_new w _, by unfold Hid; rw [List.take_zero, bitsN_nil]; simp, by simp [Hid], (Below.refl _ _).alloc (Nat.le_refl _) _⟩
  case round =>
    obtain ⟨k, cur, hk, rfl, hh, hcur, Hcs, hbel⟩ := hrel
    by_cases hlt : k < m
    · obtain ⟨b1, o1, rfl, hb1, hl1, hc1⟩ := Hr.out.boat hlt
      have hcw : wr.cell? ⟨b1, o1 + k, none⟩ = some (.bool l[k]) := (hbel.cell (p := ⟨b1, o1 + k, none⟩) hb1).trans hc1
      clear hc1
      have hkN : k / 8 < N := by have := HN.out; omega
      cases hlk : l[k]
      · rw [hlk] at hcw
        have Hlk := Lib.hid hlk; have Hh := Lib.hid hh; clear hlk hh
        go_wp2_with fail
        go_roundw
        case rel => exact ⟨k + 1, cur, by omega, by go_num, Hh.out, by unfold Hid; rw [bitsN_skip l N k hl1 Hlk.out]; exact hcur.out, Hcs, hbel⟩
        case measure => simp [intOf]; omega
      · rw [hlk] at hcw
        obtain ⟨old, hce, hold⟩ : ∃ old, wr.cell? ⟨w.heap.size, k / 8, none⟩ = some old ∧ old = cB (UInt8.ofNat (bByte (l.take k) (k / 8))) := by
          refine ⟨_, ?_, rfl⟩
          rw [cell_of_row _ _ _ _ _ _ hh, ← Array.getElem?_toList, hcur.out, List.getElem?_map, bitsN_get _ _ _ hkN]; rfl
        have hfz := frozen_of_row wr w.heap.size (k / 8) cur _ hh
        have hlow := bByte_low l k
        rw [show cB (UInt8.ofNat (bByte (l.take k) (k / 8))) = .int .u8 ((bByte (l.take k) (k / 8) : Nat) : Int) from by rw [u8_ofNat]; congr 1; have := bByte_lt (l.take k) (k / 8); omega] at hold
        generalize hX : bByte (l.take k) (k / 8) = X at *
        subst hold
        have Hlow := Lib.hid hlow; have HX := Lib.hid hX; have Hlk := Lib.hid hlk; have Hh := Lib.hid hh; clear hlow hX hlk hh
        have e1 : IntKind.i64.wrap ((k : Int) / 8) = (k : Int) / 8 := IntWalk.i64_in _ (by omega)
        have e2 : 0 ≤ (k : Int) / 8 := by omega
        have e3 : (k : Int) / 8 < (N : Int) := by omega
        have e4 : ((k : Int) / 8).toNat = k / 8 := by omega
        have e5 : (k : Int).tmod 8 = (k : Int) % 8 := Int.tmod_eq_emod_of_nonneg (by omega)
        have e6 : 0 ≤ (k : Int) % 8 := by omega
        have e7 : ((k : Int) % 8).toNat = k % 8 := by omega
        go_wp2_with fail
        clear e1 e2 e3 e4 e5 e6 e7
        go_roundw
        case rel => exact ⟨k + 1, _, by omega, by go_num, heap_setCell_same _ _ _ _ _ _ Hh.out, by unfold Hid; rw [Array.toList_setIfInBounds, hcur.out, bit_add' X (k % 8) Hlow.out (by omega), ← HX.out]; exact bitsN_set l N k hl1 hkN Hlk.out, by have := Hcs.out; simp [Hid]; omega, hbel.setCell (Nat.le_refl _) _⟩
        case measure => simp [intOf]; omega
    · obtain rfl : k = m := by omega
      have Hh := Lib.hid hh; clear hh
      rw [List.take_of_length_le (by have := Hr.out.length; omega)] at hcur
      go_wp2_with fail
      go_ret
      have hN : N = need l.length := by rw [Hr.out.length]; exact HN.out
      exact ⟨_, _, rfl, Own.bytes (Nat.le_refl _) Hh.out (by rw [hcur.out, hN]; rfl) (by rw [bitsF_length, hN]) (by unfold maxLen; omega), hbel⟩

end Go.Proofs.YtomcipkmohhpjaaGreat
