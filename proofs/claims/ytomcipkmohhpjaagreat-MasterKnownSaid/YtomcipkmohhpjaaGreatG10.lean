/- A master's Hear. (genmash.py prints this.) -/
import Derived.Test.YtomcipkmohhpjaaGreatG08
import Derived.Test.YtomcipkmohhpjaaGreatRepGA
namespace Go.Proofs.YtomcipkmohhpjaaGreat
set_option linter.unusedVariables false
set_option linter.unusedSimpArgs false
set_option maxRecDepth 100000
set_option maxHeartbeats 2000000
open Go Go.RowKit Go.Out

theorem OwL.agrO {w W : World} {base : Nat} {e : TypeId} {v : Value} {l : List (List UInt16)} (h : OwL (fileO base) w base e v l) (hk : ∀ k, base ≤ k → k < w.heap.size → W.heap[k]? = w.heap[k]?) : OwL (fileO base) W base e v l := by
  obtain ⟨xs, h1, h2⟩ := h
  exact ⟨xs, ownsRow_agr h1 hk, h2.mono fun cs x ⟨A, n, c, e1, e2, e3⟩ => ⟨A, n, c, e1, Own.agr e2 hk, e3⟩⟩
theorem RepOw.agr {w W : World} {base : Nat} {r : RepD} {t : RepS} (h : RepOw w base r t) (hk : ∀ k, base ≤ k → k < w.heap.size → W.heap[k]? = w.heap[k]?) : RepOw W base r t :=
  ⟨Own.agr h.on hk, Own.agr h.set hk, OwL.agrO h.files hk, h.n3, h.cap3, h.exc⟩
theorem openF_lenH (k : Nat) (s : List UInt8 → Nat) (b : List UInt8) : (openF k s b).1.length ≤ b.length := by
  unfold openF
  split
  · simp
  · split
    · simp
    · simp
theorem lineF_lenH (o : List UInt8 × Int) : (lineF o).2.1.length ≤ o.1.length := by
  by_cases h : o.2 = 0
  · obtain ⟨l, e⟩ := o
    simp only at h; subst h
    cases l with
    | nil => simp [lineF]
    | cons x l =>
      by_cases hu : x.toNat < 1 ∨ 247 < x.toNat
      · rw [lineF_unit hu]; simp
      · rw [lineF_ok hu]; simp
  · rw [lineF_err h]; simp
theorem openRtuF_lenH (b : List UInt8) : (openRtuF b).2.1.length ≤ b.length := by
  unfold openRtuF
  split
  · simp
  · split
    · simp
    · exact Nat.le_trans (lineF_lenH _) (openF_lenH _ _ _)
/-- What Hear hands back. -/
def RetHear (At : World → Nat → (Nat → Prop) → MasD → Prop) (w : World) (p : Nat) (F : Nat → Prop) (d' : MasD) (o : OutD) (ok : Bool) (e : Ending) (w' : World) : Prop :=
  ∃ t, e = .returned (.tuple #[outV o t, .bool ok]) ∧ At w' p F d' ∧ Only F w w' ∧ RepOw w' w.heap.size o.rep t
theorem mas_hear_idle (b : List UInt8) (A : Option Addr) (n c : Nat) (w : World) (p : Nat) (F : Nat → Prop) (d : MasD) (h : MasAt w p F d) (hok : MasOk d) (hb : Rd w A n (b.map cB)) (hc : n ≤ c ∧ c ≤ 9223372036854775807) (hn : n ≤ 140737488355328) (hu : d.under = false) :
    Calls Tryz.prog 33 #[pM p, .slice A n c] w (RetHear MasAt w p F d out0 false) := by
  have HM := Lib.hid h
  have HBZ := Lib.hid (fun W (hX : Ext w W) => mas_busy p F d W (h.ext hX) hok)
  have HOR := Lib.hid (fun W (hX : Ext w W) => openRtu_any b A n c W (hb.ext hX) hc.1)
  have HLT := Lib.hid h.lt
  have HFP := Lib.hid h.foot
  rw [hu] at HBZ
  clear h hok hb hc hn hu HOR
  unfold pM at HBZ ⊢
  go_enter Tryz.func33, Tryz.ntmps33
  go_wp2_with fail
  refine (HBZ.out _ (Ext.alloc _ _)).mono ?_
  rintro e1 v_ ⟨rfl, rfl⟩
  have HZ1 := Lib.hid (heap_alloc_new w (.cells #[.int .i64 0, .int .i64 0, .slice none 0 0, .slice none 0 0, .slice none 0 0, .int .i64 0] 59))
  have X1 := Lib.hid (Ext.alloc w (.cells #[.int .i64 0, .int .i64 0, .slice none 0 0, .slice none 0 0, .slice none 0 0, .int .i64 0] 59))
  clear HBZ
  generalize w.alloc (.cells #[.int .i64 0, .int .i64 0, .slice none 0 0, .slice none 0 0, .slice none 0 0, .int .i64 0] 59) = w1 at *
  obtain ⟨v0, v1, v2, v3, v4, v5⟩ := cells6 HZ1.out
  have y0 := frozen_of_row _ _ 0 _ _ HZ1.out
  have y1 := frozen_of_row _ _ 1 _ _ HZ1.out
  have y2 := frozen_of_row _ _ 2 _ _ HZ1.out
  have y3 := frozen_of_row _ _ 3 _ _ HZ1.out
  have y4 := frozen_of_row _ _ 4 _ _ HZ1.out
  have y5 := frozen_of_row _ _ 5 _ _ HZ1.out
  have ty0 := frozen_of_row _ _ 0 _ _ HZ1.out
  have Ft0 := heap_setCell_same _ w.heap.size 0 _ _ (.int .i64 0) HZ1.out
  have Ft1 := heap_setCell_same _ w.heap.size 1 _ _ (.int .i64 0) Ft0
  have Ft2 := heap_setCell_same _ w.heap.size 2 _ _ (.slice none 0 0) Ft1
  have Ft3 := heap_setCell_same _ w.heap.size 3 _ _ (.slice none 0 0) Ft2
  have Ft4 := heap_setCell_same _ w.heap.size 4 _ _ (.slice none 0 0) Ft3
  have Ft5 := heap_setCell_same _ w.heap.size 5 _ _ (.int .i64 0) Ft4
  have F0 := Lib.hid ((cell_of_row _ _ 0 _ _ _ Ft0).trans (show _ = some (.int .i64 0) by simp))
  have F1 := Lib.hid ((cell_of_row _ _ 1 _ _ _ Ft1).trans (show _ = some (.int .i64 0) by simp))
  have F2 := Lib.hid ((cell_of_row _ _ 2 _ _ _ Ft2).trans (show _ = some (.slice none 0 0) by simp))
  have F3 := Lib.hid ((cell_of_row _ _ 3 _ _ _ Ft3).trans (show _ = some (.slice none 0 0) by simp))
  have F4 := Lib.hid ((cell_of_row _ _ 4 _ _ _ Ft4).trans (show _ = some (.slice none 0 0) by simp))
  have F5 := Lib.hid ((cell_of_row _ _ 5 _ _ _ Ft5).trans (show _ = some (.int .i64 0) by simp))
  clear ty0 Ft0 Ft1 Ft2 Ft3 Ft4 Ft5
  go_wp2_with fail
  all_goals
    refine bodyPost_ret (v := .tuple #[.agg #[.int .i64 0, .int .i64 0, .slice none 0 0, .slice none 0 0, .slice none 0 0, .int .i64 0], .bool false]) (by simp [results, Tryz.results33, go_sem, F0.out, F1.out, F2.out, F3.out, F4.out, F5.out]) rfl ⟨repS0, rfl, ?_, ?_, ?_⟩
    · repeat' (first | with_reducible exact (HM.out.ext X1.out) | with_reducible refine MasAt.set_far ?_ (fun h => by have := HLT.out _ h; simp only at this; omega) _)
    · repeat' (first | with_reducible exact (Only.of_ext X1.out) | with_reducible refine Only.set_new ?_ (by simp only; omega) _)
    · exact rep0_ow _ _
theorem mas_hear_bad (b : List UInt8) (A : Option Addr) (n c : Nat) (w : World) (p : Nat) (F : Nat → Prop) (d : MasD) (h : MasAt w p F d) (hok : MasOk d) (hb : Rd w A n (b.map cB)) (hc : n ≤ c ∧ c ≤ 9223372036854775807) (hn : n ≤ 140737488355328) (hu : d.under = true) (U : UInt8) (D : List UInt8) (E : Int) (hR : openRtuF b = (U, D, E)) (he : E ≠ 0) :
    Calls Tryz.prog 33 #[pM p, .slice A n c] w (RetHear MasAt w p F d out0 false) := by
  have HM := Lib.hid h
  have HBZ := Lib.hid (fun W (hX : Ext w W) => mas_busy p F d W (h.ext hX) hok)
  have HOR := Lib.hid (fun W (hX : Ext w W) => openRtu_any b A n c W (hb.ext hX) hc.1)
  have HLT := Lib.hid h.lt
  have HFP := Lib.hid h.foot
  rw [hu] at HBZ
  have hDl : (openRtuF b).2.1.length ≤ b.length := openRtuF_lenH b
  rw [hR] at HOR hDl
  have hbl := hb.length
  have HC4 := Lib.hid (fun W (hX : Ext w W) => (show W.cell? ⟨p, 4, none⟩ = some (.int .i64 (d.unit : Int)) from by
    obtain ⟨s, A9, n9, c9, h1, -⟩ := HM.out
    unfold masRow at h1
    exact (cells12 (hX.block h1)).2.2.2.2.1))
  have hwU : IntKind.i64.wrap (U.toNat : Int) = (U.toNat : Int) := IntWalk.i64_in _ (by have := U.toNat_lt; omega)
  have t3 : (E != 0) = true := by simp [he]
  clear h hok hb hc hn hu hR he hDl hbl
  unfold pM at HBZ ⊢
  go_enter Tryz.func33, Tryz.ntmps33
  go_wp2_with fail
  refine (HBZ.out _ (Ext.alloc _ _)).mono ?_
  rintro e1 v_ ⟨rfl, rfl⟩
  have HZ1 := Lib.hid (heap_alloc_new w (.cells #[.int .i64 0, .int .i64 0, .slice none 0 0, .slice none 0 0, .slice none 0 0, .int .i64 0] 59))
  have X1 := Lib.hid (Ext.alloc w (.cells #[.int .i64 0, .int .i64 0, .slice none 0 0, .slice none 0 0, .slice none 0 0, .int .i64 0] 59))
  clear HBZ
  generalize w.alloc (.cells #[.int .i64 0, .int .i64 0, .slice none 0 0, .slice none 0 0, .slice none 0 0, .int .i64 0] 59) = w1 at *
  go_wp2_with fail
  refine (HOR.out _ X1.out).mono ?_
  rintro e2 w2 ⟨A2, n2, c2, rfl, ho2, hx2⟩
  have X2 := Lib.hid (X1.out.trans (Ext.of hx2))
  have HZ2 := Lib.hid ((Ext.of hx2).block HZ1.out)
  have HO2 := Lib.hid ho2
  clear ho2 hx2 HOR HZ1 X1
  obtain ⟨v0, v1, v2, v3, v4, v5⟩ := cells6 HZ2.out
  have y0 := frozen_of_row _ _ 0 _ _ HZ2.out
  have y1 := frozen_of_row _ _ 1 _ _ HZ2.out
  have y2 := frozen_of_row _ _ 2 _ _ HZ2.out
  have y3 := frozen_of_row _ _ 3 _ _ HZ2.out
  have y4 := frozen_of_row _ _ 4 _ _ HZ2.out
  have y5 := frozen_of_row _ _ 5 _ _ HZ2.out
  have x4 := HC4.out _ X2.out
  have ty0 := frozen_of_row _ _ 0 _ _ HZ2.out
  have Ft0 := heap_setCell_same _ w.heap.size 0 _ _ (.int .i64 0) HZ2.out
  have Ft1 := heap_setCell_same _ w.heap.size 1 _ _ (.int .i64 0) Ft0
  have Ft2 := heap_setCell_same _ w.heap.size 2 _ _ (.slice none 0 0) Ft1
  have Ft3 := heap_setCell_same _ w.heap.size 3 _ _ (.slice none 0 0) Ft2
  have Ft4 := heap_setCell_same _ w.heap.size 4 _ _ (.slice none 0 0) Ft3
  have Ft5 := heap_setCell_same _ w.heap.size 5 _ _ (.int .i64 0) Ft4
  have F0 := Lib.hid ((cell_of_row _ _ 0 _ _ _ Ft0).trans (show _ = some (.int .i64 0) by simp))
  have F1 := Lib.hid ((cell_of_row _ _ 1 _ _ _ Ft1).trans (show _ = some (.int .i64 0) by simp))
  have F2 := Lib.hid ((cell_of_row _ _ 2 _ _ _ Ft2).trans (show _ = some (.slice none 0 0) by simp))
  have F3 := Lib.hid ((cell_of_row _ _ 3 _ _ _ Ft3).trans (show _ = some (.slice none 0 0) by simp))
  have F4 := Lib.hid ((cell_of_row _ _ 4 _ _ _ Ft4).trans (show _ = some (.slice none 0 0) by simp))
  have F5 := Lib.hid ((cell_of_row _ _ 5 _ _ _ Ft5).trans (show _ = some (.int .i64 0) by simp))
  clear ty0 Ft0 Ft1 Ft2 Ft3 Ft4 Ft5
  go_wp2_with fail
  all_goals
    refine bodyPost_ret (v := .tuple #[.agg #[.int .i64 0, .int .i64 0, .slice none 0 0, .slice none 0 0, .slice none 0 0, .int .i64 0], .bool false]) (by simp [results, Tryz.results33, go_sem, F0.out, F1.out, F2.out, F3.out, F4.out, F5.out]) rfl ⟨repS0, rfl, ?_, ?_, ?_⟩
    · repeat' (first | with_reducible exact (HM.out.ext X2.out) | with_reducible refine MasAt.set_far ?_ (fun h => by have := HLT.out _ h; simp only at this; omega) _)
    · repeat' (first | with_reducible exact (Only.of_ext X2.out) | with_reducible refine Only.set_new ?_ (by simp only; omega) _)
    · exact rep0_ow _ _
theorem mas_hear_unit (b : List UInt8) (A : Option Addr) (n c : Nat) (w : World) (p : Nat) (F : Nat → Prop) (d : MasD) (h : MasAt w p F d) (hok : MasOk d) (hb : Rd w A n (b.map cB)) (hc : n ≤ c ∧ c ≤ 9223372036854775807) (hn : n ≤ 140737488355328) (hu : d.under = true) (U : UInt8) (D : List UInt8) (hR : openRtuF b = (U, D, 0)) (he : U.toNat ≠ d.unit) :
    Calls Tryz.prog 33 #[pM p, .slice A n c] w (RetHear MasAt w p F d out0 false) := by
  have HM := Lib.hid h
  have HBZ := Lib.hid (fun W (hX : Ext w W) => mas_busy p F d W (h.ext hX) hok)
  have HOR := Lib.hid (fun W (hX : Ext w W) => openRtu_any b A n c W (hb.ext hX) hc.1)
  have HLT := Lib.hid h.lt
  have HFP := Lib.hid h.foot
  rw [hu] at HBZ
  have hDl : (openRtuF b).2.1.length ≤ b.length := openRtuF_lenH b
  rw [hR] at HOR hDl
  have hbl := hb.length
  have HC4 := Lib.hid (fun W (hX : Ext w W) => (show W.cell? ⟨p, 4, none⟩ = some (.int .i64 (d.unit : Int)) from by
    obtain ⟨s, A9, n9, c9, h1, -⟩ := HM.out
    unfold masRow at h1
    exact (cells12 (hX.block h1)).2.2.2.2.1))
  have hwU : IntKind.i64.wrap (U.toNat : Int) = (U.toNat : Int) := IntWalk.i64_in _ (by have := U.toNat_lt; omega)
  have t3 : ((U.toNat : Int) != (d.unit : Int)) = true := by simp; omega
  clear h hok hb hc hn hu hR he hDl hbl
  unfold pM at HBZ ⊢
  go_enter Tryz.func33, Tryz.ntmps33
  go_wp2_with fail
  refine (HBZ.out _ (Ext.alloc _ _)).mono ?_
  rintro e1 v_ ⟨rfl, rfl⟩
  have HZ1 := Lib.hid (heap_alloc_new w (.cells #[.int .i64 0, .int .i64 0, .slice none 0 0, .slice none 0 0, .slice none 0 0, .int .i64 0] 59))
  have X1 := Lib.hid (Ext.alloc w (.cells #[.int .i64 0, .int .i64 0, .slice none 0 0, .slice none 0 0, .slice none 0 0, .int .i64 0] 59))
  clear HBZ
  generalize w.alloc (.cells #[.int .i64 0, .int .i64 0, .slice none 0 0, .slice none 0 0, .slice none 0 0, .int .i64 0] 59) = w1 at *
  go_wp2_with fail
  refine (HOR.out _ X1.out).mono ?_
  rintro e2 w2 ⟨A2, n2, c2, rfl, ho2, hx2⟩
  have X2 := Lib.hid (X1.out.trans (Ext.of hx2))
  have HZ2 := Lib.hid ((Ext.of hx2).block HZ1.out)
  have HO2 := Lib.hid ho2
  clear ho2 hx2 HOR HZ1 X1
  obtain ⟨v0, v1, v2, v3, v4, v5⟩ := cells6 HZ2.out
  have y0 := frozen_of_row _ _ 0 _ _ HZ2.out
  have y1 := frozen_of_row _ _ 1 _ _ HZ2.out
  have y2 := frozen_of_row _ _ 2 _ _ HZ2.out
  have y3 := frozen_of_row _ _ 3 _ _ HZ2.out
  have y4 := frozen_of_row _ _ 4 _ _ HZ2.out
  have y5 := frozen_of_row _ _ 5 _ _ HZ2.out
  have x4 := HC4.out _ X2.out
  have ty0 := frozen_of_row _ _ 0 _ _ HZ2.out
  have Ft0 := heap_setCell_same _ w.heap.size 0 _ _ (.int .i64 0) HZ2.out
  have Ft1 := heap_setCell_same _ w.heap.size 1 _ _ (.int .i64 0) Ft0
  have Ft2 := heap_setCell_same _ w.heap.size 2 _ _ (.slice none 0 0) Ft1
  have Ft3 := heap_setCell_same _ w.heap.size 3 _ _ (.slice none 0 0) Ft2
  have Ft4 := heap_setCell_same _ w.heap.size 4 _ _ (.slice none 0 0) Ft3
  have Ft5 := heap_setCell_same _ w.heap.size 5 _ _ (.int .i64 0) Ft4
  have F0 := Lib.hid ((cell_of_row _ _ 0 _ _ _ Ft0).trans (show _ = some (.int .i64 0) by simp))
  have F1 := Lib.hid ((cell_of_row _ _ 1 _ _ _ Ft1).trans (show _ = some (.int .i64 0) by simp))
  have F2 := Lib.hid ((cell_of_row _ _ 2 _ _ _ Ft2).trans (show _ = some (.slice none 0 0) by simp))
  have F3 := Lib.hid ((cell_of_row _ _ 3 _ _ _ Ft3).trans (show _ = some (.slice none 0 0) by simp))
  have F4 := Lib.hid ((cell_of_row _ _ 4 _ _ _ Ft4).trans (show _ = some (.slice none 0 0) by simp))
  have F5 := Lib.hid ((cell_of_row _ _ 5 _ _ _ Ft5).trans (show _ = some (.int .i64 0) by simp))
  clear ty0 Ft0 Ft1 Ft2 Ft3 Ft4 Ft5
  go_wp2_with fail
  all_goals
    refine bodyPost_ret (v := .tuple #[.agg #[.int .i64 0, .int .i64 0, .slice none 0 0, .slice none 0 0, .slice none 0 0, .int .i64 0], .bool false]) (by simp [results, Tryz.results33, go_sem, F0.out, F1.out, F2.out, F3.out, F4.out, F5.out]) rfl ⟨repS0, rfl, ?_, ?_, ?_⟩
    · repeat' (first | with_reducible exact (HM.out.ext X2.out) | with_reducible refine MasAt.set_far ?_ (fun h => by have := HLT.out _ h; simp only at this; omega) _)
    · repeat' (first | with_reducible exact (Only.of_ext X2.out) | with_reducible refine Only.set_new ?_ (by simp only; omega) _)
    · exact rep0_ow _ _
/-- What the master's own row and the answer's bytes give: the reply is read. -/
theorem mas_get (D : List UInt8) (w w2 : World) (p : Nat) (F : Nat → Prop) (d : MasD) (h : MasAt w p F d) (hx : Ext w w2) (A2 : Option Addr) (n2 c2 : Nat) (hD : Rd w2 A2 n2 (D.map cB)) (hc : n2 ≤ c2 ∧ c2 ≤ 9223372036854775807) (hn : n2 ≤ 140737488355328) :
    ∃ s : AskS, (w2.cell? ⟨p, 5, none⟩ = some (.int .i64 d.ask.code) ∧ w2.cell? ⟨p, 6, none⟩ = some (.int .i64 d.ask.addr) ∧ w2.cell? ⟨p, 7, none⟩ = some (.int .i64 d.ask.count) ∧ w2.cell? ⟨p, 8, none⟩ = some (.slice s.A1 s.n1 s.c1) ∧ w2.cell? ⟨p, 9, none⟩ = some (.slice s.A2 s.n2 s.c2) ∧ w2.cell? ⟨p, 10, none⟩ = some (.slice s.A3 s.n3 s.c3)) ∧
      Calls Tryz.prog 70 #[askV d.ask s, .slice A2 n2 c2] w2 (RetGR w2 (getR d.ask D)) := by
  obtain ⟨s, A9, n9, c9, h1, h2, -, -, -, h6⟩ := h
  unfold masRow at h1
  obtain ⟨-, -, -, -, -, k5, k6, k7, k8, k9, k10, -⟩ := cells12 (hx.block h1)
  exact ⟨s, ⟨k5, k6, k7, k8, k9, k10⟩, replyGet_any d.ask D s A2 n2 c2 w2 (h2 w2 ⟨hx.size, fun k hk => Below.block hx k (h6 k hk.1)⟩).1 hD hc hn⟩
theorem mas_hear_err (b : List UInt8) (A : Option Addr) (n c : Nat) (w : World) (p : Nat) (F : Nat → Prop) (d : MasD) (h : MasAt w p F d) (hok : MasOk d) (hb : Rd w A n (b.map cB)) (hc : n ≤ c ∧ c ≤ 9223372036854775807) (hn : n ≤ 140737488355328) (hu : d.under = true) (U : UInt8) (D : List UInt8) (hR : openRtuF b = (U, D, 0)) (hU : U.toNat = d.unit) (he : (getR d.ask D).2 ≠ 0) :
    Calls Tryz.prog 33 #[pM p, .slice A n c] w (RetHear MasAt w p F d out0 false) := by
  have HM := Lib.hid h
  have HBZ := Lib.hid (fun W (hX : Ext w W) => mas_busy p F d W (h.ext hX) hok)
  have HOR := Lib.hid (fun W (hX : Ext w W) => openRtu_any b A n c W (hb.ext hX) hc.1)
  have HLT := Lib.hid h.lt
  have HFP := Lib.hid h.foot
  rw [hu] at HBZ
  have hDl : (openRtuF b).2.1.length ≤ b.length := openRtuF_lenH b
  rw [hR] at HOR hDl
  have hbl := hb.length
  have HC4 := Lib.hid (fun W (hX : Ext w W) => (show W.cell? ⟨p, 4, none⟩ = some (.int .i64 (d.unit : Int)) from by
    obtain ⟨s, A9, n9, c9, h1, -⟩ := HM.out
    unfold masRow at h1
    exact (cells12 (hX.block h1)).2.2.2.2.1))
  have hwU : IntKind.i64.wrap (U.toNat : Int) = (U.toNat : Int) := IntWalk.i64_in _ (by have := U.toNat_lt; omega)
  have t3 : ((U.toNat : Int) != (d.unit : Int)) = false := by simp; omega
  have t5 : ((getR d.ask D).2 != 0) = true := by simp [he]
  have hDn : D.length ≤ 140737488355328 := Nat.le_trans hDl (by omega)
  clear h hok hb hc hn hu hR hU hDl hbl he
  unfold pM at HBZ ⊢
  go_enter Tryz.func33, Tryz.ntmps33
  go_wp2_with fail
  refine (HBZ.out _ (Ext.alloc _ _)).mono ?_
  rintro e1 v_ ⟨rfl, rfl⟩
  have HZ1 := Lib.hid (heap_alloc_new w (.cells #[.int .i64 0, .int .i64 0, .slice none 0 0, .slice none 0 0, .slice none 0 0, .int .i64 0] 59))
  have X1 := Lib.hid (Ext.alloc w (.cells #[.int .i64 0, .int .i64 0, .slice none 0 0, .slice none 0 0, .slice none 0 0, .int .i64 0] 59))
  clear HBZ
  generalize w.alloc (.cells #[.int .i64 0, .int .i64 0, .slice none 0 0, .slice none 0 0, .slice none 0 0, .int .i64 0] 59) = w1 at *
  go_wp2_with fail
  refine (HOR.out _ X1.out).mono ?_
  rintro e2 w2 ⟨A2, n2, c2, rfl, ho2, hx2⟩
  have X2 := Lib.hid (X1.out.trans (Ext.of hx2))
  have HZ2 := Lib.hid ((Ext.of hx2).block HZ1.out)
  have HO2 := Lib.hid ho2
  clear ho2 hx2 HOR HZ1 X1
  have x4 := HC4.out _ X2.out
  obtain ⟨s, ⟨x5, x6, x7, x8, x9, x10⟩, hg⟩ := mas_get D w w2 p F d HM.out X2.out A2 n2 c2 HO2.out.rd ⟨HO2.out.cap, HO2.out.capLe⟩ (by have := HO2.out.len; simp only [List.length_map] at this; omega)
  have HG := Lib.hid hg
  clear hg
  generalize getR d.ask D = gr at *
  obtain ⟨rr, ge⟩ := gr
  obtain ⟨exc, ron, rset, rfiles⟩ := rr
  unfold askV at HG
  go_wp2_with fail
  refine HG.out.mono ?_
  rintro e3 w3 ⟨⟨B1, m1, k1, B2, m2, k2, B3, m3, k3⟩, rfl, ht, hx3⟩
  have HT3 := Lib.hid ht
  have X3 := Lib.hid (X2.out.trans hx3)
  have HZ3 := Lib.hid (hx3.block HZ2.out)
  have hlt3 := lt_of_heap HZ3.out
  have hlt2 := lt_of_heap HZ2.out
  clear ht hx3 HG HZ2 x4 x5 x6 x7 x8 x9 x10
  simp only [repV]
  obtain ⟨v0, v1, v2, v3, v4, v5⟩ := cells6 HZ3.out
  have y0 := frozen_of_row _ _ 0 _ _ HZ3.out
  have y1 := frozen_of_row _ _ 1 _ _ HZ3.out
  have y2 := frozen_of_row _ _ 2 _ _ HZ3.out
  have y3 := frozen_of_row _ _ 3 _ _ HZ3.out
  have y4 := frozen_of_row _ _ 4 _ _ HZ3.out
  have y5 := frozen_of_row _ _ 5 _ _ HZ3.out
  have hs6 : ((((((w3.setCell ⟨w.heap.size, 0, none⟩ (.int .i64 0)).setCell ⟨w.heap.size, 1, none⟩ (.int .i64 0)).setCell ⟨w.heap.size, 2, none⟩ (.slice none 0 0)).setCell ⟨w.heap.size, 3, none⟩ (.slice none 0 0)).setCell ⟨w.heap.size, 4, none⟩ (.slice none 0 0)).setCell ⟨w.heap.size, 5, none⟩ (.int .i64 0)).heap[w.heap.size]? = some (.cells #[.int .i64 0, .int .i64 0, .slice none 0 0, .slice none 0 0, .slice none 0 0, .int .i64 0] 59 (0, 0)) := by
    have st0 := heap_setCell_same _ w.heap.size 0 _ _ (.int .i64 0) HZ3.out
    have st1 := heap_setCell_same _ w.heap.size 1 _ _ (.int .i64 0) st0
    have st2 := heap_setCell_same _ w.heap.size 2 _ _ (.slice none 0 0) st1
    have st3 := heap_setCell_same _ w.heap.size 3 _ _ (.slice none 0 0) st2
    have st4 := heap_setCell_same _ w.heap.size 4 _ _ (.slice none 0 0) st3
    have st5 := heap_setCell_same _ w.heap.size 5 _ _ (.int .i64 0) st4
    exact st5.trans (by simp)
  have G6 := fun o => cells6 ((Ext.alloc _ o).block hs6)
  have F0 := Lib.hid (fun o => (G6 o).1)
  have F1 := Lib.hid (fun o => (G6 o).2.1)
  have F2 := Lib.hid (fun o => (G6 o).2.2.1)
  have F3 := Lib.hid (fun o => (G6 o).2.2.2.1)
  have F4 := Lib.hid (fun o => (G6 o).2.2.2.2.1)
  have F5 := Lib.hid (fun o => (G6 o).2.2.2.2.2)
  clear G6 hs6
  go_wp2_with fail
  all_goals
    refine bodyPost_ret (v := .tuple #[.agg #[.int .i64 0, .int .i64 0, .slice none 0 0, .slice none 0 0, .slice none 0 0, .int .i64 0], .bool false]) (by simp [results, Tryz.results33, go_sem, F0.out, F1.out, F2.out, F3.out, F4.out, F5.out]) rfl ⟨repS0, rfl, ?_, ?_, ?_⟩
    · refine MasAt.ext ?_ (Ext.alloc _ _)
      repeat' (first | with_reducible exact (HM.out.ext X3.out) | with_reducible refine MasAt.set_far ?_ (fun h => by have := HLT.out _ h; simp only at this; omega) _)
    · refine Only.trans ?_ (Only.of_ext (F := F) (Ext.alloc _ _)) (fun _ _ q => q)
      repeat' (first | with_reducible exact (Only.of_ext X3.out) | with_reducible refine Only.set_new ?_ (by simp only; omega) _)
    · exact rep0_ow _ _
theorem mas_hear_exc (b : List UInt8) (A : Option Addr) (n c : Nat) (w : World) (p : Nat) (F : Nat → Prop) (d : MasD) (h : MasAt w p F d) (hok : MasOk d) (hb : Rd w A n (b.map cB)) (hc : n ≤ c ∧ c ≤ 9223372036854775807) (hn : n ≤ 140737488355328) (hu : d.under = true) (U : UInt8) (D : List UInt8) (hR : openRtuF b = (U, D, 0)) (hU : U.toNat = d.unit) (he : (getR d.ask D).2 = 0) (hx0 : (getR d.ask D).1.exc ≠ 0) :
    Calls Tryz.prog 33 #[pM p, .slice A n c] w (RetHear MasAt w p F { d with under := false } ⟨2, (getR d.ask D).1, d.tries⟩ true) := by
  have HM := Lib.hid h
  have HBZ := Lib.hid (fun W (hX : Ext w W) => mas_busy p F d W (h.ext hX) hok)
  have HOR := Lib.hid (fun W (hX : Ext w W) => openRtu_any b A n c W (hb.ext hX) hc.1)
  have HLT := Lib.hid h.lt
  have HFP := Lib.hid h.foot
  rw [hu] at HBZ
  have hDl : (openRtuF b).2.1.length ≤ b.length := openRtuF_lenH b
  rw [hR] at HOR hDl
  have hbl := hb.length
  have HC4 := Lib.hid (fun W (hX : Ext w W) => (show W.cell? ⟨p, 4, none⟩ = some (.int .i64 (d.unit : Int)) from by
    obtain ⟨s, A9, n9, c9, h1, -⟩ := HM.out
    unfold masRow at h1
    exact (cells12 (hX.block h1)).2.2.2.2.1))
  have hwU : IntKind.i64.wrap (U.toNat : Int) = (U.toNat : Int) := IntWalk.i64_in _ (by have := U.toNat_lt; omega)
  have t3 : ((U.toNat : Int) != (d.unit : Int)) = false := by simp; omega
  have t6 : ((getR d.ask D).1.exc != 0) = true := by simp [hx0]
  have HE := Lib.hid (fun r t W V (hX : Ext w W) (hV : Ext W V) (hMV : MasAt V p F d) => mas_end 2 r t V p F d hMV hu)
  have hDn : D.length ≤ 140737488355328 := Nat.le_trans hDl (by omega)
  clear h hok hb hc hn hu hR hU hDl hbl hx0
  unfold pM at HBZ ⊢
  go_enter Tryz.func33, Tryz.ntmps33
  go_wp2_with fail
  refine (HBZ.out _ (Ext.alloc _ _)).mono ?_
  rintro e1 v_ ⟨rfl, rfl⟩
  have HZ1 := Lib.hid (heap_alloc_new w (.cells #[.int .i64 0, .int .i64 0, .slice none 0 0, .slice none 0 0, .slice none 0 0, .int .i64 0] 59))
  have X1 := Lib.hid (Ext.alloc w (.cells #[.int .i64 0, .int .i64 0, .slice none 0 0, .slice none 0 0, .slice none 0 0, .int .i64 0] 59))
  clear HBZ
  generalize w.alloc (.cells #[.int .i64 0, .int .i64 0, .slice none 0 0, .slice none 0 0, .slice none 0 0, .int .i64 0] 59) = w1 at *
  go_wp2_with fail
  refine (HOR.out _ X1.out).mono ?_
  rintro e2 w2 ⟨A2, n2, c2, rfl, ho2, hx2⟩
  have X2 := Lib.hid (X1.out.trans (Ext.of hx2))
  have HZ2 := Lib.hid ((Ext.of hx2).block HZ1.out)
  have HO2 := Lib.hid ho2
  clear ho2 hx2 HOR HZ1 X1
  have x4 := HC4.out _ X2.out
  obtain ⟨s, ⟨x5, x6, x7, x8, x9, x10⟩, hg⟩ := mas_get D w w2 p F d HM.out X2.out A2 n2 c2 HO2.out.rd ⟨HO2.out.cap, HO2.out.capLe⟩ (by have := HO2.out.len; simp only [List.length_map] at this; omega)
  have HG := Lib.hid hg
  clear hg
  generalize getR d.ask D = gr at *
  obtain ⟨rr, ge⟩ := gr
  obtain ⟨exc, ron, rset, rfiles⟩ := rr
  obtain rfl : ge = 0 := he
  unfold askV at HG
  go_wp2_with fail
  refine HG.out.mono ?_
  rintro e3 w3 ⟨⟨B1, m1, k1, B2, m2, k2, B3, m3, k3⟩, rfl, ht, hx3⟩
  have HT3 := Lib.hid ht
  have X3 := Lib.hid (X2.out.trans hx3)
  have HZ3 := Lib.hid (hx3.block HZ2.out)
  have hlt3 := lt_of_heap HZ3.out
  have hlt2 := lt_of_heap HZ2.out
  clear ht hx3 HG HZ2 x4 x5 x6 x7 x8 x9 x10
  simp only [repV]
  have HB3 := Lib.hid (heap_alloc_new w3 (.cells #[.int .i64 exc, .slice B1 m1 k1, .slice B2 m2 k2, .slice B3 m3 k3] 40))
  obtain ⟨b0, b1, b2, b3⟩ := cells4 HB3.out
  have B0 := Lib.hid b0
  go_wp2_with fail
  have HEE := Lib.hid (HE.out ⟨exc, ron, rset, rfiles⟩ ⟨B1, m1, k1, B2, m2, k2, B3, m3, k3⟩ w _ (Ext.refl w) (X3.out.trans (Ext.alloc w3 (.cells #[.int .i64 exc, .slice B1 m1 k1, .slice B2 m2 k2, .slice B3 m3 k3] 40))) (HM.out.ext (X3.out.trans (Ext.alloc w3 (.cells #[.int .i64 exc, .slice B1 m1 k1, .slice B2 m2 k2, .slice B3 m3 k3] 40)))))
  simp only [repV, pM] at HEE
  refine HEE.out.mono ?_
  rintro e5 w5 ⟨rfl, hm, ho⟩
  have HMA := Lib.hid hm
  have HOO : Hid (Only F w w5) := (Only.of_ext (F := F) (X3.out.trans (Ext.alloc w3 (.cells #[.int .i64 exc, .slice B1 m1 k1, .slice B2 m2 k2, .slice B3 m3 k3] 40)))).trans ho (fun _ _ q => q)
  have hsz3 : w3.heap.size ≤ (w3.alloc (.cells #[.int .i64 exc, .slice B1 m1 k1, .slice B2 m2 k2, .slice B3 m3 k3] 40)).heap.size := by simp
  have HT5 : Hid (RepOw w5 w2.heap.size ⟨exc, ron, rset, rfiles⟩ ⟨B1, m1, k1, B2, m2, k2, B3, m3, k3⟩) := HT3.out.agr fun k hk1 hk2 => (ho.block k (by omega) (fun hf => by have := HLT.out k hf; omega)).trans (Below.block (Ext.alloc w3 (.cells #[.int .i64 exc, .slice B1 m1 k1, .slice B2 m2 k2, .slice B3 m3 k3] 40)) k hk2)
  have HZ5 := Lib.hid ((ho.block w.heap.size (by omega) (fun hf => by have := HLT.out _ hf; omega)).trans ((Ext.alloc w3 (.cells #[.int .i64 exc, .slice B1 m1 k1, .slice B2 m2 k2, .slice B3 m3 k3] 40)).block HZ3.out))
  clear hm ho HEE HE HT3 HZ3 HB3 B0 b0 b1 b2 b3
  simp only [outV, repV]
  obtain ⟨v0, v1, v2, v3, v4, v5⟩ := cells6 HZ5.out
  have y0 := frozen_of_row _ _ 0 _ _ HZ5.out
  have y1 := frozen_of_row _ _ 1 _ _ HZ5.out
  have y2 := frozen_of_row _ _ 2 _ _ HZ5.out
  have y3 := frozen_of_row _ _ 3 _ _ HZ5.out
  have y4 := frozen_of_row _ _ 4 _ _ HZ5.out
  have y5 := frozen_of_row _ _ 5 _ _ HZ5.out
  have ty0 := frozen_of_row _ _ 0 _ _ HZ5.out
  have Ft0 := heap_setCell_same _ w.heap.size 0 _ _ (.int .i64 2) HZ5.out
  have Ft1 := heap_setCell_same _ w.heap.size 1 _ _ (.int .i64 exc) Ft0
  have Ft2 := heap_setCell_same _ w.heap.size 2 _ _ (.slice B1 m1 k1) Ft1
  have Ft3 := heap_setCell_same _ w.heap.size 3 _ _ (.slice B2 m2 k2) Ft2
  have Ft4 := heap_setCell_same _ w.heap.size 4 _ _ (.slice B3 m3 k3) Ft3
  have Ft5 := heap_setCell_same _ w.heap.size 5 _ _ (.int .i64 (d.tries : Int)) Ft4
  have F0 := Lib.hid ((cell_of_row _ _ 0 _ _ _ Ft0).trans (show _ = some (.int .i64 2) by simp))
  have F1 := Lib.hid ((cell_of_row _ _ 1 _ _ _ Ft1).trans (show _ = some (.int .i64 exc) by simp))
  have F2 := Lib.hid ((cell_of_row _ _ 2 _ _ _ Ft2).trans (show _ = some (.slice B1 m1 k1) by simp))
  have F3 := Lib.hid ((cell_of_row _ _ 3 _ _ _ Ft3).trans (show _ = some (.slice B2 m2 k2) by simp))
  have F4 := Lib.hid ((cell_of_row _ _ 4 _ _ _ Ft4).trans (show _ = some (.slice B3 m3 k3) by simp))
  have F5 := Lib.hid ((cell_of_row _ _ 5 _ _ _ Ft5).trans (show _ = some (.int .i64 (d.tries : Int)) by simp))
  clear ty0 Ft0 Ft1 Ft2 Ft3 Ft4 Ft5
  go_wp2_with fail
  all_goals
    refine bodyPost_ret (v := .tuple #[.agg #[.int .i64 2, .int .i64 exc, .slice B1 m1 k1, .slice B2 m2 k2, .slice B3 m3 k3, .int .i64 (d.tries : Int)], .bool true]) (by simp [results, Tryz.results33, go_sem, F0.out, F1.out, F2.out, F3.out, F4.out, F5.out]) rfl ⟨⟨B1, m1, k1, B2, m2, k2, B3, m3, k3⟩, rfl, ?_, ?_, ?_⟩
    · repeat' (first | with_reducible exact HMA.out | with_reducible refine MasAt.set_far ?_ (fun h => by have := HLT.out _ h; simp only at this; omega) _)
    · repeat' (first | with_reducible exact HOO.out | with_reducible refine Only.set_new ?_ (by simp only; omega) _)
    · refine RepOw.mono ?_ (Nat.le_of_lt hlt2)
      repeat' (first | with_reducible exact HT5.out | with_reducible refine RepOw.set_below ?_ (by simp only; omega) _)
theorem mas_hear_ans (b : List UInt8) (A : Option Addr) (n c : Nat) (w : World) (p : Nat) (F : Nat → Prop) (d : MasD) (h : MasAt w p F d) (hok : MasOk d) (hb : Rd w A n (b.map cB)) (hc : n ≤ c ∧ c ≤ 9223372036854775807) (hn : n ≤ 140737488355328) (hu : d.under = true) (U : UInt8) (D : List UInt8) (hR : openRtuF b = (U, D, 0)) (hU : U.toNat = d.unit) (he : (getR d.ask D).2 = 0) (hx0 : (getR d.ask D).1.exc = 0) :
    Calls Tryz.prog 33 #[pM p, .slice A n c] w (RetHear MasAt w p F { d with under := false } ⟨1, (getR d.ask D).1, d.tries⟩ true) := by
  have HM := Lib.hid h
  have HBZ := Lib.hid (fun W (hX : Ext w W) => mas_busy p F d W (h.ext hX) hok)
  have HOR := Lib.hid (fun W (hX : Ext w W) => openRtu_any b A n c W (hb.ext hX) hc.1)
  have HLT := Lib.hid h.lt
  have HFP := Lib.hid h.foot
  rw [hu] at HBZ
  have hDl : (openRtuF b).2.1.length ≤ b.length := openRtuF_lenH b
  rw [hR] at HOR hDl
  have hbl := hb.length
  have HC4 := Lib.hid (fun W (hX : Ext w W) => (show W.cell? ⟨p, 4, none⟩ = some (.int .i64 (d.unit : Int)) from by
    obtain ⟨s, A9, n9, c9, h1, -⟩ := HM.out
    unfold masRow at h1
    exact (cells12 (hX.block h1)).2.2.2.2.1))
  have hwU : IntKind.i64.wrap (U.toNat : Int) = (U.toNat : Int) := IntWalk.i64_in _ (by have := U.toNat_lt; omega)
  have t3 : ((U.toNat : Int) != (d.unit : Int)) = false := by simp; omega
  have t6 : ((getR d.ask D).1.exc != 0) = false := by simp [hx0]
  have HE := Lib.hid (fun r t W V (hX : Ext w W) (hV : Ext W V) (hMV : MasAt V p F d) => mas_end 1 r t V p F d hMV hu)
  have hDn : D.length ≤ 140737488355328 := Nat.le_trans hDl (by omega)
  clear h hok hb hc hn hu hR hU hDl hbl hx0
  unfold pM at HBZ ⊢
  go_enter Tryz.func33, Tryz.ntmps33
  go_wp2_with fail
  refine (HBZ.out _ (Ext.alloc _ _)).mono ?_
  rintro e1 v_ ⟨rfl, rfl⟩
  have HZ1 := Lib.hid (heap_alloc_new w (.cells #[.int .i64 0, .int .i64 0, .slice none 0 0, .slice none 0 0, .slice none 0 0, .int .i64 0] 59))
  have X1 := Lib.hid (Ext.alloc w (.cells #[.int .i64 0, .int .i64 0, .slice none 0 0, .slice none 0 0, .slice none 0 0, .int .i64 0] 59))
  clear HBZ
  generalize w.alloc (.cells #[.int .i64 0, .int .i64 0, .slice none 0 0, .slice none 0 0, .slice none 0 0, .int .i64 0] 59) = w1 at *
  go_wp2_with fail
  refine (HOR.out _ X1.out).mono ?_
  rintro e2 w2 ⟨A2, n2, c2, rfl, ho2, hx2⟩
  have X2 := Lib.hid (X1.out.trans (Ext.of hx2))
  have HZ2 := Lib.hid ((Ext.of hx2).block HZ1.out)
  have HO2 := Lib.hid ho2
  clear ho2 hx2 HOR HZ1 X1
  have x4 := HC4.out _ X2.out
  obtain ⟨s, ⟨x5, x6, x7, x8, x9, x10⟩, hg⟩ := mas_get D w w2 p F d HM.out X2.out A2 n2 c2 HO2.out.rd ⟨HO2.out.cap, HO2.out.capLe⟩ (by have := HO2.out.len; simp only [List.length_map] at this; omega)
  have HG := Lib.hid hg
  clear hg
  generalize getR d.ask D = gr at *
  obtain ⟨rr, ge⟩ := gr
  obtain ⟨exc, ron, rset, rfiles⟩ := rr
  obtain rfl : ge = 0 := he
  unfold askV at HG
  go_wp2_with fail
  refine HG.out.mono ?_
  rintro e3 w3 ⟨⟨B1, m1, k1, B2, m2, k2, B3, m3, k3⟩, rfl, ht, hx3⟩
  have HT3 := Lib.hid ht
  have X3 := Lib.hid (X2.out.trans hx3)
  have HZ3 := Lib.hid (hx3.block HZ2.out)
  have hlt3 := lt_of_heap HZ3.out
  have hlt2 := lt_of_heap HZ2.out
  clear ht hx3 HG HZ2 x4 x5 x6 x7 x8 x9 x10
  simp only [repV]
  have HB3 := Lib.hid (heap_alloc_new w3 (.cells #[.int .i64 exc, .slice B1 m1 k1, .slice B2 m2 k2, .slice B3 m3 k3] 40))
  obtain ⟨b0, b1, b2, b3⟩ := cells4 HB3.out
  have B0 := Lib.hid b0
  go_wp2_with fail
  have HEE := Lib.hid (HE.out ⟨exc, ron, rset, rfiles⟩ ⟨B1, m1, k1, B2, m2, k2, B3, m3, k3⟩ w _ (Ext.refl w) (X3.out.trans (Ext.alloc w3 (.cells #[.int .i64 exc, .slice B1 m1 k1, .slice B2 m2 k2, .slice B3 m3 k3] 40))) (HM.out.ext (X3.out.trans (Ext.alloc w3 (.cells #[.int .i64 exc, .slice B1 m1 k1, .slice B2 m2 k2, .slice B3 m3 k3] 40)))))
  simp only [repV, pM] at HEE
  refine HEE.out.mono ?_
  rintro e5 w5 ⟨rfl, hm, ho⟩
  have HMA := Lib.hid hm
  have HOO : Hid (Only F w w5) := (Only.of_ext (F := F) (X3.out.trans (Ext.alloc w3 (.cells #[.int .i64 exc, .slice B1 m1 k1, .slice B2 m2 k2, .slice B3 m3 k3] 40)))).trans ho (fun _ _ q => q)
  have hsz3 : w3.heap.size ≤ (w3.alloc (.cells #[.int .i64 exc, .slice B1 m1 k1, .slice B2 m2 k2, .slice B3 m3 k3] 40)).heap.size := by simp
  have HT5 : Hid (RepOw w5 w2.heap.size ⟨exc, ron, rset, rfiles⟩ ⟨B1, m1, k1, B2, m2, k2, B3, m3, k3⟩) := HT3.out.agr fun k hk1 hk2 => (ho.block k (by omega) (fun hf => by have := HLT.out k hf; omega)).trans (Below.block (Ext.alloc w3 (.cells #[.int .i64 exc, .slice B1 m1 k1, .slice B2 m2 k2, .slice B3 m3 k3] 40)) k hk2)
  have HZ5 := Lib.hid ((ho.block w.heap.size (by omega) (fun hf => by have := HLT.out _ hf; omega)).trans ((Ext.alloc w3 (.cells #[.int .i64 exc, .slice B1 m1 k1, .slice B2 m2 k2, .slice B3 m3 k3] 40)).block HZ3.out))
  clear hm ho HEE HE HT3 HZ3 HB3 B0 b0 b1 b2 b3
  simp only [outV, repV]
  obtain ⟨v0, v1, v2, v3, v4, v5⟩ := cells6 HZ5.out
  have y0 := frozen_of_row _ _ 0 _ _ HZ5.out
  have y1 := frozen_of_row _ _ 1 _ _ HZ5.out
  have y2 := frozen_of_row _ _ 2 _ _ HZ5.out
  have y3 := frozen_of_row _ _ 3 _ _ HZ5.out
  have y4 := frozen_of_row _ _ 4 _ _ HZ5.out
  have y5 := frozen_of_row _ _ 5 _ _ HZ5.out
  have ty0 := frozen_of_row _ _ 0 _ _ HZ5.out
  have Ft0 := heap_setCell_same _ w.heap.size 0 _ _ (.int .i64 1) HZ5.out
  have Ft1 := heap_setCell_same _ w.heap.size 1 _ _ (.int .i64 exc) Ft0
  have Ft2 := heap_setCell_same _ w.heap.size 2 _ _ (.slice B1 m1 k1) Ft1
  have Ft3 := heap_setCell_same _ w.heap.size 3 _ _ (.slice B2 m2 k2) Ft2
  have Ft4 := heap_setCell_same _ w.heap.size 4 _ _ (.slice B3 m3 k3) Ft3
  have Ft5 := heap_setCell_same _ w.heap.size 5 _ _ (.int .i64 (d.tries : Int)) Ft4
  have F0 := Lib.hid ((cell_of_row _ _ 0 _ _ _ Ft0).trans (show _ = some (.int .i64 1) by simp))
  have F1 := Lib.hid ((cell_of_row _ _ 1 _ _ _ Ft1).trans (show _ = some (.int .i64 exc) by simp))
  have F2 := Lib.hid ((cell_of_row _ _ 2 _ _ _ Ft2).trans (show _ = some (.slice B1 m1 k1) by simp))
  have F3 := Lib.hid ((cell_of_row _ _ 3 _ _ _ Ft3).trans (show _ = some (.slice B2 m2 k2) by simp))
  have F4 := Lib.hid ((cell_of_row _ _ 4 _ _ _ Ft4).trans (show _ = some (.slice B3 m3 k3) by simp))
  have F5 := Lib.hid ((cell_of_row _ _ 5 _ _ _ Ft5).trans (show _ = some (.int .i64 (d.tries : Int)) by simp))
  clear ty0 Ft0 Ft1 Ft2 Ft3 Ft4 Ft5
  go_wp2_with fail
  all_goals
    refine bodyPost_ret (v := .tuple #[.agg #[.int .i64 1, .int .i64 exc, .slice B1 m1 k1, .slice B2 m2 k2, .slice B3 m3 k3, .int .i64 (d.tries : Int)], .bool true]) (by simp [results, Tryz.results33, go_sem, F0.out, F1.out, F2.out, F3.out, F4.out, F5.out]) rfl ⟨⟨B1, m1, k1, B2, m2, k2, B3, m3, k3⟩, rfl, ?_, ?_, ?_⟩
    · repeat' (first | with_reducible exact HMA.out | with_reducible refine MasAt.set_far ?_ (fun h => by have := HLT.out _ h; simp only at this; omega) _)
    · repeat' (first | with_reducible exact HOO.out | with_reducible refine Only.set_new ?_ (by simp only; omega) _)
    · refine RepOw.mono ?_ (Nat.le_of_lt hlt2)
      repeat' (first | with_reducible exact HT5.out | with_reducible refine RepOw.set_below ?_ (by simp only; omega) _)
end Go.Proofs.YtomcipkmohhpjaaGreat

namespace Go.Proofs.YtomcipkmohhpjaaGreat
set_option linter.unusedVariables false
open Go Go.RowKit Go.Out

theorem mas_hear (b : List UInt8) (A : Option Addr) (n c : Nat) (w : World) (p : Nat) (F : Nat → Prop) (d : MasD) (h : MasAt w p F d) (hok : MasOk d) (hb : Rd w A n (b.map cB)) (hc : n ≤ c ∧ c ≤ 9223372036854775807) (hn : n ≤ 140737488355328) :
    Calls Tryz.prog 33 #[pM p, .slice A n c] w (RetHear MasAt w p F (hearM d b) (hearO d b) (hearsB d b)) := by
  have key : ∀ v, hearsB d b = v → Calls Tryz.prog 33 #[pM p, .slice A n c] w (RetHear MasAt w p F (if v = true then { d with under := false } else d) (if v = true then ⟨if (getR d.ask (openRtuF b).2.1).1.exc ≠ 0 then 2 else 1, (getR d.ask (openRtuF b).2.1).1, d.tries⟩ else out0) v) := by
    intro v hv
    unfold hearsB at hv
    obtain ⟨⟨U, D, E⟩, hR⟩ : ∃ x, openRtuF b = x := ⟨_, rfl⟩
    rw [hR] at hv ⊢
    simp only at hv ⊢
    cases hu : d.under with
    | false =>
      rw [hu] at hv; simp only [Bool.false_and] at hv; subst hv
      exact mas_hear_idle b A n c w p F d h hok hb hc hn hu
    | true =>
      rw [hu] at hv; simp only [Bool.true_and] at hv
      by_cases hE : E = 0
      · subst hE
        by_cases hU : U.toNat = d.unit
        · by_cases hg : (getR d.ask D).2 = 0
          · rw [decide_eq_true rfl, decide_eq_true hU, decide_eq_true hg] at hv
            simp only [Bool.and_self] at hv; subst hv
            by_cases hx : (getR d.ask D).1.exc = 0
            · have := mas_hear_ans b A n c w p F d h hok hb hc hn hu U D hR hU hg hx
              rw [if_pos rfl, if_pos rfl, if_neg (by simpa using hx)]
              exact this
            · have := mas_hear_exc b A n c w p F d h hok hb hc hn hu U D hR hU hg hx
              rw [if_pos rfl, if_pos rfl, if_pos hx]
              exact this
          · rw [decide_eq_false hg, Bool.and_false] at hv; subst hv
            exact mas_hear_err b A n c w p F d h hok hb hc hn hu U D hR hU hg
        · rw [decide_eq_false hU, Bool.and_false, Bool.false_and] at hv; subst hv
          exact mas_hear_unit b A n c w p F d h hok hb hc hn hu U D hR hU
      · rw [decide_eq_false hE, Bool.false_and, Bool.false_and] at hv; subst hv
        exact mas_hear_bad b A n c w p F d h hok hb hc hn hu U D E hR hE
  unfold hearM hearO
  exact key _ rfl
end Go.Proofs.YtomcipkmohhpjaaGreat

namespace Go.Proofs.YtomcipkmohhpjaaGreat
set_option linter.unusedVariables false
set_option linter.unusedSimpArgs false
set_option maxRecDepth 100000
set_option maxHeartbeats 1000000
open Go Go.RowKit Go.Out

/-- What Tick hands back. -/
def RetTick (At : World → Nat → (Nat → Prop) → MasD → Prop) (w : World) (p : Nat) (F : Nat → Prop) (d' : MasD) (out : List UInt8) (o : OutD) (ok : Bool) (e : Ending) (w' : World) : Prop :=
  ∃ A n c, e = .returned (.tuple #[.slice A n c, outV o repS0, .bool ok]) ∧ At w' p F d' ∧ Only F w w' ∧ Own w' w.heap.size 5 IsU8 A n c (out.map cB)
theorem mas_silent (now : Int) (w : World) (p : Nat) (F : Nat → Prop) (d : MasD) (h : MasAt w p F d) (hu : d.under = true) :
    Calls Tryz.prog 41 #[pM p, .int .i64 now] w (RetTick MasAt w p F { d with under := false } [] ⟨3, rep0, d.tries⟩ true) := by
  have HE := Lib.hid (fun W (hX : Ext w W) => mas_end 3 rep0 repS0 W p F d (h.ext hX) hu)
  have HLT := Lib.hid h.lt
  clear h hu
  simp only [repV, rep0, repS0, outV] at HE
  unfold pM at HE ⊢
  go_enter Tryz.func41, Tryz.ntmps41
  go_wp2_with fail
  refine (HE.out _ (Ext.alloc _ _)).mono ?_
  rintro e1 w1 ⟨rfl, hm, ho⟩
  have HZ1 := Lib.hid ((ho.block w.heap.size (by simp) (fun hf => by have := HLT.out _ hf; omega)).trans (heap_alloc_new w (.cells #[.int .i64 0, .int .i64 0, .slice none 0 0, .slice none 0 0, .slice none 0 0, .int .i64 0] 59)))
  have HM1 := Lib.hid (hm.ext (Ext.alloc w1 (.cells #[.int .i64 3, .int .i64 0, .slice none 0 0, .slice none 0 0, .slice none 0 0, .int .i64 (d.tries : Int)] 59)))
  have HO1 := Lib.hid (((Only.of_ext (F := F) (Ext.alloc w (.cells #[.int .i64 0, .int .i64 0, .slice none 0 0, .slice none 0 0, .slice none 0 0, .int .i64 0] 59))).trans ho (fun _ _ q => q)).trans (Only.of_ext (F := F) (Ext.alloc w1 (.cells #[.int .i64 3, .int .i64 0, .slice none 0 0, .slice none 0 0, .slice none 0 0, .int .i64 (d.tries : Int)] 59))) (fun _ _ q => q))
  have HZ2 := Lib.hid ((Ext.alloc w1 (.cells #[.int .i64 3, .int .i64 0, .slice none 0 0, .slice none 0 0, .slice none 0 0, .int .i64 (d.tries : Int)] 59)).block HZ1.out)
  have HB2 := Lib.hid (heap_alloc_new w1 (.cells #[.int .i64 3, .int .i64 0, .slice none 0 0, .slice none 0 0, .slice none 0 0, .int .i64 (d.tries : Int)] 59))
  have hlt1 : w.heap.size < w1.heap.size := lt_of_heap HZ1.out
  clear hm ho HE HZ1
  go_wp2_with fail
  generalize w1.alloc (.cells #[.int .i64 3, .int .i64 0, .slice none 0 0, .slice none 0 0, .slice none 0 0, .int .i64 (d.tries : Int)] 59) = w2 at *
  obtain ⟨g2, hg2⟩ : ∃ g, w1.heap.size = g := ⟨_, rfl⟩
  rw [hg2] at HB2 hlt1
  try simp only [hg2]
  clear hg2
  obtain ⟨u0, u1, u2, u3, u4, u5⟩ := cells6 HB2.out
  obtain ⟨v0, v1, v2, v3, v4, v5⟩ := cells6 HZ2.out
  have y0 := frozen_of_row _ _ 0 _ _ HZ2.out
  have y1 := frozen_of_row _ _ 1 _ _ HZ2.out
  have y2 := frozen_of_row _ _ 2 _ _ HZ2.out
  have y3 := frozen_of_row _ _ 3 _ _ HZ2.out
  have y4 := frozen_of_row _ _ 4 _ _ HZ2.out
  have y5 := frozen_of_row _ _ 5 _ _ HZ2.out
  have ty0 := frozen_of_row _ _ 0 _ _ HZ2.out
  have Ft0 := heap_setCell_same _ w.heap.size 0 _ _ (.int .i64 3) HZ2.out
  have Ft1 := heap_setCell_same _ w.heap.size 1 _ _ (.int .i64 0) Ft0
  have Ft2 := heap_setCell_same _ w.heap.size 2 _ _ (.slice none 0 0) Ft1
  have Ft3 := heap_setCell_same _ w.heap.size 3 _ _ (.slice none 0 0) Ft2
  have Ft4 := heap_setCell_same _ w.heap.size 4 _ _ (.slice none 0 0) Ft3
  have Ft5 := heap_setCell_same _ w.heap.size 5 _ _ (.int .i64 (d.tries : Int)) Ft4
  have F0 := Lib.hid ((cell_of_row _ _ 0 _ _ _ Ft0).trans (show _ = some (.int .i64 3) by simp))
  have F1 := Lib.hid ((cell_of_row _ _ 1 _ _ _ Ft1).trans (show _ = some (.int .i64 0) by simp))
  have F2 := Lib.hid ((cell_of_row _ _ 2 _ _ _ Ft2).trans (show _ = some (.slice none 0 0) by simp))
  have F3 := Lib.hid ((cell_of_row _ _ 3 _ _ _ Ft3).trans (show _ = some (.slice none 0 0) by simp))
  have F4 := Lib.hid ((cell_of_row _ _ 4 _ _ _ Ft4).trans (show _ = some (.slice none 0 0) by simp))
  have F5 := Lib.hid ((cell_of_row _ _ 5 _ _ _ Ft5).trans (show _ = some (.int .i64 (d.tries : Int)) by simp))
  clear ty0 Ft0 Ft1 Ft2 Ft3 Ft4 Ft5
  go_region_law (fail)
  all_goals
    go_wp2_with fail
    refine bodyPost_ret (v := .tuple #[.slice none 0 0, .agg #[.int .i64 3, .int .i64 0, .slice none 0 0, .slice none 0 0, .slice none 0 0, .int .i64 (d.tries : Int)], .bool true]) (by simp [results, Tryz.results41, go_sem, F0.out, F1.out, F2.out, F3.out, F4.out, F5.out]) rfl ⟨none, 0, 0, rfl, ?_, ?_, Own.nil_ _ _ _ _⟩
    · refine MasAt.ext ?_ (Ext.draw _)
      repeat' (first | with_reducible exact HM1.out | with_reducible refine MasAt.set_far ?_ (fun h => by have := HLT.out _ h; simp only at this; omega) _)
    · refine Only.drew' ?_
      repeat' (first | with_reducible exact HO1.out | with_reducible refine Only.set_new ?_ (by simp only; omega) _)
theorem mas_again (nw : Nat) (w : World) (p : Nat) (F : Nat → Prop) (d : MasD) (h : MasAt w p F d) (hok : MasOk d) (hu : d.under = true) :
    Calls Tryz.prog 40 #[pM p, .int .i64 (nw : Int)] w (RetTick MasAt w p F { d with tries := d.tries + 1, last := nw } d.frame out0 false) := by
  obtain ⟨s, A, n, c, h1, h2, h3, h4, h5, h6⟩ := h
  unfold masRow at h1
  have hb : busyN d = d.tries := by unfold busyN; rw [if_pos hu]
  rw [hb] at h1
  have HROW := Lib.hid h1
  have H2 := Lib.hid h2; have HFP := Lib.hid h5; have HLT := Lib.hid h6; have H3 := Lib.hid h3; have H4 := Lib.hid h4
  obtain ⟨T, hT⟩ : ∃ T, d.tries + 1 = T := ⟨_, rfl⟩
  have hw1 : IntKind.i64.wrap ((d.tries : Int) + 1) = (T : Int) := by rw [IntWalk.i64_in _ (by have := hok.tr; have := hok.r; omega)]; omega
  rw [hT]
  have HFL := Lib.hid hok.f
  have hpz := h6 p h5
  have Q := fun o => cells12 ((Ext.alloc w o).block h1)
  have Z2 := fun o => frozen_of_row (w.alloc o) p 2 _ _ ((Ext.alloc w o).block h1)
  have Q2 := fun o => (Q o).2.2.1
  have Q3 : ∀ v o, ((w.setCell ⟨p, 2, none⟩ v).alloc o).cell? ⟨p, 3, none⟩ = some (.int .i64 (d.last : Int)) := fun v o => (cell_of_row _ _ 3 _ _ _ ((Ext.alloc _ o).block (masRow_set (k := 2) v h1))).trans (by simp)
  have Z3' : ∀ v o, ((w.setCell ⟨p, 2, none⟩ v).alloc o).frozen? ⟨p, 3, none⟩ = false := fun v o => frozen_of_row _ p 3 _ _ ((Ext.alloc _ o).block (masRow_set (k := 2) v h1))
  have Q11 : ∀ v u o, (((w.setCell ⟨p, 2, none⟩ v).setCell ⟨p, 3, none⟩ u).alloc o).cell? ⟨p, 11, none⟩ = some (.slice A n c) := fun v u o => (cell_of_row _ _ 11 _ _ _ ((Ext.alloc _ o).block (masRow_set (k := 3) u (masRow_set (k := 2) v h1)))).trans (by simp)
  have HHU := Lib.hid hu
  clear h1 h2 h3 h4 h5 h6 hb hT hok hu Q
  unfold pM
  go_enter Tryz.func40, Tryz.ntmps40
  go_wp2_with fail
  have r1 := masRow_set (k := 2) (.int .i64 (T : Int)) HROW.out
  have r2 := masRow_set (k := 3) (.int .i64 (nw : Int)) r1
  have hfar := ((Far.refl F p w).set HFP.out 2 (.int .i64 (T : Int))).set HFP.out 3 (.int .i64 (nw : Int))
  have HR2 := Lib.hid ((Ext.alloc _ (.cells #[.int .i64 0, .int .i64 0, .slice none 0 0, .slice none 0 0, .slice none 0 0, .int .i64 0] 59)).block r2)
  have FAR : Hid (∀ k, k ≠ p → k < w.heap.size → (((w.setCell ⟨p, 2, none⟩ (.int .i64 (T : Int))).setCell ⟨p, 3, none⟩ (.int .i64 (nw : Int))).alloc (.cells #[.int .i64 0, .int .i64 0, .slice none 0 0, .slice none 0 0, .slice none 0 0, .int .i64 0] 59)).heap[k]? = w.heap[k]?) := fun k hk hlt => (Below.heap_alloc _ _ k (by rw [hfar.size]; exact hlt)).trans (hfar.far k hk)
  have SZ : Hid ((((w.setCell ⟨p, 2, none⟩ (.int .i64 (T : Int))).setCell ⟨p, 3, none⟩ (.int .i64 (nw : Int))).alloc (.cells #[.int .i64 0, .int .i64 0, .slice none 0 0, .slice none 0 0, .slice none 0 0, .int .i64 0] 59)).heap.size = w.heap.size + 1) := by unfold Hid; rw [← hfar.size]; simp
  have ON : Hid (Only F w (((w.setCell ⟨p, 2, none⟩ (.int .i64 (T : Int))).setCell ⟨p, 3, none⟩ (.int .i64 (nw : Int))).alloc (.cells #[.int .i64 0, .int .i64 0, .slice none 0 0, .slice none 0 0, .slice none 0 0, .int .i64 0] 59))) := hfar.only.trans (Only.of_ext (F := F) (Ext.alloc _ _)) (fun _ _ q => q)
  have HZ2 := Lib.hid (heap_at ((w.setCell ⟨p, 2, none⟩ (.int .i64 (T : Int))).setCell ⟨p, 3, none⟩ (.int .i64 (nw : Int))) (.cells #[.int .i64 0, .int .i64 0, .slice none 0 0, .slice none 0 0, .slice none 0 0, .int .i64 0] 59) w.heap.size hfar.size.symm)
  clear r1 r2 hfar Q2 Q3 Q11 Z2 Z3'
  generalize ((w.setCell ⟨p, 2, none⟩ (.int .i64 (T : Int))).setCell ⟨p, 3, none⟩ (.int .i64 (nw : Int))).alloc (.cells #[.int .i64 0, .int .i64 0, .slice none 0 0, .slice none 0 0, .slice none 0 0, .int .i64 0] 59) = w2 at *
  have hag : Agr (fun k => F k ∧ k ≠ p) w w2 := ⟨by rw [SZ.out]; omega, fun k hk => FAR.out k hk.2 (HLT.out k hk.1)⟩
  refine (sclone_any d.frame A n c w2 (H2.out w2 hag).2 (by have h1 := (H2.out w2 hag).2.length; have h2 := HFL.out; omega)).mono ?_
  rintro e8 w8 ⟨A8, n8, c8, rfl, ho8, hx8⟩
  have O8 := Lib.hid ho8; have X8 := Lib.hid hx8
  have HR8 := Lib.hid (hx8.block HR2.out)
  have HZ8 := Lib.hid (hx8.block HZ2.out)
  have HAG := Lib.hid hag
  clear ho8 hx8 hag HR2 HZ2
  obtain ⟨v0, v1, v2, v3, v4, v5⟩ := cells6 HZ8.out
  have y0 := frozen_of_row _ _ 0 _ _ HZ8.out
  have y1 := frozen_of_row _ _ 1 _ _ HZ8.out
  have y2 := frozen_of_row _ _ 2 _ _ HZ8.out
  have y3 := frozen_of_row _ _ 3 _ _ HZ8.out
  have y4 := frozen_of_row _ _ 4 _ _ HZ8.out
  have y5 := frozen_of_row _ _ 5 _ _ HZ8.out
  have ty0 := frozen_of_row _ _ 0 _ _ HZ8.out
  have Ft0 := heap_setCell_same _ w.heap.size 0 _ _ (.int .i64 0) HZ8.out
  have Ft1 := heap_setCell_same _ w.heap.size 1 _ _ (.int .i64 0) Ft0
  have Ft2 := heap_setCell_same _ w.heap.size 2 _ _ (.slice none 0 0) Ft1
  have Ft3 := heap_setCell_same _ w.heap.size 3 _ _ (.slice none 0 0) Ft2
  have Ft4 := heap_setCell_same _ w.heap.size 4 _ _ (.slice none 0 0) Ft3
  have Ft5 := heap_setCell_same _ w.heap.size 5 _ _ (.int .i64 0) Ft4
  have F0 := Lib.hid ((cell_of_row _ _ 0 _ _ _ Ft0).trans (show _ = some (.int .i64 0) by simp))
  have F1 := Lib.hid ((cell_of_row _ _ 1 _ _ _ Ft1).trans (show _ = some (.int .i64 0) by simp))
  have F2 := Lib.hid ((cell_of_row _ _ 2 _ _ _ Ft2).trans (show _ = some (.slice none 0 0) by simp))
  have F3 := Lib.hid ((cell_of_row _ _ 3 _ _ _ Ft3).trans (show _ = some (.slice none 0 0) by simp))
  have F4 := Lib.hid ((cell_of_row _ _ 4 _ _ _ Ft4).trans (show _ = some (.slice none 0 0) by simp))
  have F5 := Lib.hid ((cell_of_row _ _ 5 _ _ _ Ft5).trans (show _ = some (.int .i64 0) by simp))
  clear ty0 Ft0 Ft1 Ft2 Ft3 Ft4 Ft5
  go_wp2_with fail
  have hszw : w.heap.size + 1 = w2.heap.size := SZ.out.symm
  have hs8 := X8.out.size
  have HMA : Hid (MasAt w8 p F { d with tries := T, last := nw }) := by
    refine ⟨s, A, n, c, HR8.out.trans (by unfold masRow busyN; simp [HHU.out]), fun W hW => H2.out W (Agr.trans HAG.out (Agr.trans ⟨hs8, fun k hk => Below.block X8.out k (by have := HLT.out k hk.1; omega)⟩ hW)), H3.out, H4.out, HFP.out, fun k hk => by have := HLT.out k hk; omega⟩
  have HOO : Hid (Only F w w8) := ON.out.trans (Only.of_ext (F := F) X8.out) (fun _ _ q => q)
  have HA8 : Hid (Own w8 w.heap.size 5 IsU8 A8 n8 c8 (d.frame.map cB) ∧ ∀ g, blk A8 = some g → w2.heap.size ≤ g) := ⟨O8.out.mono (by omega), fun g hg => (O8.out.lt g hg).1⟩
  all_goals
    refine bodyPost_ret (v := .tuple #[.slice A8 n8 c8, .agg #[.int .i64 0, .int .i64 0, .slice none 0 0, .slice none 0 0, .slice none 0 0, .int .i64 0], .bool false]) (by simp [results, Tryz.results40, go_sem, F0.out, F1.out, F2.out, F3.out, F4.out, F5.out]) rfl ⟨A8, n8, c8, rfl, ?_, ?_, ?_⟩
    · repeat' (first | with_reducible exact HMA.out | with_reducible refine MasAt.set_far ?_ (fun h => by have := HLT.out _ h; simp only at this; omega) _)
    · repeat' (first | with_reducible exact HOO.out | with_reducible refine Only.set_new ?_ (by simp only; omega) _)
    · refine HA8.out.1.kept fun g hg => ?_
      have hg2 := HA8.out.2 g hg
      have hgne : g ≠ w.heap.size := by omega
      repeat' (first | (with_reducible refine (Below.heap_setCell _ _ _ _ hgne).trans ?_) | with_reducible rfl)
end Go.Proofs.YtomcipkmohhpjaaGreat
