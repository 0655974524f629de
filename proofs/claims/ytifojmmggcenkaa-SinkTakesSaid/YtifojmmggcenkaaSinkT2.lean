/- A sink's Take: what is no packet, a record that comes out of its turn, other packets; the document's sink alike. (gensink.py prints this.) -/
import Derived.Test.YtifojmmggcenkaaSinkT
import Derived.Test.YtifojmmggcenkaaPacG
import Derived.Test.YtifojmmggcenkaaPutR
namespace Go.Proofs.Ytifojmmggcenkaa
set_option linter.unusedVariables false
set_option linter.unusedSimpArgs false
set_option maxRecDepth 100000
set_option maxHeartbeats 1000000
open Go Go.RowKit Go.Out

theorem take_err (K : Int) (b : List UInt8) (A0 : Option Addr) (m c0 : Nat) (w : World) (p : Nat) (F : Nat → Prop) (rows : List (List UInt8)) (done : List PacD) (h : SinkAt w p F ⟨rows, done⟩) (hr : Rd w A0 m (b.map cB)) (hc : m ≤ c0) (hm : m ≤ 140737488355300) (hg : getP b = (pac0, K)) (hK : K ≠ 0) :
    Calls Try.prog 11 #[pS p, .slice A0 m c0] w (RetTake SinkAt w p F ⟨rows, done⟩ []) := by
  have HG := Lib.hid (pacGet_any b A0 m c0 w hr hc hm)
  rw [hg] at HG
  have HS := Lib.hid h
  have hk : (K != 0) = true := by simp [hK]
  clear hr hg h
  unfold pS
  go_enter Try.func11, Try.ntmps11
  go_wp2_with fail
  refine HG.out.mono ?_
  rintro e w1 ⟨A1, n1, c1, rfl, ho, hx⟩
  simp only [pacV, pac0]
  have X1 := Lib.hid hx
  clear ho hx HG
  go_wp2_with fail
  all_goals
    go_ret
    exact ⟨F, none, 0, 0, rfl, HS.out.ext (X1.out.trans (Ext.alloc _ _)), .of_ext (X1.out.trans (Ext.alloc _ _)), fun _ => .inl, Own.nil_ _ _ _ _, by simp [blk]⟩

theorem take_late (E S N : Nat) (l : List UInt8) (b : List UInt8) (A0 : Option Addr) (m c0 : Nat) (w : World) (p : Nat) (F : Nat → Prop) (rows : List (List UInt8)) (done : List PacD) (h : SinkAt w p F ⟨rows, done⟩) (hr : Rd w A0 m (b.map cB)) (hc : m ≤ c0) (hm : m ≤ 140737488355300) (hN : rows.length = N) (hz : N ≤ 1000000) (hE : E ≤ 1099511627776) (hSN : S ≠ N) (hg : getP b = (⟨1, (E : Int), (S : Int), 0, 0, l⟩, 0)) :
    Calls Try.prog 11 #[pS p, .slice A0 m c0] w (RetTake SinkAt w p F ⟨rows, done⟩ (putP (ackP E (N : Int))).1) := by
  have HG := Lib.hid (pacGet_any b A0 m c0 w hr hc hm)
  rw [hg] at HG
  have HP := Lib.hid (fun W => pacPut_any (ackP E (N : Int)) none 0 0 W (ack_rd E N hE (by omega) W))
  have HS := Lib.hid h
  obtain ⟨A, c, v, g, hrow, hrows, hd, hmap, hp, hgm, hlt⟩ := h
  simp only [hN] at hrow
  have HROW := Lib.hid hrow
  simp only [pacV] at HP
  have e1 : (ackP E (N : Int)).kind = 2 ∧ (ackP E (N : Int)).epoch = E ∧ (ackP E (N : Int)).seq = N ∧ (ackP E (N : Int)).id = 0 ∧ (ackP E (N : Int)).code = 0 := ⟨rfl, rfl, rfl, rfl, rfl⟩
  simp only [e1] at HP
  generalize putP (ackP E (N : Int)) = out at *
  have hne : ((S : Int) == (N : Int)) = false := by simp; omega
  have hne2 : (S == N) = false := by simp; omega
  clear hr hg hrow hrows hd hp hlt hN hz hE e1 hSN
  unfold pS
  go_enter Try.func11, Try.ntmps11
  go_wp2_with fail
  refine HG.out.mono ?_
  rintro e w1 ⟨A1, n1, c1, rfl, ho, hx⟩
  simp only [pacV]
  have HBD := Lib.hid ho.body
  have X1 := Lib.hid hx
  clear ho hx HG
  go_wp2_with fail
  have HB := Lib.hid (heap_alloc_new w1 (.cells #[.int .i64 1, .int .i64 (E : Int), .int .i64 (S : Int), .int .i64 0, .int .i64 0, .slice A1 n1 c1] 32))
  have X2 := Lib.hid (X1.out.trans (Ext.alloc w1 (.cells #[.int .i64 1, .int .i64 (E : Int), .int .i64 (S : Int), .int .i64 0, .int .i64 0, .slice A1 n1 c1] 32)))
  have HBD2 := Lib.hid (HBD.out.ext (Ext.alloc w1 (.cells #[.int .i64 1, .int .i64 (E : Int), .int .i64 (S : Int), .int .i64 0, .int .i64 0, .slice A1 n1 c1] 32)))
  generalize w1.alloc (.cells #[.int .i64 1, .int .i64 (E : Int), .int .i64 (S : Int), .int .i64 0, .int .i64 0, .slice A1 n1 c1] 32) = w2 at *
  obtain ⟨q, hq⟩ : ∃ q, w1.heap.size = q := ⟨_, rfl⟩
  have hqw : w.heap.size ≤ q := by rw [← hq]; exact X1.out.size
  simp only [hq] at HB ⊢
  have HQW := Lib.hid hqw
  clear hq hqw HBD X1
  obtain ⟨b0, b1, b2, b3, b4, b5⟩ := sixC HB.out
  have d0 : w2.cell? ⟨p, 0, none⟩ = some (.slice A N c) := (cell_of_row _ _ _ _ _ _ (X2.out.block HROW.out)).trans rfl
  go_quiet (fail)
  have HB3 := Lib.hid ((Ext.drewN' (Ext.refl w2) nq).block HB.out)
  have X3 := Lib.hid (X2.out.drewN' nq)
  clear b0 b1 b2 b3 b4 b5 d0 HB X2 HBD2
  generalize w2.drewN nq = w3 at *
  have b1 := (sixC HB3.out).2.1
  have d0 : w3.cell? ⟨p, 0, none⟩ = some (.slice A N c) := (cell_of_row _ _ _ _ _ _ (X3.out.block HROW.out)).trans rfl
  have HSS : Hid (∀ W, Ext w3 W → W.cell? ⟨q, 1, none⟩ = some (.int .i64 (E : Int)) ∧ W.cell? ⟨p, 0, none⟩ = some (.slice A N c)) := fun W hX => ⟨(sixC (hX.block HB3.out)).2.1, (cell_of_row _ _ _ _ _ _ ((X3.out.trans hX).block HROW.out)).trans rfl⟩
  go_wp2_with fail
  go_region_held3 (fun W => W.cell? ⟨q, 1, none⟩ = some (.int .i64 (E : Int)) ∧ W.cell? ⟨p, 0, none⟩ = some (.slice A N c)) (first | go_keep | exact HSS.out _ X8.out) ((first
    | (go_at_call 30
       with_reducible refine Calls.mono (HP.out _) ?_
       rintro e w8 ⟨A8, n8, c8, rfl, ho8, hx8⟩
       have X8 := Lib.hid ((Ext.draw w3).trans hx8)
       have O8 := Lib.hid ho8
       clear ho8 hx8)))
  go_wp2_with fail
  go_ret
  refine ⟨F, A8, n8, c8, rfl, HS.out.ext (X3.out.trans X8.out), .of_ext (X3.out.trans X8.out), fun _ => .inl, O8.out.mono X3.out.size, fun g' hg' hF' => ?_⟩
  have q1 := (O8.out.lt g' hg').1
  have q2 := HS.out.lt g' hF'
  have q3 : w3.drew.heap.size = w3.heap.size := rfl
  have q4 := X3.out.size
  omega

theorem take_other (kd : Nat) (ep sq id : Int) (l : List UInt8) (b : List UInt8) (A0 : Option Addr) (m c0 : Nat) (w : World) (p : Nat) (F : Nat → Prop) (rows : List (List UInt8)) (done : List PacD) (h : SinkAt w p F ⟨rows, done⟩) (hr : Rd w A0 m (b.map cB)) (hc : m ≤ c0) (hm : m ≤ 140737488355300) (hkd : kd = 2 ∨ kd = 3) (hg : getP b = (⟨(kd : Int), ep, sq, id, 0, l⟩, 0)) :
    Calls Try.prog 11 #[pS p, .slice A0 m c0] w (RetTake SinkAt w p F ⟨rows, done⟩ []) := by
  have HG := Lib.hid (pacGet_any b A0 m c0 w hr hc hm)
  rw [hg] at HG
  have HS := Lib.hid h
  clear hr hg h
  have f1 : ((kd : Int) == 1) = false := by simp; omega
  have f4 : ((kd : Int) == 4) = false := by simp; omega
  have g1 : (kd == 1) = false := by simp; omega
  have g4 : (kd == 4) = false := by simp; omega
  have g5 : ((kd : Int) != 1) = true := by simp; omega
  have g6 : (kd != 1) = true := by simp; omega
  clear hkd
  unfold pS
  go_enter Try.func11, Try.ntmps11
  go_wp2_with fail
  refine HG.out.mono ?_
  rintro e w1 ⟨A1, n1, c1, rfl, ho, hx⟩
  simp only [pacV]
  have X1 := Lib.hid hx
  clear ho hx HG
  go_wp2_with fail
  all_goals
    go_ret
    exact ⟨F, none, 0, 0, rfl, HS.out.ext (X1.out.trans (Ext.alloc _ _)), .of_ext (X1.out.trans (Ext.alloc _ _)), fun _ => .inl, Own.nil_ _ _ _ _, by simp [blk]⟩

theorem rtake_err (K : Int) (b : List UInt8) (A0 : Option Addr) (m c0 : Nat) (w : World) (p : Nat) (F : Nat → Prop) (rows : List (List UInt8)) (done : List PacD) (h : RefAt w p F ⟨rows, done⟩) (hr : Rd w A0 m (b.map cB)) (hc : m ≤ c0) (hm : m ≤ 140737488355300) (hg : getP b = (pac0, K)) (hK : K ≠ 0) :
    Calls Try.prog 20 #[pS p, .slice A0 m c0] w (RetTake RefAt w p F ⟨rows, done⟩ []) := by
  have HG := Lib.hid (rpacGet_any b A0 m c0 w hr hc hm)
  rw [hg] at HG
  have HS := Lib.hid h
  have hk : (K != 0) = true := by simp [hK]
  clear hr hg h
  unfold pS
  go_enter Try.func20, Try.ntmps20
  go_wp2_with fail
  refine HG.out.mono ?_
  rintro e w1 ⟨A1, n1, c1, rfl, ho, hx⟩
  simp only [pacV, pac0]
  have X1 := Lib.hid hx
  clear ho hx HG
  go_wp2_with fail
  all_goals
    go_ret
    exact ⟨F, none, 0, 0, rfl, HS.out.ext (X1.out.trans (Ext.alloc _ _)), .of_ext (X1.out.trans (Ext.alloc _ _)), fun _ => .inl, Own.nil_ _ _ _ _, by simp [blk]⟩

theorem rtake_late (E S N : Nat) (l : List UInt8) (b : List UInt8) (A0 : Option Addr) (m c0 : Nat) (w : World) (p : Nat) (F : Nat → Prop) (rows : List (List UInt8)) (done : List PacD) (h : RefAt w p F ⟨rows, done⟩) (hr : Rd w A0 m (b.map cB)) (hc : m ≤ c0) (hm : m ≤ 140737488355300) (hN : rows.length = N) (hz : N ≤ 1000000) (hE : E ≤ 1099511627776) (hSN : S ≠ N) (hg : getP b = (⟨1, (E : Int), (S : Int), 0, 0, l⟩, 0)) :
    Calls Try.prog 20 #[pS p, .slice A0 m c0] w (RetTake RefAt w p F ⟨rows, done⟩ (putP (ackP E (N : Int))).1) := by
  have HG := Lib.hid (rpacGet_any b A0 m c0 w hr hc hm)
  rw [hg] at HG
  have HP := Lib.hid (fun W => rpacPut_any (ackP E (N : Int)) none 0 0 W (ack_rd E N hE (by omega) W))
  have HS := Lib.hid h
  obtain ⟨A, c, v, hrow, hrows, hd, hp, hlt⟩ := h
  simp only [hN] at hrow
  have HROW := Lib.hid hrow
  simp only [pacV] at HP
  have e1 : (ackP E (N : Int)).kind = 2 ∧ (ackP E (N : Int)).epoch = E ∧ (ackP E (N : Int)).seq = N ∧ (ackP E (N : Int)).id = 0 ∧ (ackP E (N : Int)).code = 0 := ⟨rfl, rfl, rfl, rfl, rfl⟩
  simp only [e1] at HP
  generalize putP (ackP E (N : Int)) = out at *
  have hne : ((S : Int) == (N : Int)) = false := by simp; omega
  have hne2 : (S == N) = false := by simp; omega
  clear hr hg hrow hrows hd hp hlt hN hz hE e1 hSN
  unfold pS
  go_enter Try.func20, Try.ntmps20
  go_wp2_with fail
  refine HG.out.mono ?_
  rintro e w1 ⟨A1, n1, c1, rfl, ho, hx⟩
  simp only [pacV]
  have HBD := Lib.hid ho.body
  have X1 := Lib.hid hx
  clear ho hx HG
  go_wp2_with fail
  have HB := Lib.hid (heap_alloc_new w1 (.cells #[.int .i64 1, .int .i64 (E : Int), .int .i64 (S : Int), .int .i64 0, .int .i64 0, .slice A1 n1 c1] 32))
  have X2 := Lib.hid (X1.out.trans (Ext.alloc w1 (.cells #[.int .i64 1, .int .i64 (E : Int), .int .i64 (S : Int), .int .i64 0, .int .i64 0, .slice A1 n1 c1] 32)))
  have HBD2 := Lib.hid (HBD.out.ext (Ext.alloc w1 (.cells #[.int .i64 1, .int .i64 (E : Int), .int .i64 (S : Int), .int .i64 0, .int .i64 0, .slice A1 n1 c1] 32)))
  generalize w1.alloc (.cells #[.int .i64 1, .int .i64 (E : Int), .int .i64 (S : Int), .int .i64 0, .int .i64 0, .slice A1 n1 c1] 32) = w2 at *
  obtain ⟨q, hq⟩ : ∃ q, w1.heap.size = q := ⟨_, rfl⟩
  have hqw : w.heap.size ≤ q := by rw [← hq]; exact X1.out.size
  simp only [hq] at HB ⊢
  have HQW := Lib.hid hqw
  clear hq hqw HBD X1
  obtain ⟨b0, b1, b2, b3, b4, b5⟩ := sixC HB.out
  have d0 : w2.cell? ⟨p, 0, none⟩ = some (.slice A N c) := (cell_of_row _ _ _ _ _ _ (X2.out.block HROW.out)).trans rfl
  go_quiet (fail)
  have HB3 := Lib.hid ((Ext.drewN' (Ext.refl w2) nq).block HB.out)
  have X3 := Lib.hid (X2.out.drewN' nq)
  clear b0 b1 b2 b3 b4 b5 d0 HB X2 HBD2
  generalize w2.drewN nq = w3 at *
  have b1 := (sixC HB3.out).2.1
  have d0 : w3.cell? ⟨p, 0, none⟩ = some (.slice A N c) := (cell_of_row _ _ _ _ _ _ (X3.out.block HROW.out)).trans rfl
  have HSS : Hid (∀ W, Ext w3 W → W.cell? ⟨q, 1, none⟩ = some (.int .i64 (E : Int)) ∧ W.cell? ⟨p, 0, none⟩ = some (.slice A N c)) := fun W hX => ⟨(sixC (hX.block HB3.out)).2.1, (cell_of_row _ _ _ _ _ _ ((X3.out.trans hX).block HROW.out)).trans rfl⟩
  go_wp2_with fail
  go_region_held3 (fun W => W.cell? ⟨q, 1, none⟩ = some (.int .i64 (E : Int)) ∧ W.cell? ⟨p, 0, none⟩ = some (.slice A N c)) (first | go_keep | exact HSS.out _ X8.out) ((first
    | (go_at_call 32
       with_reducible refine Calls.mono (HP.out _) ?_
       rintro e w8 ⟨A8, n8, c8, rfl, ho8, hx8⟩
       have X8 := Lib.hid ((Ext.draw w3).trans hx8)
       have O8 := Lib.hid ho8
       clear ho8 hx8)))
  go_wp2_with fail
  go_ret
  refine ⟨F, A8, n8, c8, rfl, HS.out.ext (X3.out.trans X8.out), .of_ext (X3.out.trans X8.out), fun _ => .inl, O8.out.mono X3.out.size, fun g' hg' hF' => ?_⟩
  have q1 := (O8.out.lt g' hg').1
  have q2 := HS.out.lt g' hF'
  have q3 : w3.drew.heap.size = w3.heap.size := rfl
  have q4 := X3.out.size
  omega

theorem rtake_other (kd : Nat) (ep sq id : Int) (l : List UInt8) (b : List UInt8) (A0 : Option Addr) (m c0 : Nat) (w : World) (p : Nat) (F : Nat → Prop) (rows : List (List UInt8)) (done : List PacD) (h : RefAt w p F ⟨rows, done⟩) (hr : Rd w A0 m (b.map cB)) (hc : m ≤ c0) (hm : m ≤ 140737488355300) (hkd : kd = 2 ∨ kd = 3) (hg : getP b = (⟨(kd : Int), ep, sq, id, 0, l⟩, 0)) :
    Calls Try.prog 20 #[pS p, .slice A0 m c0] w (RetTake RefAt w p F ⟨rows, done⟩ []) := by
  have HG := Lib.hid (rpacGet_any b A0 m c0 w hr hc hm)
  rw [hg] at HG
  have HS := Lib.hid h
  clear hr hg h
  have f1 : ((kd : Int) == 1) = false := by simp; omega
  have f4 : ((kd : Int) == 4) = false := by simp; omega
  have g1 : (kd == 1) = false := by simp; omega
  have g4 : (kd == 4) = false := by simp; omega
  have g5 : ((kd : Int) != 1) = true := by simp; omega
  have g6 : (kd != 1) = true := by simp; omega
  clear hkd
  unfold pS
  go_enter Try.func20, Try.ntmps20
  go_wp2_with fail
  refine HG.out.mono ?_
  rintro e w1 ⟨A1, n1, c1, rfl, ho, hx⟩
  simp only [pacV]
  have X1 := Lib.hid hx
  clear ho hx HG
  go_wp2_with fail
  all_goals
    go_ret
    exact ⟨F, none, 0, 0, rfl, HS.out.ext (X1.out.trans (Ext.alloc _ _)), .of_ext (X1.out.trans (Ext.alloc _ _)), fun _ => .inl, Own.nil_ _ _ _ _, by simp [blk]⟩

end Go.Proofs.Ytifojmmggcenkaa
