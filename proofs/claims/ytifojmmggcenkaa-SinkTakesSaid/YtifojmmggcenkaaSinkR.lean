/- The document's sink: a record that comes next. (gensink3.py prints this.) -/
import Derived.Test.YtifojmmggcenkaaSinkT
import Derived.Test.YtifojmmggcenkaaPacG
import Derived.Test.YtifojmmggcenkaaPutR
namespace Go.Proofs.Ytifojmmggcenkaa
set_option linter.unusedVariables false
set_option linter.unusedSimpArgs false
set_option maxRecDepth 100000
set_option maxHeartbeats 1000000
open Go Go.RowKit Go.Out
/-- A record more: what append and the store have made of the sink. -/
theorem addRowR {V w6 : World} {p : Nat} {F : Nat → Prop} {rows : List (List UInt8)} {done : List PacD} {A : Option Addr} {c : Nat} {v : Value} {N M : Nat} {rs : List (Option Addr × Nat × Nat)} {A6 : Option Addr} {c6 : Nat} {A1 : Option Addr} {n1 c1 : Nat} {l : List UInt8}
    (hN : rows.length = N) (hM : N + 1 = M) (hrow : V.heap[p]? = some (.cells #[.slice A N c, v] 47 (0, 0)))
    (h1 : Own V 0 27 IsSl A N c (rs.map sl)) (h2 : ∀ g, blk A = some g → F g) (h3 : ∀ (i : Nat) (t : Option Addr × Nat × Nat) (l : List UInt8), rs[i]? = some t → rows[i]? = some l → BodyAt V F t l)
    (hd : DoneAt V F v done) (hp : F p) (hlt : ∀ k, F k → k < V.heap.size) (hb : BodyAt V F (A1, n1, c1) l)
    (hown : Own w6 0 27 IsSl A6 M c6 (rs.map sl ++ [.slice A1 n1 c1])) (hgr : V.grownBy w6 (blk A)) (hbk : blk A6 = blk A ∨ blk A6 = some V.heap.size) :
    RefAt (w6.setCell ⟨p, 0, none⟩ (.slice A6 M c6)) p (fun k => F k ∨ (k = V.heap.size ∧ k < w6.heap.size)) ⟨rows ++ [l], done⟩ ∧ Only F V (w6.setCell ⟨p, 0, none⟩ (.slice A6 M c6)) ∧
    w6.heap[p]? = some (.cells #[.slice A N c, v] 47 (0, 0)) := by
  subst hN
  subst hM
  have hne : some p ≠ blk A := fun e => absurd ((TyAt.of hrow).inj (h1.ty e.symm)) (by decide)
  have hpl : p < V.heap.size := lt_of_heap hrow
  have hrow6 : w6.heap[p]? = _ := (hgr.block p hpl hne).trans hrow
  have hs := heap_setCell_same w6 p 0 _ _ (.slice A6 (rows.length + 1) c6) hrow6
  have hT6 : TyAt w6 p 47 := TyAt.of hrow6
  have keep : ∀ k t, TyAt w6 k t → t ≠ 47 → (w6.setCell ⟨p, 0, none⟩ (.slice A6 (rows.length + 1) c6)).heap[k]? = w6.heap[k]? := fun k t hk ht => Below.heap_setCell w6 ⟨p, 0, none⟩ _ k (fun e => ht (TyAt.inj hk (by rw [e]; exact hT6)))
  have keepV : ∀ k, F k → k ≠ p → some k ≠ blk A → (w6.setCell ⟨p, 0, none⟩ (.slice A6 (rows.length + 1) c6)).heap[k]? = V.heap[k]? := fun k hk hkp hkA => (Below.heap_setCell w6 ⟨p, 0, none⟩ _ k hkp).trans (hgr.block k (hlt k hk) hkA)
  refine ⟨⟨A6, c6, v, by rw [hs]; simp, ?_, ?_, .inl hp, fun k hk => ?_⟩, ⟨hgr.os, hgr.tape, hgr.output, by simpa [World.setCell] using hgr.size, fun k hk hf => ?_⟩, hrow6⟩
  · have := RowsAt.app h1 h2 h3 hb hown hgr hbk hlt
    have h6 : RowsAt w6 (fun k => F k ∨ (k = V.heap.size ∧ k < w6.heap.size)) A6 c6 (rows ++ [l]) := by
      obtain ⟨rs', q1, q2, q3⟩ := this
      refine ⟨rs', q1, fun k hk => ?_, fun i t l ht hl => ⟨(q3 i t l ht hl).own, fun k hk => ?_⟩⟩
      · have := (q1.lt k hk).2
        rcases q2 k hk with h | h
        · exact .inl h
        · exact .inr ⟨h, this⟩
      · have h6 := ((q3 i t l ht hl).own.lt k hk).2
        rcases (q3 i t l ht hl).foot k hk with h | h
        · exact .inl h
        · exact .inr ⟨h, h6⟩
    exact h6.kept fun k _ hk => by
      rcases hk with hk | hk
      · exact keep k _ hk (by decide)
      · exact keep k _ hk (by decide)
  · refine DoneAt.mono (F := F) (hd.kept fun k hk hT => keepV k hk (fun e => ?_) (fun e => ?_)) fun k hk => .inl hk
    · rw [e] at hT; exact absurd (hT.inj (TyAt.of hrow)) (by decide)
    · exact absurd (hT.inj (h1.ty e.symm)) (by decide)
  · have := hgr.size
    simp only [World.setCell, Array.size_modify]
    rcases hk with hk | hk
    · have := hlt k hk; omega
    · exact hk.2
  · rw [Below.heap_setCell w6 ⟨p, 0, none⟩ _ k (fun e => hf (e ▸ hp))]
    exact hgr.block k hk (fun e => hf (h2 k e.symm))
theorem rtake_row (E N : Nat) (l : List UInt8) (b : List UInt8) (A0 : Option Addr) (m c0 : Nat) (w : World) (p : Nat) (F : Nat → Prop) (rows : List (List UInt8)) (done : List PacD) (h : RefAt w p F ⟨rows, done⟩) (hr : Rd w A0 m (b.map cB)) (hc : m ≤ c0) (hm : m ≤ 140737488355300)
    (hN : rows.length = N) (hz : N ≤ 1000000) (hE : E ≤ 1099511627776) (hg : getP b = (⟨1, (E : Int), (N : Int), 0, 0, l⟩, 0)) :
    Calls Try.prog 20 #[pS p, .slice A0 m c0] w (RetTake RefAt w p F ⟨rows ++ [l], done⟩ (putP (ackP E ((N + 1 : Nat) : Int))).1) := by
  have HG := Lib.hid (rpacGet_any b A0 m c0 w hr hc hm)
  rw [hg] at HG
  obtain ⟨M, hM⟩ : ∃ M, N + 1 = M := ⟨_, rfl⟩
  rw [hM]
  have HP := Lib.hid (fun W => rpacPut_any (ackP E (M : Int)) none 0 0 W (ack_rd E M hE (by omega) W))
  have HM := Lib.hid hM
  obtain ⟨A, c, v, hrow, ⟨rs, h1, h2, h3⟩, hd, hp, hlt⟩ := h
  rw [hN] at h1
  simp only [hN] at hrow
  have HROW := Lib.hid hrow; have H1 := Lib.hid h1; have H2 := Lib.hid h2; have H3 := Lib.hid h3; have HD := Lib.hid hd; have HFP := Lib.hid hp; have HLT := Lib.hid hlt
  have HN := Lib.hid hN; have HZ := Lib.hid hz
  simp only [pacV] at HP
  have e1 : (ackP E (M : Int)).kind = 2 ∧ (ackP E (M : Int)).epoch = E ∧ (ackP E (M : Int)).seq = M ∧ (ackP E (M : Int)).id = 0 ∧ (ackP E (M : Int)).code = 0 := ⟨rfl, rfl, rfl, rfl, rfl⟩
  simp only [e1] at HP
  generalize putP (ackP E (M : Int)) = out at *
  clear hr hg hrow h1 h2 h3 hd hp hlt hN hz hE hM e1
  unfold pS
  go_enter Try.func20, Try.ntmps20
  go_wp2_with fail
  refine HG.out.mono ?_
  rintro e w1 ⟨A1, n1, c1, rfl, ho, hx⟩
  simp only [pacV]
  have HBD := Lib.hid ho.body
  have X1 := Lib.hid hx
  clear ho hx HG
  go_wp2_with fail
  have HB := Lib.hid (heap_alloc_new w1 (.cells #[.int .i64 1, .int .i64 (E : Int), .int .i64 (N : Int), .int .i64 0, .int .i64 0, .slice A1 n1 c1] 32))
  have X2 := Lib.hid (X1.out.trans (Ext.alloc w1 (.cells #[.int .i64 1, .int .i64 (E : Int), .int .i64 (N : Int), .int .i64 0, .int .i64 0, .slice A1 n1 c1] 32)))
  have HBD2 := Lib.hid (HBD.out.ext (Ext.alloc w1 (.cells #[.int .i64 1, .int .i64 (E : Int), .int .i64 (N : Int), .int .i64 0, .int .i64 0, .slice A1 n1 c1] 32)))
  generalize w1.alloc (.cells #[.int .i64 1, .int .i64 (E : Int), .int .i64 (N : Int), .int .i64 0, .int .i64 0, .slice A1 n1 c1] 32) = w2 at *
  obtain ⟨q, hq⟩ : ∃ q, w1.heap.size = q := ⟨_, rfl⟩
  have hqw : w.heap.size ≤ q := by rw [← hq]; exact X1.out.size
  simp only [hq] at HB ⊢
  have HQW := Lib.hid hqw
  clear hq hqw HBD X1
  obtain ⟨b0, b1, b2, b3, b4, b5⟩ := sixC HB.out
  have d0 : w2.cell? ⟨p, 0, none⟩ = some (.slice A N c) := (cell_of_row _ _ _ _ _ _ (X2.out.block HROW.out)).trans rfl
  go_quiet (fail)
  have HB3 := Lib.hid ((Ext.drewN' (Ext.refl w2) nq).block HB.out)
  have X3 := Lib.hid (X2.out.drewN' nq)
  have HBD3 := Lib.hid (HBD2.out.ext (Ext.drewN' (Ext.refl w2) nq))
  clear b0 b1 b2 b3 b4 b5 d0 HB X2 HBD2
  generalize w2.drewN nq = w3 at *
  have b5 := (sixC HB3.out).2.2.2.2.2
  have d0 : w3.cell? ⟨p, 0, none⟩ = some (.slice A N c) := (cell_of_row _ _ _ _ _ _ (X3.out.block HROW.out)).trans rfl
  have B5 := fun o => (sixC ((Ext.alloc w3 o).block HB3.out)).2.2.2.2.2
  have D0 : ∀ o, (w3.alloc o).cell? ⟨p, 0, none⟩ = some (.slice A N c) := fun o => (cell_of_row _ _ _ _ _ _ ((X3.out.trans (Ext.alloc w3 o)).block HROW.out)).trans rfl
  have XA := Lib.hid (fun o => Ext.drew' (Ext.alloc w3 o))
  have HLS := Lib.hid (show Rd (w3.alloc (.cells #[.slice A1 n1 c1] 27)).drew (some ⟨w3.heap.size, 0, none⟩) 1 [.slice A1 n1 c1] from Rd.one w3 _ _)
  go_wp2_with fail
  go_region_law ((
    refine step_sl (base := 0) rfl (.tmp 65) (.tmp 68) rfl rfl (H1.out.ext (X3.out.trans (XA.out _))) rfl HLS.out (by intro u hu; simp at hu; subst hu; exact ⟨_, _, _, rfl⟩) HM.out (by have := HZ.out; omega) (Nat.zero_le _) ?_
    intro A6 c6 w6 hown hgr hbk
    have XV := X3.out.trans (XA.out (.cells #[.slice A1 n1 c1] 27))
    have hsz := XV.size
    have K := addRowR (V := (w3.alloc (.cells #[.slice A1 n1 c1] 27)).drew) (F := fun k => F k ∨ (w.heap.size ≤ k ∧ k < (w3.alloc (.cells #[.slice A1 n1 c1] 27)).drew.heap.size)) (l := l) HN.out HM.out (XV.block HROW.out) (H1.out.ext XV) (fun k hk => .inl (H2.out k hk))
      (fun i t l ht hl => ((H3.out i t l ht hl).kept fun k hk _ => Below.block XV k (HLT.out k hk)).mono fun k hk => .inl hk) ((HD.out.ext HLT.out XV).mono fun k hk => .inl hk) (.inl HFP.out)
      (fun k hk => by rcases hk with hk | hk; exact Nat.lt_of_lt_of_le (HLT.out k hk) hsz; exact hk.2) ⟨(HBD3.out.ext (XA.out _)).mono (Nat.zero_le _), fun k hk => .inr ((HBD3.out.ext (XA.out _)).lt k hk)⟩ hown hgr hbk
    have hqb : w6.heap[q]? = _ := (hgr.block q (Nat.lt_of_lt_of_le (lt_of_heap HB3.out) (XA.out _).size) (fun e => absurd ((TyAt.of ((XA.out _).block HB3.out)).inj ((H1.out.ext XV).ty e.symm)) (by decide))).trans ((XA.out _).block HB3.out)
    have hqp : q ≠ p := fun e => absurd ((TyAt.of hqb).inj (e ▸ TyAt.of K.2.2)) (by decide)
    have KQ := Lib.hid ((Below.heap_setCell w6 ⟨p, 0, none⟩ (.slice A6 M c6) q hqp).trans hqb)
    have KR : Hid ((w6.setCell ⟨p, 0, none⟩ (.slice A6 M c6)).heap[p]? = some (.cells #[.slice A6 M c6, v] 47 (0, 0))) := by
      unfold Hid
      rw [heap_setCell_same w6 p 0 _ _ (.slice A6 M c6) K.2.2]; simp
    have KZ : Hid (w.heap.size ≤ (w6.setCell ⟨p, 0, none⟩ (.slice A6 M c6)).heap.size) := by
      have := hgr.size
      unfold Hid; simp only [World.setCell, Array.size_modify]; omega
    have KS : Hid (∃ F', RefAt (w6.setCell ⟨p, 0, none⟩ (.slice A6 M c6)) p F' ⟨rows ++ [l], done⟩ ∧ ∀ k, F' k → F k ∨ w.heap.size ≤ k) := ⟨_, K.1, fun k hk => by
      rcases hk with (hk | hk) | hk
      · exact .inl hk
      · exact .inr hk.1
      · exact .inr (by rw [hk.1]; exact hsz)⟩
    have KO : Hid (Only (fun k => F k ∨ w.heap.size ≤ k) w (w6.setCell ⟨p, 0, none⟩ (.slice A6 M c6))) := (Only.of_ext XV).trans K.2.1 (fun k _ hk => by rcases hk with hk | hk; exact .inl hk; exact .inr hk.1)
    have z0 := frozen_of_row _ _ 0 _ _ K.2.2
    have z1 : w6.cell? ⟨p, 0, none⟩ = some (.slice A N c) := (cell_of_row _ _ _ _ _ _ K.2.2).trans rfl
    clear K hqb XV hsz hown hgr hbk B5 D0 b5 d0 hqp))
  all_goals
    clear z0 z1
    generalize w6.setCell ⟨p, 0, none⟩ (.slice A6 M c6) = w7 at *
    clear XA HLS HBD3 X3 HB3
    have b1 := (sixC KQ.out).2.1
    have d0 : w7.cell? ⟨p, 0, none⟩ = some (.slice A6 M c6) := (cell_of_row _ _ _ _ _ _ KR.out).trans rfl
    have HSS : Hid (∀ W, Ext w7 W → W.cell? ⟨q, 1, none⟩ = some (.int .i64 (E : Int)) ∧ W.cell? ⟨p, 0, none⟩ = some (.slice A6 M c6)) := fun W hX => ⟨(sixC (hX.block KQ.out)).2.1, (cell_of_row _ _ _ _ _ _ (hX.block KR.out)).trans rfl⟩
    go_wp2_with fail
    go_region_held3 (fun W => W.cell? ⟨q, 1, none⟩ = some (.int .i64 (E : Int)) ∧ W.cell? ⟨p, 0, none⟩ = some (.slice A6 M c6)) (first | go_keep | exact HSS.out _ X8.out) ((first
      | (go_at_call 32
         with_reducible refine Calls.mono (HP.out _) ?_
         rintro e w8 ⟨A8, n8, c8, rfl, ho8, hx8⟩
         have X8 := Lib.hid ((Ext.draw w7).trans hx8)
         have O8 := Lib.hid ho8
         clear ho8 hx8)))
    go_wp2_with fail
    go_ret
    obtain ⟨F', k1, k2⟩ := KS.out
    refine ⟨F', A8, n8, c8, rfl, k1.ext X8.out, (KO.out.new).trans (Only.of_ext (F := F) X8.out) (fun _ _ h => h), k2, O8.out.mono KZ.out, fun g' hg' hF' => ?_⟩
    have q1 := (O8.out.lt g' hg').1
    have q2 := k1.lt g' hF'
    have q3 : w7.drew.heap.size = w7.heap.size := rfl
    omega
end Go.Proofs.Ytifojmmggcenkaa
