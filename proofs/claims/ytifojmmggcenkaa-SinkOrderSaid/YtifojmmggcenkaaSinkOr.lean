/- SinkOrder, the walk: in whatever order packets come, the sink has a beginning of the records. -/
import Derived.Test.YtifojmmggcenkaaSinkO
namespace Go.Proofs.Ytifojmmggcenkaa
set_option linter.unusedVariables false
set_option linter.unusedSimpArgs false
set_option maxRecDepth 100000
set_option maxHeartbeats 1000000
open Go Go.RowKit Go.Out

theorem RowsOw.agree {w w' : World} {base : Nat} {A : Option Addr} {c : Nat} {rows : List (List UInt8)} (h : RowsOw w base A c rows) (ha : ∀ k, base ≤ k → k < w.heap.size → w'.heap[k]? = w.heap[k]?) : RowsOw w' base A c rows := by
  obtain ⟨rs, h1, h2, h3⟩ := h
  exact ⟨rs, h1.kept fun g hg => ha g (h1.lt g hg).1 (h1.lt g hg).2, fun i t l ht hl => (h2 i t l ht hl).kept fun g hg => ha g ((h2 i t l ht hl).lt g hg).1 ((h2 i t l ht hl).lt g hg).2, h3⟩
theorem RdL.take {α : Type} {K : Kind α} {w : World} {A : Option Addr} {n k : Nat} {l : List α} (h : RdL K w A n l) (hk : k ≤ n) : RdL K w A k (l.take k) :=
  ⟨by have := h.1; simp; omega, fun hp => by
    obtain ⟨b, off, e, hb, hc⟩ := h.2 (by omega)
    exact ⟨b, off, e, hb, fun i x hx => hc i x (by rw [List.getElem?_take] at hx; split at hx; exact hx; cases hx)⟩⟩
/-- A sink beside the records. -/
structure Ord (w0 w2 w : World) (B0 : Nat) (p : Nat) (F : Nat → Prop) (d : SinkD) : Prop where
  s : SinkAt w p F d
  x : Ext w0 w
  f : ∀ k, F k → w0.heap.size ≤ k ∧ (k < B0 ∨ w2.heap.size ≤ k)
  z : w2.heap.size ≤ w.heap.size
  a : ∀ k, B0 ≤ k → k < w2.heap.size → w.heap[k]? = w2.heap[k]?
section
variable {w0 w2 w w1 : World} {B0 p : Nat} {F : Nat → Prop} {d : SinkD}
theorem Ord.ext (h : Ord w0 w2 w B0 p F d) (hx : Ext w w1) : Ord w0 w2 w1 B0 p F d :=
  ⟨h.s.ext hx, h.x.trans hx, h.f, Nat.le_trans h.z hx.size, fun k h1 h2 => (Below.block hx k (Nat.lt_of_lt_of_le h2 h.z)).trans (h.a k h1 h2)⟩
theorem Ord.take {d1 : SinkD} {out : List UInt8} {e : Ending} (h : Ord w0 w2 w B0 p F d) (ht : RetTake SinkAt w p F d1 out e w1) : ∃ F1 A n c, e = .returned (.slice A n c) ∧ Ord w0 w2 w1 B0 p F1 d1 ∧ Own w1 0 5 IsU8 A n c (out.map cB) ∧ ∀ g o, w.heap[g]? = some o → ¬ F g → w1.heap[g]? = some o ∧ ¬ F1 g := by
  obtain ⟨F1, A, n, c, rfl, hs, ho, hf, hO, -⟩ := ht
  have hx := Only.ext ho h.x fun k hk => (h.f k hk).1
  have hz := h.z
  have hsz := h.x.size
  exact ⟨F1, A, n, c, rfl, ⟨hs, hx, fun k hk => by
    rcases hf k hk with h1 | h1
    · exact h.f k h1
    · exact ⟨by omega, .inr (by omega)⟩, Nat.le_trans hz ho.size, fun k h1 h2 => (ho.block k (by omega) (fun hk => by have := (h.f k hk).2; omega)).trans (h.a k h1 h2)⟩, hO.mono (Nat.zero_le _), fun g o hg hf' => ⟨(ho.block g (lt_of_heap hg) hf').trans hg, fun h1 => by
    rcases hf g h1 with h2 | h2
    · exact hf' h2
    · have := lt_of_heap hg; omega⟩⟩
end
theorem lawSinkOrder (l : List (List UInt8)) (A : Option Addr) (n c : Nat) (come : List ComeD) (B : Option Addr) (m e : Nat) (w : World) (hr : RdL rowK w A n l) (hc : n ≤ c) (hcm : c ≤ 9223372036854775807) (hrb : RdL comeK w B m come) (hme : m ≤ e) (hem : e ≤ 9223372036854775807) :
    Calls Try.prog 3 #[.slice A n c, .slice B m e] w (RetQ w true) := by
  have HR := Lib.hid hr; have HB := Lib.hid hrb
  clear hr hrb
  go_enter Try.func3, Try.ntmps3
  go_wp2_with fail
  refine (sink_new _).mono ?_
  rintro e1 w1 ⟨p, F1, rfl, hs, hx, hf⟩
  simp only [pS]
  have S1 := Lib.hid hs; have X1 := Lib.hid hx; have FB1 := Lib.hid hf
  clear hs hx hf
  go_wp2_with fail
  refine (rows23_any l A n c _ (HR.out.ext X1.out) hc hcm).mono ?_
  rintro e2 w2 ⟨A2, c2, rfl, ho, hx⟩
  have HO : Hid (Ord w w2 w2 w1.heap.size p F1 sink0) := ⟨S1.out.ext hx, X1.out.trans hx, fun k hk => ⟨FB1.out k hk, .inl (S1.out.lt k hk)⟩, Nat.le_refl _, fun _ _ _ => rfl⟩
  have HAL : Hid (∀ W F d, Ord w w2 W w1.heap.size p F d → RdL rowK W A2 (recsF l).length (recsF l)) := fun W F d h => (ho.agree h.a).rd
  have hcap := ho.cap
  have HRG := Lib.hid (fun k (hk : k < (recsF l).length) => recsF_get hk)
  have HL40 : Hid ((recsF l).length ≤ 40) := by unfold Hid recsF; simp; omega
  generalize recsF l = recs at *
  obtain ⟨N, hN⟩ : ∃ N, recs.length = N := ⟨_, rfl⟩
  rw [hN] at HAL HRG hcap HL40
  simp only [hN]
  have HN := Lib.hid hN
  clear ho hx hN S1 X1 FB1
  generalize w1.heap.size = B0 at *
  go_wp2_with fail
  go_loopw [7, 8, 9, 10, 11, 12, 13] (fun hv i _ _ _ _ _ wr => ∃ (k h : Nat) (F : Nat → Prop) (d : SinkD), k ≤ m ∧ k ≤ 200 ∧ h ≤ N ∧ hv = .int .i64 (h : Int) ∧ i = .int .i64 (k : Int) ∧ Hid (Ord w w2 wr B0 p F d) ∧ Hid (d.rows = recs.take h ∧ d.done.length ≤ k)) (fun _ i _ _ _ _ _ _ => m - (intOf i).toNat)
  case atStart => exact ⟨0, 0, F1, sink0, Nat.zero_le _, Nat.zero_le _, Nat.zero_le _, rfl, rfl, HO, ⟨rfl, Nat.le_refl _⟩⟩
  case round =>
    obtain ⟨k, h, F, d, hk, hk2, hhN, rfl, rfl, HO, HD⟩ := hrel
    by_cases hgo : k < m ∧ k < 200
    · obtain ⟨hlt, hlt2⟩ := hgo
      obtain ⟨bk, off, B1, m1, c1, x, rfl, hbk, hr1, hm1, hc1, hcells⟩ := comes_at HB.out hlt
      have HCL := Lib.hid hcells
      have HR1 : Hid (∀ W, Ext w W → Rd W B1 m1 (x.other.map cB)) := fun W hX => hr1.ext hX
      obtain ⟨x0, x1, x2⟩ := hcells _ HO.out.x
      have i1 : (0 : Int) ≤ (k : Int) := by omega
      have i2 : (k : Int) < (m : Int) := by omega
      have i3 : (k : Int) < 200 := by omega
      have i5 : IntKind.i64.wrap ((k : Int) + 1) = (k : Int) + 1 := IntWalk.i64_in _ (by omega)
      clear hr1 hcells
      obtain ⟨xe, xs, b⟩ := x
      simp only at HCL HR1 x0 x1 x2
      by_cases hm1' : (65536 : Int) < (m1 : Int)
      · go_wp2_with fail
        refine (known23_any _).mono ?_
        rintro e3 w3 ⟨rfl, hx⟩
        go_wp2_with fail
        go_ret
        exact ⟨rfl, HO.out.x.trans ((Ext.alloc _ _).trans hx)⟩
      · have hm2 : m1 ≤ 65536 := by omega
        obtain ⟨⟨kd, ep, sq, id, cd, bd⟩, K, hPK⟩ : ∃ (P : PacD) (K : Int), getP b = (P, K) := ⟨_, _, rfl⟩
        have HG := Lib.hid (fun W (hX : Ext w W) => pacGet_any b B1 m1 c1 W (HR1.out W hX) hm1 (by omega))
        rw [hPK] at HG
        obtain ⟨g1, hg1⟩ : ∃ g, wr.heap.size = g := ⟨_, rfl⟩
        have hcase : (K = 0 ∧ kd = 1) ∨ (K ≠ 0) ∨ (K = 0 ∧ kd ≠ 1) := by
          by_cases h1 : K = 0
          · by_cases h2 : kd = 1
            · exact .inl ⟨h1, h2⟩
            · exact .inr (.inr ⟨h1, h2⟩)
          · exact .inr (.inl h1)
        have HTO : Hid (¬ (K = 0 ∧ kd = 1) → (takeF d b).1.rows = recs.take h ∧ (takeF d b).2 = [] ∧ (takeF d b).1.done.length ≤ k + 1) := fun hn => by
          obtain ⟨q1, q2⟩ := takeF_other (d := d) (b := b) (by
            rw [hPK]
            by_cases h1 : K = 0
            · exact .inr (fun h2 => hn ⟨h1, h2⟩)
            · exact .inl h1)
          have q3 := takeF_len d b
          obtain ⟨q4, q5⟩ := HD.out
          exact ⟨q1.trans q4, q2, by omega⟩
        have HTK := Lib.hid (fun W (hs : SinkAt W p F d) (hX : Ext w W) => take_any b B1 m1 c1 W p F d hs (HR1.out W hX) hm1 (by omega) (by rw [HD.out.1]; simp; have := HL40.out; omega) (by have := HD.out.2; omega))
        have D0 : Hid (d.rows = recs.take h ∧ d.done.length ≤ k + 1) := ⟨HD.out.1, by have := HD.out.2; omega⟩
        have hrl : (recs.take h).length = h := by rw [List.length_take, HN.out]; omega
        have HRL := Lib.hid hrl
        clear hPK HD hrl
        go_wp2_with fail
        refine (HG.out _ (HO.out.x.trans (Ext.alloc _ _))).mono ?_
        rintro e3 w3 ⟨A3, n3, c3, rfl, ho3, hx3⟩
        simp only [pacV]
        have G3 : Hid (w3.heap[g1]? = some (.cells #[.int .i64 xe, .int .i64 xs, .slice B1 m1 c1] 29 (0, 0))) := by rw [← hg1]; exact hx3.block (heap_alloc_new wr _)
        have NF : Hid (¬ F g1) := fun hf => by have := HO.out.s.lt g1 hf; omega
        have O3 := Lib.hid (HO.out.ext ((Ext.alloc wr _).trans hx3))
        have y0 : ∀ o, (w3.alloc o).cell? ⟨g1, 0, none⟩ = some (.int .i64 xe) := fun o => (cell_of_row _ _ _ _ _ _ ((Ext.alloc w3 o).block G3.out)).trans rfl
        have y1 : ∀ o, (w3.alloc o).cell? ⟨g1, 1, none⟩ = some (.int .i64 xs) := fun o => (cell_of_row _ _ _ _ _ _ ((Ext.alloc w3 o).block G3.out)).trans rfl
        have y2 : ∀ o, (w3.alloc o).cell? ⟨g1, 2, none⟩ = some (.slice B1 m1 c1) := fun o => (cell_of_row _ _ _ _ _ _ ((Ext.alloc w3 o).block G3.out)).trans rfl
        clear ho3 hx3 HG HO x0 x1 x2
        try simp only [hg1]
        clear hg1
        rcases Nat.eq_zero_or_pos N with hN0 | hN0
        · have hN1 : ((N : Int) == 0) = true := by simp [hN0]
          have hN2 : (N == 0) = true := by simp [hN0]
          clear hN0
          rcases hcase with ⟨rfl, rfl⟩ | hK | ⟨rfl, hkd⟩
          · go_wp2_with fail
            have O5 := Lib.hid (O3.out.ext (Ext.alloc w3 (.cells #[.int .i64 1, .int .i64 ep, .int .i64 sq, .int .i64 id, .int .i64 cd, .slice A3 n3 c3] 32)))
            have D5 := Lib.hid D0.out
            have G5 := Lib.hid ((Ext.alloc w3 (.cells #[.int .i64 1, .int .i64 ep, .int .i64 sq, .int .i64 id, .int .i64 cd, .slice A3 n3 c3] 32)).block G3.out)
            have N5 := Lib.hid NF.out
            clear O3 D0 G3 NF y0 y1 y2
            generalize w3.alloc (.cells #[.int .i64 1, .int .i64 ep, .int .i64 sq, .int .i64 id, .int .i64 cd, .slice A3 n3 c3] 32) = w5 at *
            generalize F = F5 at *
            generalize d = d5 at *
            go_roundw
            case rel => exact ⟨k + 1, h, F5, d5, by omega, by omega, hhN, rfl, by go_num, O5, D5⟩
            case measure => simp [intOf]; omega
          · have hK1 : (K != 0) = true := by simp [hK]
            have hK2 := Lib.hid hK
            clear hK
            go_wp2_with fail
            obtain ⟨t1, t2, t3⟩ := HTO.out (fun q => hK2.out q.1)
            have hO4 := O3.out.ext (Ext.alloc w3 (.cells #[.int .i64 kd, .int .i64 ep, .int .i64 sq, .int .i64 id, .int .i64 cd, .slice A3 n3 c3] 32))
            refine (HTK.out _ hO4.s hO4.x).mono ?_
            rintro e5 w5 ht
            obtain ⟨F5, A5, n5, c5, rfl, o5, ow5, hkeep⟩ := hO4.take ht
            rw [t2] at ow5
            obtain rfl : n5 = 0 := by have := ow5.len; simpa using this.symm
            obtain ⟨g5, f5⟩ := hkeep g1 _ ((Ext.alloc w3 (.cells #[.int .i64 kd, .int .i64 ep, .int .i64 sq, .int .i64 id, .int .i64 cd, .slice A3 n3 c3] 32)).block G3.out) NF.out
            have O5 := Lib.hid o5
            have D5 : Hid ((takeF d b).1.rows = recs.take h ∧ (takeF d b).1.done.length ≤ k + 1) := ⟨t1, t3⟩
            have G5 := Lib.hid g5
            have N5 := Lib.hid f5
            clear ht o5 ow5 hkeep g5 f5 t1 t2 t3 O3 D0 G3 NF y0 y1 y2 hO4
            generalize (takeF d b).1 = d5 at *
            have hnx := sink_next p F5 d5 w5 O5.out.s
            have hl5 : d5.rows.length = h := by rw [D5.out.1]; exact HRL.out
            rw [hl5] at hnx
            have HNX := Lib.hid hnx
            clear hl5 hnx
            have y0 := (cell_of_row _ g1 0 _ _ _ G5.out)
            have y1 := (cell_of_row _ g1 1 _ _ _ G5.out)
            clear y0 y1
            have y0 : w5.cell? ⟨g1, 0, none⟩ = some (.int .i64 xe) := (cell_of_row _ _ _ _ _ _ G5.out).trans rfl
            have y1 : w5.cell? ⟨g1, 1, none⟩ = some (.int .i64 xs) := (cell_of_row _ _ _ _ _ _ G5.out).trans rfl
            go_wp2_with fail
            refine HNX.out.mono ?_
            rintro e6 w6 ⟨rfl, rfl⟩
            go_wp2_with fail
            go_roundw
            case rel => exact ⟨k + 1, h, F5, d5, by omega, by omega, hhN, rfl, by go_num, O5, D5⟩
            case measure => simp [intOf]; omega
          · have hK1 : (kd != 1) = true := by simp [hkd]
            have hK2 := Lib.hid hkd
            clear hkd
            go_wp2_with fail
            obtain ⟨t1, t2, t3⟩ := HTO.out (fun q => hK2.out q.2)
            have hO4 := O3.out.ext (Ext.alloc w3 (.cells #[.int .i64 kd, .int .i64 ep, .int .i64 sq, .int .i64 id, .int .i64 cd, .slice A3 n3 c3] 32))
            refine (HTK.out _ hO4.s hO4.x).mono ?_
            rintro e5 w5 ht
            obtain ⟨F5, A5, n5, c5, rfl, o5, ow5, hkeep⟩ := hO4.take ht
            rw [t2] at ow5
            obtain rfl : n5 = 0 := by have := ow5.len; simpa using this.symm
            obtain ⟨g5, f5⟩ := hkeep g1 _ ((Ext.alloc w3 (.cells #[.int .i64 kd, .int .i64 ep, .int .i64 sq, .int .i64 id, .int .i64 cd, .slice A3 n3 c3] 32)).block G3.out) NF.out
            have O5 := Lib.hid o5
            have D5 : Hid ((takeF d b).1.rows = recs.take h ∧ (takeF d b).1.done.length ≤ k + 1) := ⟨t1, t3⟩
            have G5 := Lib.hid g5
            have N5 := Lib.hid f5
            clear ht o5 ow5 hkeep g5 f5 t1 t2 t3 O3 D0 G3 NF y0 y1 y2 hO4
            generalize (takeF d b).1 = d5 at *
            have hnx := sink_next p F5 d5 w5 O5.out.s
            have hl5 : d5.rows.length = h := by rw [D5.out.1]; exact HRL.out
            rw [hl5] at hnx
            have HNX := Lib.hid hnx
            clear hl5 hnx
            have y0 := (cell_of_row _ g1 0 _ _ _ G5.out)
            have y1 := (cell_of_row _ g1 1 _ _ _ G5.out)
            clear y0 y1
            have y0 : w5.cell? ⟨g1, 0, none⟩ = some (.int .i64 xe) := (cell_of_row _ _ _ _ _ _ G5.out).trans rfl
            have y1 : w5.cell? ⟨g1, 1, none⟩ = some (.int .i64 xs) := (cell_of_row _ _ _ _ _ _ G5.out).trans rfl
            go_wp2_with fail
            refine HNX.out.mono ?_
            rintro e6 w6 ⟨rfl, rfl⟩
            go_wp2_with fail
            go_roundw
            case rel => exact ⟨k + 1, h, F5, d5, by omega, by omega, hhN, rfl, by go_num, O5, D5⟩
            case measure => simp [intOf]; omega
        · have hN1 : ((N : Int) == 0) = false := by simp; omega
          have hN2 : (N == 0) = false := by simp; omega
          rcases hcase with ⟨rfl, rfl⟩ | hK | ⟨rfl, hkd⟩
          · go_wp2_with fail
            have O5 := Lib.hid (O3.out.ext (Ext.alloc w3 (.cells #[.int .i64 1, .int .i64 ep, .int .i64 sq, .int .i64 id, .int .i64 cd, .slice A3 n3 c3] 32)))
            have D5 := Lib.hid D0.out
            have G5 := Lib.hid ((Ext.alloc w3 (.cells #[.int .i64 1, .int .i64 ep, .int .i64 sq, .int .i64 id, .int .i64 cd, .slice A3 n3 c3] 32)).block G3.out)
            have N5 := Lib.hid NF.out
            clear O3 D0 G3 NF y0 y1 y2
            generalize w3.alloc (.cells #[.int .i64 1, .int .i64 ep, .int .i64 sq, .int .i64 id, .int .i64 cd, .slice A3 n3 c3] 32) = w5 at *
            generalize F = F5 at *
            generalize d = d5 at *
            refine (pick_any xs N _ hN0 (by have := HL40.out; omega)).mono ?_
            rintro e6 w6 ⟨r, hr, rfl, rfl⟩
            have y0 : w5.cell? ⟨g1, 0, none⟩ = some (.int .i64 xe) := (cell_of_row _ _ _ _ _ _ G5.out).trans rfl
            go_wp2_with fail
            refine (pick_any xe 9 _ (by omega) (by omega)).mono ?_
            rintro e6 w6 ⟨r9, hr9, rfl, rfl⟩
            obtain ⟨E, hE⟩ : ∃ E, r9 + 1 = E := ⟨_, rfl⟩
            have hEw : IntKind.i64.wrap ((1 : Int) + (r9 : Int)) = (E : Int) := by rw [IntWalk.i64_in _ (by omega)]; omega
            obtain ⟨ba, oa, Br, mr, cr, hA2, hba, hcr, hrr, hmr, hcr2⟩ := rows_at (HAL.out _ _ _ O5.out) hr
            have hlen := HRG.out r hr
            have hbl := hrr.length
            have HRR := Lib.hid hrr
            have hE1 : 1 ≤ E ∧ E ≤ 9 := by omega
            have HDT := Lib.hid (fun W (hX : Ext w5 W) => data23_any (E : Int) (r : Int) (recs.getD r []) Br mr cr W (hrr.ext hX) (i64P_lit _ (by omega)) (i64P_lit _ (by have := HL40.out; omega)) hmr hcr2)
            have HTD := Lib.hid (takeF_data (d := d5) (E := E) (S := r) (l := recs.getD r []) hE1.1 (by omega) (by have := HL40.out; omega) hlen.1 (by omega))
            have hl5 : d5.rows.length = h := by rw [D5.out.1]; exact HRL.out
            rw [hl5] at HTD
            have HPL := Lib.hid (getP_putP (data_check (E := E) (S := r) (l := recs.getD r []) hE1.1 (by omega) (by have := HL40.out; omega) hlen.1 (by omega))).2.2
            have HLR := Lib.hid hl5
            have hri : (0 : Int) ≤ (r : Int) := by omega
            have hri2 : (r : Int) < (N : Int) := by omega
            have hwh : IntKind.i64.wrap ((h : Int) + 1) = (h : Int) + 1 := IntWalk.i64_in _ (by have := HL40.out; omega)
            have HGT : Hid (r = h → recs.take (h + 1) = recs.take h ++ [recs.getD r []]) := fun e => by
              subst e
              rw [List.take_add_one, List.getD_eq_getElem?_getD, List.getElem?_eq_getElem (by rw [HN.out]; exact hr)]; rfl
            obtain ⟨B, hB⟩ : ∃ B, (putP ⟨1, (E : Int), (r : Int), 0, 0, recs.getD r []⟩).1 = B := ⟨_, rfl⟩
            rw [hB] at HDT HTD HPL
            have HE1 := Lib.hid hE1
            have HRN := Lib.hid hr
            have HA2 := Lib.hid hA2
            have xr : ∀ (AA : Option Addr), AA = A2 → True := fun _ _ => trivial
            clear hrr hl5 hB hlen hbl hE1 hr9 hr xr y0 hE
            by_cases hrh : r = h
            · have q1 : ((r : Int) == (h : Int)) = true := by simp [hrh]
              have q2 : (r == h) = true := by simp [hrh]
              have hd6 := HTD.out
              rw [if_pos hrh, if_pos hrh] at hd6
              have hgt := HGT.out hrh
              have D6 : Hid ((d5.rows ++ [recs.getD r []]) = recs.take (h + 1) ∧ d5.done.length ≤ k + 1) := ⟨by rw [hgt, D5.out.1], D5.out.2⟩
              have hh1 : h + 1 ≤ N := by have := HRN.out; omega
              have HD6 := Lib.hid hd6
              have HH1 := Lib.hid hh1
              clear hrh hd6 hgt hh1 HGT HTD
              obtain ⟨H, hH⟩ : ∃ H, h + 1 = H := ⟨_, rfl⟩
              rw [hH] at D6 HD6 HH1
              have hwh2 : IntKind.i64.wrap ((h : Int) + 1) = (H : Int) := by rw [hwh]; omega
              have HHH := Lib.hid hH
              clear hwh hH
              subst hA2
              go_wp2_with fail
              refine (HDT.out _ (Ext.refl _)).mono ?_
              rintro e7 w7 ⟨A7, n7, c7, rfl, ho7, hx7⟩
              have O7 := Lib.hid (O5.out.ext hx7)
              have W7 := Lib.hid ho7
              clear ho7 hx7
              go_wp2_with fail
              refine (take_any B A7 n7 c7 _ p F5 d5 O7.out.s W7.out.rd W7.out.cap (by have h1 := W7.out.rd.length; have h2 := HPL.out; omega) (by have h1 := HLR.out; have h2 := HL40.out; omega) (by have := D5.out.2; omega)).mono ?_
              rw [HD6.out]
              rintro e8 w8 ht
              replace ht : RetTake SinkAt w7 p F5 (⟨d5.rows ++ [recs.getD r []], d5.done⟩ : SinkD) (putP (ackP (E : Int) (H : Int))).1 e8 w8 := ht
              obtain ⟨F8, A8, n8, c8, rfl, o8, ow8, -⟩ := O7.out.take ht
              have O8 := Lib.hid o8
              have W8 := Lib.hid ow8
              have hq := (getP_putP (ack_check (E := E) (N := H) HE1.out.1 (by have := HE1.out.2; omega) (by have := HL40.out; have := HH1.out; omega)))
              have HAN := Lib.hid (answer23_ack E H (putP (ackP (E : Int) (H : Int))).1 A8 n8 c8 w8 ow8.rd ow8.cap (by have h1 := ow8.rd.length; have h2 := hq.2.2; omega) hq.1)
              have hnx := fun W (hX : Ext w8 W) => sink_next p F8 (⟨d5.rows ++ [recs.getD r []], d5.done⟩ : SinkD) W (o8.s.ext hX)
              have hl8 : ((⟨d5.rows ++ [recs.getD r []], d5.done⟩ : SinkD)).rows.length = H := by show (d5.rows ++ [recs.getD r []]).length = H; rw [List.length_append, HLR.out]; exact HHH.out
              rw [hl8] at hnx
              have HNX8 := Lib.hid hnx
              clear ht o8 ow8 hq hnx hl8
              go_wp2_with fail
              refine HAN.out.mono ?_
              rintro e9 w9 ⟨rfl, hx9⟩
              have O9 := Lib.hid (O8.out.ext hx9)
              have X9 := Lib.hid hx9
              clear hx9
              go_wp2_with fail
              refine (HNX8.out _ X9.out).mono ?_
              rintro e10 w10 ⟨rfl, rfl⟩
              go_wp2_with fail
              go_roundw
              case rel => exact ⟨k + 1, H, F8, (⟨d5.rows ++ [recs.getD r []], d5.done⟩ : SinkD), by omega, by omega, HH1.out, rfl, by go_num, O9, D6⟩
              case measure => simp [intOf]; omega
            · have q1 : ((r : Int) == (h : Int)) = false := by simp; omega
              have q2 : (r == h) = false := by simp; omega
              have hd6 := HTD.out
              rw [if_neg hrh, if_neg hrh] at hd6
              have HD6 := Lib.hid hd6
              clear hrh hd6 HGT HTD hwh
              subst hA2
              go_wp2_with fail
              refine (HDT.out _ (Ext.refl _)).mono ?_
              rintro e7 w7 ⟨A7, n7, c7, rfl, ho7, hx7⟩
              have O7 := Lib.hid (O5.out.ext hx7)
              have W7 := Lib.hid ho7
              clear ho7 hx7
              go_wp2_with fail
              refine (take_any B A7 n7 c7 _ p F5 d5 O7.out.s W7.out.rd W7.out.cap (by have h1 := W7.out.rd.length; have h2 := HPL.out; omega) (by have h1 := HLR.out; have h2 := HL40.out; omega) (by have := D5.out.2; omega)).mono ?_
              rw [HD6.out]
              rintro e8 w8 ht
              replace ht : RetTake SinkAt w7 p F5 d5 (putP (ackP (E : Int) (h : Int))).1 e8 w8 := ht
              obtain ⟨F8, A8, n8, c8, rfl, o8, ow8, -⟩ := O7.out.take ht
              have O8 := Lib.hid o8
              have W8 := Lib.hid ow8
              have hq := (getP_putP (ack_check (E := E) (N := h) HE1.out.1 (by have := HE1.out.2; omega) (by have := HL40.out; skip; omega)))
              have HAN := Lib.hid (answer23_ack E h (putP (ackP (E : Int) (h : Int))).1 A8 n8 c8 w8 ow8.rd ow8.cap (by have h1 := ow8.rd.length; have h2 := hq.2.2; omega) hq.1)
              have hnx := fun W (hX : Ext w8 W) => sink_next p F8 d5 W (o8.s.ext hX)
              have hl8 : (d5).rows.length = h := HLR.out
              rw [hl8] at hnx
              have HNX8 := Lib.hid hnx
              clear ht o8 ow8 hq hnx hl8
              go_wp2_with fail
              refine HAN.out.mono ?_
              rintro e9 w9 ⟨rfl, hx9⟩
              have O9 := Lib.hid (O8.out.ext hx9)
              have X9 := Lib.hid hx9
              clear hx9
              go_wp2_with fail
              refine (HNX8.out _ X9.out).mono ?_
              rintro e10 w10 ⟨rfl, rfl⟩
              go_wp2_with fail
              go_roundw
              case rel => exact ⟨k + 1, h, F8, d5, by omega, by omega, hhN, rfl, by go_num, O9, D5⟩
              case measure => simp [intOf]; omega
          · have hK1 : (K != 0) = true := by simp [hK]
            have hK2 := Lib.hid hK
            clear hK
            go_wp2_with fail
            obtain ⟨t1, t2, t3⟩ := HTO.out (fun q => hK2.out q.1)
            have hO4 := O3.out.ext (Ext.alloc w3 (.cells #[.int .i64 kd, .int .i64 ep, .int .i64 sq, .int .i64 id, .int .i64 cd, .slice A3 n3 c3] 32))
            refine (HTK.out _ hO4.s hO4.x).mono ?_
            rintro e5 w5 ht
            obtain ⟨F5, A5, n5, c5, rfl, o5, ow5, hkeep⟩ := hO4.take ht
            rw [t2] at ow5
            obtain rfl : n5 = 0 := by have := ow5.len; simpa using this.symm
            obtain ⟨g5, f5⟩ := hkeep g1 _ ((Ext.alloc w3 (.cells #[.int .i64 kd, .int .i64 ep, .int .i64 sq, .int .i64 id, .int .i64 cd, .slice A3 n3 c3] 32)).block G3.out) NF.out
            have O5 := Lib.hid o5
            have D5 : Hid ((takeF d b).1.rows = recs.take h ∧ (takeF d b).1.done.length ≤ k + 1) := ⟨t1, t3⟩
            have G5 := Lib.hid g5
            have N5 := Lib.hid f5
            clear ht o5 ow5 hkeep g5 f5 t1 t2 t3 O3 D0 G3 NF y0 y1 y2 hO4
            generalize (takeF d b).1 = d5 at *
            have hnx := sink_next p F5 d5 w5 O5.out.s
            have hl5 : d5.rows.length = h := by rw [D5.out.1]; exact HRL.out
            rw [hl5] at hnx
            have HNX := Lib.hid hnx
            clear hl5 hnx
            have y0 := (cell_of_row _ g1 0 _ _ _ G5.out)
            have y1 := (cell_of_row _ g1 1 _ _ _ G5.out)
            clear y0 y1
            have y0 : w5.cell? ⟨g1, 0, none⟩ = some (.int .i64 xe) := (cell_of_row _ _ _ _ _ _ G5.out).trans rfl
            have y1 : w5.cell? ⟨g1, 1, none⟩ = some (.int .i64 xs) := (cell_of_row _ _ _ _ _ _ G5.out).trans rfl
            go_wp2_with fail
            refine HNX.out.mono ?_
            rintro e6 w6 ⟨rfl, rfl⟩
            go_wp2_with fail
            refine (pick_any xs N _ hN0 (by have := HL40.out; omega)).mono ?_
            rintro e6 w6 ⟨r, hr, rfl, rfl⟩
            have y0 : w5.cell? ⟨g1, 0, none⟩ = some (.int .i64 xe) := (cell_of_row _ _ _ _ _ _ G5.out).trans rfl
            go_wp2_with fail
            refine (pick_any xe 9 _ (by omega) (by omega)).mono ?_
            rintro e6 w6 ⟨r9, hr9, rfl, rfl⟩
            obtain ⟨E, hE⟩ : ∃ E, r9 + 1 = E := ⟨_, rfl⟩
            have hEw : IntKind.i64.wrap ((1 : Int) + (r9 : Int)) = (E : Int) := by rw [IntWalk.i64_in _ (by omega)]; omega
            obtain ⟨ba, oa, Br, mr, cr, hA2, hba, hcr, hrr, hmr, hcr2⟩ := rows_at (HAL.out _ _ _ O5.out) hr
            have hlen := HRG.out r hr
            have hbl := hrr.length
            have HRR := Lib.hid hrr
            have hE1 : 1 ≤ E ∧ E ≤ 9 := by omega
            have HDT := Lib.hid (fun W (hX : Ext w5 W) => data23_any (E : Int) (r : Int) (recs.getD r []) Br mr cr W (hrr.ext hX) (i64P_lit _ (by omega)) (i64P_lit _ (by have := HL40.out; omega)) hmr hcr2)
            have HTD := Lib.hid (takeF_data (d := d5) (E := E) (S := r) (l := recs.getD r []) hE1.1 (by omega) (by have := HL40.out; omega) hlen.1 (by omega))
            have hl5 : d5.rows.length = h := by rw [D5.out.1]; exact HRL.out
            rw [hl5] at HTD
            have HPL := Lib.hid (getP_putP (data_check (E := E) (S := r) (l := recs.getD r []) hE1.1 (by omega) (by have := HL40.out; omega) hlen.1 (by omega))).2.2
            have HLR := Lib.hid hl5
            have hri : (0 : Int) ≤ (r : Int) := by omega
            have hri2 : (r : Int) < (N : Int) := by omega
            have hwh : IntKind.i64.wrap ((h : Int) + 1) = (h : Int) + 1 := IntWalk.i64_in _ (by have := HL40.out; omega)
            have HGT : Hid (r = h → recs.take (h + 1) = recs.take h ++ [recs.getD r []]) := fun e => by
              subst e
              rw [List.take_add_one, List.getD_eq_getElem?_getD, List.getElem?_eq_getElem (by rw [HN.out]; exact hr)]; rfl
            obtain ⟨B, hB⟩ : ∃ B, (putP ⟨1, (E : Int), (r : Int), 0, 0, recs.getD r []⟩).1 = B := ⟨_, rfl⟩
            rw [hB] at HDT HTD HPL
            have HE1 := Lib.hid hE1
            have HRN := Lib.hid hr
            have HA2 := Lib.hid hA2
            have xr : ∀ (AA : Option Addr), AA = A2 → True := fun _ _ => trivial
            clear hrr hl5 hB hlen hbl hE1 hr9 hr xr y0 hE
            by_cases hrh : r = h
            · have q1 : ((r : Int) == (h : Int)) = true := by simp [hrh]
              have q2 : (r == h) = true := by simp [hrh]
              have hd6 := HTD.out
              rw [if_pos hrh, if_pos hrh] at hd6
              have hgt := HGT.out hrh
              have D6 : Hid ((d5.rows ++ [recs.getD r []]) = recs.take (h + 1) ∧ d5.done.length ≤ k + 1) := ⟨by rw [hgt, D5.out.1], D5.out.2⟩
              have hh1 : h + 1 ≤ N := by have := HRN.out; omega
              have HD6 := Lib.hid hd6
              have HH1 := Lib.hid hh1
              clear hrh hd6 hgt hh1 HGT HTD
              obtain ⟨H, hH⟩ : ∃ H, h + 1 = H := ⟨_, rfl⟩
              rw [hH] at D6 HD6 HH1
              have hwh2 : IntKind.i64.wrap ((h : Int) + 1) = (H : Int) := by rw [hwh]; omega
              have HHH := Lib.hid hH
              clear hwh hH
              subst hA2
              go_wp2_with fail
              refine (HDT.out _ (Ext.refl _)).mono ?_
              rintro e7 w7 ⟨A7, n7, c7, rfl, ho7, hx7⟩
              have O7 := Lib.hid (O5.out.ext hx7)
              have W7 := Lib.hid ho7
              clear ho7 hx7
              go_wp2_with fail
              refine (take_any B A7 n7 c7 _ p F5 d5 O7.out.s W7.out.rd W7.out.cap (by have h1 := W7.out.rd.length; have h2 := HPL.out; omega) (by have h1 := HLR.out; have h2 := HL40.out; omega) (by have := D5.out.2; omega)).mono ?_
              rw [HD6.out]
              rintro e8 w8 ht
              replace ht : RetTake SinkAt w7 p F5 (⟨d5.rows ++ [recs.getD r []], d5.done⟩ : SinkD) (putP (ackP (E : Int) (H : Int))).1 e8 w8 := ht
              obtain ⟨F8, A8, n8, c8, rfl, o8, ow8, -⟩ := O7.out.take ht
              have O8 := Lib.hid o8
              have W8 := Lib.hid ow8
              have hq := (getP_putP (ack_check (E := E) (N := H) HE1.out.1 (by have := HE1.out.2; omega) (by have := HL40.out; have := HH1.out; omega)))
              have HAN := Lib.hid (answer23_ack E H (putP (ackP (E : Int) (H : Int))).1 A8 n8 c8 w8 ow8.rd ow8.cap (by have h1 := ow8.rd.length; have h2 := hq.2.2; omega) hq.1)
              have hnx := fun W (hX : Ext w8 W) => sink_next p F8 (⟨d5.rows ++ [recs.getD r []], d5.done⟩ : SinkD) W (o8.s.ext hX)
              have hl8 : ((⟨d5.rows ++ [recs.getD r []], d5.done⟩ : SinkD)).rows.length = H := by show (d5.rows ++ [recs.getD r []]).length = H; rw [List.length_append, HLR.out]; exact HHH.out
              rw [hl8] at hnx
              have HNX8 := Lib.hid hnx
              clear ht o8 ow8 hq hnx hl8
              go_wp2_with fail
              refine HAN.out.mono ?_
              rintro e9 w9 ⟨rfl, hx9⟩
              have O9 := Lib.hid (O8.out.ext hx9)
              have X9 := Lib.hid hx9
              clear hx9
              go_wp2_with fail
              refine (HNX8.out _ X9.out).mono ?_
              rintro e10 w10 ⟨rfl, rfl⟩
              go_wp2_with fail
              go_roundw
              case rel => exact ⟨k + 1, H, F8, (⟨d5.rows ++ [recs.getD r []], d5.done⟩ : SinkD), by omega, by omega, HH1.out, rfl, by go_num, O9, D6⟩
              case measure => simp [intOf]; omega
            · have q1 : ((r : Int) == (h : Int)) = false := by simp; omega
              have q2 : (r == h) = false := by simp; omega
              have hd6 := HTD.out
              rw [if_neg hrh, if_neg hrh] at hd6
              have HD6 := Lib.hid hd6
              clear hrh hd6 HGT HTD hwh
              subst hA2
              go_wp2_with fail
              refine (HDT.out _ (Ext.refl _)).mono ?_
              rintro e7 w7 ⟨A7, n7, c7, rfl, ho7, hx7⟩
              have O7 := Lib.hid (O5.out.ext hx7)
              have W7 := Lib.hid ho7
              clear ho7 hx7
              go_wp2_with fail
              refine (take_any B A7 n7 c7 _ p F5 d5 O7.out.s W7.out.rd W7.out.cap (by have h1 := W7.out.rd.length; have h2 := HPL.out; omega) (by have h1 := HLR.out; have h2 := HL40.out; omega) (by have := D5.out.2; omega)).mono ?_
              rw [HD6.out]
              rintro e8 w8 ht
              replace ht : RetTake SinkAt w7 p F5 d5 (putP (ackP (E : Int) (h : Int))).1 e8 w8 := ht
              obtain ⟨F8, A8, n8, c8, rfl, o8, ow8, -⟩ := O7.out.take ht
              have O8 := Lib.hid o8
              have W8 := Lib.hid ow8
              have hq := (getP_putP (ack_check (E := E) (N := h) HE1.out.1 (by have := HE1.out.2; omega) (by have := HL40.out; skip; omega)))
              have HAN := Lib.hid (answer23_ack E h (putP (ackP (E : Int) (h : Int))).1 A8 n8 c8 w8 ow8.rd ow8.cap (by have h1 := ow8.rd.length; have h2 := hq.2.2; omega) hq.1)
              have hnx := fun W (hX : Ext w8 W) => sink_next p F8 d5 W (o8.s.ext hX)
              have hl8 : (d5).rows.length = h := HLR.out
              rw [hl8] at hnx
              have HNX8 := Lib.hid hnx
              clear ht o8 ow8 hq hnx hl8
              go_wp2_with fail
              refine HAN.out.mono ?_
              rintro e9 w9 ⟨rfl, hx9⟩
              have O9 := Lib.hid (O8.out.ext hx9)
              have X9 := Lib.hid hx9
              clear hx9
              go_wp2_with fail
              refine (HNX8.out _ X9.out).mono ?_
              rintro e10 w10 ⟨rfl, rfl⟩
              go_wp2_with fail
              go_roundw
              case rel => exact ⟨k + 1, h, F8, d5, by omega, by omega, hhN, rfl, by go_num, O9, D5⟩
              case measure => simp [intOf]; omega
          · have hK1 : (kd != 1) = true := by simp [hkd]
            have hK2 := Lib.hid hkd
            clear hkd
            go_wp2_with fail
            obtain ⟨t1, t2, t3⟩ := HTO.out (fun q => hK2.out q.2)
            have hO4 := O3.out.ext (Ext.alloc w3 (.cells #[.int .i64 kd, .int .i64 ep, .int .i64 sq, .int .i64 id, .int .i64 cd, .slice A3 n3 c3] 32))
            refine (HTK.out _ hO4.s hO4.x).mono ?_
            rintro e5 w5 ht
            obtain ⟨F5, A5, n5, c5, rfl, o5, ow5, hkeep⟩ := hO4.take ht
            rw [t2] at ow5
            obtain rfl : n5 = 0 := by have := ow5.len; simpa using this.symm
            obtain ⟨g5, f5⟩ := hkeep g1 _ ((Ext.alloc w3 (.cells #[.int .i64 kd, .int .i64 ep, .int .i64 sq, .int .i64 id, .int .i64 cd, .slice A3 n3 c3] 32)).block G3.out) NF.out
            have O5 := Lib.hid o5
            have D5 : Hid ((takeF d b).1.rows = recs.take h ∧ (takeF d b).1.done.length ≤ k + 1) := ⟨t1, t3⟩
            have G5 := Lib.hid g5
            have N5 := Lib.hid f5
            clear ht o5 ow5 hkeep g5 f5 t1 t2 t3 O3 D0 G3 NF y0 y1 y2 hO4
            generalize (takeF d b).1 = d5 at *
            have hnx := sink_next p F5 d5 w5 O5.out.s
            have hl5 : d5.rows.length = h := by rw [D5.out.1]; exact HRL.out
            rw [hl5] at hnx
            have HNX := Lib.hid hnx
            clear hl5 hnx
            have y0 := (cell_of_row _ g1 0 _ _ _ G5.out)
            have y1 := (cell_of_row _ g1 1 _ _ _ G5.out)
            clear y0 y1
            have y0 : w5.cell? ⟨g1, 0, none⟩ = some (.int .i64 xe) := (cell_of_row _ _ _ _ _ _ G5.out).trans rfl
            have y1 : w5.cell? ⟨g1, 1, none⟩ = some (.int .i64 xs) := (cell_of_row _ _ _ _ _ _ G5.out).trans rfl
            go_wp2_with fail
            refine HNX.out.mono ?_
            rintro e6 w6 ⟨rfl, rfl⟩
            go_wp2_with fail
            refine (pick_any xs N _ hN0 (by have := HL40.out; omega)).mono ?_
            rintro e6 w6 ⟨r, hr, rfl, rfl⟩
            have y0 : w5.cell? ⟨g1, 0, none⟩ = some (.int .i64 xe) := (cell_of_row _ _ _ _ _ _ G5.out).trans rfl
            go_wp2_with fail
            refine (pick_any xe 9 _ (by omega) (by omega)).mono ?_
            rintro e6 w6 ⟨r9, hr9, rfl, rfl⟩
            obtain ⟨E, hE⟩ : ∃ E, r9 + 1 = E := ⟨_, rfl⟩
            have hEw : IntKind.i64.wrap ((1 : Int) + (r9 : Int)) = (E : Int) := by rw [IntWalk.i64_in _ (by omega)]; omega
            obtain ⟨ba, oa, Br, mr, cr, hA2, hba, hcr, hrr, hmr, hcr2⟩ := rows_at (HAL.out _ _ _ O5.out) hr
            have hlen := HRG.out r hr
            have hbl := hrr.length
            have HRR := Lib.hid hrr
            have hE1 : 1 ≤ E ∧ E ≤ 9 := by omega
            have HDT := Lib.hid (fun W (hX : Ext w5 W) => data23_any (E : Int) (r : Int) (recs.getD r []) Br mr cr W (hrr.ext hX) (i64P_lit _ (by omega)) (i64P_lit _ (by have := HL40.out; omega)) hmr hcr2)
            have HTD := Lib.hid (takeF_data (d := d5) (E := E) (S := r) (l := recs.getD r []) hE1.1 (by omega) (by have := HL40.out; omega) hlen.1 (by omega))
            have hl5 : d5.rows.length = h := by rw [D5.out.1]; exact HRL.out
            rw [hl5] at HTD
            have HPL := Lib.hid (getP_putP (data_check (E := E) (S := r) (l := recs.getD r []) hE1.1 (by omega) (by have := HL40.out; omega) hlen.1 (by omega))).2.2
            have HLR := Lib.hid hl5
            have hri : (0 : Int) ≤ (r : Int) := by omega
            have hri2 : (r : Int) < (N : Int) := by omega
            have hwh : IntKind.i64.wrap ((h : Int) + 1) = (h : Int) + 1 := IntWalk.i64_in _ (by have := HL40.out; omega)
            have HGT : Hid (r = h → recs.take (h + 1) = recs.take h ++ [recs.getD r []]) := fun e => by
              subst e
              rw [List.take_add_one, List.getD_eq_getElem?_getD, List.getElem?_eq_getElem (by rw [HN.out]; exact hr)]; rfl
            obtain ⟨B, hB⟩ : ∃ B, (putP ⟨1, (E : Int), (r : Int), 0, 0, recs.getD r []⟩).1 = B := ⟨_, rfl⟩
            rw [hB] at HDT HTD HPL
            have HE1 := Lib.hid hE1
            have HRN := Lib.hid hr
            have HA2 := Lib.hid hA2
            have xr : ∀ (AA : Option Addr), AA = A2 → True := fun _ _ => trivial
            clear hrr hl5 hB hlen hbl hE1 hr9 hr xr y0 hE
            by_cases hrh : r = h
            · have q1 : ((r : Int) == (h : Int)) = true := by simp [hrh]
              have q2 : (r == h) = true := by simp [hrh]
              have hd6 := HTD.out
              rw [if_pos hrh, if_pos hrh] at hd6
              have hgt := HGT.out hrh
              have D6 : Hid ((d5.rows ++ [recs.getD r []]) = recs.take (h + 1) ∧ d5.done.length ≤ k + 1) := ⟨by rw [hgt, D5.out.1], D5.out.2⟩
              have hh1 : h + 1 ≤ N := by have := HRN.out; omega
              have HD6 := Lib.hid hd6
              have HH1 := Lib.hid hh1
              clear hrh hd6 hgt hh1 HGT HTD
              obtain ⟨H, hH⟩ : ∃ H, h + 1 = H := ⟨_, rfl⟩
              rw [hH] at D6 HD6 HH1
              have hwh2 : IntKind.i64.wrap ((h : Int) + 1) = (H : Int) := by rw [hwh]; omega
              have HHH := Lib.hid hH
              clear hwh hH
              subst hA2
              go_wp2_with fail
              refine (HDT.out _ (Ext.refl _)).mono ?_
              rintro e7 w7 ⟨A7, n7, c7, rfl, ho7, hx7⟩
              have O7 := Lib.hid (O5.out.ext hx7)
              have W7 := Lib.hid ho7
              clear ho7 hx7
              go_wp2_with fail
              refine (take_any B A7 n7 c7 _ p F5 d5 O7.out.s W7.out.rd W7.out.cap (by have h1 := W7.out.rd.length; have h2 := HPL.out; omega) (by have h1 := HLR.out; have h2 := HL40.out; omega) (by have := D5.out.2; omega)).mono ?_
              rw [HD6.out]
              rintro e8 w8 ht
              replace ht : RetTake SinkAt w7 p F5 (⟨d5.rows ++ [recs.getD r []], d5.done⟩ : SinkD) (putP (ackP (E : Int) (H : Int))).1 e8 w8 := ht
              obtain ⟨F8, A8, n8, c8, rfl, o8, ow8, -⟩ := O7.out.take ht
              have O8 := Lib.hid o8
              have W8 := Lib.hid ow8
              have hq := (getP_putP (ack_check (E := E) (N := H) HE1.out.1 (by have := HE1.out.2; omega) (by have := HL40.out; have := HH1.out; omega)))
              have HAN := Lib.hid (answer23_ack E H (putP (ackP (E : Int) (H : Int))).1 A8 n8 c8 w8 ow8.rd ow8.cap (by have h1 := ow8.rd.length; have h2 := hq.2.2; omega) hq.1)
              have hnx := fun W (hX : Ext w8 W) => sink_next p F8 (⟨d5.rows ++ [recs.getD r []], d5.done⟩ : SinkD) W (o8.s.ext hX)
              have hl8 : ((⟨d5.rows ++ [recs.getD r []], d5.done⟩ : SinkD)).rows.length = H := by show (d5.rows ++ [recs.getD r []]).length = H; rw [List.length_append, HLR.out]; exact HHH.out
              rw [hl8] at hnx
              have HNX8 := Lib.hid hnx
              clear ht o8 ow8 hq hnx hl8
              go_wp2_with fail
              refine HAN.out.mono ?_
              rintro e9 w9 ⟨rfl, hx9⟩
              have O9 := Lib.hid (O8.out.ext hx9)
              have X9 := Lib.hid hx9
              clear hx9
              go_wp2_with fail
              refine (HNX8.out _ X9.out).mono ?_
              rintro e10 w10 ⟨rfl, rfl⟩
              go_wp2_with fail
              go_roundw
              case rel => exact ⟨k + 1, H, F8, (⟨d5.rows ++ [recs.getD r []], d5.done⟩ : SinkD), by omega, by omega, HH1.out, rfl, by go_num, O9, D6⟩
              case measure => simp [intOf]; omega
            · have q1 : ((r : Int) == (h : Int)) = false := by simp; omega
              have q2 : (r == h) = false := by simp; omega
              have hd6 := HTD.out
              rw [if_neg hrh, if_neg hrh] at hd6
              have HD6 := Lib.hid hd6
              clear hrh hd6 HGT HTD hwh
              subst hA2
              go_wp2_with fail
              refine (HDT.out _ (Ext.refl _)).mono ?_
              rintro e7 w7 ⟨A7, n7, c7, rfl, ho7, hx7⟩
              have O7 := Lib.hid (O5.out.ext hx7)
              have W7 := Lib.hid ho7
              clear ho7 hx7
              go_wp2_with fail
              refine (take_any B A7 n7 c7 _ p F5 d5 O7.out.s W7.out.rd W7.out.cap (by have h1 := W7.out.rd.length; have h2 := HPL.out; omega) (by have h1 := HLR.out; have h2 := HL40.out; omega) (by have := D5.out.2; omega)).mono ?_
              rw [HD6.out]
              rintro e8 w8 ht
              replace ht : RetTake SinkAt w7 p F5 d5 (putP (ackP (E : Int) (h : Int))).1 e8 w8 := ht
              obtain ⟨F8, A8, n8, c8, rfl, o8, ow8, -⟩ := O7.out.take ht
              have O8 := Lib.hid o8
              have W8 := Lib.hid ow8
              have hq := (getP_putP (ack_check (E := E) (N := h) HE1.out.1 (by have := HE1.out.2; omega) (by have := HL40.out; skip; omega)))
              have HAN := Lib.hid (answer23_ack E h (putP (ackP (E : Int) (h : Int))).1 A8 n8 c8 w8 ow8.rd ow8.cap (by have h1 := ow8.rd.length; have h2 := hq.2.2; omega) hq.1)
              have hnx := fun W (hX : Ext w8 W) => sink_next p F8 d5 W (o8.s.ext hX)
              have hl8 : (d5).rows.length = h := HLR.out
              rw [hl8] at hnx
              have HNX8 := Lib.hid hnx
              clear ht o8 ow8 hq hnx hl8
              go_wp2_with fail
              refine HAN.out.mono ?_
              rintro e9 w9 ⟨rfl, hx9⟩
              have O9 := Lib.hid (O8.out.ext hx9)
              have X9 := Lib.hid hx9
              clear hx9
              go_wp2_with fail
              refine (HNX8.out _ X9.out).mono ?_
              rintro e10 w10 ⟨rfl, rfl⟩
              go_wp2_with fail
              go_roundw
              case rel => exact ⟨k + 1, h, F8, d5, by omega, by omega, hhN, rfl, by go_num, O9, D5⟩
              case measure => simp [intOf]; omega
    · have hgo2 : ¬ (k : Int) < (m : Int) ∨ ((k : Int) < (m : Int) ∧ ¬ (k : Int) < 200) := by omega
      have hhc : (h : Int) ≤ (c2 : Int) := by omega
      have hhc2 : h ≤ c2 := by omega
      have hh0 : (0 : Int) ≤ (h : Int) := by omega
      have hdl : d.rows.length = h := by rw [HD.out.1, List.length_take, HN.out]; omega
      have HGT := Lib.hid (got_any p F d)
      have HRW := Lib.hid HD.out.1
      have hall : ∀ l ∈ d.rows, l.length ≤ 1000000 := fun l hl => by
        rw [HD.out.1] at hl
        obtain ⟨j, hj, rfl⟩ := List.mem_iff_getElem.1 (List.mem_of_mem_take hl)
        have h1 := (HRG.out j (by rw [← HN.out]; exact hj)).2
        rw [List.getD_eq_getElem?_getD, List.getElem?_eq_getElem hj] at h1
        have h2 : recs[j].length ≤ 101 := h1
        omega
      have HG := Lib.hid (fun W (hX : Ext wr W) => got_any p F d W (HO.out.s.ext hX) (by have := HL40.out; omega) hall)
      rw [hdl] at HG
      have HAR := Lib.hid (fun W (hX : Ext wr W) => ((RdL.take (HAL.out _ _ _ HO.out) hhN).ext hX))
      have H40 := Lib.hid (show h ≤ 1000000 by have := HL40.out; omega)
      have HDL := Lib.hid hdl
      unfold pS at HG
      clear hgo hk hk2 hdl hall HGT HD
      rcases hgo2 with hg | ⟨hg, hg2⟩
      all_goals
        go_wp2_with fail
        go_region_held3 (fun W => True) (trivial) ((first
          | (go_at_call 17
             with_reducible refine Calls.mono (HG.out _ (Ext.draw wr)) ?_
             rintro e3 w3 ⟨A3, c3, rfl, ho, hx⟩
             have X3 := Lib.hid ((Ext.draw wr).trans hx)
             have W3 := Lib.hid (rows_rd ho HDL.out)
             clear ho hx)
          | (go_at_call 16
             with_reducible refine Calls.mono (sameRows_eq d.rows A3 A2 h c3 c2 w3 W3.out (by rw [HRW.out]; exact HAR.out _ X3.out) H40.out) ?_
             rintro e4 w4 ⟨rfl, hx⟩
             have X4 := Lib.hid (X3.out.trans hx)
             clear hx)
          | (go_at_call 9
             with_reducible refine Calls.mono (known23_any _) ?_
             rintro e5 w5 ⟨rfl, hx⟩
             have X5 := Lib.hid (X4.out.trans hx)
             clear hx)))
        go_wp2_with fail
        go_ret
        exact ⟨rfl, HO.out.x.trans X5.out⟩
end Go.Proofs.Ytifojmmggcenkaa
