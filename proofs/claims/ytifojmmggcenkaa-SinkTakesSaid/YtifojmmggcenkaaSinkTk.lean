/- SinkTakes, the walk: whatever bytes come are answered, and kept, as they must be. -/
import Derived.Test.YtifojmmggcenkaaSinkL
namespace Go.Proofs.Ytifojmmggcenkaa
set_option linter.unusedVariables false
set_option linter.unusedSimpArgs false
set_option maxRecDepth 100000
set_option maxHeartbeats 4000000
open Go Go.RowKit Go.Out

theorem RefAt.made (w : World) : RefAt (w.alloc (.cells #[.slice none 0 0, .slice none 0 0] 47)) w.heap.size (fun k => k = w.heap.size) sink0 :=
  ⟨none, 0, .slice none 0 0, heap_alloc_new w _, RowsAt.nil_ _ _, DoneAt.nil_ _ _, rfl, fun k hk => by rw [hk]; simp⟩
/-- Two sinks that have the same. -/
structure Both (w0 w : World) (p q : Nat) (F G : Nat → Prop) (d : SinkD) : Prop where
  s : SinkAt w p F d
  r : RefAt w q G d
  apart : ∀ k, F k → ¬ G k
  x : Ext w0 w
  f : ∀ k, F k → w0.heap.size ≤ k
  g : ∀ k, G k → w0.heap.size ≤ k
theorem Both.ext {w0 w w1 : World} {p q : Nat} {F G : Nat → Prop} {d : SinkD} (h : Both w0 w p q F G d) (hx : Ext w w1) : Both w0 w1 p q F G d := ⟨h.s.ext hx, h.r.ext hx, h.apart, h.x.trans hx, h.f, h.g⟩
/-- Something else is written. -/
theorem Both.spoilt {w0 w w1 : World} {p q : Nat} {F G : Nat → Prop} {d : SinkD} {A : Option Addr} (h : Both w0 w p q F G d) (hg : w.grownBy w1 (blk A)) (hF : ∀ k, blk A = some k → ¬ F k ∧ ¬ G k ∧ w0.heap.size ≤ k) : Both w0 w1 p q F G d := by
  have ho : Only (fun k => blk A = some k) w w1 := Only.of_grown hg fun g hg => hg
  exact ⟨h.s.only ho fun k hk hb => (hF k hb).1 hk, h.r.only ho fun k hk hb => (hF k hb).2.1 hk, h.apart, Only.ext ho h.x fun k hk => (hF k hk).2.2, h.f, h.g⟩

/-- Between the two: the program's sink has taken, the document's has not yet. -/
structure Mid (w0 w : World) (p q : Nat) (F G : Nat → Prop) (d d1 : SinkD) (g : Nat) (cur : Array Value) (A : Option Addr) (n c : Nat) (a : List UInt8) : Prop where
  s : SinkAt w p F d1
  r : RefAt w q G d
  apart : ∀ k, F k → ¬ G k
  x : Ext w0 w
  f : ∀ k, F k → w0.heap.size ≤ k
  g2 : ∀ k, G k → w0.heap.size ≤ k
  hh : w.heap[g]? = some (.cells cur 5 (0, 0))
  gf : ¬ F g ∧ ¬ G g ∧ w0.heap.size ≤ g
  o : Own w 0 5 IsU8 A n c (a.map cB)
  na : ∀ k, blk A = some k → ¬ F k ∧ ¬ G k ∧ w0.heap.size ≤ k
  ga : ∀ k, blk A = some k → k ≠ g
theorem Mid.ext {w0 w w1 : World} {p q : Nat} {F G : Nat → Prop} {d d1 : SinkD} {g : Nat} {cur : Array Value} {A : Option Addr} {n c : Nat} {a : List UInt8} (h : Mid w0 w p q F G d d1 g cur A n c a) (hx : Ext w w1) : Mid w0 w1 p q F G d d1 g cur A n c a :=
  ⟨h.s.ext hx, h.r.ext hx, h.apart, h.x.trans hx, h.f, h.g2, hx.block h.hh, h.gf, h.o.ext hx, h.na, h.ga⟩
theorem Both.take {w0 w w1 : World} {p q : Nat} {F G : Nat → Prop} {d d1 : SinkD} {g : Nat} {cur : Array Value} {a : List UInt8} {e : Ending} (h : Both w0 w p q F G d) (hh : w.heap[g]? = some (.cells cur 5 (0, 0))) (hg : ¬ F g ∧ ¬ G g ∧ w0.heap.size ≤ g)
    (ht : RetTake SinkAt w p F d1 a e w1) : ∃ F1 A n c, e = .returned (.slice A n c) ∧ n ≤ c ∧ c ≤ 9223372036854775807 ∧ Mid w0 w1 p q F1 G d d1 g cur A n c a := by
  obtain ⟨F1, A, n, c, rfl, hs, ho, hf, hO, hn⟩ := ht
  have hglt := lt_of_heap hh
  have hsz := h.x.size
  refine ⟨F1, A, n, c, rfl, hO.cap, hO.capLe, hs, h.r.only ho (fun k hk hk2 => h.apart k hk2 hk), fun k hk hk2 => ?_, Only.ext ho h.x h.f, fun k hk => ?_, h.g, (ho.block g hglt hg.1).trans hh, ⟨fun h1 => ?_, hg.2⟩, hO.mono (Nat.zero_le _), fun k hk => ⟨hn k hk, fun h1 => ?_, ?_⟩, fun k hk => ?_⟩
  · rcases hf k hk with h1 | h1
    · exact h.apart k h1 hk2
    · have := h.r.lt k hk2; omega
  · rcases hf k hk with h1 | h1
    · exact h.f k h1
    · omega
  · rcases hf g h1 with h2 | h2
    · exact hg.1 h2
    · omega
  · have := (hO.lt k hk).1; have := h.r.lt k h1; omega
  · have := (hO.lt k hk).1; omega
  · have := (hO.lt k hk).1; omega
theorem Mid.take {w0 w w1 : World} {p q : Nat} {F G : Nat → Prop} {d d1 : SinkD} {g : Nat} {cur : Array Value} {A : Option Addr} {n c : Nat} {a : List UInt8} {e : Ending} (h : Mid w0 w p q F G d d1 g cur A n c a)
    (ht : RetTake RefAt w q G d1 a e w1) : ∃ G1 B m k, e = .returned (.slice B m k) ∧ Both w0 w1 p q F G1 d1 ∧ w1.heap[g]? = some (.cells cur 5 (0, 0)) ∧ (¬ F g ∧ ¬ G1 g ∧ w0.heap.size ≤ g) ∧ Own w1 0 5 IsU8 A n c (a.map cB) ∧ (∀ k, blk A = some k → ¬ F k ∧ ¬ G1 k ∧ w0.heap.size ≤ k) ∧ (∀ k, blk A = some k → k ≠ g) ∧ Rd w1 B m (a.map cB) := by
  obtain ⟨G1, B, m, k, rfl, hs, ho, hf, hO, hn⟩ := ht
  have hglt := lt_of_heap h.hh
  have hsz := h.x.size
  refine ⟨G1, B, m, k, rfl, ⟨h.s.only ho h.apart, hs, fun j hj hj2 => ?_, Only.ext ho h.x h.g2, h.f, fun j hj => ?_⟩, (ho.block g hglt h.gf.2.1).trans h.hh, ⟨h.gf.1, fun h1 => ?_, h.gf.2.2⟩, h.o.only ho (fun j hj => (h.na j hj).2.1), fun j hj => ⟨(h.na j hj).1, fun h1 => ?_, (h.na j hj).2.2⟩, h.ga, hO.rd⟩
  · rcases hf j hj2 with h1 | h1
    · exact h.apart j hj h1
    · have := h.s.lt j hj; omega
  · rcases hf j hj with h1 | h1
    · exact h.g2 j h1
    · omega
  · rcases hf g h1 with h2 | h2
    · exact h.gf.2.1 h2
    · omega
  · rcases hf j h1 with h2 | h2
    · exact (h.na j hj).2.1 h2
    · have := (h.o.lt j hj).2; omega

/-- Rows of the call's own, of which the first j are spoilt. -/
def SpR (w : World) (base : Nat) (A : Option Addr) (c N : Nat) (rs : List (Option Addr × Nat × Nat)) (j : Nat) : Prop :=
  Own w base 27 IsSl A N c (rs.map sl) ∧ (∀ (i : Nat) (t : Option Addr × Nat × Nat), j ≤ i → rs[i]? = some t → ∃ l : List UInt8, Own w base 5 IsU8 t.1 t.2.1 t.2.2 (l.map cB)) ∧ rs.Pairwise fun s t => Sep s.1 t.1
theorem SpR.of {w : World} {base : Nat} {A : Option Addr} {c N : Nat} {rows : List (List UInt8)} (h : RowsOw w base A c rows) (hN : rows.length = N) : ∃ rs, SpR w base A c N rs 0 := by
  obtain ⟨rs, h1, h2, h3⟩ := h
  rw [hN] at h1
  have hl : rs.length = N := by have := h1.len; simpa using this
  exact ⟨rs, h1, fun i t _ ht => by
    have hi : i < rs.length := (List.getElem?_eq_some_iff.1 ht).1
    exact ⟨_, h2 i t (rows[i]'(by omega)) ht (List.getElem?_eq_getElem (by omega))⟩, h3⟩
theorem SpR.at_ {w : World} {base : Nat} {A : Option Addr} {c N : Nat} {rs : List (Option Addr × Nat × Nat)} {j : Nat} (h : SpR w base A c N rs j) (hj : j < N) :
    ∃ (b off : Nat) (t : Option Addr × Nat × Nat), A = some ⟨b, off, none⟩ ∧ w.cell? ⟨b, off + j, none⟩ = some (sl t) ∧ rs[j]? = some t ∧ ∃ l : List UInt8, Own w base 5 IsU8 t.1 t.2.1 t.2.2 (l.map cB) := by
  obtain ⟨h1, h2, -⟩ := h
  obtain ⟨b, off, e, -, hl, hc⟩ := h1.rd.at_ hj
  have hjr : j < rs.length := by simpa using hl
  exact ⟨b, off, rs[j], e, by simpa using hc, List.getElem?_eq_getElem hjr, h2 j _ (Nat.le_refl _) (List.getElem?_eq_getElem hjr)⟩
theorem SpR.step {w w1 : World} {base : Nat} {A : Option Addr} {c N : Nat} {rs : List (Option Addr × Nat × Nat)} {j : Nat} {t : Option Addr × Nat × Nat} {l : List UInt8} (h : SpR w base A c N rs j) (hg : w.grownBy w1 (blk t.1)) (ht : rs[j]? = some t) (ho : Own w base 5 IsU8 t.1 t.2.1 t.2.2 (l.map cB)) : SpR w1 base A c N rs (j + 1) := by
  obtain ⟨h1, h2, h3⟩ := h
  refine ⟨h1.kept fun g hg' => hg.block g (h1.lt g hg').2 (fun e => absurd ((h1.ty hg').inj (ho.ty e.symm)) (by decide)), fun i s hi hs => ?_, h3⟩
  obtain ⟨k, hk⟩ := h2 i s (by omega) hs
  refine ⟨k, hk.kept fun g hg' => hg.block g (hk.lt g hg').2 (fun e => ?_)⟩
  obtain ⟨hj', rfl⟩ := List.getElem?_eq_some_iff.1 ht
  obtain ⟨hi', rfl⟩ := List.getElem?_eq_some_iff.1 hs
  exact sep_index (S := rs) h3 hi' hj' (by omega) g hg' e.symm
/-- A list of packets of the call's own. -/
def ResAt (w : World) (base : Nat) (A : Option Addr) (M : Nat) : Prop := 0 < M → ∃ gr cur, A = some ⟨gr, 0, none⟩ ∧ base ≤ gr ∧ w.heap[gr]? = some (.cells cur 32 (0, 0)) ∧ M * 6 ≤ cur.size
theorem ResAt.of {w : World} {base : Nat} {A : Option Addr} {M c : Nat} {xs : List Value} (h : w.ownsRow base 32 6 (.slice A M c) M xs) : ResAt w base A M := fun hM => by
  rcases h.2 with ⟨-, h0⟩ | ⟨gr, cap, cur, e, hb, hh, hc, -, hs, -⟩
  · omega
  · injection e with e1 e2 e3
    exact ⟨gr, cur, e1, hb, hh, by rw [hs]; exact Nat.mul_le_mul_right 6 hc⟩
theorem ResAt.kept {w w1 : World} {base : Nat} {A : Option Addr} {M : Nat} (h : ResAt w base A M) (hk : ∀ k, k < w.heap.size → TyAt w k 32 → w1.heap[k]? = w.heap[k]?) : ResAt w1 base A M := fun hM => by
  obtain ⟨gr, cur, e, hb, hh, hs⟩ := h hM
  exact ⟨gr, cur, e, hb, (hk gr (lt_of_heap hh) (TyAt.of hh)).trans hh, hs⟩
theorem lawSinkTakes (l : List (List UInt8)) (A : Option Addr) (n c : Nat) (w : World) (hr : RdL rowK w A n l) (hc : n ≤ c) (hcm : c ≤ 9223372036854775807) :
    Calls Try.prog 4 #[.slice A n c] w (RetQ w true) := by
  have HR := Lib.hid hr
  clear hr
  go_enter Try.func4, Try.ntmps4
  go_wp2_with fail
  refine (sink_new _).mono ?_
  rintro e1 w1 ⟨p, F1, rfl, hs, hx, hf⟩
  simp only [pS]
  have HB1 : Hid (Both w (w1.alloc (.cells #[.slice none 0 0, .slice none 0 0] 47)) p w1.heap.size F1 (fun k => k = w1.heap.size) sink0) :=
    ⟨hs.ext (Ext.alloc _ _), RefAt.made w1, fun k hk hk2 => by have := hs.lt k hk; omega, hx.trans (Ext.alloc _ _), hf, fun k hk => by rw [hk]; exact hx.size⟩
  clear hs hx hf
  obtain ⟨q, hq⟩ : ∃ q, w1.heap.size = q := ⟨_, rfl⟩
  rw [hq] at HB1
  go_wp2_with fail
  try simp only [hq]
  generalize w1.alloc (.cells #[.slice none 0 0, .slice none 0 0] 47) = w2 at *
  clear hq
  go_loopw [5, 6, 7] (fun i _ _ wr => ∃ (k : Nat) (F G : Nat → Prop) (d : SinkD), k ≤ n ∧ k ≤ 200 ∧ i = .int .i64 (k : Int) ∧ Hid (Both w wr p q F G d) ∧ Hid (d.rows.length ≤ k ∧ d.done.length ≤ k ∧ RowsOk d)) (fun i _ _ _ => n - (intOf i).toNat)
  case atStart => exact ⟨0, F1, _, sink0, Nat.zero_le _, Nat.zero_le _, rfl, HB1, ⟨Nat.le_refl _, Nat.le_refl _, fun l hl => by simp [sink0] at hl⟩⟩
  case round =>
    obtain ⟨k, F, G, d, hk, hk2, rfl, HB, HD⟩ := hrel
    by_cases hgo : k < n ∧ k < 200
    · obtain ⟨hlt, hlt2⟩ := hgo
      obtain ⟨bk, off, B1, m1, c1, rfl, hbk, hcell, hr1, hm1, hc1⟩ := rows_at HR.out hlt
      have HCL : Hid (∀ W, Ext w W → W.cell? ⟨bk, off + k, none⟩ = some (.slice B1 m1 c1)) := fun W hX => hX.cell hbk hcell
      have HR1 : Hid (∀ W, Ext w W → Rd W B1 m1 ((l.getD k []).map cB)) := fun W hX => hr1.ext hX
      have i1 : (0 : Int) ≤ (k : Int) := by omega
      have i2 : (k : Int) < (n : Int) := by omega
      have i3 : (k : Int) < 200 := by omega
      have i5 : IntKind.i64.wrap ((k : Int) + 1) = (k : Int) + 1 := IntWalk.i64_in _ (by omega)
      clear hr1 hcell
      have x0 := HCL.out _ HB.out.x
      by_cases hm1' : (65536 : Int) < (m1 : Int)
      · go_wp2_with fail
        refine (known23_any _).mono ?_
        rintro e2 w3 ⟨rfl, hx⟩
        go_wp2_with fail
        go_ret
        exact ⟨rfl, HB.out.x.trans hx⟩
      · have hm2 : m1 ≤ 65536 := by omega
        obtain ⟨b, hb⟩ : ∃ b, l.getD k [] = b := ⟨_, rfl⟩
        rw [hb] at HR1
        clear hb
        have hl1 := (HR1.out w (Ext.refl _)).length
        have D2 : Hid ((takeF d b).1.rows.length ≤ k + 1 ∧ (takeF d b).1.done.length ≤ k + 1 ∧ RowsOk (takeF d b).1) := by
          have h1 := takeF_len d b
          obtain ⟨h2, h3, h4⟩ := HD.out
          exact ⟨by omega, by omega, takeF_rows h4⟩
        have HTS := Lib.hid (fun W A m c (h : SinkAt W p F d) (hr : Rd W A m (b.map cB)) (hc : m ≤ c) (hm : m ≤ 65536) => take_any b A m c W p F d h hr hc (by omega) (by have := HD.out.1; omega) (by have := HD.out.2.1; omega))
        have HTR := Lib.hid (fun W A m c (h : RefAt W q G d) (hr : Rd W A m (b.map cB)) (hc : m ≤ c) (hm : m ≤ 65536) => rtake_any b A m c W q G d h hr hc (by omega) (by have := HD.out.1; omega) (by have := HD.out.2.1; omega))
        obtain ⟨d1, hd1⟩ : ∃ d1, (takeF d b).1 = d1 := ⟨_, rfl⟩
        obtain ⟨a, ha⟩ : ∃ a, (takeF d b).2 = a := ⟨_, rfl⟩
        rw [hd1, ha] at HTS HTR
        rw [hd1] at D2
        clear hd1 ha HD
        unfold pS at HTS HTR
        have HL1 := Lib.hid hl1
        clear hl1
        go_wp2_with fail
        refine (lent_any b B1 m1 c1 _ (HR1.out _ HB.out.x) (by omega)).mono ?_
        rintro e3 w3 ⟨g, cur, rfl, hgz, hh, hcur, hb3⟩
        have HB3 := Lib.hid (HB.out.ext (Ext.of hb3))
        have O3 := Lib.hid (lent_own hgz hh hcur HL1.out (by omega))
        have HGF : Hid (¬ F g ∧ ¬ G g ∧ w.heap.size ≤ g) := ⟨fun h => by have := HB.out.s.lt g h; omega, fun h => by have := HB.out.r.lt g h; omega, Nat.le_trans HB.out.x.size hgz⟩
        have HL4 : Hid (m1 ≤ 140737488355328) := by unfold Hid; omega
        have HH3 := Lib.hid hh; have HCU := Lib.hid hcur
        clear hh hcur hb3 hgz x0 HB
        go_wp2_with fail
        refine (HTS.out _ _ _ _ HB3.out.s O3.out.rd (by omega) hm2).mono ?_
        rintro e4 w4 ht
        obtain ⟨F4, A4, n4, c4, rfl, hn4, hc4, hmid⟩ := HB3.out.take HH3.out HGF.out ht
        have M4 := Lib.hid (hmid.ext (Ext.draw w4))
        have x4 := HCL.out _ hmid.x
        clear ht hmid HB3 O3 HH3 HTS HGF
        have HTR4 := Lib.hid (HTR.out w4.drew B1 m1 c1 M4.out.r (HR1.out _ M4.out.x) hm1 hm2)
        clear HTR
        go_wp2_with fail
        go_region_law ((try go_simp; first
               | (go_at_call 20
                  with_reducible refine Calls.mono HTR4.out ?_
                  rintro e5 w5 ht
                  obtain ⟨G5, A5, n5, c5, rfl, hB, hh, hgf, ho, hna, hga, hrd⟩ := M4.out.take ht
                  have HB5 := Lib.hid hB
                  have HH5 := Lib.hid hh
                  have GG5 := Lib.hid hgf
                  have O5 := Lib.hid ho
                  have NA5 := Lib.hid hna
                  have GA5 := Lib.hid hga
                  have hsm := same_any a a A4 A5 n4 n5 c4 c5 w5 ho.rd hrd (Nat.le_trans hn4 hc4)
                  rw [decide_eq_true rfl] at hsm
                  have HSM := Lib.hid hsm
                  have x5 := HCL.out _ hB.x
                  have HNX5 := Lib.hid (fun W (hX : Ext w5 W) => sink_next p F4 d1 W (hB.s.ext hX))
                  unfold pS at HNX5
                  obtain ⟨Ar, cr, vr, hrr, -⟩ := hB.r
                  have HRR : Hid (∀ W, Ext w5 W → W.cell? ⟨q, 0, none⟩ = some (.slice Ar d1.rows.length cr)) := fun W hX => (cell_of_row _ _ _ _ _ _ (hX.block hrr)).trans rfl
                  clear ht hB hh hgf ho hna hga hrd hsm hrr)
               | (go_at_call 19
                  with_reducible refine Calls.mono HSM.out ?_
                  rintro e6 w6 ⟨rfl, hb6⟩
                  have X6 := Lib.hid (Ext.of hb6)
                  have x6 := HCL.out _ (HB5.out.x.trans (Ext.of hb6))
                  clear hb6)
               | (go_at_call 21
                  with_reducible refine Calls.mono (kept_any b B1 m1 c1 g cur w6 (HR1.out _ (HB5.out.x.trans X6.out)) (X6.out.block HH5.out) HCU.out HL4.out) ?_
                  rintro e7 w7 ⟨rfl, hb7⟩
                  have X7 := Lib.hid (X6.out.trans (Ext.of hb7))
                  have y7 := HRR.out _ X7.out
                  clear hb7)
               | (go_at_call 12
                  with_reducible refine Calls.mono (HNX5.out _ X7.out) ?_
                  rintro e8 w8 ⟨rfl, rfl⟩)))
        all_goals
          clear x4 x5 x6 y7 HRR HNX5 HSM M4 HTR4
          have HB7 := Lib.hid (HB5.out.ext X7.out); have O7 := Lib.hid (O5.out.ext X7.out)
          have HI7 : Hid (Own w7 0 5 IsU8 (some ⟨g, 0, none⟩) m1 (m1 + 5) (b.map cB)) := lent_own (Nat.zero_le _) (X7.out.block HH5.out) HCU.out HL1.out (by omega)
          clear HH5 HB5 O5 X6 X7
          go_wp2_with fail
          refine (spoil_any _ m1 (m1 + 5) 0 _ _ HI7.out).mono ?_
          rintro e9 w9 ⟨rfl, -, hg9⟩
          have HB9 := Lib.hid (HB7.out.spoilt hg9 (fun j hj => by simp [blk] at hj; subst hj; exact GG5.out))
          have O9 : Hid (Own w9 0 5 IsU8 A4 n4 c4 (a.map cB)) := O7.out.kept fun j hj => hg9.block j (O7.out.lt j hj).2 (fun e => by simp [blk] at e; exact GA5.out j hj e)
          clear hg9 HI7 HB7 O7
          go_wp2_with fail
          refine (spoil_any A4 n4 c4 0 _ _ O9.out).mono ?_
          rintro e10 w10 ⟨rfl, -, hg10⟩
          have HB10 := Lib.hid (HB9.out.spoilt hg10 NA5.out)
          clear hg10 O9 HB9
          go_wp2_with fail
          go_roundw
          case rel => exact ⟨k + 1, F4, G5, d1, by omega, by omega, by go_num, HB10, D2⟩
          case measure => simp [intOf]; omega
    · have hgo2 : ¬ (k : Int) < (n : Int) ∨ ((k : Int) < (n : Int) ∧ ¬ (k : Int) < 200) := by omega
      have HDD : Hid (d.rows.length ≤ 200 ∧ d.done.length ≤ 200 ∧ RowsOk d) := ⟨by have := HD.out.1; omega, by have := HD.out.2.1; omega, HD.out.2.2⟩
      have hall : ∀ l ∈ d.rows, l.length ≤ 1000000 := fun l hl => Nat.le_trans (HDD.out.2.2 l hl).2 (by omega)
      obtain ⟨N, hN⟩ : ∃ N, d.rows.length = N := ⟨_, rfl⟩
      obtain ⟨M, hM⟩ : ∃ M, d.done.length = M := ⟨_, rfl⟩
      have HGT := Lib.hid (fun W (hS : SinkAt W p F d) => got_any p F d W hS (by have := HDD.out.1; omega) hall)
      have HRS := Lib.hid (fun W (hS : SinkAt W p F d) => results_any p F d W hS (by have := HDD.out.2.1; omega))
      rw [hN] at HGT
      rw [hM] at HRS
      have HNM : Hid (N ≤ 200 ∧ M ≤ 200) := ⟨by have := HDD.out.1; omega, by have := HDD.out.2.1; omega⟩
      have HN := Lib.hid hN; have HM := Lib.hid hM
      have HRF : Hid (∀ W, RefAt W q G d → ∃ A1 c1 A2 c2, W.heap[q]? = some (.cells #[.slice A1 N c1, .slice A2 M c2] 47 (0, 0)) ∧ RdL rowK W A1 N d.rows ∧ RdL doneK W A2 M d.done) := fun W hW => by
        obtain ⟨A1, c1, v, h1, h2, ⟨xs, h3, h4, -⟩, -⟩ := hW
        obtain ⟨A2, c2, rfl, -, -, -⟩ := ownsRow_slice h3
        have h2' := h2.rd
        rw [hN] at h1 h2'
        rw [hM] at h1 h3
        exact ⟨A1, c1, A2, c2, h1, h2', done_rd h3 h4 hM⟩
      unfold pS at HGT HRS
      have HLw := Lib.hid HB.out.s.lt; have HLr := Lib.hid HB.out.r.lt; have HWR := Lib.hid HB.out.x.size
      clear hgo hk hk2 hN hM HD hall HDD
      rcases hgo2 with hg | ⟨hg, hg2⟩
      all_goals
        go_wp2_with fail
        refine (HGT.out _ HB.out.s).mono ?_
        rintro e3 w3 ⟨A3, c3, rfl, hgo3, hx3⟩
        have HB3 := Lib.hid (HB.out.ext hx3)
        have HGO := Lib.hid hgo3
        clear hgo3 hx3 HB
        go_wp2_with fail
        refine (HRS.out _ HB3.out.s).mono ?_
        rintro e4 w4 ⟨v4, xs4, rfl, ho4, hit4, hx4⟩
        obtain ⟨A4, c4, rfl, -, -, -⟩ := ownsRow_slice ho4
        have HB4 := Lib.hid (HB3.out.ext hx4)
        have HGO4 := Lib.hid (HGO.out.ext hx4)
        have HRO := Lib.hid ho4
        have HIT := Lib.hid hit4
        have HL3 := Lib.hid HB3.out.s.lt
        have HW3 := Lib.hid HB3.out.x.size
        have HL3r := Lib.hid HB3.out.r.lt
        clear ho4 hit4 hx4 HB3 HGO
        obtain ⟨A5, c5, A6, c6, hq, hq1, hq2⟩ := HRF.out _ HB4.out.r
        have y0 : w4.cell? ⟨q, 0, none⟩ = some (.slice A5 N c5) := (cell_of_row _ _ _ _ _ _ hq).trans rfl
        have Y1 : Hid (∀ W, Ext w4 W → W.cell? ⟨q, 1, none⟩ = some (.slice A6 M c6)) := fun W hX => (cell_of_row _ _ _ _ _ _ (hX.block hq)).trans rfl
        have HQ1 := Lib.hid hq1; have HQ2 := Lib.hid hq2
        clear hq hq1 hq2
        go_wp2_with fail
        refine (sameRows_eq d.rows A3 A5 N c3 c5 _ (rows_rd HGO4.out HN.out) HQ1.out (by have := HNM.out.1; omega)).mono ?_
        rintro e5 w5 ⟨rfl, hx5⟩
        have y1 := Y1.out _ hx5
        have E5 := Lib.hid hx5
        clear hx5 y0
        go_wp2_with fail
        refine (samePackets_eq d.done A4 A6 M c4 c6 _ ((done_rd HRO.out HIT.out HM.out).ext E5.out) (HQ2.out.ext E5.out) (by have := HNM.out.2; omega)).mono ?_
        rintro e6 w6 ⟨rfl, hx6⟩
        have E6 := Lib.hid (E5.out.trans hx6)
        have HB6 := Lib.hid (HB4.out.ext E6.out)
        have HGO6 := Lib.hid (HGO4.out.ext E6.out)
        have HRO6 := Lib.hid (ownsRow_ext HRO.out E6.out)
        clear hx6 E5 E6 y1 Y1 HQ1 HQ2 HGO4 HRO HB4
        obtain ⟨rs, hsp⟩ := SpR.of HGO6.out HN.out
        have HSP := Lib.hid hsp
        have HRA := Lib.hid (ResAt.of HRO6.out)
        clear hsp HGO6 HRO6 HIT
        go_wp2_with fail
        go_loopw [10] (fun i wl => ∃ j : Nat, j ≤ N ∧ i = .int .i64 (j : Int) ∧ Hid (Both w wl p q F G d) ∧ Hid (SpR wl wr.heap.size A3 c3 N rs j) ∧ Hid (ResAt wl w3.heap.size A4 M)) (fun i _ => N - (intOf i).toNat)
        case atStart => exact ⟨0, Nat.zero_le _, rfl, HB6, HSP, HRA⟩
        case round =>
          obtain ⟨j, hj, rfl, HBl, HSPl, HRAl⟩ := hrel
          rcases Nat.lt_or_ge j N with hlt | hge
          · obtain ⟨b3, o3, t, hA3, hcell, hti, l3, hown⟩ := HSPl.out.at_ hlt
            subst hA3
            obtain ⟨Bt, mt, et⟩ := t
            simp only [sl] at hcell hown
            have HOW := Lib.hid hown
            have HTI := Lib.hid hti
            have i1 : (0 : Int) ≤ (j : Int) := by omega
            have i2 : (j : Int) < (N : Int) := by omega
            have i5 : IntKind.i64.wrap ((j : Int) + 1) = (j : Int) + 1 := IntWalk.i64_in _ (by have := HNM.out.1; omega)
            clear hown hti
            go_wp2_with fail
            refine (spoil_any Bt mt et _ _ _ HOW.out).mono ?_
            rintro e7 w7 ⟨rfl, -, hg7⟩
            have HB7 := Lib.hid (HBl.out.spoilt hg7 (fun k hk => by
              have h1 := (HOW.out.lt k hk).1
              exact ⟨fun h => by have := HLw.out k h; omega, fun h => by have := HLr.out k h; omega, Nat.le_trans HWR.out h1⟩))
            have HS7 := Lib.hid (HSPl.out.step hg7 HTI.out HOW.out)
            have HR7 := Lib.hid (HRAl.out.kept (fun k hk hT => hg7.block k hk (fun e => absurd (hT.inj (HOW.out.ty e.symm)) (by decide))))
            clear hg7 HOW HTI hcell
            go_wp2_with fail
            go_roundw
            case rel => exact ⟨j + 1, by omega, by go_num, HB7, HS7, HR7⟩
            case measure => simp [intOf]; omega
          · have i2 : ¬ (j : Int) < (N : Int) := by omega
            clear HSPl hge hj HB6 HSP HRA
            go_wp2_with fail
            go_loopw [11] (fun i wm => ∃ j : Nat, j ≤ M ∧ i = .int .i64 (j : Int) ∧ Hid (Both w wm p q F G d) ∧ Hid (ResAt wm w3.heap.size A4 M)) (fun i _ => M - (intOf i).toNat)
            case atStart => exact ⟨0, Nat.zero_le _, rfl, HBl, HRAl⟩
            case round =>
              obtain ⟨j2, hj2, rfl, HBm, HRAm⟩ := hrel
              rcases Nat.lt_or_ge j2 M with hlt2 | hge2
              · obtain ⟨gr, cur, hA4, hgr, hh, hcs⟩ := HRAm.out (by omega)
                subst hA4
                obtain ⟨u0, hc0⟩ := heap_cell (k := j2 * 6) hh (by omega)
                obtain ⟨u1, hc1⟩ := heap_cell (k := j2 * 6 + 1) hh (by omega)
                obtain ⟨u2, hc2⟩ := heap_cell (k := j2 * 6 + 2) hh (by omega)
                obtain ⟨u3, hc3⟩ := heap_cell (k := j2 * 6 + 3) hh (by omega)
                obtain ⟨u4, hc4⟩ := heap_cell (k := j2 * 6 + 4) hh (by omega)
                obtain ⟨u5, hc5⟩ := heap_cell (k := j2 * 6 + 5) hh (by omega)
                have z0 := frozen_of_row wr gr (j2 * 6) cur _ hh
                have z1 := frozen_of_row wr gr (j2 * 6 + 1) cur _ hh
                have z2 := frozen_of_row wr gr (j2 * 6 + 2) cur _ hh
                have z3 := frozen_of_row wr gr (j2 * 6 + 3) cur _ hh
                have z4 := frozen_of_row wr gr (j2 * 6 + 4) cur _ hh
                have z5 := frozen_of_row wr gr (j2 * 6 + 5) cur _ hh
                have HH := Lib.hid hh; have HCS := Lib.hid hcs; have HGR := Lib.hid hgr
                have i1 : (0 : Int) ≤ (j2 : Int) := by omega
                have i3 : (j2 : Int) < (M : Int) := by omega
                have i5 : IntKind.i64.wrap ((j2 : Int) + 1) = (j2 : Int) + 1 := IntWalk.i64_in _ (by have := HNM.out.2; omega)
                clear hh hcs hgr
                go_wp2_with fail
                go_roundw
                case rel =>
                  refine ⟨j2 + 1, by omega, by go_num, ?_, ?_⟩
                  · refine HBm.out.spoilt (A := some ⟨gr, 0, none⟩) ?_ ?_
                    · show World.grownBy _ _ (some gr)
                      repeat' (first | with_reducible refine only_setCell ?_ (.inl rfl) _ | with_reducible exact World.grownBy.refl _ _)
                    · intro k hk
                      simp [blk] at hk
                      subst hk
                      have h1 := HGR.out
                      exact ⟨fun h => by have := HL3.out gr h; omega, fun h => by have := HL3r.out gr h; omega, Nat.le_trans HW3.out h1⟩
                  · intro _
                    have t0 := heap_setCell_same _ gr (j2 * 6) _ _ (.int .i64 0) HH.out
                    have t1 := heap_setCell_same _ gr (j2 * 6 + 1) _ _ (.int .i64 0) t0
                    have t2 := heap_setCell_same _ gr (j2 * 6 + 2) _ _ (.int .i64 0) t1
                    have t3 := heap_setCell_same _ gr (j2 * 6 + 3) _ _ (.int .i64 0) t2
                    have t4 := heap_setCell_same _ gr (j2 * 6 + 4) _ _ (.int .i64 0) t3
                    have t5 := heap_setCell_same _ gr (j2 * 6 + 5) _ _ (.slice none 0 0) t4
                    have hcs := HCS.out
                    exact ⟨gr, _, rfl, HGR.out, t5, by simp only [Array.size_setIfInBounds]; exact hcs⟩
                case measure => simp [intOf]; omega
              · have i3 : ¬ (j2 : Int) < (M : Int) := by omega
                obtain ⟨A7, c7, A8, c8, hq, hq1, hq2⟩ := HRF.out _ HBm.out.r
                have HSS : Hid (∀ W, Ext wr W → W.cell? ⟨q, 0, none⟩ = some (.slice A7 N c7) ∧ W.cell? ⟨q, 1, none⟩ = some (.slice A8 M c8)) := fun W hX => ⟨(cell_of_row _ _ _ _ _ _ (hX.block hq)).trans rfl, (cell_of_row _ _ _ _ _ _ (hX.block hq)).trans rfl⟩
                have HQ1 := Lib.hid hq1; have HQ2 := Lib.hid hq2
                clear hq hq1 hq2 hge2 hj2 HRAm HBl HRAl
                obtain ⟨y0, y1⟩ := HSS.out _ (Ext.refl _)
                have HG2 := Lib.hid (fun W (hX : Ext wr W) => HGT.out W (HBm.out.s.ext hX))
                have HR2 := Lib.hid (fun W (hX : Ext wr W) => HRS.out W (HBm.out.s.ext hX))
                have HX2 := Lib.hid HBm.out.x
                have H1 := Lib.hid (show N ≤ 1000000 by have := HNM.out.1; omega)
                have H2 := Lib.hid (show M ≤ 1000000 by have := HNM.out.2; omega)
                clear HGT HRS HBm
                go_wp2_with fail
                go_region_held3 (fun W => W.cell? ⟨q, 0, none⟩ = some (.slice A7 N c7) ∧ W.cell? ⟨q, 1, none⟩ = some (.slice A8 M c8)) (first | go_keep | with_reducible exact HSS.out _ X17.out | with_reducible exact HSS.out _ X16.out | with_reducible exact HSS.out _ X15.out | with_reducible exact HSS.out _ X14.out | with_reducible exact HSS.out _ X13.out) ((first
                  | (go_at_call 17
                     with_reducible refine Calls.mono (HG2.out _ (Ext.draw wr)) ?_
                     rintro e13 w13 ⟨A13, c13, rfl, ho, hx⟩
                     have X13 := Lib.hid ((Ext.draw wr).trans hx)
                     have W13 := Lib.hid (rows_rd ho HN.out)
                     clear ho hx)
                  | (go_at_call 16
                     with_reducible refine Calls.mono (sameRows_eq d.rows A13 A7 N c13 c7 w13 W13.out (HQ1.out.ext X13.out) H1.out) ?_
                     rintro e14 w14 ⟨rfl, hx⟩
                     have X14 := Lib.hid (X13.out.trans hx)
                     clear hx)
                  | (go_at_call 23
                     with_reducible refine Calls.mono (HR2.out _ X14.out) ?_
                     rintro e15 w15 ⟨v15, xs15, rfl, ho, hit, hx⟩
                     obtain ⟨A15, c15, rfl, -, -, -⟩ := ownsRow_slice ho
                     have X15 := Lib.hid (X14.out.trans hx)
                     have W15 := Lib.hid (done_rd ho hit HM.out)
                     clear ho hit hx)
                  | (go_at_call 24
                     with_reducible refine Calls.mono (samePackets_eq d.done A15 A8 M c15 c8 w15 W15.out (HQ2.out.ext X15.out) H2.out) ?_
                     rintro e16 w16 ⟨rfl, hx⟩
                     have X16 := Lib.hid (X15.out.trans hx)
                     clear hx)
                  | (go_at_call 9
                     with_reducible refine Calls.mono (known23_any _) ?_
                     rintro e17 w17 ⟨rfl, hx⟩
                     have X17 := Lib.hid (X16.out.trans hx)
                     clear hx)))
                go_wp2_with fail
                go_ret
                exact ⟨rfl, HX2.out.trans X17.out⟩
end Go.Proofs.Ytifojmmggcenkaa
