/- The document's unit (chapter 19) in memory: a row of seven cells and four rows of words; the contracts of its New, there, Set and Get. -/
import Derived.Test.YtpjmhckdeeonbaaUnit6
import Derived.Test.YtpjmhckdeeonbaaAsk9
import Derived.BigQuiet
import Derived.Deep.QuietTactic
import Derived.Test.YtpjmhckdeeonbaaUnit9
import Derived.Deep.RegionHeld3
import Derived.Deep.RegionLaw
import Derived.StillTailTactics
import Derived.Test.YtpjmhckdeeonbaaUnitLa2
import Derived.Test.YtpjmhckdeeonbaaRepQ2
import Derived.Test.YtpjmhckdeeonbaaAskSh
namespace Go.Proofs.Ytpjmhckdeeonbaa
set_option linter.unusedVariables false
set_option linter.unusedSimpArgs false
set_option maxRecDepth 100000
set_option maxHeartbeats 2000000
open Go Go.RowKit Go.Out

def refRow (u : UnitD) (s : UnitS) : Obj := .cells #[.int .i64 (u.addr : Int), .slice none 0 0, .slice (some ⟨s.g1, 0, none⟩) u.size u.size, .slice (some ⟨s.g2, 0, none⟩) u.size u.size, .slice (some ⟨s.g3, 0, none⟩) u.size u.size, .slice (some ⟨s.g4, 0, none⟩) u.size u.size, .int .i64 (u.wrote : Int)] 79 (0, 0)
/-- A unit lies there, and nothing of it lies twice. -/
structure RefAt (w : World) (s : UnitS) (u : UnitD) : Prop where
  row : w.heap[s.p]? = some (refRow u s)
  t1 : w.heap[s.g1]? = some (wordRow u.t1)
  t2 : w.heap[s.g2]? = some (wordRow u.t2)
  t3 : w.heap[s.g3]? = some (wordRow u.t3)
  t4 : w.heap[s.g4]? = some (wordRow u.t4)
  ne : s.p ≠ s.g1 ∧ s.p ≠ s.g2 ∧ s.p ≠ s.g3 ∧ s.p ≠ s.g4 ∧ s.g1 ≠ s.g2 ∧ s.g1 ≠ s.g3 ∧ s.g1 ≠ s.g4 ∧ s.g2 ≠ s.g3 ∧ s.g2 ≠ s.g4 ∧ s.g3 ≠ s.g4
theorem RefAt.cells {w : World} {s : UnitS} {u : UnitD} (h : RefAt w s u) :
    w.cell? ⟨s.p, 0, none⟩ = some (.int .i64 (u.addr : Int)) ∧ w.cell? ⟨s.p, 2, none⟩ = some (.slice (some ⟨s.g1, 0, none⟩) u.size u.size) ∧ w.cell? ⟨s.p, 3, none⟩ = some (.slice (some ⟨s.g2, 0, none⟩) u.size u.size) ∧ w.cell? ⟨s.p, 4, none⟩ = some (.slice (some ⟨s.g3, 0, none⟩) u.size u.size) ∧ w.cell? ⟨s.p, 5, none⟩ = some (.slice (some ⟨s.g4, 0, none⟩) u.size u.size) ∧ w.cell? ⟨s.p, 6, none⟩ = some (.int .i64 (u.wrote : Int)) :=
  ⟨cell_of_row _ _ _ _ _ _ h.row, cell_of_row _ _ _ _ _ _ h.row, cell_of_row _ _ _ _ _ _ h.row, cell_of_row _ _ _ _ _ _ h.row, cell_of_row _ _ _ _ _ _ h.row, cell_of_row _ _ _ _ _ _ h.row⟩
theorem RefAt.tab {w : World} {s : UnitS} {u : UnitD} (h : RefAt w s u) (c : Int) : w.heap[tabS s c]? = some (wordRow (tabU u c)) := by
  unfold tabS tabU
  split
  · exact h.t1
  · split
    · exact h.t2
    · split
      · exact h.t3
      · exact h.t4
theorem RefAt.lt {w : World} {s : UnitS} {u : UnitD} (h : RefAt w s u) : s.p < w.heap.size ∧ s.g1 < w.heap.size ∧ s.g2 < w.heap.size ∧ s.g3 < w.heap.size ∧ s.g4 < w.heap.size :=
  ⟨lt_of_heap h.row, lt_of_heap h.t1, lt_of_heap h.t2, lt_of_heap h.t3, lt_of_heap h.t4⟩
theorem RefAt.ext {w w' : World} {s : UnitS} {u : UnitD} (h : RefAt w s u) (hx : Ext w w') : RefAt w' s u :=
  ⟨hx.block h.row, hx.block h.t1, hx.block h.t2, hx.block h.t3, hx.block h.t4, h.ne⟩
theorem RefAt.other {w w' : World} {s t : UnitS} {u : UnitD} (h : RefAt w s u) (ho : OnlyU t w w') (ha : Apart2 s t) : RefAt w' s u := by
  have hb : ∀ a o, (a = s.p ∨ a = s.g1 ∨ a = s.g2 ∨ a = s.g3 ∨ a = s.g4) → w.heap[a]? = some o → w'.heap[a]? = some o := fun a o hm he => by
    obtain ⟨a0, a1, a2, a3, a4⟩ := ha a hm
    rw [ho.block a (lt_of_heap he) a0 a1 a2 a3 a4, he]
  exact ⟨hb _ _ (.inl rfl) h.row, hb _ _ (.inr (.inl rfl)) h.t1, hb _ _ (.inr (.inr (.inl rfl))) h.t2, hb _ _ (.inr (.inr (.inr (.inl rfl)))) h.t3, hb _ _ (.inr (.inr (.inr (.inr rfl)))) h.t4, h.ne⟩
theorem RefAt.setTab {w : World} {s : UnitS} {u : UnitD} (h : RefAt w s u) {l : List UInt16} (c : Int) (w' : World) (ho : ∀ k, k ≠ tabS s c → k < w.heap.size → w'.heap[k]? = w.heap[k]?) (ht : w'.heap[tabS s c]? = some (wordRow l)) : RefAt w' s (putU u c l) := by
  obtain ⟨n0, n1, n2, n3, n4, n5, n6, n7, n8, n9⟩ := h.ne
  have ns := Ne.symm n4; have ns5 := Ne.symm n5; have ns6 := Ne.symm n6; have ns7 := Ne.symm n7; have ns8 := Ne.symm n8; have ns9 := Ne.symm n9
  have K : ∀ k o, k ≠ tabS s c → w.heap[k]? = some o → w'.heap[k]? = some o := fun k o hk he => (ho k hk (lt_of_heap he)).trans he
  unfold tabS at K ht
  unfold putU
  split at ht
  · rename_i e
    simp only [e, if_true] at K ⊢
    exact ⟨K _ _ n0 h.row, ht, K _ _ ns h.t2, K _ _ ns5 h.t3, K _ _ ns6 h.t4, h.ne⟩
  · split at ht
    · rename_i e1 e
      simp only [e1, e, if_false, if_true] at K ⊢
      exact ⟨K _ _ n1 h.row, K _ _ n4 h.t1, ht, K _ _ ns7 h.t3, K _ _ ns8 h.t4, h.ne⟩
    · split at ht
      · rename_i e1 e2 e
        simp only [e1, e2, e, if_false, if_true] at K ⊢
        exact ⟨K _ _ n2 h.row, K _ _ n5 h.t1, K _ _ n7 h.t2, ht, K _ _ ns9 h.t4, h.ne⟩
      · rename_i e1 e2 e
        simp only [e1, e2, e, if_false] at K ⊢
        exact ⟨K _ _ n3 h.row, K _ _ n6 h.t1, K _ _ n8 h.t2, K _ _ n9 h.t3, ht, h.ne⟩
theorem RefAt.set1 {w : World} {s : UnitS} {u : UnitD} (h : RefAt w s u) (c : Int) (j : Nat) (v : UInt16) : RefAt (w.setCell ⟨tabS s c, j, none⟩ (cW v)) s (putU u c ((tabU u c).set j v)) :=
  h.setTab c _ (fun k hk _ => Below.heap_setCell w ⟨tabS s c, j, none⟩ (cW v) k hk) (wordRow_set (h.tab c) v)
/-- An act upon a unit: what it has become, and that nothing else has turned. -/
structure ActR (s : UnitS) (w : World) (u : UnitD) (w' : World) : Prop where
  at_ : RefAt w' s u
  only : OnlyU s w w'
  lt : s.p < w.heap.size ∧ s.g1 < w.heap.size ∧ s.g2 < w.heap.size ∧ s.g3 < w.heap.size ∧ s.g4 < w.heap.size
theorem RefAt.act {w : World} {s : UnitS} {u : UnitD} (h : RefAt w s u) : ActR s w u w := ⟨h, OnlyU.refl _ _, h.lt⟩
theorem ActR.below {s : UnitS} {w w1 w2 : World} {u : UnitD} (h : ActR s w u w1) (hb : Below w.heap.size w1 w2) : ActR s w u w2 :=
  ⟨⟨(hb.block _ h.lt.1).trans h.at_.row, (hb.block _ h.lt.2.1).trans h.at_.t1, (hb.block _ h.lt.2.2.1).trans h.at_.t2, (hb.block _ h.lt.2.2.2.1).trans h.at_.t3, (hb.block _ h.lt.2.2.2.2).trans h.at_.t4, h.at_.ne⟩,
   ⟨hb.os.trans h.only.os, hb.tape.trans h.only.tape, hb.output.trans h.only.output, Nat.le_trans h.only.size hb.size, fun k hk h0 h1 h2 h3 h4 => (hb.block k hk).trans (h.only.block k hk h0 h1 h2 h3 h4)⟩, h.lt⟩
theorem ActR.ext {s : UnitS} {w w1 w2 : World} {u : UnitD} (h : ActR s w u w1) (hx : Ext w1 w2) : ActR s w u w2 :=
  h.below ⟨hx.os, hx.tape, hx.output, hx.size, fun k hk => Below.block hx k (Nat.lt_of_lt_of_le hk h.only.size)⟩
theorem ActR.set' {s : UnitS} {w w1 : World} {u : UnitD} (h : ActR s w u w1) {q : Addr} (hq : w.heap.size ≤ q.block) (v : Value) : ActR s w u (w1.setCell q v) :=
  h.below ⟨rfl, rfl, rfl, by simp [World.setCell], fun k hk => Below.heap_setCell w1 q v k (by omega)⟩
theorem ActR.drew' {s : UnitS} {w w1 : World} {u : UnitD} (h : ActR s w u w1) : ActR s w u w1.drew := h.ext (Ext.draw _)
theorem ActR.alloc' {s : UnitS} {w w1 : World} {u : UnitD} (h : ActR s w u w1) (o : Obj) : ActR s w u (w1.alloc o) := h.ext (Ext.alloc _ _)
theorem RefAt.setWrote {w : World} {s : UnitS} {u : UnitD} (h : RefAt w s u) (n : Nat) : RefAt (w.setCell ⟨s.p, 6, none⟩ (.int .i64 (n : Int))) s { u with wrote := n } := by
  obtain ⟨n0, n1, n2, n3, -⟩ := h.ne
  have K : ∀ k, k ≠ s.p → (w.setCell ⟨s.p, 6, none⟩ (.int .i64 (n : Int))).heap[k]? = w.heap[k]? := fun k hk => Below.heap_setCell w ⟨s.p, 6, none⟩ _ k hk
  refine ⟨?_, (K _ (Ne.symm n0)).trans h.t1, (K _ (Ne.symm n1)).trans h.t2, (K _ (Ne.symm n2)).trans h.t3, (K _ (Ne.symm n3)).trans h.t4, h.ne⟩
  rw [Go.heap_setCell_same w s.p 6 _ _ _ h.row]; rfl
theorem ActR.wrote {s : UnitS} {w w1 : World} {u : UnitD} (h : ActR s w u w1) : ActR s w { u with wrote := u.wrote + 1 } (w1.setCell ⟨s.p, 6, none⟩ (.int .i64 ((u.wrote : Int) + 1))) :=
  ⟨h.at_.setWrote (u.wrote + 1), h.only.trans (OnlyU.set (.inl rfl) 6 _), h.lt⟩
theorem ActR.set1 {s : UnitS} {w w1 : World} {u : UnitD} (h : ActR s w u w1) (c : Int) (j : Nat) (v : UInt16) : ActR s w (putU u c ((tabU u c).set j v)) (w1.setCell ⟨tabS s c, j, none⟩ (cW v)) :=
  ⟨h.at_.set1 c j v, h.only.trans (OnlyU.set (.inr (tabS_mem s c)) j _), h.lt⟩
theorem ActR.tab {s : UnitS} {w w1 w5 : World} {u : UnitD} {l : List UInt16} (h : ActR s w u w1) (c : Int) (hg : w1.grownBy w5 (some (tabS s c))) (h5 : w5.heap[tabS s c]? = some (wordRow l)) : ActR s w (putU u c l) w5 :=
  ⟨h.at_.setTab c w5 (fun k hk hlt => hg.block k hlt (by simpa using hk)) h5, h.only.trans ⟨hg.os, hg.tape, hg.output, hg.size, fun k hk h0 h1 h2 h3 h4 => hg.block k hk (by
    rcases tabS_mem s c with e | e | e | e <;> rw [e] <;> simpa using by assumption)⟩, h.lt⟩
theorem there_r (u : UnitD) (s : UnitS) (k i : Int) (w : World) (h : RefAt w s u) : Calls Try.prog 118 #[pU s, .int .i64 k, .int .i64 i] w (fun e w' => e = .returned (.int .i64 (thereU u k i)) ∧ w = w') := by
  obtain ⟨c0, c1, c2, c3, c4, c5⟩ := h.cells
  unfold pU
  by_cases hk : k < 1 ∨ 4 < k
  · have e : thereU u k i = 28 := by unfold thereU; rw [if_pos hk]
    rw [e]
    clear h e
    go_enter Try.func118, Try.ntmps118
    rcases hk with hk | hk
    · go_wp2_with fail
      all_goals (go_ret; exact ⟨rfl, rfl⟩)
    · have hk2 : ¬ k < 1 := by omega
      go_wp2_with fail
      all_goals (go_ret; exact ⟨rfl, rfl⟩)
  · have hk4 : k = 1 ∨ k = 2 ∨ k = 3 ∨ k = 4 := by omega
    by_cases hi : i < 0
    · have e : thereU u k i = 21 := by unfold thereU; rw [if_neg hk, if_pos (.inl hi)]
      rw [e]
      have hk1 : ¬ k < 1 := by omega
      have hk2 : ¬ 4 < k := by omega
      clear h e hk hk4
      go_enter Try.func118, Try.ntmps118
      go_wp2_with fail
      all_goals (go_ret; exact ⟨rfl, rfl⟩)
    · by_cases hi2 : (u.size : Int) ≤ i
      · have e : thereU u k i = 21 := by unfold thereU; rw [if_neg hk, if_pos (.inr hi2)]
        rw [e]
        clear h e hk
        rcases hk4 with rfl | rfl | rfl | rfl
        all_goals
          go_enter Try.func118, Try.ntmps118
          go_wp2_with fail
          all_goals (go_ret; exact ⟨rfl, rfl⟩)
      · have e : thereU u k i = 0 := by unfold thereU; rw [if_neg hk, if_neg (by omega)]
        rw [e]
        clear h e hk
        rcases hk4 with rfl | rfl | rfl | rfl
        all_goals
          go_enter Try.func118, Try.ntmps118
          go_wp2_with fail
          all_goals (go_ret; exact ⟨rfl, rfl⟩)
theorem get_r (u : UnitD) (s : UnitS) (k i : Int) (w : World) (hu : UnitOk u) (h : RefAt w s u) : Calls Try.prog 88 #[pU s, .int .i64 k, .int .i64 i] w (fun e w' => e = .returned (getV u k i) ∧ w = w') := by
  have hE := there_r u s k i w h
  by_cases h0 : thereU u k i = 0
  · obtain ⟨j, rfl, hj, hk⟩ := thereU_zero h0
    have hc := wordRow_cell (h.tab k) (i := j) (by rw [tabU_length hu]; exact hj)
    have e : getV u k (j : Int) = .tuple #[.int .u16 (((tabU u k).getD j 0).toNat : Int), .int .i64 0] := by unfold getV getU; rw [if_neg (by simp [h0])]; rfl
    rw [e]
    rw [h0] at hE
    have HE := Lib.hid hE
    obtain ⟨c0, c1, c2, c3, c4, c5⟩ := h.cells
    have q1 : (j : Int) < (u.size : Int) := by omega
    have q2 : ¬ (j : Int) < 0 := by omega
    have q3 : (0 : Int) ≤ (j : Int) := by omega
    clear h e hE h0 hu
    unfold pU at HE ⊢
    rcases hk with rfl | rfl | rfl | rfl
    all_goals
      first | rw [show tabS s 1 = s.g1 from rfl] at hc | rw [show tabS s 2 = s.g2 from rfl] at hc | rw [show tabS s 3 = s.g3 from rfl] at hc | rw [show tabS s 4 = s.g4 from rfl] at hc
      go_enter Try.func88, Try.ntmps88
      go_wp2_with fail
      refine HE.out.mono ?_
      rintro e w1 ⟨rfl, rfl⟩
      go_wp2_with fail
      all_goals (go_ret2; exact ⟨rfl, rfl⟩)
  · have e : getV u k i = .tuple #[.int .u16 0, .int .i64 (thereU u k i)] := by unfold getV getU; rw [if_pos h0]; rfl
    rw [e]
    have HE := Lib.hid hE
    clear h e hE hu
    unfold pU at HE ⊢
    have hne : (thereU u k i != 0) = true := by simp [h0]
    clear h0
    generalize thereU u k i = T at *
    go_enter Try.func88, Try.ntmps88
    go_wp2_with fail
    refine HE.out.mono ?_
    rintro e w1 ⟨rfl, rfl⟩
    go_wp2_with fail
    all_goals (go_ret2; exact ⟨rfl, rfl⟩)
theorem set_r (u : UnitD) (s : UnitS) (k i : Int) (v : UInt16) (w : World) (hu : UnitOk u) (h : RefAt w s u) : Calls Try.prog 87 #[pU s, .int .i64 k, .int .i64 i, .int .u16 (v.toNat : Int)] w
    (fun e w' => e = .returned (.int .i64 (setU u k i v).2) ∧ RefAt w' s (setU u k i v).1 ∧ OnlyU s w w') := by
  have hE := there_r u s k i w h
  by_cases h0 : thereU u k i = 0
  · obtain ⟨j, rfl, hj, hk⟩ := thereU_zero h0
    rw [h0] at hE
    have HE := Lib.hid hE
    have hc := wordRow_cell (h.tab k) (i := j) (by rw [tabU_length hu]; exact hj)
    have HU := Lib.hid h
    obtain ⟨c0, c1, c2, c3, c4, c5⟩ := h.cells
    have q1 : (j : Int) < (u.size : Int) := by omega
    have q2 : ¬ (j : Int) < 0 := by omega
    have q3 : (0 : Int) ≤ (j : Int) := by omega
    by_cases hb : k ≤ 2 ∧ 1 < v.toNat
    · have e : setU u k (j : Int) v = (u, 3) := by unfold setU; rw [if_neg (by simp [h0]), if_pos hb]
      rw [e]
      obtain ⟨b1, b2⟩ := hb
      have b3 : (1 : Int) < (v.toNat : Int) := by omega
      clear h e hE h0 hk hu b2
      unfold pU at HE ⊢
      go_enter Try.func87, Try.ntmps87
      go_wp2_with fail
      refine HE.out.mono ?_
      rintro e w1 ⟨rfl, rfl⟩
      go_wp2_with fail
      all_goals (go_ret; exact ⟨rfl, HU.out, OnlyU.refl _ _⟩)
    · have e : setU u k (j : Int) v = (putU u k ((tabU u k).set j v), 0) := by unfold setU; rw [if_neg (by simp [h0]), if_neg hb]; rfl
      rw [e]
      have hb' : ¬ (1 : Int) < (v.toNat : Int) ∨ ¬ k ≤ 2 := by omega
      have hfz := frozen_of_row w (tabS s k) j _ _ (h.tab k)
      have HST := Lib.hid (show RefAt (w.setCell ⟨tabS s k, j, none⟩ (.int .u16 (v.toNat : Int))) s (putU u k ((tabU u k).set j v)) from h.set1 k j v)
      have HON := Lib.hid (OnlyU.set (s := s) (w := w) (.inr (tabS_mem s k)) j (.int .u16 (v.toNat : Int)))
      clear h e hE h0 hu hb
      unfold pU at HE ⊢
      rcases hk with rfl | rfl | rfl | rfl
      all_goals
        first | rw [show tabS s 1 = s.g1 from rfl] at hc hfz HST HON | rw [show tabS s 2 = s.g2 from rfl] at hc hfz HST HON | rw [show tabS s 3 = s.g3 from rfl] at hc hfz HST HON | rw [show tabS s 4 = s.g4 from rfl] at hc hfz HST HON
        rcases hb' with hb | hb
        · go_enter Try.func87, Try.ntmps87
          go_wp2_with fail
          refine HE.out.mono ?_
          rintro e w1 ⟨rfl, rfl⟩
          go_wp2_with fail
          all_goals (go_ret; exact ⟨rfl, HST.out, HON.out⟩)
        · first
            | (exfalso; omega)
            | (go_enter Try.func87, Try.ntmps87
               go_wp2_with fail
               refine HE.out.mono ?_
               rintro e w1 ⟨rfl, rfl⟩
               go_wp2_with fail
               all_goals (go_ret; exact ⟨rfl, HST.out, HON.out⟩))
  · have e : setU u k i v = (u, thereU u k i) := by unfold setU; rw [if_pos h0]
    rw [e]
    have HE := Lib.hid hE
    have HU := Lib.hid h
    have hne : (thereU u k i != 0) = true := by simp [h0]
    clear h e hE hu h0
    unfold pU at HE ⊢
    generalize thereU u k i = T at *
    go_enter Try.func87, Try.ntmps87
    go_wp2_with fail
    refine HE.out.mono ?_
    rintro e w1 ⟨rfl, rfl⟩
    go_wp2_with fail
    all_goals (go_ret; exact ⟨rfl, HU.out, OnlyU.refl _ _⟩)
end Go.Proofs.Ytpjmhckdeeonbaa

namespace Go.Proofs.Ytpjmhckdeeonbaa
set_option linter.unusedVariables false
set_option linter.unusedSimpArgs false
set_option maxRecDepth 100000
set_option maxHeartbeats 4000000
open Go Go.RowKit Go.Out

theorem cells7 {W : World} {g : Nat} {t : TypeId} {v0 v1 v2 v3 v4 v5 v6 : Value} (h : W.heap[g]? = some (.cells #[v0, v1, v2, v3, v4, v5, v6] t (0, 0))) :
    W.cell? ⟨g, 0, none⟩ = some v0 ∧ W.cell? ⟨g, 1, none⟩ = some v1 ∧ W.cell? ⟨g, 2, none⟩ = some v2 ∧ W.cell? ⟨g, 3, none⟩ = some v3 ∧ W.cell? ⟨g, 4, none⟩ = some v4 ∧ W.cell? ⟨g, 5, none⟩ = some v5 ∧ W.cell? ⟨g, 6, none⟩ = some v6 :=
  ⟨cell_of_row _ _ _ _ _ _ h, cell_of_row _ _ _ _ _ _ h, cell_of_row _ _ _ _ _ _ h, cell_of_row _ _ _ _ _ _ h, cell_of_row _ _ _ _ _ _ h, cell_of_row _ _ _ _ _ _ h, cell_of_row _ _ _ _ _ _ h⟩
def RetNewR (w : World) (a z : Int) (e : Ending) (w' : World) : Prop :=
  (newE a z ≠ 0 ∧ e = .returned (.tuple #[.pointer none, .int .i64 (newE a z)]) ∧ w = w') ∨
  (newE a z = 0 ∧ ∃ s, e = .returned (.tuple #[pU s, .int .i64 0]) ∧ RefAt w' s (newU a.toNat z.toNat) ∧ Ext w w' ∧ FromU w.heap.size s)
/-- Behind i of the four rounds of New. -/
def NewRt (w wr : World) (p n : Nat) (a : Int) (i : Nat) : Prop := Ext w wr ∧ wr.heap.size = p + 1 + i ∧
  wr.heap[p]? = some (.cells #[.int .i64 a, .slice none 0 0, tb p n i 0, tb p n i 1, tb p n i 2, tb p n i 3, .int .i64 0] 79 (0, 0)) ∧
  ∀ j, j < i → wr.heap[p + 1 + j]? = some (wordRow (List.replicate n 0))
theorem NewRt.step {w wr : World} {p n : Nat} {a : Int} {i : Nat} (h : NewRt w wr p n a i) (hi : i < 4) (hp : w.heap.size = p) :
    NewRt w ((wr.alloc (.cells (Array.replicate n (.int .u16 0)) 54)).setCell ⟨p, 2 + i, none⟩ (.slice (some ⟨wr.heap.size, 0, none⟩) n n)) p n a (i + 1) := by
  obtain ⟨h1, h2, h3, h4⟩ := h
  refine ⟨(h1.trans (Ext.alloc _ _)).set' (by simp [hp]) _, by simp [World.setCell, h2]; omega, ?_, fun j hj => ?_⟩
  · rw [Go.heap_setCell_same _ p (2 + i) _ _ _ ((Ext.alloc wr _).block h3), h2]
    have : i = 0 ∨ i = 1 ∨ i = 2 ∨ i = 3 := by omega
    rcases this with rfl | rfl | rfl | rfl <;> simp [tb]
  · rw [Below.heap_setCell _ _ _ _ (show p + 1 + j ≠ p by omega)]
    rcases Nat.lt_or_ge j i with hl | hg
    · exact (Ext.alloc wr _).block (h4 j hl)
    · obtain rfl : j = i := by omega
      rw [← h2, heap_alloc_new]
      simp [wordRow, cW]
theorem NewRt.drew {w wr : World} {p n : Nat} {a : Int} {i : Nat} (h : NewRt w wr p n a i) : NewRt w wr.drew p n a i :=
  ⟨h.1.trans (Ext.draw _), h.2.1, h.2.2.1, h.2.2.2⟩
theorem NewRt.unit {w wr : World} {p n m : Nat} (h : NewRt w wr p n (m : Int) 4) : RefAt wr ⟨p, p + 1, p + 1 + 1, p + 1 + 2, p + 1 + 3⟩ (newU m n) :=
  ⟨h.2.2.1, h.2.2.2 0 (by omega), h.2.2.2 1 (by omega), h.2.2.2 2 (by omega), h.2.2.2 3 (by omega), by simp only; omega⟩
theorem new_r (a z : Int) (w : World) : Calls Try.prog 44 #[.int .i64 a, .int .i64 z] w (RetNewR w a z) := by
  by_cases ha : a < 1 ∨ 247 < a
  · have e : RetNewR w a z (.returned (.tuple #[.pointer none, .int .i64 24])) w := by
      have h : newE a z = 24 := by unfold newE; rw [if_pos ha]
      exact .inl ⟨by rw [h]; decide, by rw [h], rfl⟩
    have HE := Lib.hid e
    clear e
    rcases ha with ha | ha
    · go_enter Try.func44, Try.ntmps44
      go_wp2_with fail
      all_goals (go_ret2; exact HE.out)
    · have hb : ¬ a < 1 := by omega
      go_enter Try.func44, Try.ntmps44
      go_wp2_with fail
      all_goals (go_ret2; exact HE.out)
  · have hb1 : ¬ a < 1 := by omega
    have hb2 : ¬ 247 < a := by omega
    by_cases hz : z < 1 ∨ 1024 < z
    · have e : RetNewR w a z (.returned (.tuple #[.pointer none, .int .i64 3])) w := by
        have h : newE a z = 3 := by unfold newE; rw [if_neg ha, if_pos hz]
        exact .inl ⟨by rw [h]; decide, by rw [h], rfl⟩
      have HE := Lib.hid e
      clear e ha
      rcases hz with hz | hz
      · go_enter Try.func44, Try.ntmps44
        go_wp2_with fail
        all_goals (go_ret2; exact HE.out)
      · have hz2 : ¬ z < 1 := by omega
        go_enter Try.func44, Try.ntmps44
        go_wp2_with fail
        all_goals (go_ret2; exact HE.out)
    · obtain ⟨n, rfl⟩ : ∃ n : Nat, z = (n : Int) := ⟨z.toNat, by omega⟩
      have hn1 : 1 ≤ n := by omega
      have hn2 : n ≤ 1024 := by omega
      have hz1 : ¬ (n : Int) < 1 := by omega
      have hz2 : ¬ 1024 < (n : Int) := by omega
      have h0 : newE a n = 0 := by unfold newE; rw [if_neg ha, if_neg hz]
      have H0 := Lib.hid h0
      have HM := make_words n hn2
      have HA := Lib.hid (show ∃ m : Nat, a = (m : Int) from ⟨a.toNat, by omega⟩)
      clear h0 ha hz hn1
      obtain ⟨p, hp⟩ : ∃ p, w.heap.size = p := ⟨_, rfl⟩
      have HP := Lib.hid hp
      go_enter Try.func44, Try.ntmps44
      go_wp2_with fail
      go_loopw [7] (fun x wr => ∃ i : Nat, i ≤ 4 ∧ x = .int .i64 ((i : Int) + 1) ∧ NewRt w wr p n a i) (fun x _ => 5 - (intOf x).toNat)
      case atStart =>
        refine ⟨0, by omega, rfl, Ext.alloc _ _, by simp [hp], ?_, fun j hj => absurd hj (by omega)⟩
        exact heap_at _ _ _ hp.symm
      case round =>
        obtain ⟨i, hi, rfl, HX⟩ := hrel
        have HN := Lib.hid HX
        rcases Nat.lt_or_ge i 4 with hlt | hge
        · obtain ⟨x1, x2, x3, x4⟩ := HX
          have D := fun o => cells7 ((Ext.alloc wr o).block x3)
          have D0 := fun o => (D o).1
          have D1 := fun o => (D o).2.1
          have D2 := fun o => (D o).2.2.1
          have D3 := fun o => (D o).2.2.2.1
          have D4 := fun o => (D o).2.2.2.2.1
          have D5 := fun o => (D o).2.2.2.2.2.1
          have F := fun o k => frozen_of_row _ p k _ _ ((Ext.alloc wr o).block x3)
          clear D x1 x2 x3 x4
          have h4 : i = 0 ∨ i = 1 ∨ i = 2 ∨ i = 3 := by omega
          rcases h4 with rfl | rfl | rfl | rfl
          all_goals
            have HS := Lib.hid (HN.out.step hlt hp)
            clear HN
            go_wp2_with fail
            go_region_law (fail)
            all_goals
              go_wp2_with fail
              go_roundw
              case rel => first | exact ⟨1, by omega, by go_num, by first | exact HS.out.drew | exact HS.out⟩ | exact ⟨2, by omega, by go_num, by first | exact HS.out.drew | exact HS.out⟩ | exact ⟨3, by omega, by go_num, by first | exact HS.out.drew | exact HS.out⟩ | exact ⟨4, by omega, by go_num, by first | exact HS.out.drew | exact HS.out⟩
              case measure => simp [intOf]
        · obtain rfl : i = 4 := by omega
          obtain ⟨m, rfl⟩ := HA.out
          have HS := Lib.hid HN.out.unit
          have HX2 := Lib.hid HX.1
          clear HN HX
          go_wp2_with fail
          go_ret2
          exact .inr ⟨H0.out, _, rfl, HS.out, HX2.out, by unfold FromU; simp only; omega⟩
end Go.Proofs.Ytpjmhckdeeonbaa

namespace Go.Proofs.Ytpjmhckdeeonbaa
set_option linter.unusedVariables false
set_option linter.unusedSimpArgs false
set_option maxRecDepth 100000
set_option maxHeartbeats 1000000
open Go Go.RowKit Go.Out

/-- What Do hands back: the answer, in memory of its own; only the unit has turned. -/
def RetDoR (w : World) (s : UnitS) (u : UnitD) (a : AskD) (e : Ending) (w' : World) : Prop :=
  ∃ t, e = .returned (repV (doU u a).2 t) ∧ RepOw w' w.heap.size (doU u a).2 t ∧ RefAt w' s (doU u a).1 ∧ OnlyU s w w' ∧ (a.parts ≠ [] → Ext w w')
theorem do_told_r (k : Int) (hk : k = 1 ∨ k = 3) (u : UnitD) (s : UnitS) (a : AskD) (t : AskS) (w : World) (h : RefAt w s u) (ha : AskRd w a t) (hd : doU u a = (u, excR k)) (h1 : k = 1 ↔ checkF a = 20 ∨ a.code = 20) (h2 : k = 3 → checkF a ≠ 0) :
    Calls Try.prog 89 #[pU s, askV a t] w (RetDoR w s u a) := by
  have hC := fun W (hX : Ext w W) => refCheck_any a t W (ha.ext hX)
  have HFin := Lib.hid (show ∀ W, Ext w W → RetDoR w s u a (.returned (repV (excR k) repS0)) W from fun W hX => ⟨repS0, by rw [hd], by rw [hd]; exact repOwE _ _ _ (by unfold i64P; omega), by rw [hd]; exact h.ext hX, .of_ext hX, fun _ => hX⟩)
  obtain ⟨e, he⟩ : ∃ e, checkF a = e := ⟨_, rfl⟩
  rw [he] at h1 h2 hC
  obtain ⟨code, addr, count, on, set, parts⟩ := a
  obtain ⟨A1, n1, c1, A2, n2, c2, A3, n3, c3⟩ := t
  simp only [askV] at hC ⊢
  simp only at h1
  have HC := Lib.hid hC
  clear hC hd h ha he
  unfold pU
  generalize RetDoR w s u _ = R at HFin ⊢
  obtain ⟨q, hq⟩ : ∃ q, w.heap.size = q := ⟨_, rfl⟩
  have hh : (k = 1 ∧ e = 20) ∨ (k = 1 ∧ e ≠ 20 ∧ code = 20) ∨ (k = 3 ∧ e ≠ 20 ∧ code ≠ 20 ∧ e ≠ 0) := by omega
  clear h1 h2 hk
  rcases hh with ⟨rfl, rfl⟩ | ⟨rfl, x1, x2⟩ | ⟨rfl, x1, x2, x3⟩
  all_goals
    first | (have X2 := Lib.hid x2; clear x2) | skip
    go_enter Try.func89, Try.ntmps89
    go_wp2_with fail
    refine (HC.out _ (duoU _ _ _)).mono ?_
    rintro e2 w2 ⟨rfl, hx⟩
    have HB := hx.block ((Ext.alloc _ _).block (heap_alloc_new w (.cells #[.int .i64 code, .int .i64 addr, .int .i64 count, .slice A1 n1 c1, .slice A2 n2 c2, .slice A3 n3 c3] 26)))
    have HR := hx.block (heap_alloc_new (w.alloc (.cells #[.int .i64 code, .int .i64 addr, .int .i64 count, .slice A1 n1 c1, .slice A2 n2 c2, .slice A3 n3 c3] 26)) (.cells #[.int .i64 0, .slice none 0 0, .slice none 0 0, .slice none 0 0] 29))
    obtain ⟨b0, b1, b2, b3, b4, b5⟩ := cells6 HB
    obtain ⟨r0, r1, r2, r3⟩ := cells4 HR
    have f0 := fun k => frozen_of_row _ _ k _ _ HR
    have HX := Lib.hid ((duoU _ _ _).trans hx)
    clear HB HR hx
    first | have x2 := X2.out | skip
    first | have y1 : (e == 20) = false := by simp [x1] | skip
    first | have y2 : (code == 20) = false := by simp [X2.out] | skip
    simp only [Go.World.size_alloc, hq] at b0 b1 b2 b3 b4 b5 r0 r1 r2 r3 f0
    go_wp2_with fail
    all_goals
      clear HC
      rename_i K hK
      clear hK
      first
        | (refine bodyPost_ret (v := repV (excR 1) repS0) (by simp [results, Try.results89, go_sem, repV, excR, repS0, r0, r1, r2, r3]) rfl (HFin.out _ ?_); repeat' (first | with_reducible exact HX.out | with_reducible refine Ext.set' ?_ (by simp [hq]) _))
        | (refine bodyPost_ret (v := repV (excR 3) repS0) (by simp [results, Try.results89, go_sem, repV, excR, repS0, r0, r1, r2, r3]) rfl (HFin.out _ ?_); repeat' (first | with_reducible exact HX.out | with_reducible refine Ext.set' ?_ (by simp [hq]) _))
/-- What both check: whatever is asked that is no exception goes so far. -/
theorem do_far_r (u : UnitD) (s : UnitS) (a : AskD) (t : AskS) (w : World) (h : RefAt w s u) (hu : UnitOk u) (ha : AskRd w a t) (h0 : checkF a = 0) (h20 : a.code ≠ 20) (hf : (u.size : Int) < a.addr + manyF a) :
    Calls Try.prog 89 #[pU s, askV a t] w (RetDoR w s u a) := by
  have hC := fun W (hX : Ext w W) => refCheck_any a t W (ha.ext hX)
  have hM := fun W => many3_any a t W ha.n1 ha.n2 ha.n3 (checkF_parts a h0).1
  have hd : doU u a = (u, excR 2) := by unfold doU; rw [if_neg (by simp [h0, h20]), if_neg (by simp [h0]), if_pos hf]
  have HFin := Lib.hid (show ∀ W, Ext w W → RetDoR w s u a (.returned (repV (excR 2) repS0)) W from fun W hX => ⟨repS0, by rw [hd], by rw [hd]; exact repOwE _ _ _ (by unfold i64P; omega), by rw [hd]; exact h.ext hX, .of_ext hX, fun _ => hX⟩)
  have HU := Lib.hid (fun W (hX : Ext w W) => (h.ext hX).cells)
  obtain ⟨m1, m2, m3, m4, m5⟩ := many_of h0
  have hc := codeP_cases (checkF_parts a h0).1
  have hs := hu.s
  have hN : 0 ≤ manyF a ∧ manyF a ≤ 2000 := by
    by_cases q : a.code = 1 ∨ a.code = 2 ∨ a.code = 3 ∨ a.code = 4
    · obtain ⟨e1, e2, e3, -⟩ := m1 q; omega
    · by_cases q2 : a.code = 5 ∨ a.code = 15
      · obtain ⟨e1, e2, e3, e4, e5⟩ := m2 q2; omega
      · obtain ⟨e1, e2, e3, e4, e5⟩ := m3 (by omega); omega
  rw [h0] at hC
  generalize manyF a = N at hf hM hN
  obtain ⟨code, addr, count, on, set, parts⟩ := a
  obtain ⟨A1, n1, c1, A2, n2, c2, A3, n3, c3⟩ := t
  simp only [askV] at hC hM ⊢
  simp only at h20 hf m4 m5
  have HC := Lib.hid hC; have HM := Lib.hid hM
  clear hC hM hd h ha h0 m1 m2 m3 hc
  unfold pU
  generalize RetDoR w s u _ = R at HFin ⊢
  obtain ⟨q, hq⟩ : ∃ q, w.heap.size = q := ⟨_, rfl⟩
  have y2 : (code == 20) = false := by simp [h20]
  have hw : IntKind.i64.wrap (addr + N) = addr + N := IntWalk.i64_in _ (by omega)
  go_enter Try.func89, Try.ntmps89
  go_wp2_with fail
  refine (HC.out _ (duoU _ _ _)).mono ?_
  rintro e2 w2 ⟨rfl, hx⟩
  have HB := Lib.hid (hx.block ((Ext.alloc _ _).block (heap_alloc_new w (.cells #[.int .i64 code, .int .i64 addr, .int .i64 count, .slice A1 n1 c1, .slice A2 n2 c2, .slice A3 n3 c3] 26))))
  have HR := Lib.hid (hx.block (heap_alloc_new (w.alloc (.cells #[.int .i64 code, .int .i64 addr, .int .i64 count, .slice A1 n1 c1, .slice A2 n2 c2, .slice A3 n3 c3] 26)) (.cells #[.int .i64 0, .slice none 0 0, .slice none 0 0, .slice none 0 0] 29)))
  have HX := Lib.hid ((duoU _ _ _).trans hx)
  obtain ⟨b0, b1, b2, b3, b4, b5⟩ := cells6 HB.out
  clear hx HC
  simp only [Go.World.size_alloc, hq] at b0 b1 b2 b3 b4 b5
  go_wp2_with fail
  refine (HM.out _).mono ?_
  rintro e2 w3 ⟨rfl, hx3⟩
  clear b0 b1 b2 b3 b4 b5
  have X3 := Lib.hid (HX.out.trans hx3)
  obtain ⟨b0, b1, b2, b3, b4, b5⟩ := cells6 (hx3.block HB.out)
  obtain ⟨r0, r1, r2, r3⟩ := cells4 (hx3.block HR.out)
  have f0 := fun k => frozen_of_row _ _ k _ _ (hx3.block HR.out)
  obtain ⟨d0, d1, d2, d3, d4, d5⟩ := HU.out _ X3.out
  simp only [Go.World.size_alloc, hq] at b0 b1 b2 b3 b4 b5 r0 r1 r2 r3 f0
  clear hx3 HM
  have k3 := hf
  go_wp2_with fail
  go_quiet (fail)
  go_wp2_with fail
  refine bodyPost_ret (v := repV (excR 2) repS0) (by simp [results, Try.results89, go_sem, repV, excR, repS0, r0, r1, r2, r3]) rfl (HFin.out _ ?_)
  repeat' (first | with_reducible exact X3.out | with_reducible refine Ext.drewN' ?_ _ | with_reducible refine Ext.set' ?_ (by simp [hq]) _)
end Go.Proofs.Ytpjmhckdeeonbaa

namespace Go.Proofs.Ytpjmhckdeeonbaa
set_option linter.unusedVariables false
set_option linter.unusedSimpArgs false
set_option maxRecDepth 100000
set_option maxHeartbeats 1500000
open Go Go.RowKit Go.Out

theorem take_snoc {l : List UInt16} {a k : Nat} (h : a + k < l.length) : (l.drop a).take (k + 1) = (l.drop a).take k ++ [l.getD (a + k) 0] := by
  rw [List.take_add_one, List.getElem?_drop, List.getElem?_eq_getElem h, List.getD_eq_getElem?_getD, List.getElem?_eq_getElem h]; rfl
theorem step_b1 {ops : Array Oper} {o : Oper} {a : Act} {w : World} {K : Act → World → Prop} {Q : Exit → Act → World → Prop} {E : Prop} (hgd : o.guard = none) (s x : Operand)
    (ho : o.op = .call { callee := .builtin .append, args := #[s, x], argTypes := #[22, 22] })
    {base : Nat} {A : Option Addr} {n c : Nat} {xs : List Value} (hs : a.eval s = .slice A n c) (hown : Own w base 4 IsBo A n c xs)
    {A' : Option Addr} {m c' : Nat} {news : List Value} (hx : a.eval x = .slice A' m c') (hr : Rd w A' m news) (hnp : ∀ u ∈ news, IsBo u) (hsz : n + m ≤ 140737488355328) (hbase : base ≤ w.heap.size)
    (h : ∀ A1 c1 w1, Own w1 base 4 IsBo A1 (n + m) c1 (xs ++ news) → w.grownBy w1 (blk A) → (blk A1 = blk A ∨ blk A1 = some w.heap.size) → K (a.put o.dst (.slice A1 (n + m) c1)) w1) :
    if Region.wanted o (yielded ops a.tmps) = true then Oper.wp Try.prog o a w K Q else E :=
  step_append_Own hgd s x _ ho IsBo base _ (.bool false) 1 Try.underlying22 info_bo rfl ⟨false, rfl⟩ (fun _ => isBo_one) A n c xs hs hown A' m c' news hx hr hnp (by omega) (by omega) hbase h
theorem do_bits_r (u : UnitD) (s : UnitS) (a : AskD) (t : AskS) (w : World) (h : RefAt w s u) (hu : UnitOk u) (ha : AskRd w a t) (h0 : checkF a = 0) (h1 : a.code = 1 ∨ a.code = 2) (hf : ¬ (u.size : Int) < a.addr + manyF a) :
    Calls Try.prog 89 #[pU s, askV a t] w (RetDoR w s u a) := by
  have hC := fun W (hX : Ext w W) => refCheck_any a t W (ha.ext hX)
  have hM := fun W => many3_any a t W ha.n1 ha.n2 ha.n3 (checkF_parts a h0).1
  have hWr := fun W => refWrites_any a t W
  obtain ⟨m1, m2, m3, m4, m5⟩ := many_of h0
  obtain ⟨e1, e2, e3, e4, e5⟩ := m1 (by omega)
  have hd : doU u a = (u, ⟨0, onR (((tabU u a.code).drop a.addr.toNat).take a.count.toNat), [], []⟩) := by
    unfold doU; rw [if_neg (by omega), if_neg (by simp [h0]), if_neg hf, if_pos h1]
  have HFin := Lib.hid (show ∀ W A m c, Own W w.heap.size 4 IsBo A m c ((onR (((tabU u a.code).drop a.addr.toNat).take a.count.toNat)).map cL) → Ext w W → RetDoR w s u a (.returned (.agg #[.int .i64 0, .slice A m c, .slice none 0 0, .slice none 0 0])) W from
    fun W A m c hO hX => ⟨⟨A, m, c, none, 0, 0, none, 0, 0⟩, by rw [hd]; rfl, by rw [hd]; exact ⟨hO, Own.nil_ _ _ _ _, OwL.nil_ _ _ _ _, rfl, by simp, by simp [i64P]⟩, by rw [hd]; exact h.ext hX, .of_ext hX, fun _ => hX⟩)
  have HU := Lib.hid (fun W (hX : Ext w W) => (h.ext hX).cells)
  have HT := Lib.hid (fun W (hX : Ext w W) j (hj : j < u.size) => wordRow_cell ((h.ext hX).tab a.code) (i := j) (by rw [tabU_length hu]; exact hj))
  have HL := Lib.hid (tabU_length hu a.code)
  have hn1 := ha.n1; have hn2 := ha.n2
  have hs := hu.s
  rw [h0] at hC
  rw [e1] at hf
  rw [show writesF a.code = false from by unfold writesF isOn isSet; simp; omega] at hWr
  rw [e1] at hM
  obtain ⟨code, addr, count, on, set, parts⟩ := a
  obtain ⟨A1, n1, c1, A2, n2, c2, A3, n3, c3⟩ := t
  simp only at h1 hf m4 m5 hn1 hn2 e2 e3 e4 e5 HT HL HFin hM
  subst e4 e5
  obtain rfl : n1 = 0 := by rw [← hn1]; rfl
  obtain rfl : n2 = 0 := by rw [← hn2]; rfl
  obtain ⟨k0, rfl⟩ : ∃ k : Nat, addr = (k : Int) := ⟨addr.toNat, by omega⟩
  obtain ⟨n, rfl⟩ : ∃ k : Nat, count = (k : Int) := ⟨count.toNat, by omega⟩
  rw [Int.toNat_natCast, Int.toNat_natCast] at HFin
  simp only [askV] at hC hM hWr ⊢
  have HC := Lib.hid hC; have HM := Lib.hid hM; have HWr := Lib.hid hWr
  have hw : IntKind.i64.wrap ((k0 : Int) + (n : Int)) = (k0 : Int) + (n : Int) := IntWalk.i64_in _ (by omega)
  have hk1 : (k0 : Int) + (n : Int) ≤ (u.size : Int) := by omega
  have hk2 : 1 ≤ n ∧ n ≤ 2000 := by omega
  have hk3 : k0 + n ≤ u.size := by omega
  obtain ⟨l, hl⟩ : ∃ l, tabU u code = l := ⟨_, rfl⟩
  obtain ⟨g, hg⟩ : ∃ g, tabS s code = g := ⟨_, rfl⟩
  rw [hl] at HT HL HFin
  rw [hg] at HT
  clear hC hM hWr h ha h0 m1 m2 m3 e1 hd hl
  unfold pU
  generalize RetDoR w s u _ = R at HFin ⊢
  obtain ⟨q, hq⟩ : ∃ q, w.heap.size = q := ⟨_, rfl⟩
  obtain ⟨kode, hkode⟩ : ∃ x, x = code := ⟨_, rfl⟩
  rcases h1 with rfl | rfl
  · obtain rfl : g = s.g1 := hg.symm
    clear hg
    go_enter Try.func89, Try.ntmps89
    go_wp2_with fail
    refine (HC.out _ (duoU _ _ _)).mono ?_
    rintro e2 w2 ⟨rfl, hx⟩
    have HB := Lib.hid (hx.block ((Ext.alloc _ _).block (heap_alloc_new w _)))
    have HR : Hid (w2.heap[q + 1]? = some (.cells #[.int .i64 0, .slice none 0 0, .slice none 0 0, .slice none 0 0] 29 (0, 0))) := by
      have hh := hx.block (heap_alloc_new (w.alloc (.cells #[.int .i64 _, .int .i64 (k0 : Int), .int .i64 (n : Int), .slice A1 0 c1, .slice A2 0 c2, .slice A3 n3 c3] 26)) (.cells #[.int .i64 0, .slice none 0 0, .slice none 0 0, .slice none 0 0] 29))
      simp only [Go.World.size_alloc, hq] at hh
      exact hh
    have HX := Lib.hid ((duoU _ _ _).trans hx)
    obtain ⟨b0, b1, b2, b3, b4, b5⟩ := cells6 HB.out
    clear hx HC
    simp only [Go.World.size_alloc, hq] at b0 b1 b2 b3 b4 b5
    go_wp2_with fail
    refine (HM.out _).mono ?_
    rintro e2 w3 ⟨rfl, hx3⟩
    clear b0 b1 b2 b3 b4 b5
    have X3 := Lib.hid (HX.out.trans hx3)
    have HB3 := Lib.hid (hx3.block HB.out); have HR3 := Lib.hid (hx3.block HR.out)
    obtain ⟨b0, b1, b2, b3, b4, b5⟩ := cells6 HB3.out
    obtain ⟨d0, d1, d2, d3, d4, d5⟩ := HU.out _ X3.out
    simp only [hq] at b0 b1 b2 b3 b4 b5
    clear hx3 HM HB HR HX
    go_wp2_with fail
    go_quiet (fail)
    have HB4 := Lib.hid ((Ext.drewN' (Ext.refl w3) nq).block HB3.out)
    have HR4 := Lib.hid ((Ext.drewN' (Ext.refl w3) nq).block HR3.out)
    have X4 := Lib.hid (X3.out.drewN' nq)
    clear b0 b1 b2 b3 b4 b5 d0 d1 d2 d3 d4 d5 HB3 HR3 X3
    generalize w3.drewN nq = w4 at *
    have hRz : q + 1 < w4.heap.size := lt_of_heap HR4.out
    have B0 := fun o => (cells6 ((Ext.alloc w4 o).block HB4.out)).1
    have B1 := fun o => (cells6 ((Ext.alloc w4 o).block HB4.out)).2.1
    simp only [hq] at B0 B1
    rw [hq] at HB4
    go_wp2_with fail
    clear B0 B1
    go_loopw [8] (fun i wr => ∃ (k : Nat) (A5 : Option Addr) (c5 : Nat), k ≤ n ∧ i = .int .i64 ((k0 : Int) + (k : Int)) ∧ Hid (wr.heap[q]? = some (.cells #[.int .i64 kode, .int .i64 (k0 : Int), .int .i64 (n : Int), .slice A1 0 c1, .slice A2 0 c2, .slice A3 n3 c3] 26 (0, 0))) ∧ Hid (wr.heap[q + 1]? = some (.cells #[.int .i64 0, .slice none 0 0, .slice none 0 0, .slice none 0 0] 29 (0, 0))) ∧ Hid (wr.heap[w4.heap.size]? = some (.cells #[.int .i64 0, .slice A5 k c5, .slice none 0 0, .slice none 0 0] 29 (0, 0))) ∧ Hid (Own wr (w4.heap.size + 1) 4 IsBo A5 k c5 ((onR ((l.drop k0).take k)).map cL)) ∧ Hid (Ext w wr) ∧ Hid (w4.heap.size + 1 ≤ wr.heap.size)) (fun i _ => k0 + n - (intOf i).toNat)
    case atStart => exact ⟨0, none, 0, Nat.zero_le _, by simp, by rw [hkode]; exact (Ext.alloc w4 _).block HB4.out, (Ext.alloc w4 _).block HR4.out, heap_alloc_new w4 _, Own.nil_ _ _ _ _, Ext.alloc' X4.out _, by unfold Hid; simp⟩
    case round =>
      obtain ⟨k, A5, c5, hk, rfl, H1, H2, H3, HO, HX5, HZ⟩ := hrel
      obtain ⟨g0, g1, g2, g3⟩ := cells4 H3.out
      obtain ⟨b0, b1, b2, b3, b4, b5⟩ := cells6 H1.out
      obtain ⟨d0, d1, d2, d3, d4, d5⟩ := HU.out _ HX5.out
      rw [hkode] at b0
      have hlt2 : w4.heap.size < wr.heap.size := lt_of_heap H3.out
      rcases Nat.lt_or_ge k n with hlt | hge
      · have hv := HT.out _ HX5.out (k0 + k) (by omega)
        obtain ⟨X, hX⟩ : ∃ X, (l.getD (k0 + k) 0).toNat = X := ⟨_, rfl⟩
        have HXX := Lib.hid hX
        have HTX : Hid (∀ W, Ext w W → W.cell? ⟨s.g1, k0 + k, none⟩ = some (.int .u16 (X : Int))) := fun W hx => by rw [← hX]; exact HT.out W hx _ (by omega)
        rw [hX] at hv
        clear hX
        have i1 : (0 : Int) ≤ (k0 : Int) + (k : Int) := by omega
        have i2 : (k0 : Int) + (k : Int) < (u.size : Int) := by omega
        have i3 : ((k0 : Int) + (k : Int)).toNat = k0 + k := by omega
        have i4 : (k0 : Int) + (k : Int) < (k0 : Int) + (n : Int) := by omega
        have i5 : IntKind.i64.wrap ((k0 : Int) + (k : Int) + 1) = (k0 : Int) + (k : Int) + 1 := IntWalk.i64_in _ (by omega)
        have XA := Lib.hid (fun o => Ext.drew' (Ext.alloc wr o))
        have HRow := Lib.hid (show Rd (wr.alloc (.cells #[.bool ((X : Int) == 1)] 4)).drew (some ⟨wr.heap.size, 0, none⟩) 1 [.bool ((X : Int) == 1)] from Rd.one wr _ _)
        have G := fun o => (cells4 ((Ext.alloc wr o).block H3.out)).2.1
        have BB := fun o => (cells6 ((Ext.alloc wr o).block H1.out)).1
        have DD := fun o => (HU.out _ (HX5.out.trans (Ext.alloc wr o))).2.1
        have VV := fun o => HTX.out _ (HX5.out.trans (Ext.alloc wr o))
        simp only [hkode] at BB
        go_wp2_with fail
        go_region_law ((
             refine step_b1 (base := w4.heap.size + 1) rfl (.tmp 68) (.tmp 80) rfl rfl (HO.out.ext (XA.out _)) rfl HRow.out (by intro u hu; simp at hu; subst hu; exact ⟨_, rfl⟩) (by omega) (Nat.le_trans HZ.out (XA.out _).size) ?_
             intro A6 c6 w6 hown hgr hbk
             have hne : ∀ g', g' ≤ w4.heap.size → some g' ≠ blk A5 := fun g' hg' e => by have := (HO.out.lt g' e.symm).1; omega
             have K1 := Lib.hid ((hgr.block q (Nat.lt_of_lt_of_le (by omega) (XA.out _).size) (hne _ (by omega))).trans ((XA.out _).block H1.out))
             have K2 := Lib.hid ((hgr.block (q + 1) (Nat.lt_of_lt_of_le (by omega) (XA.out _).size) (hne _ (by omega))).trans ((XA.out _).block H2.out))
             have K3 := Lib.hid ((hgr.block w4.heap.size (Nat.lt_of_lt_of_le (by omega) (XA.out _).size) (hne _ (by omega))).trans ((XA.out _).block H3.out))
             have KX := Lib.hid ((HX5.out.trans (XA.out _)).grown' hgr (fun g' e => by have := (HO.out.lt g' e).1; omega))
             have KZ := Lib.hid (Nat.le_trans HZ.out (Nat.le_trans (XA.out _).size hgr.size))
             have KO := Lib.hid hown
             clear hown hgr hbk hne G BB DD VV g0 g1 g2 g3 b0 b1 b2 b3 b4 b5 d0 d1 d2 d3 d4 d5 hv
             obtain ⟨g0, g1, g2, g3⟩ := cells4 K3.out
             have z1 := frozen_of_row _ _ 1 _ _ K3.out))
        all_goals
          go_wp2_with fail
          go_roundw
          case rel =>
            refine ⟨k + 1, A6, c6, by omega, by go_num, Lib.hid ?_, Lib.hid ?_, Lib.hid (heap_setCell_same _ _ _ _ _ _ K3.out), Lib.hid ?_, Lib.hid (KX.out.set' (by simp; omega) _), Lib.hid (by simp; exact KZ.out)⟩
            · exact (Below.heap_setCell _ ⟨w4.heap.size, 1, none⟩ _ q (by simp; omega)).trans K1.out
            · exact (Below.heap_setCell _ ⟨w4.heap.size, 1, none⟩ _ (q + 1) (by simp; omega)).trans K2.out
            · refine Own.set_below ?_ (by simp) _
              have h := KO.out
              rw [← HXX.out] at h
              rw [onR_snoc (by have := HL.out; omega), List.map_append]
              exact h
          case measure => simp [intOf]; omega
      · have hkn : k = n := by omega
        have i4 : ¬ (k0 : Int) + (k : Int) < (k0 : Int) + (n : Int) := by omega
        go_wp2_with fail
        refine (HWr.out _).mono ?_
        rintro e w7 ⟨rfl, hx7⟩
        have X7 := Lib.hid (HX5.out.trans hx7)
        have HO7 : Hid (Own w7 (w4.heap.size + 1) 4 IsBo A5 k c5 ((onR ((l.drop k0).take n)).map cL)) := by rw [← hkn]; exact HO.out.ext hx7
        obtain ⟨q0, q1, q2, q3⟩ := cells4 (hx7.block H2.out)
        have f6 := fun k => frozen_of_row _ _ k _ _ (hx7.block H2.out)
        clear g0 g1 g2 g3 b0 b1 b2 b3 b4 b5 d0 d1 d2 d3 d4 d5
        obtain ⟨g0, g1, g2, g3⟩ := cells4 (hx7.block H3.out)
        clear hx7 hkn
        go_wp2_with fail
        refine bodyPost_ret (v := .agg #[.int .i64 0, .slice A5 k c5, .slice none 0 0, .slice none 0 0]) (by simp [results, Try.results89, go_sem, q0, q1, q2, q3]) rfl (HFin.out _ _ _ _ (Own.mono (base := w4.heap.size + 1) ?_ (by omega)) ?_)
        · repeat' (first | with_reducible exact HO7.out | with_reducible refine Own.set_below ?_ (by simp; try omega) _)
        · repeat' (first | with_reducible exact X7.out | with_reducible refine Ext.set' ?_ (by simp [hq]) _)
  · obtain rfl : g = s.g2 := hg.symm
    clear hg
    go_enter Try.func89, Try.ntmps89
    go_wp2_with fail
    refine (HC.out _ (duoU _ _ _)).mono ?_
    rintro e2 w2 ⟨rfl, hx⟩
    have HB := Lib.hid (hx.block ((Ext.alloc _ _).block (heap_alloc_new w _)))
    have HR : Hid (w2.heap[q + 1]? = some (.cells #[.int .i64 0, .slice none 0 0, .slice none 0 0, .slice none 0 0] 29 (0, 0))) := by
      have hh := hx.block (heap_alloc_new (w.alloc (.cells #[.int .i64 _, .int .i64 (k0 : Int), .int .i64 (n : Int), .slice A1 0 c1, .slice A2 0 c2, .slice A3 n3 c3] 26)) (.cells #[.int .i64 0, .slice none 0 0, .slice none 0 0, .slice none 0 0] 29))
      simp only [Go.World.size_alloc, hq] at hh
      exact hh
    have HX := Lib.hid ((duoU _ _ _).trans hx)
    obtain ⟨b0, b1, b2, b3, b4, b5⟩ := cells6 HB.out
    clear hx HC
    simp only [Go.World.size_alloc, hq] at b0 b1 b2 b3 b4 b5
    go_wp2_with fail
    refine (HM.out _).mono ?_
    rintro e2 w3 ⟨rfl, hx3⟩
    clear b0 b1 b2 b3 b4 b5
    have X3 := Lib.hid (HX.out.trans hx3)
    have HB3 := Lib.hid (hx3.block HB.out); have HR3 := Lib.hid (hx3.block HR.out)
    obtain ⟨b0, b1, b2, b3, b4, b5⟩ := cells6 HB3.out
    obtain ⟨d0, d1, d2, d3, d4, d5⟩ := HU.out _ X3.out
    simp only [hq] at b0 b1 b2 b3 b4 b5
    clear hx3 HM HB HR HX
    go_wp2_with fail
    go_quiet (fail)
    have HB4 := Lib.hid ((Ext.drewN' (Ext.refl w3) nq).block HB3.out)
    have HR4 := Lib.hid ((Ext.drewN' (Ext.refl w3) nq).block HR3.out)
    have X4 := Lib.hid (X3.out.drewN' nq)
    clear b0 b1 b2 b3 b4 b5 d0 d1 d2 d3 d4 d5 HB3 HR3 X3
    generalize w3.drewN nq = w4 at *
    have hRz : q + 1 < w4.heap.size := lt_of_heap HR4.out
    have B0 := fun o => (cells6 ((Ext.alloc w4 o).block HB4.out)).1
    have B1 := fun o => (cells6 ((Ext.alloc w4 o).block HB4.out)).2.1
    simp only [hq] at B0 B1
    rw [hq] at HB4
    go_wp2_with fail
    clear B0 B1
    go_loopw [8] (fun i wr => ∃ (k : Nat) (A5 : Option Addr) (c5 : Nat), k ≤ n ∧ i = .int .i64 ((k0 : Int) + (k : Int)) ∧ Hid (wr.heap[q]? = some (.cells #[.int .i64 kode, .int .i64 (k0 : Int), .int .i64 (n : Int), .slice A1 0 c1, .slice A2 0 c2, .slice A3 n3 c3] 26 (0, 0))) ∧ Hid (wr.heap[q + 1]? = some (.cells #[.int .i64 0, .slice none 0 0, .slice none 0 0, .slice none 0 0] 29 (0, 0))) ∧ Hid (wr.heap[w4.heap.size]? = some (.cells #[.int .i64 0, .slice A5 k c5, .slice none 0 0, .slice none 0 0] 29 (0, 0))) ∧ Hid (Own wr (w4.heap.size + 1) 4 IsBo A5 k c5 ((onR ((l.drop k0).take k)).map cL)) ∧ Hid (Ext w wr) ∧ Hid (w4.heap.size + 1 ≤ wr.heap.size)) (fun i _ => k0 + n - (intOf i).toNat)
    case atStart => exact ⟨0, none, 0, Nat.zero_le _, by simp, by rw [hkode]; exact (Ext.alloc w4 _).block HB4.out, (Ext.alloc w4 _).block HR4.out, heap_alloc_new w4 _, Own.nil_ _ _ _ _, Ext.alloc' X4.out _, by unfold Hid; simp⟩
    case round =>
      obtain ⟨k, A5, c5, hk, rfl, H1, H2, H3, HO, HX5, HZ⟩ := hrel
      obtain ⟨g0, g1, g2, g3⟩ := cells4 H3.out
      obtain ⟨b0, b1, b2, b3, b4, b5⟩ := cells6 H1.out
      obtain ⟨d0, d1, d2, d3, d4, d5⟩ := HU.out _ HX5.out
      rw [hkode] at b0
      have hlt2 : w4.heap.size < wr.heap.size := lt_of_heap H3.out
      rcases Nat.lt_or_ge k n with hlt | hge
      · have hv := HT.out _ HX5.out (k0 + k) (by omega)
        obtain ⟨X, hX⟩ : ∃ X, (l.getD (k0 + k) 0).toNat = X := ⟨_, rfl⟩
        have HXX := Lib.hid hX
        have HTX : Hid (∀ W, Ext w W → W.cell? ⟨s.g2, k0 + k, none⟩ = some (.int .u16 (X : Int))) := fun W hx => by rw [← hX]; exact HT.out W hx _ (by omega)
        rw [hX] at hv
        clear hX
        have i1 : (0 : Int) ≤ (k0 : Int) + (k : Int) := by omega
        have i2 : (k0 : Int) + (k : Int) < (u.size : Int) := by omega
        have i3 : ((k0 : Int) + (k : Int)).toNat = k0 + k := by omega
        have i4 : (k0 : Int) + (k : Int) < (k0 : Int) + (n : Int) := by omega
        have i5 : IntKind.i64.wrap ((k0 : Int) + (k : Int) + 1) = (k0 : Int) + (k : Int) + 1 := IntWalk.i64_in _ (by omega)
        have XA := Lib.hid (fun o => Ext.drew' (Ext.alloc wr o))
        have HRow := Lib.hid (show Rd (wr.alloc (.cells #[.bool ((X : Int) == 1)] 4)).drew (some ⟨wr.heap.size, 0, none⟩) 1 [.bool ((X : Int) == 1)] from Rd.one wr _ _)
        have G := fun o => (cells4 ((Ext.alloc wr o).block H3.out)).2.1
        have BB := fun o => (cells6 ((Ext.alloc wr o).block H1.out)).1
        have DD := fun o => (HU.out _ (HX5.out.trans (Ext.alloc wr o))).2.2.1
        have VV := fun o => HTX.out _ (HX5.out.trans (Ext.alloc wr o))
        simp only [hkode] at BB
        go_wp2_with fail
        go_region_law ((
             refine step_b1 (base := w4.heap.size + 1) rfl (.tmp 68) (.tmp 80) rfl rfl (HO.out.ext (XA.out _)) rfl HRow.out (by intro u hu; simp at hu; subst hu; exact ⟨_, rfl⟩) (by omega) (Nat.le_trans HZ.out (XA.out _).size) ?_
             intro A6 c6 w6 hown hgr hbk
             have hne : ∀ g', g' ≤ w4.heap.size → some g' ≠ blk A5 := fun g' hg' e => by have := (HO.out.lt g' e.symm).1; omega
             have K1 := Lib.hid ((hgr.block q (Nat.lt_of_lt_of_le (by omega) (XA.out _).size) (hne _ (by omega))).trans ((XA.out _).block H1.out))
             have K2 := Lib.hid ((hgr.block (q + 1) (Nat.lt_of_lt_of_le (by omega) (XA.out _).size) (hne _ (by omega))).trans ((XA.out _).block H2.out))
             have K3 := Lib.hid ((hgr.block w4.heap.size (Nat.lt_of_lt_of_le (by omega) (XA.out _).size) (hne _ (by omega))).trans ((XA.out _).block H3.out))
             have KX := Lib.hid ((HX5.out.trans (XA.out _)).grown' hgr (fun g' e => by have := (HO.out.lt g' e).1; omega))
             have KZ := Lib.hid (Nat.le_trans HZ.out (Nat.le_trans (XA.out _).size hgr.size))
             have KO := Lib.hid hown
             clear hown hgr hbk hne G BB DD VV g0 g1 g2 g3 b0 b1 b2 b3 b4 b5 d0 d1 d2 d3 d4 d5 hv
             obtain ⟨g0, g1, g2, g3⟩ := cells4 K3.out
             have z1 := frozen_of_row _ _ 1 _ _ K3.out))
        all_goals
          go_wp2_with fail
          go_roundw
          case rel =>
            refine ⟨k + 1, A6, c6, by omega, by go_num, Lib.hid ?_, Lib.hid ?_, Lib.hid (heap_setCell_same _ _ _ _ _ _ K3.out), Lib.hid ?_, Lib.hid (KX.out.set' (by simp; omega) _), Lib.hid (by simp; exact KZ.out)⟩
            · exact (Below.heap_setCell _ ⟨w4.heap.size, 1, none⟩ _ q (by simp; omega)).trans K1.out
            · exact (Below.heap_setCell _ ⟨w4.heap.size, 1, none⟩ _ (q + 1) (by simp; omega)).trans K2.out
            · refine Own.set_below ?_ (by simp) _
              have h := KO.out
              rw [← HXX.out] at h
              rw [onR_snoc (by have := HL.out; omega), List.map_append]
              exact h
          case measure => simp [intOf]; omega
      · have hkn : k = n := by omega
        have i4 : ¬ (k0 : Int) + (k : Int) < (k0 : Int) + (n : Int) := by omega
        go_wp2_with fail
        refine (HWr.out _).mono ?_
        rintro e w7 ⟨rfl, hx7⟩
        have X7 := Lib.hid (HX5.out.trans hx7)
        have HO7 : Hid (Own w7 (w4.heap.size + 1) 4 IsBo A5 k c5 ((onR ((l.drop k0).take n)).map cL)) := by rw [← hkn]; exact HO.out.ext hx7
        obtain ⟨q0, q1, q2, q3⟩ := cells4 (hx7.block H2.out)
        have f6 := fun k => frozen_of_row _ _ k _ _ (hx7.block H2.out)
        clear g0 g1 g2 g3 b0 b1 b2 b3 b4 b5 d0 d1 d2 d3 d4 d5
        obtain ⟨g0, g1, g2, g3⟩ := cells4 (hx7.block H3.out)
        clear hx7 hkn
        go_wp2_with fail
        refine bodyPost_ret (v := .agg #[.int .i64 0, .slice A5 k c5, .slice none 0 0, .slice none 0 0]) (by simp [results, Try.results89, go_sem, q0, q1, q2, q3]) rfl (HFin.out _ _ _ _ (Own.mono (base := w4.heap.size + 1) ?_ (by omega)) ?_)
        · repeat' (first | with_reducible exact HO7.out | with_reducible refine Own.set_below ?_ (by simp; try omega) _)
        · repeat' (first | with_reducible exact X7.out | with_reducible refine Ext.set' ?_ (by simp [hq]) _)
theorem do_regs_r (u : UnitD) (s : UnitS) (a : AskD) (t : AskS) (w : World) (h : RefAt w s u) (hu : UnitOk u) (ha : AskRd w a t) (h0 : checkF a = 0) (h1 : a.code = 3 ∨ a.code = 4) (hf : ¬ (u.size : Int) < a.addr + manyF a) :
    Calls Try.prog 89 #[pU s, askV a t] w (RetDoR w s u a) := by
  have hC := fun W (hX : Ext w W) => refCheck_any a t W (ha.ext hX)
  have hM := fun W => many3_any a t W ha.n1 ha.n2 ha.n3 (checkF_parts a h0).1
  have hWr := fun W => refWrites_any a t W
  obtain ⟨m1, m2, m3, m4, m5⟩ := many_of h0
  obtain ⟨e1, e2, e3, e4, e5⟩ := m1 (by omega)
  have hd : doU u a = (u, ⟨0, [], ((tabU u a.code).drop a.addr.toNat).take a.count.toNat, []⟩) := by
    unfold doU; rw [if_neg (by omega), if_neg (by simp [h0]), if_neg hf, if_neg (by omega), if_pos h1]
  have HFin := Lib.hid (show ∀ W A m c, Own W w.heap.size 54 IsU16 A m c ((((tabU u a.code).drop a.addr.toNat).take a.count.toNat).map cW) → Ext w W → RetDoR w s u a (.returned (.agg #[.int .i64 0, .slice none 0 0, .slice A m c, .slice none 0 0])) W from
    fun W A m c hO hX => ⟨⟨none, 0, 0, A, m, c, none, 0, 0⟩, by rw [hd]; rfl, by rw [hd]; exact ⟨Own.nil_ _ _ _ _, hO, OwL.nil_ _ _ _ _, rfl, by simp, by simp [i64P]⟩, by rw [hd]; exact h.ext hX, .of_ext hX, fun _ => hX⟩)
  have HU := Lib.hid (fun W (hX : Ext w W) => (h.ext hX).cells)
  have HT := Lib.hid (fun W (hX : Ext w W) j (hj : j < u.size) => wordRow_cell ((h.ext hX).tab a.code) (i := j) (by rw [tabU_length hu]; exact hj))
  have HL := Lib.hid (tabU_length hu a.code)
  have hn1 := ha.n1; have hn2 := ha.n2
  have hs := hu.s
  rw [h0] at hC
  rw [e1] at hf
  rw [show writesF a.code = false from by unfold writesF isOn isSet; simp; omega] at hWr
  rw [e1] at hM
  obtain ⟨code, addr, count, on, set, parts⟩ := a
  obtain ⟨A1, n1, c1, A2, n2, c2, A3, n3, c3⟩ := t
  simp only at h1 hf m4 m5 hn1 hn2 e2 e3 e4 e5 HT HL HFin hM
  subst e4 e5
  obtain rfl : n1 = 0 := by rw [← hn1]; rfl
  obtain rfl : n2 = 0 := by rw [← hn2]; rfl
  obtain ⟨k0, rfl⟩ : ∃ k : Nat, addr = (k : Int) := ⟨addr.toNat, by omega⟩
  obtain ⟨n, rfl⟩ : ∃ k : Nat, count = (k : Int) := ⟨count.toNat, by omega⟩
  rw [Int.toNat_natCast, Int.toNat_natCast] at HFin
  simp only [askV] at hC hM hWr ⊢
  have HC := Lib.hid hC; have HM := Lib.hid hM; have HWr := Lib.hid hWr
  have hw : IntKind.i64.wrap ((k0 : Int) + (n : Int)) = (k0 : Int) + (n : Int) := IntWalk.i64_in _ (by omega)
  have hk1 : (k0 : Int) + (n : Int) ≤ (u.size : Int) := by omega
  have hk2 : 1 ≤ n ∧ n ≤ 2000 := by omega
  have hk3 : k0 + n ≤ u.size := by omega
  obtain ⟨l, hl⟩ : ∃ l, tabU u code = l := ⟨_, rfl⟩
  obtain ⟨g, hg⟩ : ∃ g, tabS s code = g := ⟨_, rfl⟩
  rw [hl] at HT HL HFin
  rw [hg] at HT
  clear hC hM hWr h ha h0 m1 m2 m3 e1 hd hl
  unfold pU
  generalize RetDoR w s u _ = R at HFin ⊢
  obtain ⟨q, hq⟩ : ∃ q, w.heap.size = q := ⟨_, rfl⟩
  obtain ⟨kode, hkode⟩ : ∃ x, x = code := ⟨_, rfl⟩
  rcases h1 with rfl | rfl
  · obtain rfl : g = s.g3 := hg.symm
    clear hg
    go_enter Try.func89, Try.ntmps89
    go_wp2_with fail
    refine (HC.out _ (duoU _ _ _)).mono ?_
    rintro e2 w2 ⟨rfl, hx⟩
    have HB := Lib.hid (hx.block ((Ext.alloc _ _).block (heap_alloc_new w _)))
    have HR : Hid (w2.heap[q + 1]? = some (.cells #[.int .i64 0, .slice none 0 0, .slice none 0 0, .slice none 0 0] 29 (0, 0))) := by
      have hh := hx.block (heap_alloc_new (w.alloc (.cells #[.int .i64 _, .int .i64 (k0 : Int), .int .i64 (n : Int), .slice A1 0 c1, .slice A2 0 c2, .slice A3 n3 c3] 26)) (.cells #[.int .i64 0, .slice none 0 0, .slice none 0 0, .slice none 0 0] 29))
      simp only [Go.World.size_alloc, hq] at hh
      exact hh
    have HX := Lib.hid ((duoU _ _ _).trans hx)
    obtain ⟨b0, b1, b2, b3, b4, b5⟩ := cells6 HB.out
    clear hx HC
    simp only [Go.World.size_alloc, hq] at b0 b1 b2 b3 b4 b5
    go_wp2_with fail
    refine (HM.out _).mono ?_
    rintro e2 w3 ⟨rfl, hx3⟩
    clear b0 b1 b2 b3 b4 b5
    have X3 := Lib.hid (HX.out.trans hx3)
    have HB3 := Lib.hid (hx3.block HB.out); have HR3 := Lib.hid (hx3.block HR.out)
    obtain ⟨b0, b1, b2, b3, b4, b5⟩ := cells6 HB3.out
    obtain ⟨d0, d1, d2, d3, d4, d5⟩ := HU.out _ X3.out
    simp only [hq] at b0 b1 b2 b3 b4 b5
    clear hx3 HM HB HR HX
    go_wp2_with fail
    go_quiet (fail)
    have HB4 := Lib.hid ((Ext.drewN' (Ext.refl w3) nq).block HB3.out)
    have HR4 := Lib.hid ((Ext.drewN' (Ext.refl w3) nq).block HR3.out)
    have X4 := Lib.hid (X3.out.drewN' nq)
    clear b0 b1 b2 b3 b4 b5 d0 d1 d2 d3 d4 d5 HB3 HR3 X3
    generalize w3.drewN nq = w4 at *
    have hRz : q + 1 < w4.heap.size := lt_of_heap HR4.out
    have B0 := fun o => (cells6 ((Ext.alloc w4 o).block HB4.out)).1
    have B1 := fun o => (cells6 ((Ext.alloc w4 o).block HB4.out)).2.1
    simp only [hq] at B0 B1
    rw [hq] at HB4
    go_wp2_with fail
    clear B0 B1
    go_loopw [8] (fun i wr => ∃ (k : Nat) (A5 : Option Addr) (c5 : Nat), k ≤ n ∧ i = .int .i64 ((k0 : Int) + (k : Int)) ∧ Hid (wr.heap[q]? = some (.cells #[.int .i64 kode, .int .i64 (k0 : Int), .int .i64 (n : Int), .slice A1 0 c1, .slice A2 0 c2, .slice A3 n3 c3] 26 (0, 0))) ∧ Hid (wr.heap[q + 1]? = some (.cells #[.int .i64 0, .slice none 0 0, .slice none 0 0, .slice none 0 0] 29 (0, 0))) ∧ Hid (wr.heap[w4.heap.size]? = some (.cells #[.int .i64 0, .slice none 0 0, .slice A5 k c5, .slice none 0 0] 29 (0, 0))) ∧ Hid (Own wr (w4.heap.size + 1) 54 IsU16 A5 k c5 (((l.drop k0).take k).map cW)) ∧ Hid (Ext w wr) ∧ Hid (w4.heap.size + 1 ≤ wr.heap.size)) (fun i _ => k0 + n - (intOf i).toNat)
    case atStart => exact ⟨0, none, 0, Nat.zero_le _, by simp, by rw [hkode]; exact (Ext.alloc w4 _).block HB4.out, (Ext.alloc w4 _).block HR4.out, heap_alloc_new w4 _, Own.nil_ _ _ _ _, Ext.alloc' X4.out _, by unfold Hid; simp⟩
    case round =>
      obtain ⟨k, A5, c5, hk, rfl, H1, H2, H3, HO, HX5, HZ⟩ := hrel
      obtain ⟨g0, g1, g2, g3⟩ := cells4 H3.out
      obtain ⟨b0, b1, b2, b3, b4, b5⟩ := cells6 H1.out
      obtain ⟨d0, d1, d2, d3, d4, d5⟩ := HU.out _ HX5.out
      rw [hkode] at b0
      have hlt2 : w4.heap.size < wr.heap.size := lt_of_heap H3.out
      rcases Nat.lt_or_ge k n with hlt | hge
      · have hv := HT.out _ HX5.out (k0 + k) (by omega)
        obtain ⟨X, hX⟩ : ∃ X, (l.getD (k0 + k) 0).toNat = X := ⟨_, rfl⟩
        have HXX := Lib.hid hX
        have HTX : Hid (∀ W, Ext w W → W.cell? ⟨s.g3, k0 + k, none⟩ = some (.int .u16 (X : Int))) := fun W hx => by rw [← hX]; exact HT.out W hx _ (by omega)
        rw [hX] at hv
        clear hX
        have i1 : (0 : Int) ≤ (k0 : Int) + (k : Int) := by omega
        have i2 : (k0 : Int) + (k : Int) < (u.size : Int) := by omega
        have i3 : ((k0 : Int) + (k : Int)).toNat = k0 + k := by omega
        have i4 : (k0 : Int) + (k : Int) < (k0 : Int) + (n : Int) := by omega
        have i5 : IntKind.i64.wrap ((k0 : Int) + (k : Int) + 1) = (k0 : Int) + (k : Int) + 1 := IntWalk.i64_in _ (by omega)
        have XA := Lib.hid (fun o => Ext.drew' (Ext.alloc wr o))
        have HRow := Lib.hid (show Rd (wr.alloc (.cells #[.int .u16 (X : Int)] 54)).drew (some ⟨wr.heap.size, 0, none⟩) 1 [.int .u16 (X : Int)] from Rd.one wr _ _)
        have G := fun o => (cells4 ((Ext.alloc wr o).block H3.out)).2.2.1
        have BB := fun o => (cells6 ((Ext.alloc wr o).block H1.out)).1
        have DD := fun o => (HU.out _ (HX5.out.trans (Ext.alloc wr o))).2.2.2.1
        have VV := fun o => HTX.out _ (HX5.out.trans (Ext.alloc wr o))
        simp only [hkode] at BB
        go_wp2_with fail
        go_region_law ((
             refine step_u16 (base := w4.heap.size + 1) rfl (.tmp 87) (.tmp 98) rfl rfl (HO.out.ext (XA.out _)) rfl HRow.out (by intro u hu; simp at hu; subst hu; exact ⟨l.getD (k0 + k) 0, by rw [HXX.out]⟩) (by omega) (Nat.le_trans HZ.out (XA.out _).size) ?_
             intro A6 c6 w6 hown hgr hbk
             have hne : ∀ g', g' ≤ w4.heap.size → some g' ≠ blk A5 := fun g' hg' e => by have := (HO.out.lt g' e.symm).1; omega
             have K1 := Lib.hid ((hgr.block q (Nat.lt_of_lt_of_le (by omega) (XA.out _).size) (hne _ (by omega))).trans ((XA.out _).block H1.out))
             have K2 := Lib.hid ((hgr.block (q + 1) (Nat.lt_of_lt_of_le (by omega) (XA.out _).size) (hne _ (by omega))).trans ((XA.out _).block H2.out))
             have K3 := Lib.hid ((hgr.block w4.heap.size (Nat.lt_of_lt_of_le (by omega) (XA.out _).size) (hne _ (by omega))).trans ((XA.out _).block H3.out))
             have KX := Lib.hid ((HX5.out.trans (XA.out _)).grown' hgr (fun g' e => by have := (HO.out.lt g' e).1; omega))
             have KZ := Lib.hid (Nat.le_trans HZ.out (Nat.le_trans (XA.out _).size hgr.size))
             have KO := Lib.hid hown
             clear hown hgr hbk hne G BB DD VV g0 g1 g2 g3 b0 b1 b2 b3 b4 b5 d0 d1 d2 d3 d4 d5 hv
             obtain ⟨g0, g1, g2, g3⟩ := cells4 K3.out
             have z1 := frozen_of_row _ _ 2 _ _ K3.out))
        all_goals
          go_wp2_with fail
          go_roundw
          case rel =>
            refine ⟨k + 1, A6, c6, by omega, by go_num, Lib.hid ?_, Lib.hid ?_, Lib.hid (heap_setCell_same _ _ _ _ _ _ K3.out), Lib.hid ?_, Lib.hid (KX.out.set' (by simp; omega) _), Lib.hid (by simp; exact KZ.out)⟩
            · exact (Below.heap_setCell _ ⟨w4.heap.size, 2, none⟩ _ q (by simp; omega)).trans K1.out
            · exact (Below.heap_setCell _ ⟨w4.heap.size, 2, none⟩ _ (q + 1) (by simp; omega)).trans K2.out
            · refine Own.set_below ?_ (by simp) _
              have h := KO.out
              rw [← HXX.out] at h
              rw [take_snoc (by have := HL.out; omega), List.map_append]
              exact h
          case measure => simp [intOf]; omega
      · have hkn : k = n := by omega
        have i4 : ¬ (k0 : Int) + (k : Int) < (k0 : Int) + (n : Int) := by omega
        go_wp2_with fail
        refine (HWr.out _).mono ?_
        rintro e w7 ⟨rfl, hx7⟩
        have X7 := Lib.hid (HX5.out.trans hx7)
        have HO7 : Hid (Own w7 (w4.heap.size + 1) 54 IsU16 A5 k c5 (((l.drop k0).take n).map cW)) := by rw [← hkn]; exact HO.out.ext hx7
        obtain ⟨q0, q1, q2, q3⟩ := cells4 (hx7.block H2.out)
        have f6 := fun k => frozen_of_row _ _ k _ _ (hx7.block H2.out)
        clear g0 g1 g2 g3 b0 b1 b2 b3 b4 b5 d0 d1 d2 d3 d4 d5
        obtain ⟨g0, g1, g2, g3⟩ := cells4 (hx7.block H3.out)
        clear hx7 hkn
        go_wp2_with fail
        refine bodyPost_ret (v := .agg #[.int .i64 0, .slice none 0 0, .slice A5 k c5, .slice none 0 0]) (by simp [results, Try.results89, go_sem, q0, q1, q2, q3]) rfl (HFin.out _ _ _ _ (Own.mono (base := w4.heap.size + 1) ?_ (by omega)) ?_)
        · repeat' (first | with_reducible exact HO7.out | with_reducible refine Own.set_below ?_ (by simp; try omega) _)
        · repeat' (first | with_reducible exact X7.out | with_reducible refine Ext.set' ?_ (by simp [hq]) _)
  · obtain rfl : g = s.g4 := hg.symm
    clear hg
    go_enter Try.func89, Try.ntmps89
    go_wp2_with fail
    refine (HC.out _ (duoU _ _ _)).mono ?_
    rintro e2 w2 ⟨rfl, hx⟩
    have HB := Lib.hid (hx.block ((Ext.alloc _ _).block (heap_alloc_new w _)))
    have HR : Hid (w2.heap[q + 1]? = some (.cells #[.int .i64 0, .slice none 0 0, .slice none 0 0, .slice none 0 0] 29 (0, 0))) := by
      have hh := hx.block (heap_alloc_new (w.alloc (.cells #[.int .i64 _, .int .i64 (k0 : Int), .int .i64 (n : Int), .slice A1 0 c1, .slice A2 0 c2, .slice A3 n3 c3] 26)) (.cells #[.int .i64 0, .slice none 0 0, .slice none 0 0, .slice none 0 0] 29))
      simp only [Go.World.size_alloc, hq] at hh
      exact hh
    have HX := Lib.hid ((duoU _ _ _).trans hx)
    obtain ⟨b0, b1, b2, b3, b4, b5⟩ := cells6 HB.out
    clear hx HC
    simp only [Go.World.size_alloc, hq] at b0 b1 b2 b3 b4 b5
    go_wp2_with fail
    refine (HM.out _).mono ?_
    rintro e2 w3 ⟨rfl, hx3⟩
    clear b0 b1 b2 b3 b4 b5
    have X3 := Lib.hid (HX.out.trans hx3)
    have HB3 := Lib.hid (hx3.block HB.out); have HR3 := Lib.hid (hx3.block HR.out)
    obtain ⟨b0, b1, b2, b3, b4, b5⟩ := cells6 HB3.out
    obtain ⟨d0, d1, d2, d3, d4, d5⟩ := HU.out _ X3.out
    simp only [hq] at b0 b1 b2 b3 b4 b5
    clear hx3 HM HB HR HX
    go_wp2_with fail
    go_quiet (fail)
    have HB4 := Lib.hid ((Ext.drewN' (Ext.refl w3) nq).block HB3.out)
    have HR4 := Lib.hid ((Ext.drewN' (Ext.refl w3) nq).block HR3.out)
    have X4 := Lib.hid (X3.out.drewN' nq)
    clear b0 b1 b2 b3 b4 b5 d0 d1 d2 d3 d4 d5 HB3 HR3 X3
    generalize w3.drewN nq = w4 at *
    have hRz : q + 1 < w4.heap.size := lt_of_heap HR4.out
    have B0 := fun o => (cells6 ((Ext.alloc w4 o).block HB4.out)).1
    have B1 := fun o => (cells6 ((Ext.alloc w4 o).block HB4.out)).2.1
    simp only [hq] at B0 B1
    rw [hq] at HB4
    go_wp2_with fail
    clear B0 B1
    go_loopw [8] (fun i wr => ∃ (k : Nat) (A5 : Option Addr) (c5 : Nat), k ≤ n ∧ i = .int .i64 ((k0 : Int) + (k : Int)) ∧ Hid (wr.heap[q]? = some (.cells #[.int .i64 kode, .int .i64 (k0 : Int), .int .i64 (n : Int), .slice A1 0 c1, .slice A2 0 c2, .slice A3 n3 c3] 26 (0, 0))) ∧ Hid (wr.heap[q + 1]? = some (.cells #[.int .i64 0, .slice none 0 0, .slice none 0 0, .slice none 0 0] 29 (0, 0))) ∧ Hid (wr.heap[w4.heap.size]? = some (.cells #[.int .i64 0, .slice none 0 0, .slice A5 k c5, .slice none 0 0] 29 (0, 0))) ∧ Hid (Own wr (w4.heap.size + 1) 54 IsU16 A5 k c5 (((l.drop k0).take k).map cW)) ∧ Hid (Ext w wr) ∧ Hid (w4.heap.size + 1 ≤ wr.heap.size)) (fun i _ => k0 + n - (intOf i).toNat)
    case atStart => exact ⟨0, none, 0, Nat.zero_le _, by simp, by rw [hkode]; exact (Ext.alloc w4 _).block HB4.out, (Ext.alloc w4 _).block HR4.out, heap_alloc_new w4 _, Own.nil_ _ _ _ _, Ext.alloc' X4.out _, by unfold Hid; simp⟩
    case round =>
      obtain ⟨k, A5, c5, hk, rfl, H1, H2, H3, HO, HX5, HZ⟩ := hrel
      obtain ⟨g0, g1, g2, g3⟩ := cells4 H3.out
      obtain ⟨b0, b1, b2, b3, b4, b5⟩ := cells6 H1.out
      obtain ⟨d0, d1, d2, d3, d4, d5⟩ := HU.out _ HX5.out
      rw [hkode] at b0
      have hlt2 : w4.heap.size < wr.heap.size := lt_of_heap H3.out
      rcases Nat.lt_or_ge k n with hlt | hge
      · have hv := HT.out _ HX5.out (k0 + k) (by omega)
        obtain ⟨X, hX⟩ : ∃ X, (l.getD (k0 + k) 0).toNat = X := ⟨_, rfl⟩
        have HXX := Lib.hid hX
        have HTX : Hid (∀ W, Ext w W → W.cell? ⟨s.g4, k0 + k, none⟩ = some (.int .u16 (X : Int))) := fun W hx => by rw [← hX]; exact HT.out W hx _ (by omega)
        rw [hX] at hv
        clear hX
        have i1 : (0 : Int) ≤ (k0 : Int) + (k : Int) := by omega
        have i2 : (k0 : Int) + (k : Int) < (u.size : Int) := by omega
        have i3 : ((k0 : Int) + (k : Int)).toNat = k0 + k := by omega
        have i4 : (k0 : Int) + (k : Int) < (k0 : Int) + (n : Int) := by omega
        have i5 : IntKind.i64.wrap ((k0 : Int) + (k : Int) + 1) = (k0 : Int) + (k : Int) + 1 := IntWalk.i64_in _ (by omega)
        have XA := Lib.hid (fun o => Ext.drew' (Ext.alloc wr o))
        have HRow := Lib.hid (show Rd (wr.alloc (.cells #[.int .u16 (X : Int)] 54)).drew (some ⟨wr.heap.size, 0, none⟩) 1 [.int .u16 (X : Int)] from Rd.one wr _ _)
        have G := fun o => (cells4 ((Ext.alloc wr o).block H3.out)).2.2.1
        have BB := fun o => (cells6 ((Ext.alloc wr o).block H1.out)).1
        have DD := fun o => (HU.out _ (HX5.out.trans (Ext.alloc wr o))).2.2.2.2.1
        have VV := fun o => HTX.out _ (HX5.out.trans (Ext.alloc wr o))
        simp only [hkode] at BB
        go_wp2_with fail
        go_region_law ((
             refine step_u16 (base := w4.heap.size + 1) rfl (.tmp 87) (.tmp 98) rfl rfl (HO.out.ext (XA.out _)) rfl HRow.out (by intro u hu; simp at hu; subst hu; exact ⟨l.getD (k0 + k) 0, by rw [HXX.out]⟩) (by omega) (Nat.le_trans HZ.out (XA.out _).size) ?_
             intro A6 c6 w6 hown hgr hbk
             have hne : ∀ g', g' ≤ w4.heap.size → some g' ≠ blk A5 := fun g' hg' e => by have := (HO.out.lt g' e.symm).1; omega
             have K1 := Lib.hid ((hgr.block q (Nat.lt_of_lt_of_le (by omega) (XA.out _).size) (hne _ (by omega))).trans ((XA.out _).block H1.out))
             have K2 := Lib.hid ((hgr.block (q + 1) (Nat.lt_of_lt_of_le (by omega) (XA.out _).size) (hne _ (by omega))).trans ((XA.out _).block H2.out))
             have K3 := Lib.hid ((hgr.block w4.heap.size (Nat.lt_of_lt_of_le (by omega) (XA.out _).size) (hne _ (by omega))).trans ((XA.out _).block H3.out))
             have KX := Lib.hid ((HX5.out.trans (XA.out _)).grown' hgr (fun g' e => by have := (HO.out.lt g' e).1; omega))
             have KZ := Lib.hid (Nat.le_trans HZ.out (Nat.le_trans (XA.out _).size hgr.size))
             have KO := Lib.hid hown
             clear hown hgr hbk hne G BB DD VV g0 g1 g2 g3 b0 b1 b2 b3 b4 b5 d0 d1 d2 d3 d4 d5 hv
             obtain ⟨g0, g1, g2, g3⟩ := cells4 K3.out
             have z1 := frozen_of_row _ _ 2 _ _ K3.out))
        all_goals
          go_wp2_with fail
          go_roundw
          case rel =>
            refine ⟨k + 1, A6, c6, by omega, by go_num, Lib.hid ?_, Lib.hid ?_, Lib.hid (heap_setCell_same _ _ _ _ _ _ K3.out), Lib.hid ?_, Lib.hid (KX.out.set' (by simp; omega) _), Lib.hid (by simp; exact KZ.out)⟩
            · exact (Below.heap_setCell _ ⟨w4.heap.size, 2, none⟩ _ q (by simp; omega)).trans K1.out
            · exact (Below.heap_setCell _ ⟨w4.heap.size, 2, none⟩ _ (q + 1) (by simp; omega)).trans K2.out
            · refine Own.set_below ?_ (by simp) _
              have h := KO.out
              rw [← HXX.out] at h
              rw [take_snoc (by have := HL.out; omega), List.map_append]
              exact h
          case measure => simp [intOf]; omega
      · have hkn : k = n := by omega
        have i4 : ¬ (k0 : Int) + (k : Int) < (k0 : Int) + (n : Int) := by omega
        go_wp2_with fail
        refine (HWr.out _).mono ?_
        rintro e w7 ⟨rfl, hx7⟩
        have X7 := Lib.hid (HX5.out.trans hx7)
        have HO7 : Hid (Own w7 (w4.heap.size + 1) 54 IsU16 A5 k c5 (((l.drop k0).take n).map cW)) := by rw [← hkn]; exact HO.out.ext hx7
        obtain ⟨q0, q1, q2, q3⟩ := cells4 (hx7.block H2.out)
        have f6 := fun k => frozen_of_row _ _ k _ _ (hx7.block H2.out)
        clear g0 g1 g2 g3 b0 b1 b2 b3 b4 b5 d0 d1 d2 d3 d4 d5
        obtain ⟨g0, g1, g2, g3⟩ := cells4 (hx7.block H3.out)
        clear hx7 hkn
        go_wp2_with fail
        refine bodyPost_ret (v := .agg #[.int .i64 0, .slice none 0 0, .slice A5 k c5, .slice none 0 0]) (by simp [results, Try.results89, go_sem, q0, q1, q2, q3]) rfl (HFin.out _ _ _ _ (Own.mono (base := w4.heap.size + 1) ?_ (by omega)) ?_)
        · repeat' (first | with_reducible exact HO7.out | with_reducible refine Own.set_below ?_ (by simp; try omega) _)
        · repeat' (first | with_reducible exact X7.out | with_reducible refine Ext.set' ?_ (by simp [hq]) _)
end Go.Proofs.Ytpjmhckdeeonbaa

namespace Go.Proofs.Ytpjmhckdeeonbaa
set_option linter.unusedVariables false
set_option linter.unusedSimpArgs false
set_option maxRecDepth 100000
set_option maxHeartbeats 1500000
open Go Go.RowKit Go.Out

def wordU (u : UnitD) (k0 : Nat) (set : List UInt16) (k : Nat) : UnitD := { u with t3 := over u.t3 k0 (set.take k) }
theorem wordU_zero (u : UnitD) (k0 : Nat) (set : List UInt16) : wordU u k0 set 0 = u := by unfold wordU; simp [over_nil]
theorem wordU_step {u : UnitD} {k0 k : Nat} {set : List UInt16} (hk : k < set.length) (h : k0 + set.length ≤ u.t3.length) : putU (wordU u k0 set k) 3 ((tabU (wordU u k0 set k) 3).set (k0 + k) set[k]) = wordU u k0 set (k + 1) := by
  have e : (set.take k).length = k := by simp; omega
  have e2 : over u.t3 k0 (set.take (k + 1)) = (over u.t3 k0 (set.take k)).set (k0 + k) set[k] := by
    rw [List.take_add_one, List.getElem?_eq_getElem hk]
    show over u.t3 k0 (set.take k ++ [set[k]]) = _
    rw [over_snoc (by omega), e]
  show ({ u with t3 := (over u.t3 k0 (set.take k)).set (k0 + k) set[k] } : UnitD) = { u with t3 := over u.t3 k0 (set.take (k + 1)) }
  rw [e2]
theorem do_coils_r (u : UnitD) (s : UnitS) (a : AskD) (t : AskS) (w : World) (h : RefAt w s u) (hu : UnitOk u) (ha : AskRd w a t) (hal : ∀ W, OnlyU s w W → Rd W t.A1 t.n1 (a.on.map cL)) (h0 : checkF a = 0) (h1 : a.code = 5 ∨ a.code = 15) (hf : ¬ (u.size : Int) < a.addr + manyF a) (hwr : u.wrote < 4611686018427387904) :
    Calls Try.prog 89 #[pU s, askV a t] w (RetDoR w s u a) := by
  have hC := fun W (hX : Ext w W) => refCheck_any a t W (ha.ext hX)
  have hM := fun W => many3_any a t W ha.n1 ha.n2 ha.n3 (checkF_parts a h0).1
  have hWr := fun W => refWrites_any a t W
  have hd : doU u a = ({ u with t1 := over u.t1 a.addr.toNat (a.on.map b2w), wrote := u.wrote + 1 }, rep0) := by
    unfold doU; rw [if_neg (by omega), if_neg (by simp [h0]), if_neg hf, if_neg (by omega), if_neg (by omega), if_pos h1]
  have hp := parts_of h0 (by omega)
  have HFin := Lib.hid (show ∀ W, ActR s w { u with t1 := over u.t1 a.addr.toNat (a.on.map b2w), wrote := u.wrote + 1 } W → RetDoR w s u a (.returned (.agg #[.int .i64 0, .slice none 0 0, .slice none 0 0, .slice none 0 0])) W from
    fun W hA => ⟨repS0, by rw [hd]; rfl, by rw [hd]; exact repOwE _ _ 0 (by unfold i64P; omega), by rw [hd]; exact hA.at_, hA.only, fun hq => absurd hp hq⟩)
  have HU := Lib.hid (fun W (hX : Ext w W) => (h.ext hX).cells)
  have HUA := Lib.hid h
  have hn1 := ha.n1; have hn2 := ha.n2
  obtain ⟨m1, m2, m3, m4, m5⟩ := many_of h0
  obtain ⟨e1, e2, e3, e4, e5⟩ := m2 h1
  have hs := hu.s
  have hl1 := hu.l1
  rw [h0] at hC
  rw [e1] at hf
  rw [show writesF a.code = true from by unfold writesF isOn isSet; simp; omega] at hWr
  rw [e1] at hM
  obtain ⟨code, addr, count, on, set, parts⟩ := a
  obtain ⟨A1, n1, c1, A2, n2, c2, A3, n3, c3⟩ := t
  simp only at h1 hf m4 m5 hn1 hn2 e2 e3 e4 e5 hal HFin hM
  subst e2 e3
  obtain rfl : n2 = 0 := by rw [← hn2]; rfl
  obtain ⟨k0, rfl⟩ : ∃ k : Nat, addr = (k : Int) := ⟨addr.toNat, by omega⟩
  rw [Int.toNat_natCast] at HFin
  simp only [askV] at hC hM hWr ⊢
  rw [hn1] at hM
  have HC := Lib.hid hC; have HM := Lib.hid hM; have HWr := Lib.hid hWr
  have HAL := Lib.hid hal
  have hw : IntKind.i64.wrap ((k0 : Int) + (n1 : Int)) = (k0 : Int) + (n1 : Int) := IntWalk.i64_in _ (by omega)
  have hk1 : (k0 : Int) + (n1 : Int) ≤ (u.size : Int) := by omega
  have hk2 : 1 ≤ n1 ∧ n1 ≤ 1968 := by omega
  have hwrap : IntKind.i64.wrap ((u.wrote : Int) + 1) = (u.wrote : Int) + 1 := IntWalk.i64_in _ (by omega)
  clear hC hM hWr h ha hal h0 m1 m2 m3 e1 hd hp
  unfold pU
  generalize RetDoR w s u _ = R at HFin ⊢
  obtain ⟨q, hq⟩ : ∃ q, w.heap.size = q := ⟨_, rfl⟩
  obtain ⟨kode, hkode⟩ : ∃ x, x = code := ⟨_, rfl⟩
  have HLT := Lib.hid HUA.out.lt
  have HNE := Lib.hid HUA.out.ne
  rcases h1 with rfl | rfl
  all_goals
    go_enter Try.func89, Try.ntmps89
    go_wp2_with fail
    refine (HC.out _ (duoU _ _ _)).mono ?_
    rintro e2 w2 ⟨rfl, hx⟩
    have HB := Lib.hid (hx.block ((Ext.alloc _ _).block (heap_alloc_new w _)))
    have HR : Hid (w2.heap[q + 1]? = some (.cells #[.int .i64 0, .slice none 0 0, .slice none 0 0, .slice none 0 0] 29 (0, 0))) := by
      have hh := hx.block (heap_alloc_new (w.alloc (.cells #[.int .i64 _, .int .i64 (k0 : Int), .int .i64 0, .slice A1 n1 c1, .slice A2 0 c2, .slice A3 n3 c3] 26)) (.cells #[.int .i64 0, .slice none 0 0, .slice none 0 0, .slice none 0 0] 29))
      simp only [Go.World.size_alloc, hq] at hh
      exact hh
    have HX := Lib.hid ((duoU _ _ _).trans hx)
    obtain ⟨b0, b1, b2, b3, b4, b5⟩ := cells6 HB.out
    clear hx HC
    simp only [Go.World.size_alloc, hq] at b0 b1 b2 b3 b4 b5
    go_wp2_with fail
    refine (HM.out _).mono ?_
    rintro e2 w3 ⟨rfl, hx3⟩
    clear b0 b1 b2 b3 b4 b5
    have X3 := Lib.hid (HX.out.trans hx3)
    have HB3 := Lib.hid (hx3.block HB.out); have HR3 := Lib.hid (hx3.block HR.out)
    obtain ⟨b0, b1, b2, b3, b4, b5⟩ := cells6 HB3.out
    obtain ⟨d0, d1, d2, d3, d4, d5⟩ := HU.out _ X3.out
    simp only [hq] at b0 b1 b2 b3 b4 b5
    clear hx3 HM HB HR HX
    go_wp2_with fail
    go_quiet (fail)
    have HB4 := Lib.hid ((Ext.drewN' (Ext.refl w3) nq).block HB3.out)
    have HR4 := Lib.hid ((Ext.drewN' (Ext.refl w3) nq).block HR3.out)
    have X4 := Lib.hid (X3.out.drewN' nq)
    clear b0 b1 b2 b3 b4 b5 d0 d1 d2 d3 d4 d5 HB3 HR3 X3
    generalize w3.drewN nq = w4 at *
    have hRz : q + 1 < w4.heap.size := lt_of_heap HR4.out
    have B0 := fun o => (cells6 ((Ext.alloc w4 o).block HB4.out)).1
    have B1 := fun o => (cells6 ((Ext.alloc w4 o).block HB4.out)).2.1
    simp only [hq] at B0 B1
    rw [hq] at HB4
    go_wp2_with fail
    clear B0 B1
    have HA4 := Lib.hid (HUA.out.act.ext (Ext.alloc' X4.out (.cells #[.int .i64 0, .slice none 0 0, .slice none 0 0, .slice none 0 0] 29)))
    obtain ⟨gr, hgr⟩ : ∃ g, w4.heap.size = g := ⟨_, rfl⟩
    have HN4 := Lib.hid (heap_alloc_new w4 (.cells #[.int .i64 0, .slice none 0 0, .slice none 0 0, .slice none 0 0] 29))
    rw [hgr] at HN4
    have hgq : q + 1 < gr := by omega
    simp only [hgr]
    go_loopw [8] (fun i wr => ∃ k : Nat, k ≤ n1 ∧ i = .int .i64 ((k0 : Int) + (k : Int)) ∧ Hid (ActR s w (coilU u k0 on k) wr) ∧ Hid (wr.heap[q]? = some (.cells #[.int .i64 kode, .int .i64 (k0 : Int), .int .i64 0, .slice A1 n1 c1, .slice A2 0 c2, .slice A3 n3 c3] 26 (0, 0))) ∧ Hid (wr.heap[q + 1]? = some (.cells #[.int .i64 0, .slice none 0 0, .slice none 0 0, .slice none 0 0] 29 (0, 0))) ∧ Hid (wr.heap[gr]? = some (.cells #[.int .i64 0, .slice none 0 0, .slice none 0 0, .slice none 0 0] 29 (0, 0)))) (fun i _ => k0 + n1 - (intOf i).toNat)
    case atStart => exact ⟨0, Nat.zero_le _, by simp, by unfold Hid; rw [coilU_zero]; exact HA4.out, by rw [hkode]; exact (Ext.alloc w4 _).block HB4.out, (Ext.alloc w4 _).block HR4.out, HN4.out⟩
    case round =>
      obtain ⟨k, hk, rfl, HA, H1, H2, H3⟩ := hrel
      have hs1 : s.g1 < w.heap.size := HLT.out.2.1
      have d2 : wr.cell? ⟨s.p, 2, none⟩ = some (.slice (some ⟨s.g1, 0, none⟩) u.size u.size) := HA.out.at_.cells.2.1
      obtain ⟨b0, b1, b2, b3, b4, b5⟩ := cells6 H1.out
      rw [hkode] at b0
      rcases Nat.lt_or_ge k n1 with hlt | hge
      · have i1 : (0 : Int) ≤ (k0 : Int) + (k : Int) := by omega
        have i2 : (k0 : Int) + (k : Int) < (u.size : Int) := by omega
        have i3 : ((k0 : Int) + (k : Int)).toNat = k0 + k := by omega
        have i4 : (k0 : Int) + (k : Int) < (k0 : Int) + (n1 : Int) := by omega
        have i5 : IntKind.i64.wrap ((k0 : Int) + (k : Int) + 1) = (k0 : Int) + (k : Int) + 1 := IntWalk.i64_in _ (by omega)
        have i6 : IntKind.i64.wrap ((k0 : Int) + (k : Int) - (k0 : Int)) = (k : Int) := by rw [show (k0 : Int) + (k : Int) - (k0 : Int) = (k : Int) by omega]; exact IntWalk.i64_in _ (by omega)
        have i7 : (0 : Int) ≤ (k : Int) := by omega
        have i8 : (k : Int) < (n1 : Int) := by omega
        obtain ⟨bb, oo, rfl, hbb, hlo, hcell⟩ := (HAL.out wr HA.out.only).boat hlt
        have hcl : (coilU u k0 on k).t1.length = u.size := by unfold coilU; rw [over_length (by simp; omega)]; exact hl1
        have z1 := frozen_of_row wr s.g1 (k0 + k) _ _ HA.out.at_.t1
        have hc := wordRow_cell HA.out.at_.t1 (i := k0 + k) (by omega)
        have S1 : Hid (ActR s w (putU (coilU u k0 on k) 1 ((tabU (coilU u k0 on k) 1).set (k0 + k) 0)) (wr.setCell ⟨s.g1, k0 + k, none⟩ (.int .u16 0))) := HA.out.set1 1 (k0 + k) 0
        have T0 := Lib.hid (coilU_step (u := u) (k0 := k0) hlo (by omega))
        have T1 := Lib.hid (coilU_two (u := u) (k0 := k0) 0 hlo (by omega))
        have J1 : Hid ((wr.setCell ⟨s.g1, k0 + k, none⟩ (.int .u16 0)).heap[q]? = _) := (Below.heap_setCell wr ⟨s.g1, k0 + k, none⟩ (.int .u16 0) q (by simp; omega)).trans H1.out
        have J2 : Hid ((wr.setCell ⟨s.g1, k0 + k, none⟩ (.int .u16 0)).heap[q + 1]? = _) := (Below.heap_setCell wr ⟨s.g1, k0 + k, none⟩ (.int .u16 0) (q + 1) (by simp; omega)).trans H2.out
        have J3 : Hid ((wr.setCell ⟨s.g1, k0 + k, none⟩ (.int .u16 0)).heap[gr]? = _) := (Below.heap_setCell wr ⟨s.g1, k0 + k, none⟩ (.int .u16 0) gr (by simp; omega)).trans H3.out
        have hbne : ¬ bb = s.g1 := by
          rintro rfl
          have h := hcell
          rw [cell_of_row _ _ _ _ _ _ HA.out.at_.t1, List.getElem?_toArray, List.getElem?_map] at h
          cases hm : (coilU u k0 on k).t1[oo + k]? <;> rw [hm] at h <;> simp [cW] at h
        have hbne' : ¬ s.g1 = bb := fun h => hbne h.symm
        have d2' : (wr.setCell ⟨s.g1, k0 + k, none⟩ (.int .u16 0)).cell? ⟨s.p, 2, none⟩ = some (.slice (some ⟨s.g1, 0, none⟩) u.size u.size) := S1.out.at_.cells.2.1
        obtain ⟨b0', b1', b2', b3', -, -⟩ := cells6 J1.out
        have z1' := frozen_of_row _ s.g1 (k0 + k) _ _ S1.out.at_.t1
        have hc' := wordRow_cell S1.out.at_.t1 (i := k0 + k) (by unfold putU tabU; simp only [if_true, List.length_set]; omega)
        have S2 : Hid (ActR s w _ ((wr.setCell ⟨s.g1, k0 + k, none⟩ (.int .u16 0)).setCell ⟨s.g1, k0 + k, none⟩ (.int .u16 1))) := S1.out.set1 1 (k0 + k) 1
        generalize on[k] = x at *
        cases x
        · go_wp2_with fail
          go_roundw
          case rel => exact ⟨k + 1, by omega, by go_num, by unfold Hid; rw [← T0.out]; exact S1.out, J1, J2, J3⟩
          case measure => simp [intOf]; omega
        · go_wp2_with fail
          go_roundw
          case rel =>
            refine ⟨k + 1, by omega, by go_num, ?_, Lib.hid ?_, Lib.hid ?_, Lib.hid ?_⟩
            · unfold Hid; rw [← T1.out]; exact S2.out
            · exact (Below.heap_setCell _ ⟨s.g1, k0 + k, none⟩ (.int .u16 1) q (by simp; omega)).trans J1.out
            · exact (Below.heap_setCell _ ⟨s.g1, k0 + k, none⟩ (.int .u16 1) (q + 1) (by simp; omega)).trans J2.out
            · exact (Below.heap_setCell _ ⟨s.g1, k0 + k, none⟩ (.int .u16 1) gr (by simp; omega)).trans J3.out
          case measure => simp [intOf]; omega
      · have i4 : ¬ (k0 : Int) + (k : Int) < (k0 : Int) + (n1 : Int) := by omega
        go_wp2_with fail
        refine (HWr.out _).mono ?_
        rintro e w7 ⟨rfl, hx7⟩
        have HA7 := Lib.hid (HA.out.ext hx7)
        have HAW : Hid (ActR s w { u with t1 := over u.t1 k0 (on.map b2w), wrote := u.wrote + 1 } (w7.setCell ⟨s.p, 6, none⟩ (.int .i64 ((u.wrote : Int) + 1)))) := by
          have h := HA7.out.wrote
          unfold coilU at h
          rw [List.take_of_length_le (by omega)] at h
          exact h
        have c6 : w7.cell? ⟨s.p, 6, none⟩ = some (.int .i64 (u.wrote : Int)) := HA7.out.at_.cells.2.2.2.2.2
        have f5 := frozen_of_row _ _ 6 _ _ HA7.out.at_.row
        have hs2 := HLT.out.1
        have R6 := (Below.heap_setCell w7 ⟨s.p, 6, none⟩ (.int .i64 ((u.wrote : Int) + 1)) gr (by simp; omega)).trans (hx7.block H3.out)
        have Q6 := (Below.heap_setCell w7 ⟨s.p, 6, none⟩ (.int .i64 ((u.wrote : Int) + 1)) (q + 1) (by simp; omega)).trans (hx7.block H2.out)
        obtain ⟨r0, r1, r2, r3⟩ := cells4 R6
        obtain ⟨q0, q1, q2, q3⟩ := cells4 Q6
        have f6 := fun k => frozen_of_row _ _ k _ _ Q6
        clear R6 Q6 hx7 d2 b0 b1 b2 b3 b4 b5
        go_wp2_with fail
        refine bodyPost_ret (v := .agg #[.int .i64 0, .slice none 0 0, .slice none 0 0, .slice none 0 0]) (by simp [results, Try.results89, go_sem, q0, q1, q2, q3]) rfl (HFin.out _ ?_)
        repeat' (first | with_reducible exact HAW.out | with_reducible refine ActR.drew' ?_ | with_reducible refine ActR.set' ?_ (by simp [hq]) _)
theorem do_words_r (u : UnitD) (s : UnitS) (a : AskD) (t : AskS) (w : World) (h : RefAt w s u) (hu : UnitOk u) (ha : AskRd w a t) (hal : ∀ W, OnlyU s w W → Rd W t.A2 t.n2 (a.set.map cW)) (h0 : checkF a = 0) (h1 : a.code = 6 ∨ a.code = 16) (hf : ¬ (u.size : Int) < a.addr + manyF a) (hwr : u.wrote < 4611686018427387904) :
    Calls Try.prog 89 #[pU s, askV a t] w (RetDoR w s u a) := by
  have hC := fun W (hX : Ext w W) => refCheck_any a t W (ha.ext hX)
  have hM := fun W => many3_any a t W ha.n1 ha.n2 ha.n3 (checkF_parts a h0).1
  have hWr := fun W => refWrites_any a t W
  have hd : doU u a = ({ u with t3 := over u.t3 a.addr.toNat a.set, wrote := u.wrote + 1 }, rep0) := by
    unfold doU; rw [if_neg (by omega), if_neg (by simp [h0]), if_neg hf, if_neg (by omega), if_neg (by omega), if_neg (by omega)]
  have hp := parts_of h0 (by omega)
  have HFin := Lib.hid (show ∀ W, ActR s w { u with t3 := over u.t3 a.addr.toNat a.set, wrote := u.wrote + 1 } W → RetDoR w s u a (.returned (.agg #[.int .i64 0, .slice none 0 0, .slice none 0 0, .slice none 0 0])) W from
    fun W hA => ⟨repS0, by rw [hd]; rfl, by rw [hd]; exact repOwE _ _ 0 (by unfold i64P; omega), by rw [hd]; exact hA.at_, hA.only, fun hq => absurd hp hq⟩)
  have HU := Lib.hid (fun W (hX : Ext w W) => (h.ext hX).cells)
  have HUA := Lib.hid h
  have hn1 := ha.n1; have hn2 := ha.n2
  obtain ⟨m1, m2, m3, m4, m5⟩ := many_of h0
  obtain ⟨e1, e2, e3, e4, e5⟩ := m3 h1
  have hs := hu.s
  have hl1 := hu.l3
  rw [h0] at hC
  rw [e1] at hf
  rw [show writesF a.code = true from by unfold writesF isOn isSet; simp; omega] at hWr
  rw [e1] at hM
  obtain ⟨code, addr, count, on, set, parts⟩ := a
  obtain ⟨A1, n1, c1, A2, n2, c2, A3, n3, c3⟩ := t
  simp only at h1 hf m4 m5 hn1 hn2 e2 e3 e4 e5 hal HFin hM
  subst e2 e3
  obtain rfl : n1 = 0 := by rw [← hn1]; rfl
  obtain ⟨k0, rfl⟩ : ∃ k : Nat, addr = (k : Int) := ⟨addr.toNat, by omega⟩
  rw [Int.toNat_natCast] at HFin
  simp only [askV] at hC hM hWr ⊢
  rw [hn2] at hM
  have HC := Lib.hid hC; have HM := Lib.hid hM; have HWr := Lib.hid hWr
  have HAL := Lib.hid hal
  have hw : IntKind.i64.wrap ((k0 : Int) + (n2 : Int)) = (k0 : Int) + (n2 : Int) := IntWalk.i64_in _ (by omega)
  have hk1 : (k0 : Int) + (n2 : Int) ≤ (u.size : Int) := by omega
  have hk2 : 1 ≤ n2 ∧ n2 ≤ 1968 := by omega
  have hwrap : IntKind.i64.wrap ((u.wrote : Int) + 1) = (u.wrote : Int) + 1 := IntWalk.i64_in _ (by omega)
  clear hC hM hWr h ha hal h0 m1 m2 m3 e1 hd hp
  unfold pU
  generalize RetDoR w s u _ = R at HFin ⊢
  obtain ⟨q, hq⟩ : ∃ q, w.heap.size = q := ⟨_, rfl⟩
  obtain ⟨kode, hkode⟩ : ∃ x, x = code := ⟨_, rfl⟩
  have HLT := Lib.hid HUA.out.lt
  have HNE := Lib.hid HUA.out.ne
  rcases h1 with rfl | rfl
  all_goals
    go_enter Try.func89, Try.ntmps89
    go_wp2_with fail
    refine (HC.out _ (duoU _ _ _)).mono ?_
    rintro e2 w2 ⟨rfl, hx⟩
    have HB := Lib.hid (hx.block ((Ext.alloc _ _).block (heap_alloc_new w _)))
    have HR : Hid (w2.heap[q + 1]? = some (.cells #[.int .i64 0, .slice none 0 0, .slice none 0 0, .slice none 0 0] 29 (0, 0))) := by
      have hh := hx.block (heap_alloc_new (w.alloc (.cells #[.int .i64 _, .int .i64 (k0 : Int), .int .i64 0, .slice A1 0 c1, .slice A2 n2 c2, .slice A3 n3 c3] 26)) (.cells #[.int .i64 0, .slice none 0 0, .slice none 0 0, .slice none 0 0] 29))
      simp only [Go.World.size_alloc, hq] at hh
      exact hh
    have HX := Lib.hid ((duoU _ _ _).trans hx)
    obtain ⟨b0, b1, b2, b3, b4, b5⟩ := cells6 HB.out
    clear hx HC
    simp only [Go.World.size_alloc, hq] at b0 b1 b2 b3 b4 b5
    go_wp2_with fail
    refine (HM.out _).mono ?_
    rintro e2 w3 ⟨rfl, hx3⟩
    clear b0 b1 b2 b3 b4 b5
    have X3 := Lib.hid (HX.out.trans hx3)
    have HB3 := Lib.hid (hx3.block HB.out); have HR3 := Lib.hid (hx3.block HR.out)
    obtain ⟨b0, b1, b2, b3, b4, b5⟩ := cells6 HB3.out
    obtain ⟨d0, d1, d2, d3, d4, d5⟩ := HU.out _ X3.out
    simp only [hq] at b0 b1 b2 b3 b4 b5
    clear hx3 HM HB HR HX
    go_wp2_with fail
    go_quiet (fail)
    have HB4 := Lib.hid ((Ext.drewN' (Ext.refl w3) nq).block HB3.out)
    have HR4 := Lib.hid ((Ext.drewN' (Ext.refl w3) nq).block HR3.out)
    have X4 := Lib.hid (X3.out.drewN' nq)
    clear b0 b1 b2 b3 b4 b5 d0 d1 d2 d3 d4 d5 HB3 HR3 X3
    generalize w3.drewN nq = w4 at *
    have hRz : q + 1 < w4.heap.size := lt_of_heap HR4.out
    have B0 := fun o => (cells6 ((Ext.alloc w4 o).block HB4.out)).1
    have B1 := fun o => (cells6 ((Ext.alloc w4 o).block HB4.out)).2.1
    simp only [hq] at B0 B1
    rw [hq] at HB4
    go_wp2_with fail
    clear B0 B1
    have HA4 := Lib.hid (HUA.out.act.ext (Ext.alloc' X4.out (.cells #[.int .i64 0, .slice none 0 0, .slice none 0 0, .slice none 0 0] 29)))
    obtain ⟨gr, hgr⟩ : ∃ g, w4.heap.size = g := ⟨_, rfl⟩
    have HN4 := Lib.hid (heap_alloc_new w4 (.cells #[.int .i64 0, .slice none 0 0, .slice none 0 0, .slice none 0 0] 29))
    rw [hgr] at HN4
    have hgq : q + 1 < gr := by omega
    simp only [hgr]
    go_loopw [8] (fun i wr => ∃ k : Nat, k ≤ n2 ∧ i = .int .i64 ((k0 : Int) + (k : Int)) ∧ Hid (ActR s w (wordU u k0 set k) wr) ∧ Hid (wr.heap[q]? = some (.cells #[.int .i64 kode, .int .i64 (k0 : Int), .int .i64 0, .slice A1 0 c1, .slice A2 n2 c2, .slice A3 n3 c3] 26 (0, 0))) ∧ Hid (wr.heap[q + 1]? = some (.cells #[.int .i64 0, .slice none 0 0, .slice none 0 0, .slice none 0 0] 29 (0, 0))) ∧ Hid (wr.heap[gr]? = some (.cells #[.int .i64 0, .slice none 0 0, .slice none 0 0, .slice none 0 0] 29 (0, 0)))) (fun i _ => k0 + n2 - (intOf i).toNat)
    case atStart => exact ⟨0, Nat.zero_le _, by simp, by unfold Hid; rw [wordU_zero]; exact HA4.out, by rw [hkode]; exact (Ext.alloc w4 _).block HB4.out, (Ext.alloc w4 _).block HR4.out, HN4.out⟩
    case round =>
      obtain ⟨k, hk, rfl, HA, H1, H2, H3⟩ := hrel
      have hs1 : s.g3 < w.heap.size := HLT.out.2.2.2.1
      have d2 : wr.cell? ⟨s.p, 4, none⟩ = some (.slice (some ⟨s.g3, 0, none⟩) u.size u.size) := HA.out.at_.cells.2.2.2.1
      obtain ⟨b0, b1, b2, b3, b4, b5⟩ := cells6 H1.out
      rw [hkode] at b0
      rcases Nat.lt_or_ge k n2 with hlt | hge
      · have i1 : (0 : Int) ≤ (k0 : Int) + (k : Int) := by omega
        have i2 : (k0 : Int) + (k : Int) < (u.size : Int) := by omega
        have i3 : ((k0 : Int) + (k : Int)).toNat = k0 + k := by omega
        have i4 : (k0 : Int) + (k : Int) < (k0 : Int) + (n2 : Int) := by omega
        have i5 : IntKind.i64.wrap ((k0 : Int) + (k : Int) + 1) = (k0 : Int) + (k : Int) + 1 := IntWalk.i64_in _ (by omega)
        have i6 : IntKind.i64.wrap ((k0 : Int) + (k : Int) - (k0 : Int)) = (k : Int) := by rw [show (k0 : Int) + (k : Int) - (k0 : Int) = (k : Int) by omega]; exact IntWalk.i64_in _ (by omega)
        have i7 : (0 : Int) ≤ (k : Int) := by omega
        have i8 : (k : Int) < (n2 : Int) := by omega
        obtain ⟨bb, oo, rfl, hbb, hlo, hcell⟩ := (HAL.out wr HA.out.only).u16at hlt
        have hcl : (wordU u k0 set k).t3.length = u.size := by unfold wordU; rw [over_length (by simp; omega)]; exact hl1
        have z1 := frozen_of_row wr s.g3 (k0 + k) _ _ HA.out.at_.t3
        have hc := wordRow_cell HA.out.at_.t3 (i := k0 + k) (by omega)
        have S1 : Hid (ActR s w (putU (wordU u k0 set k) 3 ((tabU (wordU u k0 set k) 3).set (k0 + k) set[k])) (wr.setCell ⟨s.g3, k0 + k, none⟩ (.int .u16 (set[k].toNat : Int)))) := HA.out.set1 3 (k0 + k) set[k]
        have T0 := Lib.hid (wordU_step (u := u) (k0 := k0) hlo (by omega))
        rw [T0.out] at S1
        generalize set[k].toNat = x at *
        go_wp2_with fail
        go_still_tail 15, (by kernel_rfl)
        change wpList _ _ _ _ _ wr.drew
        go_wp2_with fail
        go_roundw
        case rel =>
          refine ⟨k + 1, by omega, by go_num, S1.out.drew', Lib.hid ?_, Lib.hid ?_, Lib.hid ?_⟩
          · exact (Below.heap_setCell wr ⟨s.g3, k0 + k, none⟩ (.int .u16 (x : Int)) q (by simp; omega)).trans H1.out
          · exact (Below.heap_setCell wr ⟨s.g3, k0 + k, none⟩ (.int .u16 (x : Int)) (q + 1) (by simp; omega)).trans H2.out
          · exact (Below.heap_setCell wr ⟨s.g3, k0 + k, none⟩ (.int .u16 (x : Int)) gr (by simp; omega)).trans H3.out
        case measure => simp [intOf]; omega
      · have i4 : ¬ (k0 : Int) + (k : Int) < (k0 : Int) + (n2 : Int) := by omega
        go_wp2_with fail
        refine (HWr.out _).mono ?_
        rintro e w7 ⟨rfl, hx7⟩
        have HA7 := Lib.hid (HA.out.ext hx7)
        have HAW : Hid (ActR s w { u with t3 := over u.t3 k0 set, wrote := u.wrote + 1 } (w7.setCell ⟨s.p, 6, none⟩ (.int .i64 ((u.wrote : Int) + 1)))) := by
          have h := HA7.out.wrote
          unfold wordU at h
          rw [List.take_of_length_le (by omega)] at h
          exact h
        have c6 : w7.cell? ⟨s.p, 6, none⟩ = some (.int .i64 (u.wrote : Int)) := HA7.out.at_.cells.2.2.2.2.2
        have f5 := frozen_of_row _ _ 6 _ _ HA7.out.at_.row
        have hs2 := HLT.out.1
        have R6 := (Below.heap_setCell w7 ⟨s.p, 6, none⟩ (.int .i64 ((u.wrote : Int) + 1)) gr (by simp; omega)).trans (hx7.block H3.out)
        have Q6 := (Below.heap_setCell w7 ⟨s.p, 6, none⟩ (.int .i64 ((u.wrote : Int) + 1)) (q + 1) (by simp; omega)).trans (hx7.block H2.out)
        obtain ⟨r0, r1, r2, r3⟩ := cells4 R6
        obtain ⟨q0, q1, q2, q3⟩ := cells4 Q6
        have f6 := fun k => frozen_of_row _ _ k _ _ Q6
        clear R6 Q6 hx7 d2 b0 b1 b2 b3 b4 b5
        go_wp2_with fail
        refine bodyPost_ret (v := .agg #[.int .i64 0, .slice none 0 0, .slice none 0 0, .slice none 0 0]) (by simp [results, Try.results89, go_sem, q0, q1, q2, q3]) rfl (HFin.out _ ?_)
        repeat' (first | with_reducible exact HAW.out | with_reducible refine ActR.drew' ?_ | with_reducible refine ActR.set' ?_ (by simp [hq]) _)
end Go.Proofs.Ytpjmhckdeeonbaa

namespace Go.Proofs.Ytpjmhckdeeonbaa
set_option linter.unusedVariables false
set_option linter.unusedSimpArgs false
set_option maxRecDepth 100000
set_option maxHeartbeats 1000000
open Go Go.RowKit Go.Out

theorem on_apart_r {w : World} {s : UnitS} {u : UnitD} {A : Option Addr} {n : Nat} {l : List Bool} (hr : Rd w A n (l.map cL)) (h : RefAt w s u) : ∀ W, OnlyU s w W → Rd W A n (l.map cL) := by
  intro W hW
  refine ⟨hr.1, fun hn => ?_⟩
  obtain ⟨b, off, rfl, hb, hc⟩ := hr.2 hn
  have hl := hr.length
  have h0 : w.cell? ⟨b, off + 0, none⟩ = some (.bool l[0]) := hc 0 _ (by rw [List.getElem?_map, List.getElem?_eq_getElem (by omega)]; rfl)
  rw [Nat.add_zero] at h0
  have word : ∀ g m, w.heap[g]? = some (wordRow m) → b ≠ g := by
    rintro g m hg rfl
    rw [cell_of_row _ _ _ _ _ _ hg, List.getElem?_toArray, List.getElem?_map] at h0
    cases hm : m[off]? <;> rw [hm] at h0 <;> simp [cW] at h0
  have row : b ≠ s.p := by
    rintro rfl
    rw [cell_of_row _ _ _ _ _ _ h.row] at h0
    rcases off with _ | _ | _ | _ | _ | _ | _ | _ <;> simp at h0
  refine ⟨b, off, rfl, Nat.lt_of_lt_of_le hb hW.size, fun j v hv => ?_⟩
  rw [World.cell?_of_block (a := ⟨b, off + j, none⟩) (hW.block b hb row (word _ _ h.t1) (word _ _ h.t2) (word _ _ h.t3) (word _ _ h.t4))]
  exact hc j v hv
theorem do_any_r (u : UnitD) (s : UnitS) (a : AskD) (t : AskS) (w : World) (h : RefAt w s u) (hu : UnitOk u) (ha : AskRd w a t) (hal : ∀ W, OnlyU s w W → Rd W t.A2 t.n2 (a.set.map cW)) (hwr : u.wrote < 4611686018427387904) :
    Calls Try.prog 89 #[pU s, askV a t] w (RetDoR w s u a) := by
  by_cases h1 : checkF a = 20 ∨ a.code = 20
  · exact do_told_r 1 (.inl rfl) u s a t w h ha (by unfold doU; rw [if_pos h1]) (iff_of_true rfl h1) (fun h => by omega)
  · by_cases h2 : checkF a = 0
    · by_cases h3 : (u.size : Int) < a.addr + manyF a
      · exact do_far_r u s a t w h hu ha h2 (fun h => h1 (.inr h)) h3
      · have hc := codeP_cases (checkF_parts a h2).1
        by_cases c1 : a.code = 1 ∨ a.code = 2
        · exact do_bits_r u s a t w h hu ha h2 c1 h3
        · by_cases c3 : a.code = 3 ∨ a.code = 4
          · exact do_regs_r u s a t w h hu ha h2 c3 h3
          · by_cases c5 : a.code = 5 ∨ a.code = 15
            · exact do_coils_r u s a t w h hu ha (on_apart_r ha.on h) h2 c5 h3 hwr
            · exact do_words_r u s a t w h hu ha hal h2 (by omega) h3 hwr
    · exact do_told_r 3 (.inr rfl) u s a t w h ha (by unfold doU; rw [if_neg h1, if_pos h2]) (iff_of_false (by decide) h1) (fun _ => h2)
theorem set_only {w W : World} {base : Nat} {s : UnitS} {a : AskD} {t : AskS} (h : AskOw w base a t) (hlt : s.p < base ∧ s.g1 < base ∧ s.g2 < base ∧ s.g3 < base ∧ s.g4 < base) (ho : OnlyU s w W) : Rd W t.A2 t.n2 (a.set.map cW) :=
  (h.set.kept (w' := W) fun g hg => ho.block g (h.set.lt g hg).2 (by have := (h.set.lt g hg).1; omega) (by have := (h.set.lt g hg).1; omega) (by have := (h.set.lt g hg).1; omega) (by have := (h.set.lt g hg).1; omega) (by have := (h.set.lt g hg).1; omega)).rd
/-- What the document's Hear hands back. -/
def RetHR (w : World) (s : UnitS) (u : UnitD) (b : List UInt8) (e : Ending) (w' : World) : Prop :=
  ∃ A n c, e = .returned (.slice A n c) ∧ Own w' w.heap.size 5 IsU8 A n c ((hearU u b).2.map cB) ∧ RefAt w' s (hearU u b).1 ∧ OnlyU s w w'
theorem hear_no_r (u : UnitD) (s : UnitS) (b : List UInt8) (A : Option Addr) (n c : Nat) (w : World) (h : RefAt w s u) (hu : UnitOk u) (hr : Rd w A n (b.map cB)) (hc : n ≤ c)
    (hno : (openRtuF b).2.2 ≠ 0 ∨ (openRtuF b).1.toNat ≠ u.addr ∨ 128 ≤ b0 (openRtuF b).2.1) : Calls Try.prog 91 #[pU s, .slice A n c] w (RetHR w s u b) := by
  have hO := refOpenRtu_any b A n c w hr hc
  have hx0 : hearU u b = (u, []) := by unfold hearU; rw [if_pos hno]
  have HFin := Lib.hid (show ∀ W, Ext w W → RetHR w s u b (.returned (.slice none 0 0)) W from fun W hX => ⟨none, 0, 0, rfl, by rw [hx0]; exact Own.nil_ _ _ _ _, by rw [hx0]; exact h.ext hX, .of_ext hX⟩)
  have HLEN := Lib.hid (@open_some b)
  have HU := Lib.hid (fun W (hX : Ext w W) => (h.ext hX).cells)
  clear hx0 h hr hc
  obtain ⟨O, hOO⟩ : ∃ O, openRtuF b = O := ⟨_, rfl⟩
  rw [hOO] at hO HLEN hno
  obtain ⟨to, pdu, e0⟩ := O
  simp only at hno HLEN
  clear hOO
  have hwt : IntKind.i64.wrap (to.toNat : Int) = (to.toNat : Int) := IntWalk.i64_in _ (by have := to.toNat_lt; omega)
  have HO := Lib.hid hO
  clear hO
  unfold pU
  go_enter Try.func91, Try.ntmps91
  go_wp2_with fail
  refine HO.out.mono ?_
  rintro e w1 ⟨A1, n1, c1, rfl, ho, hb⟩
  have HX := Lib.hid (Ext.of hb)
  have Ho := Lib.hid ho
  clear ho hb HO
  obtain ⟨d0, d1, d2, d3, d4, d5⟩ := HU.out _ HX.out
  by_cases he : e0 = 0
  · subst he
    obtain ⟨l1, -⟩ := HLEN.out rfl
    obtain ⟨b1, o1, rfl, hb1, hl1, hc1⟩ := Ho.out.rd.u8at (k := 0) (by have := Ho.out.len; simp at this; omega)
    have hn1 : (0 : Int) < (n1 : Int) := by have := Ho.out.len; simp at this; omega
    have hx : b0 pdu = pdu[0].toNat := by unfold b0; rw [List.getD_eq_getElem?_getD, List.getElem?_eq_getElem hl1]; rfl
    rw [hx] at hno
    rw [Nat.add_zero] at hc1
    generalize pdu[0].toNat = x at *
    by_cases ht : to.toNat = u.addr
    · have h128 : (128 : Int) ≤ (x : Int) := by omega
      have hta : ((to.toNat : Int) != (u.addr : Int)) = false := by simp; omega
      clear hno ht
      go_wp2_with fail
      all_goals (go_ret; exact HFin.out _ HX.out)
    · have hta : ((to.toNat : Int) != (u.addr : Int)) = true := by simp; omega
      clear hno ht
      go_wp2_with fail
      all_goals (go_ret; exact HFin.out _ HX.out)
  · have hee : (e0 != 0) = true := by simp [he]
    clear hno
    go_wp2_with fail
    all_goals (go_ret; exact HFin.out _ HX.out)
theorem hear_do_r (u : UnitD) (s : UnitS) (b : List UInt8) (A : Option Addr) (n c : Nat) (w : World) (h : RefAt w s u) (hu : UnitOk u) (hr : Rd w A n (b.map cB)) (hc : n ≤ c) (hwr : u.wrote < 4611686018427387904)
    (h0 : (openRtuF b).2.2 = 0) (h1 : (openRtuF b).1.toNat = u.addr) (h2 : b0 (openRtuF b).2.1 < 128) (h3 : (getA (openRtuF b).2.1).2 = 0) : Calls Try.prog 91 #[pU s, .slice A n c] w (RetHR w s u b) := by
  have hO := refOpenRtu_any b A n c w hr hc
  have hLEN := open_some h0
  have hx0 : hearU u b = ((doU u (getA (openRtuF b).2.1).1).1, (rtuF (openRtuF b).1 (putR (getA (openRtuF b).2.1).1 (doU u (getA (openRtuF b).2.1).1).2).1).1) := by
    unfold hearU; rw [if_neg (by simp [h0, h1]; omega), if_neg (by simp [h3]), if_neg (by simp [h3])]
  have HE := Lib.hid hx0
  have hck := getA_ok_check h3
  have HU := Lib.hid (fun W (hX : Ext w W) => (h.ext hX).cells)
  have HUA := Lib.hid h
  have HUO := Lib.hid hu
  have HLT := Lib.hid h.lt
  clear hx0 h hu hr hc
  obtain ⟨O, hOO⟩ : ∃ O, openRtuF b = O := ⟨_, rfl⟩
  rw [hOO] at hO hLEN HE h0 h1 h2 h3 hck
  obtain ⟨to, pdu, e0⟩ := O
  simp only at hLEN h0 h1 h2 h3 HE hck
  clear hOO
  subst h0
  obtain ⟨G, hGG⟩ : ∃ G, getA pdu = G := ⟨_, rfl⟩
  have HG : Hid (∀ (A : Option Addr) (m c : Nat) (w : World), Rd w A m (pdu.map cB) → m ≤ c → c ≤ 9223372036854775807 → m ≤ 9223372036854775807 → Calls Try.prog 122 #[.slice A m c] w (RetGA w G)) := by
    intro A m c w g1 g2 g3 g4; rw [← hGG]; exact ref3Get_any pdu A m c w g1 g2 g3 g4
  rw [hGG] at h3 hck HE
  obtain ⟨a, e3⟩ := G
  simp only at h3 hck HE
  subst h3
  clear hGG
  have hwt : IntKind.i64.wrap (to.toNat : Int) = (to.toNat : Int) := IntWalk.i64_in _ (by have := to.toNat_lt; omega)
  have hta : ((to.toNat : Int) != (u.addr : Int)) = false := by simp; omega
  clear h1
  have HCK := Lib.hid hck
  obtain ⟨code, addr, count, on, set, parts⟩ := a
  have HDO : Hid (∀ t W, RefAt W s u → AskRd W ⟨code, addr, count, on, set, parts⟩ t → (∀ W', OnlyU s W W' → Rd W' t.A2 t.n2 (set.map cW)) → Calls Try.prog 89 #[.pointer (some ⟨s.p, 0, none⟩), .agg #[.int .i64 code, .int .i64 addr, .int .i64 count, .slice t.A1 t.n1 t.c1, .slice t.A2 t.n2 t.c2, .slice t.A3 t.n3 t.c3]] W (RetDoR W s u ⟨code, addr, count, on, set, parts⟩)) :=
    fun t W hU hA hal => do_any_r u s ⟨code, addr, count, on, set, parts⟩ t W hU HUO.out hA hal hwr
  have HPUT : Hid (∀ t r W, AskRd W ⟨code, addr, count, on, set, parts⟩ t → RepRd W (doU u ⟨code, addr, count, on, set, parts⟩).2 r → Calls Try.prog 21 #[.agg #[.int .i64 code, .int .i64 addr, .int .i64 count, .slice t.A1 t.n1 t.c1, .slice t.A2 t.n2 t.c2, .slice t.A3 t.n3 t.c3], repV (doU u ⟨code, addr, count, on, set, parts⟩).2 r] W (RetU W (putR ⟨code, addr, count, on, set, parts⟩ (doU u ⟨code, addr, count, on, set, parts⟩).2).1 0)) := by
    intro t r W hA hR
    have h := ref04Put_any ⟨code, addr, count, on, set, parts⟩ _ t r W hA hR
    rw [(getR_putR (doU_check HUO.out hck)).2.1] at h
    exact h
  have HSZ : Hid ((putR ⟨code, addr, count, on, set, parts⟩ (doU u ⟨code, addr, count, on, set, parts⟩).2).1.length ≤ 253) := (getR_putR (doU_check HUO.out hck)).2.2.2
  have HO := Lib.hid hO
  clear hO hck
  unfold pU
  go_enter Try.func91, Try.ntmps91
  go_wp2_with fail
  refine HO.out.mono ?_
  rintro e w1 ⟨A1, n1, c1, rfl, ho, hb⟩
  have HX := Lib.hid (Ext.of hb)
  have hol := ho.len
  have hcap := ho.cap
  have hcap2 := ho.capLe
  have Ho := Lib.hid ho
  clear ho hb HO
  obtain ⟨d0, d1, d2, d3, d4, d5⟩ := HU.out _ HX.out
  obtain ⟨l1, l2, -⟩ := hLEN
  simp only [List.length_map] at hol
  obtain ⟨b1, o1, rfl, hb1, hl1, hc1⟩ := Ho.out.rd.u8at (k := 0) (by omega)
  have hn1 : (0 : Int) < (n1 : Int) := by omega
  have hx : b0 pdu = pdu[0].toNat := by unfold b0; rw [List.getD_eq_getElem?_getD, List.getElem?_eq_getElem hl1]; rfl
  rw [hx] at h2
  rw [Nat.add_zero] at hc1
  generalize pdu[0].toNat = x at *
  have h128 : ¬ (128 : Int) ≤ (x : Int) := by omega
  have hor : IntKind.u8.wrap ((x : Int) + 128) = (x : Int) + 128 := by rw [IntKind.wrap_u8]; omega
  go_wp2_with fail
  refine (HG.out _ _ _ _ Ho.out.rd hcap hcap2 (by omega)).mono ?_
  rintro e w3 ⟨⟨B1, m1, k1, B2, m2, k2, B3, m3, k3⟩, rfl, hao, hx3⟩
  simp only [askV]
  have X3 := Lib.hid (HX.out.trans hx3)
  have hc3 := hx3.cell hb1 hc1
  have hb3 : b1 < w3.heap.size := Nat.lt_of_lt_of_le hb1 hx3.size
  have hc4 := fun o => (Ext.alloc w3 o).cell hb3 hc3
  have HA4 := Lib.hid ((hao.mono (base' := w.heap.size) HX.out.size).ext ((Ext.alloc w3 (.cells #[.int .i64 code, .int .i64 addr, .int .i64 count, .slice B1 m1 k1, .slice B2 m2 k2, .slice B3 m3 k3] 26)).trans (Ext.alloc _ (.cells #[.int .u8 ((x : Int) + 128), .int .u8 3] 5))))
  have HB4 := Lib.hid ((Ext.alloc (w3.alloc (.cells #[.int .i64 code, .int .i64 addr, .int .i64 count, .slice B1 m1 k1, .slice B2 m2 k2, .slice B3 m3 k3] 26)) (.cells #[.int .u8 ((x : Int) + 128), .int .u8 3] 5)).block (heap_alloc_new w3 (.cells #[.int .i64 code, .int .i64 addr, .int .i64 count, .slice B1 m1 k1, .slice B2 m2 k2, .slice B3 m3 k3] 26)))
  have X4 := Lib.hid (X3.out.trans ((Ext.alloc w3 (.cells #[.int .i64 code, .int .i64 addr, .int .i64 count, .slice B1 m1 k1, .slice B2 m2 k2, .slice B3 m3 k3] 26)).trans (Ext.alloc _ (.cells #[.int .u8 ((x : Int) + 128), .int .u8 3] 5))))
  clear hx3 hao d0 d1 d2 d3 d4 d5 hc1
  go_wp2_with fail
  generalize (w3.alloc (.cells #[.int .i64 code, .int .i64 addr, .int .i64 count, .slice B1 m1 k1, .slice B2 m2 k2, .slice B3 m3 k3] 26)).alloc (.cells #[.int .u8 ((x : Int) + 128), .int .u8 3] 5) = w4 at *
  have hgz : w.heap.size ≤ w3.heap.size := X3.out.size
  obtain ⟨gq, hgq⟩ : ∃ g, w3.heap.size = g := ⟨_, rfl⟩
  simp only [hgq] at HB4 hgz ⊢
  have HSS : Hid (∀ W : World, W.heap[gq]? = some (.cells #[.int .i64 code, .int .i64 addr, .int .i64 count, .slice B1 m1 k1, .slice B2 m2 k2, .slice B3 m3 k3] 26 (0, 0)) → W.cell? ⟨gq, 0, none⟩ = some (.int .i64 code) ∧ W.cell? ⟨gq, 1, none⟩ = some (.int .i64 addr) ∧ W.cell? ⟨gq, 2, none⟩ = some (.int .i64 count) ∧ W.cell? ⟨gq, 3, none⟩ = some (.slice B1 m1 k1) ∧ W.cell? ⟨gq, 4, none⟩ = some (.slice B2 m2 k2) ∧ W.cell? ⟨gq, 5, none⟩ = some (.slice B3 m3 k3)) := fun W hW => cells6 hW
  obtain ⟨d0, d1, d2, d3, d4, d5⟩ := HSS.out _ HB4.out
  have hgz4 : gq < w4.heap.size := lt_of_heap HB4.out
  have hl := HLT.out
  go_region_held3 (fun W => W.cell? ⟨gq, 0, none⟩ = some (.int .i64 code) ∧ W.cell? ⟨gq, 1, none⟩ = some (.int .i64 addr) ∧ W.cell? ⟨gq, 2, none⟩ = some (.int .i64 count) ∧ W.cell? ⟨gq, 3, none⟩ = some (.slice B1 m1 k1) ∧ W.cell? ⟨gq, 4, none⟩ = some (.slice B2 m2 k2) ∧ W.cell? ⟨gq, 5, none⟩ = some (.slice B3 m3 k3)) (first | go_keep | exact HSS.out _ K6.out | exact HSS.out _ K5.out) ((first
    | (go_at_call 89
       with_reducible refine Calls.mono (HDO.out ⟨B1, m1, k1, B2, m2, k2, B3, m3, k3⟩ _ (HUA.out.ext (X4.out.trans (Ext.draw _))) ((HA4.out.ext (Ext.draw _)).rd) (fun W' h => set_only (HA4.out.ext (Ext.draw _)) hl h)) ?_
       rintro e w5 ⟨r, rfl, hro, hua, hou, hpx⟩
       have K5 : Hid (w5.heap[gq]? = some (.cells #[.int .i64 code, .int .i64 addr, .int .i64 count, .slice B1 m1 k1, .slice B2 m2 k2, .slice B3 m3 k3] 26 (0, 0))) := (hou.block gq hgz4 (by omega) (by omega) (by omega) (by omega) (by omega)).trans HB4.out
       have A5 : Hid (AskRd w5 ⟨code, addr, count, on, set, parts⟩ ⟨B1, m1, k1, B2, m2, k2, B3, m3, k3⟩) := ask_only (HA4.out.ext (Ext.draw _)) hl hou hpx
       have R5 := Lib.hid hro.rd
       have U5 := Lib.hid hua
       have O5 := Lib.hid ((OnlyU.of_ext (X4.out.trans (Ext.draw _))).trans hou)
       clear hro hua hou hpx)
    | (go_at_call 21
       with_reducible refine Calls.mono (HPUT.out ⟨B1, m1, k1, B2, m2, k2, B3, m3, k3⟩ _ _ A5.out R5.out) ?_
       rintro e w6 ⟨A6, n6, c6, rfl, ho6, hx6⟩
       have K6 := Lib.hid (hx6.block K5.out)
       have O6 := Lib.hid (O5.out.trans (.of_ext hx6))
       have U6 := Lib.hid (U5.out.ext hx6)
       have H6 := Lib.hid ho6
       clear hx6 ho6)))
  clear d0 d1 d2 d3 d4 d5 hc3 hc4
  go_wp2_with fail
  refine (refRtu_any to _ _ _ _ _ H6.out.rd (by have h1 := H6.out.len; have h2 := HSZ.out; simp only [List.length_map] at h1; omega)).mono ?_
  rintro e w7 ⟨A7, n7, c7, rfl, ho7, hb7⟩
  have O7 := Lib.hid (O6.out.trans (.of_ext (Ext.of hb7)))
  have U7 := Lib.hid (U6.out.ext (Ext.of hb7))
  have H7 := Lib.hid ho7
  clear ho7 hb7
  go_wp2_with fail
  go_ret
  exact ⟨A7, n7, c7, rfl, by rw [HE.out]; exact H7.out.mono O6.out.size, by rw [HE.out]; exact U7.out, O7.out⟩
theorem hear_bad_r (u : UnitD) (s : UnitS) (b : List UInt8) (A : Option Addr) (n c : Nat) (w : World) (h : RefAt w s u) (hu : UnitOk u) (hr : Rd w A n (b.map cB)) (hc : n ≤ c)
    (h0 : (openRtuF b).2.2 = 0) (h1 : (openRtuF b).1.toNat = u.addr) (h2 : b0 (openRtuF b).2.1 < 128) (h3 : (getA (openRtuF b).2.1).2 ≠ 0) : Calls Try.prog 91 #[pU s, .slice A n c] w (RetHR w s u b) := by
  have hO := refOpenRtu_any b A n c w hr hc
  have hLEN := open_some h0
  have hx0 : hearU u b = (u, (rtuF (openRtuF b).1 [UInt8.ofNat (b0 (openRtuF b).2.1 + 128), if (getA (openRtuF b).2.1).2 = 20 then 1 else 3]).1) := by
    unfold hearU; rw [if_neg (by simp [h0, h1]; omega)]
    by_cases h4 : (getA (openRtuF b).2.1).2 = 20
    · rw [if_pos h4, if_pos h4]
    · rw [if_neg h4, if_pos h3, if_neg h4]
  have HE := Lib.hid hx0
  have HU := Lib.hid (fun W (hX : Ext w W) => (h.ext hX).cells)
  have HUA := Lib.hid h
  have HUO := Lib.hid hu
  have HLT := Lib.hid h.lt
  clear hx0 h hu hr hc
  obtain ⟨O, hOO⟩ : ∃ O, openRtuF b = O := ⟨_, rfl⟩
  rw [hOO] at hO hLEN HE h0 h1 h2 h3
  obtain ⟨to, pdu, e0⟩ := O
  simp only at hLEN h0 h1 h2 h3 HE
  clear hOO
  subst h0
  obtain ⟨G, hGG⟩ : ∃ G, getA pdu = G := ⟨_, rfl⟩
  have HG : Hid (∀ (A : Option Addr) (m c : Nat) (w : World), Rd w A m (pdu.map cB) → m ≤ c → c ≤ 9223372036854775807 → m ≤ 9223372036854775807 → Calls Try.prog 122 #[.slice A m c] w (RetGA w G)) := by
    intro A m c w g1 g2 g3 g4; rw [← hGG]; exact ref3Get_any pdu A m c w g1 g2 g3 g4
  rw [hGG] at h3 HE
  obtain ⟨a, e3⟩ := G
  simp only at h3 HE
  clear hGG
  have hwt : IntKind.i64.wrap (to.toNat : Int) = (to.toNat : Int) := IntWalk.i64_in _ (by have := to.toNat_lt; omega)
  have hta : ((to.toNat : Int) != (u.addr : Int)) = false := by simp; omega
  clear h1
  obtain ⟨code, addr, count, on, set, parts⟩ := a
  have HO := Lib.hid hO
  clear hO
  unfold pU
  go_enter Try.func91, Try.ntmps91
  go_wp2_with fail
  refine HO.out.mono ?_
  rintro e w1 ⟨A1, n1, c1, rfl, ho, hb⟩
  have HX := Lib.hid (Ext.of hb)
  have hol := ho.len
  have hcap := ho.cap
  have hcap2 := ho.capLe
  have Ho := Lib.hid ho
  clear ho hb HO
  obtain ⟨d0, d1, d2, d3, d4, d5⟩ := HU.out _ HX.out
  obtain ⟨l1, l2, -⟩ := hLEN
  simp only [List.length_map] at hol
  obtain ⟨b1, o1, rfl, hb1, hl1, hc1⟩ := Ho.out.rd.u8at (k := 0) (by omega)
  have hn1 : (0 : Int) < (n1 : Int) := by omega
  have hx : b0 pdu = pdu[0].toNat := by unfold b0; rw [List.getD_eq_getElem?_getD, List.getElem?_eq_getElem hl1]; rfl
  rw [hx] at h2 HE
  rw [Nat.add_zero] at hc1
  generalize pdu[0].toNat = x at *
  have h128 : ¬ (128 : Int) ≤ (x : Int) := by omega
  have hor : IntKind.u8.wrap ((x : Int) + 128) = (x : Int) + 128 := by rw [IntKind.wrap_u8]; omega
  go_wp2_with fail
  refine (HG.out _ _ _ _ Ho.out.rd hcap hcap2 (by omega)).mono ?_
  rintro e w3 ⟨⟨B1, m1, k1, B2, m2, k2, B3, m3, k3⟩, rfl, hao, hx3⟩
  simp only [askV]
  have hc3 := hx3.cell hb1 hc1
  have hb3 : b1 < w3.heap.size := Nat.lt_of_lt_of_le hb1 hx3.size
  have hc4 := fun o => (Ext.alloc w3 o).cell hb3 hc3
  have X3 := Lib.hid (HX.out.trans hx3)
  have HK3 : Hid (((w3.alloc (.cells #[.int .i64 code, .int .i64 addr, .int .i64 count, .slice B1 m1 k1, .slice B2 m2 k2, .slice B3 m3 k3] 26)).alloc (.cells #[.int .u8 ((x : Int) + 128), .int .u8 3] 5)).heap[w3.heap.size + 1]? = some (.cells #[.int .u8 ((x : Int) + 128), .int .u8 3] 5 (0, 0))) := heap_at _ _ _ (by simp)
  have X5 := Lib.hid (X3.out.trans ((Ext.alloc w3 (.cells #[.int .i64 code, .int .i64 addr, .int .i64 count, .slice B1 m1 k1, .slice B2 m2 k2, .slice B3 m3 k3] 26)).trans (Ext.alloc _ (.cells #[.int .u8 ((x : Int) + 128), .int .u8 3] 5))))
  clear hx3 hao d0 d1 d2 d3 d4 d5 hc1
  have hgz : w.heap.size ≤ w3.heap.size := X3.out.size
  have HFin : Hid (∀ W W' A7 n7 c7 y, (y = 1 ∧ e3 = 20 ∨ y = 3 ∧ e3 ≠ 20) → Ext w W → Own W' W.heap.size 5 IsU8 A7 n7 c7 ((rtuF to [UInt8.ofNat (x + 128), y]).1.map cB) → Below W.heap.size W W' → RetHR w s u b (.returned (.slice A7 n7 c7)) W') := by
    rintro W W' A7 n7 c7 y hy hX ho7 hb7
    refine ⟨A7, n7, c7, rfl, ?_, by rw [HE.out]; exact (HUA.out.ext hX).ext (Ext.of hb7), .of_ext (hX.trans (Ext.of hb7))⟩
    rw [HE.out]
    have hyy : y = if e3 = 20 then (1 : UInt8) else 3 := by rcases hy with ⟨rfl, hy⟩ | ⟨rfl, hy⟩ <;> simp [hy]
    rw [← hyy]
    exact ho7.mono hX.size
  by_cases h20 : e3 = 20
  · subst h20
    have q1 : ((w3.alloc (.cells #[.int .i64 code, .int .i64 addr, .int .i64 count, .slice B1 m1 k1, .slice B2 m2 k2, .slice B3 m3 k3] 26)).alloc (.cells #[.int .u8 ((x : Int) + 128), .int .u8 3] 5)).cell? ⟨w3.heap.size + 1, 1, none⟩ = some (.int .u8 3) := by rw [cell_of_row _ _ _ _ _ _ HK3.out]; rfl
    have z1 := frozen_of_row _ (w3.heap.size + 1) 1 _ _ HK3.out
    go_wp2_with fail
    have HK5 : Hid (((w3.alloc (.cells #[.int .i64 code, .int .i64 addr, .int .i64 count, .slice B1 m1 k1, .slice B2 m2 k2, .slice B3 m3 k3] 26)).alloc (.cells #[.int .u8 ((x : Int) + 128), .int .u8 1] 5)).heap[w3.heap.size + 1]? = some (.cells #[.int .u8 ((x : Int) + 128), .int .u8 1] 5 (0, 0))) := heap_at _ _ _ (by simp)
    refine (refRtu_any to [UInt8.ofNat (x + 128), 1] _ _ _ _ (Rd.of_heap (ys := []) HK5.out (by simp [cB]; omega) rfl) (by simp)).mono ?_
    rintro e w7 ⟨A7, n7, c7, rfl, ho7, hb7⟩
    have HRR := Lib.hid (HFin.out _ _ _ _ _ 1 (by simp) (X3.out.trans ((Ext.alloc _ _).trans (Ext.alloc _ _))) ho7 hb7)
    clear ho7 hb7
    go_wp2_with fail
    go_ret
    exact HRR.out
  · have h20b : (e3 == 20) = false := by simp [h20]
    have h0b : (e3 == 0) = false := by simp [h3]
    go_wp2_with fail
    refine (refRtu_any to [UInt8.ofNat (x + 128), 3] _ _ _ _ (Rd.of_heap (ys := []) HK3.out (by simp [cB]; omega) rfl) (by simp)).mono ?_
    rintro e w7 ⟨A7, n7, c7, rfl, ho7, hb7⟩
    have HRR := Lib.hid (HFin.out _ _ _ _ _ 3 (by simp [h20]) X5.out ho7 hb7)
    clear ho7 hb7
    go_wp2_with fail
    go_ret
    exact HRR.out
theorem hear_any_r (u : UnitD) (s : UnitS) (b : List UInt8) (A : Option Addr) (n c : Nat) (w : World) (h : RefAt w s u) (hu : UnitOk u) (hr : Rd w A n (b.map cB)) (hc : n ≤ c) (hwr : u.wrote < 4611686018427387904) :
    Calls Try.prog 91 #[pU s, .slice A n c] w (RetHR w s u b) := by
  by_cases hno : (openRtuF b).2.2 ≠ 0 ∨ (openRtuF b).1.toNat ≠ u.addr ∨ 128 ≤ b0 (openRtuF b).2.1
  · exact hear_no_r u s b A n c w h hu hr hc hno
  · have h0 : (openRtuF b).2.2 = 0 := Classical.not_not.1 fun h => hno (.inl h)
    have h1 : (openRtuF b).1.toNat = u.addr := Classical.not_not.1 fun h => hno (.inr (.inl h))
    have h2 : b0 (openRtuF b).2.1 < 128 := Nat.lt_of_not_le fun h => hno (.inr (.inr h))
    by_cases h3 : (getA (openRtuF b).2.1).2 = 0
    · exact hear_do_r u s b A n c w h hu hr hc hwr h0 h1 h2 h3
    · exact hear_bad_r u s b A n c w h hu hr hc h0 h1 h2 h3
end Go.Proofs.Ytpjmhckdeeonbaa
