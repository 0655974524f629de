/- Contracts of the kit's functions on parts and requests: lent, kept. -/
import Derived.Test.YtpjmhckdeeonbaaAskKit
import Derived.Test.YtpjmhckdeeonbaaAsk3
import Derived.Test.YtpjmhckdeeonbaaAskSe
import Derived.Test.YtpjmhckdeeonbaaAskG5
import Derived.Test.YtpjmhckdeeonbaaUnitR6
import Derived.Test.YtpjmhckdeeonbaaUnitLa2
import Derived.Deep.RegionHeld3
namespace Go.Out
set_option linter.unusedVariables false
open Go Go.RowKit
/-- The cells of parts, one behind the other. -/
def cellsP (l : List PartD) : List Value := l.flatMap fun p => [.int .i64 p.file, .int .i64 p.record, .int .i64 p.len]
theorem cellsP_length (l : List PartD) : (cellsP l).length = l.length * 3 := by
  unfold cellsP
  induction l with
  | nil => rfl
  | cons p r ih => simp only [List.flatMap_cons, List.length_append, ih, List.length_cons, List.length_nil]; omega
theorem cellsP_at : ∀ (l : List PartD) (k : Nat) (h : k < l.length), (cellsP l)[k * 3]? = some (.int .i64 l[k].file) ∧ (cellsP l)[k * 3 + 1]? = some (.int .i64 l[k].record) ∧ (cellsP l)[k * 3 + 2]? = some (.int .i64 l[k].len)
  | p :: r, 0, _ => ⟨rfl, rfl, rfl⟩
  | p :: r, k + 1, h => by
    have ih := cellsP_at r k (by simpa using h)
    simp only [cellsP, List.flatMap_cons, List.getElem_cons_succ] at ih ⊢
    rw [show (k + 1) * 3 = k * 3 + 3 by omega]
    simpa using ih
/-- Parts that were lent: five marks behind them. -/
def lentP (l : List PartD) : List PartD := l ++ List.replicate 5 ⟨-77, 0, 0⟩
theorem lentP_length (l : List PartD) : (lentP l).length = l.length + 5 := by simp [lentP]
theorem part_fill {cur : Array Value} {T : List Value} {z v0 v1 v2 : Value} {k N : Nat} (h : cur.toList = T.take (k * 3) ++ List.replicate (N - k * 3) z) (hN : T.length = N) (h0 : T[k * 3]? = some v0) (h1 : T[k * 3 + 1]? = some v1) (h2 : T[k * 3 + 2]? = some v2) :
    (((cur.setIfInBounds (k * 3) v0).setIfInBounds (k * 3 + 1) v1).setIfInBounds (k * 3 + 2) v2).toList = T.take ((k + 1) * 3) ++ List.replicate (N - (k + 1) * 3) z := by
  rw [show (k + 1) * 3 = k * 3 + 2 + 1 by omega]
  exact fill_step (fill_step (fill_step h hN h0) hN h1) hN h2
theorem made3 (a : Value) (N : Nat) : madeCells #[a, a, a] N = Array.replicate N a := by
  apply Array.ext
  · simp [size_madeCells]
  · intro i h1 h2
    simp only [madeCells, Array.getElem_map, Array.getElem_range, Array.getElem_replicate]
    have : i % 3 = 0 ∨ i % 3 = 1 ∨ i % 3 = 2 := by omega
    rcases this with h | h | h <;> simp [h]
end Go.Out
namespace Go.Proofs.Ytpjmhckdeeonbaa
set_option linter.unusedVariables false
set_option linter.unusedSimpArgs false
set_option maxRecDepth 100000
set_option maxHeartbeats 2000000
open Go Go.RowKit Go.Out

theorem info_part' : (Try.prog.info? 85).map (fun i => (i.zero, i.size, i.bytes)) = some (some (.agg #[.int .i64 0, .int .i64 0, .int .i64 0]), 3, 24) := by kernel_rfl
theorem make_parts (n : Nat) (hn : n ≤ 70000) (W : World) : (Instr.makeSlice 24 (.int .i64 ((n : Int) + 5)) (.int .i64 ((n : Int) + 5))).run Try.prog W = .ok (.slice (some ⟨W.heap.size, 0, none⟩) (n + 5) (n + 5)) (W.alloc (.cells (Array.replicate ((n + 5) * 3) (.int .i64 0)) 85)) := by
  obtain ⟨i, hi, hz, hs, hb⟩ := info_parts info_part'
  have h := run_make (P := Try.prog) W 24 85 i _ Try.underlying24 hi hz .i64 .i64 ((n : Int) + 5) ((n : Int) + 5) (by omega) (Int.le_refl _) (by rw [hb]; omega) (by omega)
  rw [hs, show ((n : Int) + 5).toNat = n + 5 by omega, show (Value.agg #[.int .i64 0, .int .i64 0, .int .i64 0]).cells = #[.int .i64 0, .int .i64 0, .int .i64 0] by rfl, made3] at h
  exact h

theorem lentParts_any (l : List PartD) (A : Option Addr) (n c : Nat) (w : World) (hr : RdL partK w A n l) (hn : n ≤ 70000) :
    Calls Try.prog 61 #[.slice A n c] w fun e w' => ∃ g cur, e = .returned (.slice (some ⟨g, 0, none⟩) n (n + 5)) ∧ w.heap.size ≤ g ∧ w'.heap[g]? = some (.cells cur 85 (0, 0)) ∧ cur.toList = cellsP (lentP l) ∧ Ext w w' := by
  have hl : l.length = n := hr.length
  have Hr := Lib.hid hr; have Hl := Lib.hid hl; clear hr hl
  have hmk := fun W => make_parts n hn W
  have HT : Hid ((cellsP (lentP l)).length = (n + 5) * 3) := by have := Hl.out; unfold Hid; rw [cellsP_length, lentP_length, this]
  have HTA : Hid (∀ k (h : k < n), ∃ p, l[k]? = some p ∧ (cellsP (lentP l))[k * 3]? = some (.int .i64 p.file) ∧ (cellsP (lentP l))[k * 3 + 1]? = some (.int .i64 p.record) ∧ (cellsP (lentP l))[k * 3 + 2]? = some (.int .i64 p.len)) := fun k h => by
    have hk : k < l.length := by have := Hl.out; omega
    have := cellsP_at (lentP l) k (by rw [lentP_length]; omega)
    rw [show (lentP l)[k]'(by rw [lentP_length]; omega) = l[k] by unfold lentP; rw [List.getElem_append_left hk]] at this
    exact ⟨l[k], List.getElem?_eq_getElem hk, this⟩
  have HTB : Hid (∀ k, n ≤ k → k < n + 5 → (cellsP (lentP l))[k * 3]? = some (.int .i64 (-77)) ∧ (cellsP (lentP l))[k * 3 + 1]? = some (.int .i64 0) ∧ (cellsP (lentP l))[k * 3 + 2]? = some (.int .i64 0)) := fun k h1 h2 => by
    have hl := Hl.out
    have := cellsP_at (lentP l) k (by rw [lentP_length]; omega)
    rw [show (lentP l)[k]'(by rw [lentP_length]; omega) = ⟨-77, 0, 0⟩ by unfold lentP; rw [List.getElem_append_right (by omega), List.getElem_replicate]] at this
    exact this
  generalize cellsP (lentP l) = T at *
  go_enter Try.func61, Try.ntmps61
  go_wp2_with fail
  go_loopw [4] (fun i wr => ∃ (k : Nat) (cur : Array Value), k ≤ n ∧ i = .int .i64 k ∧ wr.heap[w.heap.size]? = some (.cells cur 85 (0, 0)) ∧ Hid (cur.toList = T.take (k * 3) ++ List.replicate ((n + 5) * 3 - k * 3) (.int .i64 0)) ∧ Hid (cur.size = (n + 5) * 3) ∧ Ext w wr) (fun i _ => n - (intOf i).toNat)
  case atStart => exact ⟨0, Array.replicate ((n + 5) * 3) (.int .i64 0), Nat.zero_le _, rfl, heap_alloc_new w _, by simp [Hid], by simp [Hid], Ext.alloc _ _⟩
  case round =>
    obtain ⟨k, cur, hk, rfl, hh, hcur, Hcs, hx⟩ := hrel
    rcases Nat.lt_or_ge k n with hlt | hge
    · obtain ⟨b1, o1, p, hp, rfl, hb1, e0, e1, e2, -⟩ := part_cells (Hr.out.ext hx) hlt
      obtain ⟨p', hp', HV⟩ := HTA.out k hlt
      obtain rfl : p = p' := by rw [hp] at hp'; injection hp'
      have HV2 := Lib.hid HV
      clear hp hp' HV
      generalize p.file = F at *
      generalize p.record = R at *
      generalize p.len = L at *
      obtain ⟨x0, hc0⟩ := heap_cell (k := k * 3) hh (by have := Hcs.out; omega)
      obtain ⟨x1, hc1⟩ := heap_cell (k := k * 3 + 1) hh (by have := Hcs.out; omega)
      obtain ⟨x2, hc2⟩ := heap_cell (k := k * 3 + 2) hh (by have := Hcs.out; omega)
      have z0 := frozen_of_row wr w.heap.size (k * 3) cur _ hh
      have z1 := frozen_of_row wr w.heap.size (k * 3 + 1) cur _ hh
      have z2 := frozen_of_row wr w.heap.size (k * 3 + 2) cur _ hh
      have Hh := Lib.hid hh; clear hh
      go_wp2_with fail
      go_roundw
      case rel => exact ⟨k + 1, _, by omega, by go_num, heap_setCell_same _ _ _ _ _ _ (heap_setCell_same _ _ _ _ _ _ (heap_setCell_same _ _ _ _ _ _ Hh.out)), part_fill hcur.out HT.out HV2.out.1 HV2.out.2.1 HV2.out.2.2, by have := Hcs.out; simp [Hid]; omega, ((hx.set' (by simp) _).set' (by simp) _).set' (by simp) _⟩
      case measure => simp [intOf]; omega
    · obtain rfl : k = n := by omega
      have Hh := Lib.hid hh; clear hh
      go_wp2_with fail
      go_loopw [5] (fun i wr => ∃ (j : Nat) (cur : Array Value), k ≤ j ∧ j ≤ k + 5 ∧ i = .int .i64 j ∧ wr.heap[w.heap.size]? = some (.cells cur 85 (0, 0)) ∧ Hid (cur.toList = T.take (j * 3) ++ List.replicate ((k + 5) * 3 - j * 3) (.int .i64 0)) ∧ Hid (cur.size = (k + 5) * 3) ∧ Ext w wr) (fun i _ => k + 5 - (intOf i).toNat)
      case atStart => exact ⟨k, cur, Nat.le_refl _, by omega, rfl, Hh.out, hcur, Hcs, hx⟩
      case round =>
        obtain ⟨j, cur', hj1, hj2, rfl, hh', hcur', Hcs', hx'⟩ := hrel
        rcases Nat.lt_or_ge j (k + 5) with hlt' | hge'
        · have HV := Lib.hid (HTB.out j hj1 hlt')
          obtain ⟨x0, hc0⟩ := heap_cell (k := j * 3) hh' (by have := Hcs'.out; omega)
          obtain ⟨x1, hc1⟩ := heap_cell (k := j * 3 + 1) hh' (by have := Hcs'.out; omega)
          obtain ⟨x2, hc2⟩ := heap_cell (k := j * 3 + 2) hh' (by have := Hcs'.out; omega)
          have z0 := frozen_of_row _ w.heap.size (j * 3) cur' _ hh'
          have z1 := frozen_of_row _ w.heap.size (j * 3 + 1) cur' _ hh'
          have z2 := frozen_of_row _ w.heap.size (j * 3 + 2) cur' _ hh'
          have Hh' := Lib.hid hh'; clear hh'
          go_wp2_with fail
          go_roundw
          case rel => exact ⟨j + 1, _, by omega, by omega, by go_num, heap_setCell_same _ _ _ _ _ _ (heap_setCell_same _ _ _ _ _ _ (heap_setCell_same _ _ _ _ _ _ Hh'.out)), part_fill hcur'.out HT.out HV.out.1 HV.out.2.1 HV.out.2.2, by have := Hcs'.out; simp [Hid]; omega, ((hx'.set' (by simp) _).set' (by simp) _).set' (by simp) _⟩
          case measure => simp [intOf]; omega
        · obtain rfl : j = k + 5 := by omega
          have Hh' := Lib.hid hh'; clear hh'
          go_wp2_with fail
          go_ret
          exact ⟨_, cur', rfl, Nat.le_refl _, Hh'.out, by have h := hcur'.out; rwa [Nat.sub_self, List.replicate_zero, List.append_nil, List.take_of_length_le (by rw [HT.out]; exact Nat.le_refl _)] at h, hx'⟩

theorem rdL_lent {l : List PartD} {A : Option Addr} {n g : Nat} {cur : Array Value} {w w0 : World} (hr : RdL partK w0 A n l) (hh : w.heap[g]? = some (.cells cur 85 (0, 0))) (hcur : cur.toList = cellsP (lentP l)) : RdL partK w (some ⟨g, 0, none⟩) n l :=
  ⟨hr.length, fun _ => ⟨g, 0, rfl, lt_of_heap hh, fun i x hi => by
    have hl := hr.length
    have hil := (List.getElem?_eq_some_iff.1 hi).1
    have hk : i < (lentP l).length := by rw [lentP_length]; omega
    obtain ⟨h0, h1, h2⟩ := cellsP_at (lentP l) i hk
    have hx : (lentP l)[i] = x := by
      have : l[i] = x := (List.getElem?_eq_some_iff.1 hi).2
      rw [← this]; exact List.getElem_append_left hil
    rw [hx, ← hcur, Array.getElem?_toList] at h0 h1 h2
    obtain ⟨b, off, -, -, hc⟩ := hr.2 (by omega)
    obtain ⟨cs, -, -, hR⟩ := hc i x hi
    refine ⟨partCells x, rfl, ?_, rfl, hR.2.1, hR.2.2.1, hR.2.2.2⟩
    intro j u hu
    rw [Nat.zero_add, cell_of_row _ _ _ _ _ _ hh]
    match j with
    | 0 => simp [partCells] at hu; subst hu; exact h0
    | 1 => simp [partCells] at hu; subst hu; exact h1
    | 2 => simp [partCells] at hu; subst hu; exact h2
    | j + 3 => simp [partCells] at hu⟩⟩

theorem keptParts_any (l : List PartD) (A : Option Addr) (n c g : Nat) (cur : Array Value) (w : World) (hr : RdL partK w A n l) (hh : w.heap[g]? = some (.cells cur 85 (0, 0))) (hcur : cur.toList = cellsP (lentP l)) (hn : n ≤ 70000) :
    Calls Try.prog 72 #[.slice (some ⟨g, 0, none⟩) n (n + 5), .slice A n c] w (RetQ w true) := by
  have hl : l.length = n := hr.length
  have hcl : ∀ k (h : k < n + 5), ∃ p, (lentP l)[k]? = some p ∧ w.cell? ⟨g, k * 3, none⟩ = some (.int .i64 p.file) ∧ w.cell? ⟨g, k * 3 + 1, none⟩ = some (.int .i64 p.record) ∧ w.cell? ⟨g, k * 3 + 2, none⟩ = some (.int .i64 p.len) := fun k h => by
    have hk : k < (lentP l).length := by rw [lentP_length]; omega
    obtain ⟨h0, h1, h2⟩ := cellsP_at (lentP l) k hk
    refine ⟨(lentP l)[k], List.getElem?_eq_getElem hk, ?_, ?_, ?_⟩ <;> (rw [cell_of_row _ _ _ _ _ _ hh, ← Array.getElem?_toList, hcur]; assumption)
  have hlt := lt_of_heap hh
  have hrg : RdL partK w (some ⟨g, 0, none⟩) n l := rdL_lent hr hh hcur
  have Hsp := Lib.hid (show ∀ j, n ≤ j → j < n + 5 → w.cell? ⟨g, j * 3, none⟩ = some (.int .i64 (-77)) ∧ w.cell? ⟨g, j * 3 + 1, none⟩ = some (.int .i64 0) ∧ w.cell? ⟨g, j * 3 + 2, none⟩ = some (.int .i64 0) from fun j h1 h2 => by
    obtain ⟨p, hp, r⟩ := hcl j h2
    unfold lentP at hp
    rw [List.getElem?_append_right (by omega), List.getElem?_replicate, if_pos (by omega)] at hp
    injection hp with hp; subst hp; exact r)
  have Hr := Lib.hid hr; have Hrg := Lib.hid hrg; clear hr hrg hl hh hcur hcl
  go_enter Try.func72, Try.ntmps72
  go_wp2_with fail
  refine (sameParts_eq l _ _ _ _ _ _ Hrg.out Hr.out (by omega)).mono ?_
  rintro e w1 ⟨rfl, hx1⟩
  go_wp2_with fail
  go_loopw [6] (fun i wr => ∃ (j : Nat), n ≤ j ∧ j ≤ n + 5 ∧ i = .int .i64 j ∧ Ext w wr) (fun i _ => n + 5 - (intOf i).toNat)
  case atStart => exact ⟨n, Nat.le_refl _, by omega, rfl, hx1⟩
  case round =>
    obtain ⟨j, hj1, hj2, rfl, hx⟩ := hrel
    rcases Nat.lt_or_ge j (n + 5) with hlt' | hge'
    · obtain ⟨s0, s1, s2⟩ := Hsp.out j hj1 hlt'
      have c0 := hx.cell hlt s0
      have c1 := hx.cell hlt s1
      have c2 := hx.cell hlt s2
      clear s0 s1 s2
      go_wp2_with fail
      go_roundw
      case rel => exact ⟨j + 1, by omega, by omega, by go_num, hx⟩
      case measure => simp [intOf]; omega
    · go_wp2_with fail
      go_ret
      exact ⟨rfl, hx⟩

/-- A request that was lent: rows of the call's own, five marks behind each. -/
structure AskLent (w : World) (base : Nat) (a : AskD) (s t : AskS) : Prop where
  on : ∃ g cur, t.A1 = some ⟨g, 0, none⟩ ∧ t.n1 = s.n1 ∧ t.c1 = s.n1 + 5 ∧ base ≤ g ∧ w.heap[g]? = some (.cells cur 4 (0, 0)) ∧ cur.toList = a.on.map cL ++ List.replicate 5 (.bool true)
  set : ∃ g cur, t.A2 = some ⟨g, 0, none⟩ ∧ t.n2 = s.n2 ∧ t.c2 = s.n2 + 5 ∧ base ≤ g ∧ w.heap[g]? = some (.cells cur 54 (0, 0)) ∧ cur.toList = a.set.map cW ++ List.replicate 5 (.int .u16 42330)
  parts : ∃ g cur, t.A3 = some ⟨g, 0, none⟩ ∧ t.n3 = s.n3 ∧ t.c3 = s.n3 + 5 ∧ base ≤ g ∧ w.heap[g]? = some (.cells cur 85 (0, 0)) ∧ cur.toList = cellsP (lentP a.parts)
theorem AskLent.ext {w w' : World} {base : Nat} {a : AskD} {s t : AskS} (h : AskLent w base a s t) (hx : Ext w w') : AskLent w' base a s t := by
  obtain ⟨⟨g1, c1, p1, p2, p3, p4, p5, p6⟩, ⟨g2, c2, q1, q2, q3, q4, q5, q6⟩, ⟨g3, c3, r1, r2, r3, r4, r5, r6⟩⟩ := h
  exact ⟨⟨g1, c1, p1, p2, p3, p4, hx.block p5, p6⟩, ⟨g2, c2, q1, q2, q3, q4, hx.block q5, q6⟩, ⟨g3, c3, r1, r2, r3, r4, hx.block r5, r6⟩⟩
theorem AskLent.rd {w w0 : World} {base : Nat} {a : AskD} {s t : AskS} (h : AskLent w base a s t) (hr : AskRd w0 a s) (h1 : s.n1 ≤ 70000) (h2 : s.n2 ≤ 70000) (h3 : s.n3 ≤ 70000) : AskRd w a t := by
  have e1 := hr.n1; have e2 := hr.n2
  obtain ⟨⟨g1, c1, p1, p2, p3, p4, p5, p6⟩, ⟨g2, c2, q1, q2, q3, q4, q5, q6⟩, ⟨g3, c3, r1, r2, r3, r4, r5, r6⟩⟩ := h
  obtain ⟨B1, m1, k1, B2, m2, k2, B3, m3, k3⟩ := t
  simp only at p1 p2 p3 q1 q2 q3 r1 r2 r3
  subst p1; subst p2; subst p3; subst q1; subst q2; subst q3; subst r1; subst r2; subst r3
  exact ⟨Rd.of_heap p5 p6 (by simpa using e1), Rd.of_heap q5 q6 (by simpa using e2), rdL_lent hr.parts r5 r6, hr.code, hr.addr, hr.count, ⟨by simp, by simp; omega⟩, ⟨by simp, by simp; omega⟩, ⟨by simp, by simp; omega⟩⟩

theorem lentAsk_any (a : AskD) (s : AskS) (w : World) (hr : AskRd w a s) (h1 : s.n1 ≤ 70000) (h2 : s.n2 ≤ 70000) (h3 : s.n3 ≤ 70000) :
    Calls Try.prog 18 #[askV a s] w fun e w' => ∃ t, e = .returned (askV a t) ∧ AskLent w' w.heap.size a s t ∧ Ext w w' := by
  have HR := Lib.hid hr
  obtain ⟨code, addr, count, on, set, parts⟩ := a
  obtain ⟨A1, n1, c1, A2, n2, c2, A3, n3, c3⟩ := s
  simp only at h1 h2 h3
  clear hr
  simp only [askV]
  go_enter Try.func18, Try.ntmps18
  go_wp2_with fail
  refine (lentL_any on _ _ _ _ (HR.out.on.ext (Ext.two w _ _)) (by show n1 ≤ _; omega)).mono ?_
  rintro e w1 ⟨g1, u1, rfl, hg1, hr1, hu1, hb1⟩
  have hX1 := Ext.of hb1
  have hA := hX1.block ((Ext.alloc _ _).block (heap_alloc_new w (.cells #[.int .i64 code, .int .i64 addr, .int .i64 count, .slice A1 n1 c1, .slice A2 n2 c2, .slice A3 n3 c3] 26)))
  have hB := hX1.block (heap_at _ (.cells #[.int .i64 0, .int .i64 0, .int .i64 0, .slice none 0 0, .slice none 0 0, .slice none 0 0] 26) (w.heap.size + 1) (by simp))
  have hge1 : w.heap.size + 2 ≤ g1 := by simpa using hg1
  obtain ⟨d0, d1, d2, d3, d4, d5, x0, x1, x2, x3, x4, x5⟩ := askBox hA
  have hA2 := heap_setCell_same w1 w.heap.size 3 _ _ (.slice (some ⟨g1, 0, none⟩) n1 (n1 + 5)) hA
  have hB2 := (Below.heap_setCell w1 ⟨w.heap.size, 3, none⟩ (.slice (some ⟨g1, 0, none⟩) n1 (n1 + 5)) (w.heap.size + 1) (by simp)).trans hB
  have hR1 := (Below.heap_setCell w1 ⟨w.heap.size, 3, none⟩ (.slice (some ⟨g1, 0, none⟩) n1 (n1 + 5)) g1 (by simp; omega)).trans hr1
  have X1s := Lib.hid (((Ext.two w _ _).trans hX1).set' (p := ⟨w.heap.size, 3, none⟩) (Nat.le_refl _) (.slice (some ⟨g1, 0, none⟩) n1 (n1 + 5)))
  have HA2 := Lib.hid hA2; have HB2 := Lib.hid hB2; have HR1 := Lib.hid hR1; have HU1 := Lib.hid hu1
  clear hA hB hA2 hB2 hR1 hX1 hb1 hg1 hr1 hu1
  go_wp2_with fail
  refine (lentW_any set _ _ _ _ (HR.out.set.ext X1s.out) (by show n2 ≤ _; omega)).mono ?_
  rintro e w2 ⟨g2, u2, rfl, hg2, hr2, hu2, hb2⟩
  have hX2 := Ext.of hb2
  have hA := hX2.block HA2.out
  have hB := hX2.block HB2.out
  have hR1 := hX2.block HR1.out
  have hz := lt_of_heap HB2.out
  have hge2 : w.heap.size + 2 ≤ g2 := by omega
  clear d0 d1 d2 d3 d4 d5 x0 x1 x2 x3 x4 x5 hz
  obtain ⟨d0, d1, d2, d3, d4, d5, x0, x1, x2, x3, x4, x5⟩ := askBox hA
  have hA2 := heap_setCell_same w2 w.heap.size 4 _ _ (.slice (some ⟨g2, 0, none⟩) n2 (n2 + 5)) hA
  have hB2 := (Below.heap_setCell w2 ⟨w.heap.size, 4, none⟩ (.slice (some ⟨g2, 0, none⟩) n2 (n2 + 5)) (w.heap.size + 1) (by simp)).trans hB
  have hR1s := (Below.heap_setCell w2 ⟨w.heap.size, 4, none⟩ (.slice (some ⟨g2, 0, none⟩) n2 (n2 + 5)) g1 (by simp; omega)).trans hR1
  have hR2s := (Below.heap_setCell w2 ⟨w.heap.size, 4, none⟩ (.slice (some ⟨g2, 0, none⟩) n2 (n2 + 5)) g2 (by simp; omega)).trans hr2
  have X2s := Lib.hid ((X1s.out.trans hX2).set' (p := ⟨w.heap.size, 4, none⟩) (Nat.le_refl _) (.slice (some ⟨g2, 0, none⟩) n2 (n2 + 5)))
  have HA3 := Lib.hid hA2; have HB3 := Lib.hid hB2; have HR1s := Lib.hid hR1s; have HR2s := Lib.hid hR2s; have HU2 := Lib.hid hu2
  clear hA hB hA2 hB2 hR1 hR1s hR2s hX2 hb2 hg2 hr2 hu2 HA2 HB2 HR1
  go_wp2_with fail
  refine (lentParts_any parts _ _ _ _ (HR.out.parts.ext X2s.out) (by show n3 ≤ _; omega)).mono ?_
  rintro e w3 ⟨g3, u3, rfl, hg3, hr3, hu3, hX3⟩
  have hA := hX3.block HA3.out
  have hB := hX3.block HB3.out
  have hR1 := hX3.block HR1s.out
  have hR2 := hX3.block HR2s.out
  have hz := lt_of_heap HB3.out
  have hge3 : w.heap.size + 2 ≤ g3 := by omega
  clear d0 d1 d2 d3 d4 d5 x0 x1 x2 x3 x4 x5 hz
  obtain ⟨d0, d1, d2, d3, d4, d5, x0, x1, x2, x3, x4, x5⟩ := askBox hA
  obtain ⟨f0, f1, f2, f3, f4, f5, y0, y1, y2, y3, y4, y5⟩ := askBox hB
  have X3 := Lib.hid (X2s.out.trans hX3)
  have HR1 := Lib.hid hR1; have HR2 := Lib.hid hR2; have HR3 := Lib.hid hr3; have HU3 := Lib.hid hu3
  clear hA hB hR1 hR2 hX3 hg3 hr3 hu3
  go_wp2_with fail
  refine bodyPost_ret (v := askV ⟨code, addr, count, on, set, parts⟩ ⟨some ⟨g1, 0, none⟩, n1, n1 + 5, some ⟨g2, 0, none⟩, n2, n2 + 5, some ⟨g3, 0, none⟩, n3, n3 + 5⟩) (by simp [results, Try.results18, go_sem, askV, *]) rfl ⟨⟨some ⟨g1, 0, none⟩, n1, n1 + 5, some ⟨g2, 0, none⟩, n2, n2 + 5, some ⟨g3, 0, none⟩, n3, n3 + 5⟩, rfl, ⟨⟨g1, u1, rfl, rfl, rfl, by omega, ?_, HU1.out⟩, ⟨g2, u2, rfl, rfl, rfl, by omega, ?_, HU2.out⟩, ⟨g3, u3, rfl, rfl, rfl, by omega, ?_, HU3.out⟩⟩, ?_⟩
  · repeat' (first | with_reducible exact HR1.out | (with_reducible refine (Below.heap_setCell _ _ _ _ (by simp; omega)).trans ?_))
  · repeat' (first | with_reducible exact HR2.out | (with_reducible refine (Below.heap_setCell _ _ _ _ (by simp; omega)).trans ?_))
  · repeat' (first | with_reducible exact HR3.out | (with_reducible refine (Below.heap_setCell _ _ _ _ (by simp; omega)).trans ?_))
  · repeat' (first | with_reducible exact X3.out | with_reducible refine Ext.set' ?_ (by simp) _)

theorem keptAsk_any (a : AskD) (s t : AskS) (base : Nat) (w : World) (hr : AskRd w a s) (hl : AskLent w base a s t) (h1 : s.n1 ≤ 70000) (h2 : s.n2 ≤ 70000) (h3 : s.n3 ≤ 70000) :
    Calls Try.prog 23 #[askV a t, askV a s] w (RetQ w true) := by
  obtain ⟨⟨g1, u1, p1, p2, p3, p4, p5, p6⟩, ⟨g2, u2, q1, q2, q3, q4, q5, q6⟩, ⟨g3, u3, r1, r2, r3, r4, r5, r6⟩⟩ := hl
  obtain ⟨B1, m1, k1, B2, m2, k2, B3, m3, k3⟩ := t
  simp only at p1 p2 p3 q1 q2 q3 r1 r2 r3
  subst p1; subst p2; subst p3; subst q1; subst q2; subst q3; subst r1; subst r2; subst r3
  have H1 := Lib.hid (fun (W : World) (hX : Ext w W) => keptL_any a.on s.A1 s.n1 s.c1 g1 u1 W (hr.on.ext hX) (hX.block p5) p6 (by omega))
  have H2 := Lib.hid (fun (W : World) (hX : Ext w W) => keptW_any a.set s.A2 s.n2 s.c2 g2 u2 W (hr.set.ext hX) (hX.block q5) q6 (by omega))
  have H3 := Lib.hid (fun (W : World) (hX : Ext w W) => keptParts_any a.parts s.A3 s.n3 s.c3 g3 u3 W (hr.parts.ext hX) (hX.block r5) r6 h3)
  clear hr p4 p5 p6 q4 q5 q6 r4 r5 r6
  obtain ⟨code, addr, count, on, set, parts⟩ := a
  obtain ⟨A1, n1, c1, A2, n2, c2, A3, n3, c3⟩ := s
  simp only at h1 h2 h3 H1 H2 H3
  simp only [askV]
  go_enter Try.func23, Try.ntmps23
  go_wp2_with fail
  refine (H1.out _ (Ext.two w _ _)).mono ?_
  rintro e w1 ⟨rfl, hb1⟩
  have hx1 := Ext.of hb1
  obtain ⟨d0, d1, d2, d3, d4, d5⟩ := ask_cells _ ((Ext.alloc _ _).trans hx1)
  obtain ⟨f0, f1, f2, f3, f4, f5⟩ := ask_cells_at (g := w.heap.size + 1) (by simp) _ hx1
  have X1 := Lib.hid ((Ext.two w _ _).trans hx1)
  have Y1 := Lib.hid hx1
  clear hx1 hb1
  go_wp2_with fail
  refine (H2.out _ X1.out).mono ?_
  rintro e w2 ⟨rfl, hb2⟩
  clear d0 d1 d2 d3 d4 d5 f0 f1 f2 f3 f4 f5
  obtain ⟨d0, d1, d2, d3, d4, d5⟩ := ask_cells _ ((Ext.alloc _ _).trans (Y1.out.trans (Ext.of hb2)))
  obtain ⟨f0, f1, f2, f3, f4, f5⟩ := ask_cells_at (g := w.heap.size + 1) (by simp) _ (Y1.out.trans (Ext.of hb2))
  have X2 := Lib.hid (X1.out.trans (Ext.of hb2))
  clear hb2
  go_wp2_with fail
  refine (H3.out _ X2.out).mono ?_
  rintro e w3 ⟨rfl, hx3⟩
  go_wp2_with fail
  go_ret
  exact ⟨rfl, X2.out.trans hx3⟩
end Go.Proofs.Ytpjmhckdeeonbaa

namespace Go.Proofs.Ytpjmhckdeeonbaa
set_option linter.unusedVariables false
set_option linter.unusedSimpArgs false
set_option maxRecDepth 100000
set_option maxHeartbeats 1000000
open Go Go.RowKit Go.Out

theorem int_at {w : World} {g k : Nat} {cur : Array Value} {e : TypeId} (hh : w.heap[g]? = some (.cells cur e (0, 0))) (hp : ∀ u ∈ cur.toList, IsI64 u) (hk : k < cur.size) : ∃ n : Int, w.cell? ⟨g, k, none⟩ = some (.int .i64 n) := by
  obtain ⟨u, hu⟩ := heap_cell hh hk
  have hm : u ∈ cur.toList := by
    rw [cell_of_row _ _ _ _ _ _ hh] at hu
    exact Array.mem_toList_iff.2 (Array.mem_of_getElem? hu)
  obtain ⟨n, rfl⟩ := hp u hm
  exact ⟨n, hu⟩
theorem all_set_ints {cur : Array Value} (h : ∀ u ∈ cur.toList, IsI64 u) (k : Nat) (n : Int) : ∀ u ∈ (cur.setIfInBounds k (.int .i64 n)).toList, IsI64 u := by
  intro u hu
  rw [Array.toList_setIfInBounds] at hu
  rcases List.mem_or_eq_of_mem_set hu with hu | hu
  · exact h u hu
  · exact ⟨n, hu⟩

theorem spoilParts_any (A : Option Addr) (n c base : Nat) (l : List PartD) (w : World) (ho : OwP w base (.slice A n c) l) :
    Calls Try.prog 120 #[.slice A n c] w fun e w' => e = .returned (.tuple #[]) ∧ w.grownBy w' (blk A) := by
  obtain ⟨⟨xs, ⟨h1, h2⟩, -⟩, hi⟩ := ho
  rcases h2 with ⟨hv, h0⟩ | ⟨g, cap, cur, hv, hbg, hh, hnc, hcm, hcs, ht⟩
  · injection hv with e1 e2 e3
    subst e1; subst e2; subst e3
    clear h1 h0 hi
    go_enter Try.func120, Try.ntmps120
    go_wp2_with fail
    refine wp_loop_rounds 1 ?_
    rw [rounds_succ]
    go_wp2
    go_end0
    exact ⟨rfl, World.grownBy.refl _ _⟩
  · injection hv with e1 e2 e3
    subst e1; subst e3
    obtain rfl : n = l.length := e2
    unfold maxLen at hcm
    obtain ⟨cur', e', hh', hp⟩ := hi g rfl
    rw [hh] at hh'
    injection hh' with hh'
    injection hh' with q1 q2 q3
    subst q1
    have Hcs := Lib.hid hcs; have Hp := Lib.hid hp; have Hh := Lib.hid hh
    generalize l.length = n at *
    clear ht hcs hp hh h1 q2 q3 hi
    go_enter Try.func120, Try.ntmps120
    go_wp2_with fail
    go_loopw [3] (fun i wr => ∃ (k : Nat) (cur : Array Value), k ≤ c ∧ i = .int .i64 k ∧ wr.heap[g]? = some (.cells cur 85 (0, 0)) ∧ Hid (cur.size = c * 3) ∧ Hid (∀ u ∈ cur.toList, IsI64 u) ∧ w.grownBy wr (some g)) (fun i _ => c - (intOf i).toNat)
    case atStart => exact ⟨0, cur, by omega, rfl, Hh.out, Hcs, Hp, World.grownBy.refl _ _⟩
    case round =>
      obtain ⟨k, cur', hk, rfl, hh, Hcs', Hp', hg⟩ := hrel
      rcases Nat.lt_or_ge k c with hlt | hge
      · obtain ⟨x0, hc0⟩ := int_at (k := k * 3) hh Hp'.out (by have := Hcs'.out; omega)
        obtain ⟨x1, hc1⟩ := int_at (k := k * 3 + 1) hh Hp'.out (by have := Hcs'.out; omega)
        obtain ⟨x2, hc2⟩ := int_at (k := k * 3 + 2) hh Hp'.out (by have := Hcs'.out; omega)
        have z0 := frozen_of_row wr g (k * 3) cur' _ hh
        have z1 := frozen_of_row wr g (k * 3 + 1) cur' _ hh
        have z2 := frozen_of_row wr g (k * 3 + 2) cur' _ hh
        have Hh' := Lib.hid hh; clear hh
        go_wp2_with fail
        go_roundw
        case rel => exact ⟨k + 1, _, by omega, by go_num, heap_setCell_same _ _ _ _ _ _ (heap_setCell_same _ _ _ _ _ _ (heap_setCell_same _ _ _ _ _ _ Hh'.out)), by have := Hcs'.out; simp [Hid]; omega, all_set_ints (all_set_ints (all_set_ints Hp'.out _ _) _ _) _ _, only_setCell (only_setCell (only_setCell hg (.inl rfl) _) (.inl rfl) _) (.inl rfl) _⟩
        case measure => simp [intOf]; omega
      · obtain rfl : k = c := by omega
        have Hh' := Lib.hid hh; clear hh
        go_wp2_with fail
        go_end0
        exact ⟨rfl, hg⟩

theorem spoilAsk_any (a : AskD) (s : AskS) (base : Nat) (w : World) (ho : AskOw w base a s) (hb : base ≤ w.heap.size) :
    Calls Try.prog 90 #[askV a s] w fun e w' => e = .returned (.tuple #[]) ∧ Below base w w' := by
  have Ho := Lib.hid ho
  clear ho
  obtain ⟨code, addr, count, on, set, parts⟩ := a
  obtain ⟨A1, n1, c1, A2, n2, c2, A3, n3, c3⟩ := s
  simp only [askV]
  have B0 := Lib.hid (show Below base w (w.alloc (.cells #[.int .i64 code, .int .i64 addr, .int .i64 count, .slice A1 n1 c1, .slice A2 n2 c2, .slice A3 n3 c3] 26)) from (Below.refl _ _).alloc hb _)
  have hbox := heap_alloc_new w (.cells #[.int .i64 code, .int .i64 addr, .int .i64 count, .slice A1 n1 c1, .slice A2 n2 c2, .slice A3 n3 c3] 26)
  have Ho1 := Lib.hid (Ho.out.ext (Ext.alloc w (.cells #[.int .i64 code, .int .i64 addr, .int .i64 count, .slice A1 n1 c1, .slice A2 n2 c2, .slice A3 n3 c3] 26)))
  have l1 := Lib.hid (fun g hg => (Ho.out.on.lt g hg))
  have l2 := Lib.hid (fun g hg => (Ho.out.set.lt g hg))
  have Hbox := Lib.hid hbox
  clear hbox
  obtain ⟨W1, hW1⟩ : ∃ W1, w.alloc (.cells #[.int .i64 code, .int .i64 addr, .int .i64 count, .slice A1 n1 c1, .slice A2 n2 c2, .slice A3 n3 c3] 26) = W1 := ⟨_, rfl⟩
  rw [hW1] at B0 Hbox Ho1
  have HW1 := Lib.hid hW1
  clear hW1
  go_enter Try.func90, Try.ntmps90
  go_wp2_with fail
  rw [HW1.out]
  refine (spoilL_any _ _ _ _ _ _ Ho1.out.on).mono ?_
  rintro e w1 ⟨rfl, -, hg1⟩
  have hlt : w.heap.size < W1.heap.size := lt_of_heap Hbox.out
  have hbx1 := (hg1.block w.heap.size hlt (fun e => by have := (l1.out _ e.symm).2; omega)).trans Hbox.out
  have Hb1 := Lib.hid (B0.out.grown hg1 (by have := B0.out.size; omega) (fun g hg => (l1.out g hg).1))
  have Hs1 := Lib.hid (Ho1.out.set.grown hg1 (fun g hg e => by
    have q1 := Ho1.out.set.ty hg
    have q2 := Ho1.out.on.ty e.symm
    exact absurd (q1.inj q2) (by decide)))
  obtain ⟨⟨xs, hrow, hit⟩, hint⟩ := Ho1.out.parts
  have Hp1 : Hid (OwP w1 base (.slice A3 n3 c3) parts) := by
    have hne : ∀ g, Value.ownBlock (.slice A3 n3 c3) = some g → blk A1 ≠ some g := fun g hg e => by
      have q1 := ownsRow_ty hrow hg
      have q2 := Ho1.out.on.ty e
      exact absurd (q1.inj q2) (by decide)
    refine ⟨⟨xs, hrow.kept hg1 ?_, hit.mono fun _ _ h => h⟩, hint.kept fun g hg => hg1.block g (hrow.lt g hg).2 fun e => hne g hg e.symm⟩
    cases hov : Value.ownBlock (.slice A3 n3 c3) with
    | none => exact .inl rfl
    | some g => exact .inr fun e => hne g hov e.symm
  obtain ⟨-, -, -, -, d4, d5, -⟩ := askBox hbx1
  have Hbx1 := Lib.hid hbx1
  have hz1 := hg1.size
  clear hrow hit hint hg1 hbx1
  go_wp2_with fail
  refine (spoilW_any _ _ _ _ _ _ Hs1.out).mono ?_
  rintro e w2 ⟨rfl, -, hg2⟩
  have hlt1 : w.heap.size < w1.heap.size := lt_of_heap Hbx1.out
  have hbx2 := (hg2.block w.heap.size hlt1 (fun e => by have := (l2.out _ e.symm).2; omega)).trans Hbx1.out
  have Hb2 := Lib.hid (Hb1.out.grown hg2 (by have := Hb1.out.size; omega) (fun g hg => (l2.out g hg).1))
  obtain ⟨⟨xs, hrow, hit⟩, hint⟩ := Hp1.out
  have Hp2 : Hid (OwP w2 base (.slice A3 n3 c3) parts) := by
    have hne : ∀ g, Value.ownBlock (.slice A3 n3 c3) = some g → blk A2 ≠ some g := fun g hg e => by
      have q1 := ownsRow_ty hrow hg
      have q2 := Hs1.out.ty e
      exact absurd (q1.inj q2) (by decide)
    refine ⟨⟨xs, hrow.kept hg2 ?_, hit.mono fun _ _ h => h⟩, hint.kept fun g hg => hg2.block g (hrow.lt g hg).2 fun e => hne g hg e.symm⟩
    cases hov : Value.ownBlock (.slice A3 n3 c3) with
    | none => exact .inl rfl
    | some g => exact .inr fun e => hne g hov e.symm
  obtain ⟨-, -, -, -, -, e5, -⟩ := askBox hbx2
  have l3 := Lib.hid (fun g (hg : Value.ownBlock (.slice A3 n3 c3) = some g) => (hrow.lt g hg))
  clear hrow hit hint hg2 hbx2 d4 d5
  go_wp2_with fail
  refine (spoilParts_any _ _ _ _ _ _ Hp2.out).mono ?_
  rintro e w3 ⟨rfl, hg3⟩
  have Hb3 := Lib.hid (Hb2.out.grown hg3 (by have := Hb2.out.size; omega) (fun g hg => (l3.out g (by cases A3 <;> simp_all [blk, Value.ownBlock])).1))
  clear hg3
  go_wp2_with fail
  go_end0
  exact ⟨rfl, Hb3.out⟩
end Go.Proofs.Ytpjmhckdeeonbaa

namespace Go.Out
open Go Go.RowKit
structure OpD where
  kind : Int
  table : Int
  at_ : Int
  val : UInt16
  ask : AskD
  bytes : List UInt8
def actU (u : UnitD) (o : OpD) : UnitD :=
  if pickF o.kind 4 = 0 then (setU u o.table o.at_ o.val).1 else if pickF o.kind 4 = 1 then u else if pickF o.kind 4 = 2 then (doU u o.ask).1 else (hearU u o.bytes).1
end Go.Out
namespace Go.Proofs.Ytpjmhckdeeonbaa
set_option linter.unusedVariables false
set_option linter.unusedSimpArgs false
set_option maxRecDepth 100000
set_option maxHeartbeats 1000000
open Go Go.RowKit Go.Out

def opV (o : OpD) (t : AskS) (B : Option Addr) (m k : Nat) : Value := .agg #[.int .i64 o.kind, .int .i64 o.table, .int .i64 o.at_, .int .u16 (o.val.toNat : Int), .int .i64 o.ask.code, .int .i64 o.ask.addr, .int .i64 o.ask.count, .slice t.A1 t.n1 t.c1, .slice t.A2 t.n2 t.c2, .slice t.A3 t.n3 t.c3, .slice B m k]
theorem cells11 {W : World} {g : Nat} {t : TypeId} {v0 v1 v2 v3 v4 v5 v6 v7 v8 v9 v10 : Value} (h : W.heap[g]? = some (.cells #[v0, v1, v2, v3, v4, v5, v6, v7, v8, v9, v10] t (0, 0))) :
    W.cell? ⟨g, 0, none⟩ = some v0 ∧ W.cell? ⟨g, 1, none⟩ = some v1 ∧ W.cell? ⟨g, 2, none⟩ = some v2 ∧ W.cell? ⟨g, 3, none⟩ = some v3 ∧ W.cell? ⟨g, 4, none⟩ = some v4 ∧ W.cell? ⟨g, 5, none⟩ = some v5 ∧ W.cell? ⟨g, 6, none⟩ = some v6 ∧ W.cell? ⟨g, 7, none⟩ = some v7 ∧ W.cell? ⟨g, 8, none⟩ = some v8 ∧ W.cell? ⟨g, 9, none⟩ = some v9 ∧ W.cell? ⟨g, 10, none⟩ = some v10 :=
  ⟨cell_of_row _ _ _ _ _ _ h, cell_of_row _ _ _ _ _ _ h, cell_of_row _ _ _ _ _ _ h, cell_of_row _ _ _ _ _ _ h, cell_of_row _ _ _ _ _ _ h, cell_of_row _ _ _ _ _ _ h, cell_of_row _ _ _ _ _ _ h, cell_of_row _ _ _ _ _ _ h, cell_of_row _ _ _ _ _ _ h, cell_of_row _ _ _ _ _ _ h, cell_of_row _ _ _ _ _ _ h⟩
/-- Both units lie there, apart, and all that w0 has is as it was. -/
structure Two (w0 w : World) (s r : UnitS) (u : UnitD) : Prop where
  a : UnitAt w s u
  b : RefAt w r u
  x : Ext w0 w
  fa : FromU w0.heap.size s
  fb : FromU w0.heap.size r
  ab : Apart2 s r
  ba : Apart2 r s
theorem Two.ext {w0 w w' : World} {s r : UnitS} {u : UnitD} (h : Two w0 w s r u) (hx : Ext w w') : Two w0 w' s r u := ⟨h.a.ext hx, h.b.ext hx, h.x.trans hx, h.fa, h.fb, h.ab, h.ba⟩
/-- An act upon the one, then the same upon the other. -/
theorem Two.acts {w0 w w1 w2 w3 : World} {s r : UnitS} {u u' : UnitD} (h : Two w0 w s r u) (a1 : UnitAt w1 s u') (o1 : OnlyU s w w1) (hx : Ext w1 w2) (b3 : RefAt w3 r u') (o3 : OnlyU r w2 w3) : Two w0 w3 s r u' :=
  ⟨(a1.ext hx).other o3 h.ab, b3, OnlyU.ext o3 h.fb ((OnlyU.ext o1 h.fa h.x).trans hx), h.fa, h.fb, h.ab, h.ba⟩
def RetDid (w0 : World) (s r : UnitS) (u' : UnitD) (e : Ending) (w' : World) : Prop := e = .returned (.bool true) ∧ Two w0 w' s r u'
theorem did_set (u : UnitD) (s r : UnitS) (o : OpD) (t : AskS) (B : Option Addr) (m k : Nat) (w0 w : World) (h : Two w0 w s r u) (hu : UnitOk u) (hk : pickF o.kind 4 = 0) :
    Calls Try.prog 45 #[.pointer (some ⟨s.p, 0, none⟩), .pointer (some ⟨r.p, 0, none⟩), opV o t B m k] w (RetDid w0 s r (actU u o)) := by
  have hact : actU u o = (setU u o.table o.at_ o.val).1 := by unfold actU; rw [if_pos hk]
  rw [hact]
  have HP := pick_eq o.kind 4
  rw [hk] at HP
  have HS := Lib.hid (fun W (hU : UnitAt W s u) => set_u u s o.table o.at_ o.val W hu hU)
  have HS2 := Lib.hid (fun W (hU : RefAt W r u) => set_r u r o.table o.at_ o.val W hu hU)
  unfold pU at HS HS2
  have HT := Lib.hid h
  have HLS : Hid (LtU s w.heap.size) := h.a.lt
  have HLR : Hid (LtU r w.heap.size) := h.b.lt
  clear h hact hu hk
  obtain ⟨kind, table, at_, val, ⟨code, addr, count, on, set, parts⟩, bytes⟩ := o
  obtain ⟨A1, n1, c1, A2, n2, c2, A3, n3, c3⟩ := t
  simp only [opV] at HP HS HS2 ⊢
  have HP := Lib.hid HP
  generalize setU u table at_ val = SU at *
  obtain ⟨u', x⟩ := SU
  simp only at HS HS2
  have hxx : (x == x) = true := by simp
  obtain ⟨q, hq⟩ : ∃ q, w.heap.size = q := ⟨_, rfl⟩
  go_enter Try.func45, Try.ntmps45
  have HB := Lib.hid (heap_alloc_new w (.cells #[.int .i64 kind, .int .i64 table, .int .i64 at_, .int .u16 (val.toNat : Int), .int .i64 code, .int .i64 addr, .int .i64 count, .slice A1 n1 c1, .slice A2 n2 c2, .slice A3 n3 c3, .slice B m k] 75))
  have HV := Lib.hid (HT.out.ext (Ext.alloc w (.cells #[.int .i64 kind, .int .i64 table, .int .i64 at_, .int .u16 (val.toNat : Int), .int .i64 code, .int .i64 addr, .int .i64 count, .slice A1 n1 c1, .slice A2 n2 c2, .slice A3 n3 c3, .slice B m k] 75)))
  go_wp2_with fail
  refine (HP.out _ (by omega) (by omega)).mono ?_
  rintro e w1 ⟨rfl, rfl⟩
  generalize w.alloc (.cells #[.int .i64 kind, .int .i64 table, .int .i64 at_, .int .u16 (val.toNat : Int), .int .i64 code, .int .i64 addr, .int .i64 count, .slice A1 n1 c1, .slice A2 n2 c2, .slice A3 n3 c3, .slice B m k] 75) = v at *
  rw [hq] at HB HLS HLR
  simp only [hq]
  obtain ⟨b0, b1, b2, b3, b4, b5, b6, b7, b8, b9, b10⟩ := cells11 HB.out
  clear b4 b5 b6 b7 b8 b9 b10
  go_wp2_with fail
  go_region_held3 (fun W => W.cell? ⟨q, 1, none⟩ = some (.int .i64 table) ∧ W.cell? ⟨q, 2, none⟩ = some (.int .i64 at_) ∧ W.cell? ⟨q, 3, none⟩ = some (.int .u16 (val.toNat : Int))) (first | go_keep | exact K5.out | exact K6.out) ((first
    | (go_at_call 48
       with_reducible refine Calls.mono (HS.out _ (HV.out.ext (Ext.draw _)).a) ?_
       rintro e w5 ⟨rfl, hua, hou⟩
       have U5 := Lib.hid hua; have O5 := Lib.hid hou
       have HB5 := Lib.hid (hou.keep HLS.out (Nat.le_refl _) HB.out)
       have R5 := Lib.hid (((HV.out.ext (Ext.draw _)).b).other hou (HV.out.ba))
       have K5 := Lib.hid (show w5.cell? ⟨q, 1, none⟩ = some (.int .i64 table) ∧ w5.cell? ⟨q, 2, none⟩ = some (.int .i64 at_) ∧ w5.cell? ⟨q, 3, none⟩ = some (.int .u16 (val.toNat : Int)) from ⟨(cells11 HB5.out).2.1, (cells11 HB5.out).2.2.1, (cells11 HB5.out).2.2.2.1⟩)
       clear hua hou)
    | (go_at_call 87
       with_reducible refine Calls.mono (HS2.out _ R5.out) ?_
       rintro e w6 ⟨rfl, hua, hou⟩
       have T6 := Lib.hid ((HV.out.ext (Ext.draw _)).acts U5.out O5.out (Ext.refl _) hua hou)
       have HB6 := Lib.hid (hou.keep HLR.out (Nat.le_refl _) HB5.out)
       have K6 := Lib.hid (show w6.cell? ⟨q, 1, none⟩ = some (.int .i64 table) ∧ w6.cell? ⟨q, 2, none⟩ = some (.int .i64 at_) ∧ w6.cell? ⟨q, 3, none⟩ = some (.int .u16 (val.toNat : Int)) from ⟨(cells11 HB6.out).2.1, (cells11 HB6.out).2.2.1, (cells11 HB6.out).2.2.2.1⟩)
       clear hua hou)))
  clear b0 b1 b2 b3
  go_wp2_with fail
  go_ret
  exact ⟨rfl, T6.out⟩
theorem did_get (u : UnitD) (s r : UnitS) (o : OpD) (t : AskS) (B : Option Addr) (m k : Nat) (w0 w : World) (h : Two w0 w s r u) (hu : UnitOk u) (hk : pickF o.kind 4 = 1) :
    Calls Try.prog 45 #[.pointer (some ⟨s.p, 0, none⟩), .pointer (some ⟨r.p, 0, none⟩), opV o t B m k] w (RetDid w0 s r (actU u o)) := by
  have hact : actU u o = u := by unfold actU; rw [if_neg (by omega), if_pos hk]
  rw [hact]
  have HP := pick_eq o.kind 4
  rw [hk] at HP
  have HS := Lib.hid (fun W (hU : UnitAt W s u) => get_u u s o.table o.at_ W hu hU)
  have HS2 := Lib.hid (fun W (hU : RefAt W r u) => get_r u r o.table o.at_ W hu hU)
  unfold pU getV at HS HS2
  have HT := Lib.hid h
  have HLS : Hid (LtU s w.heap.size) := h.a.lt
  have HLR : Hid (LtU r w.heap.size) := h.b.lt
  clear h hact hu hk
  obtain ⟨kind, table, at_, val, ⟨code, addr, count, on, set, parts⟩, bytes⟩ := o
  obtain ⟨A1, n1, c1, A2, n2, c2, A3, n3, c3⟩ := t
  simp only [opV] at HP HS HS2 ⊢
  have HP := Lib.hid HP
  obtain ⟨q, hq⟩ : ∃ q, w.heap.size = q := ⟨_, rfl⟩
  go_enter Try.func45, Try.ntmps45
  have HB := Lib.hid (heap_alloc_new w (.cells #[.int .i64 kind, .int .i64 table, .int .i64 at_, .int .u16 (val.toNat : Int), .int .i64 code, .int .i64 addr, .int .i64 count, .slice A1 n1 c1, .slice A2 n2 c2, .slice A3 n3 c3, .slice B m k] 75))
  have HV := Lib.hid (HT.out.ext (Ext.alloc w (.cells #[.int .i64 kind, .int .i64 table, .int .i64 at_, .int .u16 (val.toNat : Int), .int .i64 code, .int .i64 addr, .int .i64 count, .slice A1 n1 c1, .slice A2 n2 c2, .slice A3 n3 c3, .slice B m k] 75)))
  go_wp2_with fail
  refine (HP.out _ (by omega) (by omega)).mono ?_
  rintro e w1 ⟨rfl, rfl⟩
  have hqv : q ≤ (w.alloc (.cells #[.int .i64 kind, .int .i64 table, .int .i64 at_, .int .u16 (val.toNat : Int), .int .i64 code, .int .i64 addr, .int .i64 count, .slice A1 n1 c1, .slice A2 n2 c2, .slice A3 n3 c3, .slice B m k] 75)).heap.size := by simp; omega
  generalize w.alloc (.cells #[.int .i64 kind, .int .i64 table, .int .i64 at_, .int .u16 (val.toNat : Int), .int .i64 code, .int .i64 addr, .int .i64 count, .slice A1 n1 c1, .slice A2 n2 c2, .slice A3 n3 c3, .slice B m k] 75) = v at *
  rw [hq] at HB HLS HLR
  simp only [hq]
  obtain ⟨b0, b1, b2, b3, b4, b5, b6, b7, b8, b9, b10⟩ := cells11 HB.out
  generalize getU u table at_ = GU at *
  obtain ⟨x, y⟩ := GU
  simp only at HS HS2
  have hyy : (y == y) = true := by simp
  have hxx : ((x.toNat : Int) == (x.toNat : Int)) = true := by simp
  go_wp2_with fail
  refine (HS.out _ HV.out.a).mono ?_
  rintro e w2 ⟨rfl, rfl⟩
  go_wp2_with fail
  refine (HS2.out _ HV.out.b).mono ?_
  rintro e w2 ⟨rfl, rfl⟩
  go_wp2_with fail
  go_ret
  exact ⟨rfl, HV.out⟩
theorem Two.below {w0 w w' : World} {s r : UnitS} {u : UnitD} {C : Nat} (h : Two w0 w s r u) (hb : Below C w w') (ls : LtU s C) (lr : LtU r C) (h0 : w0.heap.size ≤ C) : Two w0 w' s r u :=
  ⟨⟨(hb.block _ ls.1).trans h.a.row, (hb.block _ ls.2.1).trans h.a.t1, (hb.block _ ls.2.2.1).trans h.a.t2, (hb.block _ ls.2.2.2.1).trans h.a.t3, (hb.block _ ls.2.2.2.2).trans h.a.t4, h.a.ne⟩,
   ⟨(hb.block _ lr.1).trans h.b.row, (hb.block _ lr.2.1).trans h.b.t1, (hb.block _ lr.2.2.1).trans h.b.t2, (hb.block _ lr.2.2.2.1).trans h.b.t3, (hb.block _ lr.2.2.2.2).trans h.b.t4, h.b.ne⟩,
   Below.trans h.x ⟨hb.os, hb.tape, hb.output, hb.size, fun k hk => hb.block k (by omega)⟩, h.fa, h.fb, h.ab, h.ba⟩
theorem own_onlyP {s : UnitS} {a b : World} {C base n c : Nat} {t : TypeId} {p : Value → Prop} {A : Option Addr} {xs : List Value} (h : Own a base t p A n c xs) (ho : OnlyU s a b) (hl : LtU s C) (hB : C ≤ base) : Own b base t p A n c xs := by
  obtain ⟨l0, l1, l2, l3, l4⟩ := hl
  exact h.kept fun g hg => by
    obtain ⟨q1, q2⟩ := h.lt g hg
    exact ho.block g q2 (by omega) (by omega) (by omega) (by omega) (by omega)
theorem did_hear (u : UnitD) (s r : UnitS) (o : OpD) (t : AskS) (B : Option Addr) (m k : Nat) (w0 w : World) (h : Two w0 w s r u) (hu : UnitOk u) (hk : pickF o.kind 4 = 3) (hrb : Rd w0 B m (o.bytes.map cB)) (hcb : m ≤ k) (hmb : m ≤ 140737488351232) (hwr : u.wrote < 4611686018427387904) :
    Calls Try.prog 45 #[.pointer (some ⟨s.p, 0, none⟩), .pointer (some ⟨r.p, 0, none⟩), opV o t B m k] w (RetDid w0 s r (actU u o)) := by
  have hact : actU u o = (hearU u o.bytes).1 := by unfold actU; rw [if_neg (by omega), if_neg (by omega), if_neg (by omega)]
  rw [hact]
  have HP := pick_eq o.kind 4
  rw [hk] at HP
  have HS := Lib.hid (fun A n c W (hU : UnitAt W s u) (hr : Rd W A n (o.bytes.map cB)) (hc : n ≤ c) => hear_any u s o.bytes A n c W hU hu hr hc hwr)
  have HS2 := Lib.hid (fun W (hU : RefAt W r u) (hr : Rd W B m (o.bytes.map cB)) => hear_any_r u r o.bytes B m k W hU hu hr hcb hwr)
  have HRB := Lib.hid (fun W (hX : Ext w0 W) => hrb.ext hX)
  unfold pU at HS HS2
  have HT := Lib.hid h
  have HLS : Hid (LtU s w.heap.size) := h.a.lt
  have HLR : Hid (LtU r w.heap.size) := h.b.lt
  clear h hact hu hk
  obtain ⟨kind, table, at_, val, ⟨code, addr, count, on, set, parts⟩, bytes⟩ := o
  obtain ⟨A1, n1, c1, A2, n2, c2, A3, n3, c3⟩ := t
  simp only [opV] at HP HS HS2 HRB ⊢
  have HP := Lib.hid HP
  obtain ⟨q, hq⟩ : ∃ q, w.heap.size = q := ⟨_, rfl⟩
  go_enter Try.func45, Try.ntmps45
  have HB := Lib.hid (heap_alloc_new w (.cells #[.int .i64 kind, .int .i64 table, .int .i64 at_, .int .u16 (val.toNat : Int), .int .i64 code, .int .i64 addr, .int .i64 count, .slice A1 n1 c1, .slice A2 n2 c2, .slice A3 n3 c3, .slice B m k] 75))
  have HV := Lib.hid (HT.out.ext (Ext.alloc w (.cells #[.int .i64 kind, .int .i64 table, .int .i64 at_, .int .u16 (val.toNat : Int), .int .i64 code, .int .i64 addr, .int .i64 count, .slice A1 n1 c1, .slice A2 n2 c2, .slice A3 n3 c3, .slice B m k] 75)))
  go_wp2_with fail
  refine (HP.out _ (by omega) (by omega)).mono ?_
  rintro e w1 ⟨rfl, rfl⟩
  have hqv : q ≤ (w.alloc (.cells #[.int .i64 kind, .int .i64 table, .int .i64 at_, .int .u16 (val.toNat : Int), .int .i64 code, .int .i64 addr, .int .i64 count, .slice A1 n1 c1, .slice A2 n2 c2, .slice A3 n3 c3, .slice B m k] 75)).heap.size := by simp; omega
  generalize w.alloc (.cells #[.int .i64 kind, .int .i64 table, .int .i64 at_, .int .u16 (val.toNat : Int), .int .i64 code, .int .i64 addr, .int .i64 count, .slice A1 n1 c1, .slice A2 n2 c2, .slice A3 n3 c3, .slice B m k] 75) = v at *
  rw [hq] at HB HLS HLR
  simp only [hq]
  obtain ⟨b0, b1, b2, b3, b4, b5, b6, b7, b8, b9, b10⟩ := cells11 HB.out
  go_wp2_with fail
  refine (lent_any bytes B m k _ (HRB.out _ HV.out.x) (by omega)).mono ?_
  rintro e w2 ⟨g, cur, rfl, hzg, hcg, hcur, hb2⟩
  have T2 := Lib.hid (HV.out.ext (Ext.of hb2)); have HB2 := Lib.hid ((Ext.of hb2).block HB.out); have HG2 := Lib.hid hcg; have HCU := Lib.hid hcur
  have HRG := Lib.hid (Rd.of_heap hcg hcur (by have := hrb.length; simp; exact this))
  clear b0 b1 b2 b3 b4 b5 b6 b7 b8 b9 b10 hb2 hcg hcur
  go_wp2_with fail
  refine (HS.out _ _ _ _ T2.out.a HRG.out (by omega)).mono ?_
  rintro e w3 ⟨A5, n5, c5, rfl, ho5, hua, hou⟩
  have U3 := Lib.hid hua; have O3 := Lib.hid hou; have H3 := Lib.hid ho5
  have R3 := Lib.hid (T2.out.b.other hou T2.out.ba); have X3 := Lib.hid (OnlyU.ext hou T2.out.fa T2.out.x)
  have HB3 := Lib.hid (hou.keep HLS.out (Nat.le_refl _) HB2.out); have HG3 := Lib.hid (hou.keep HLS.out (by omega) HG2.out)
  have z23 : w2.heap.size ≤ w3.heap.size := hou.size
  have zq2 : q ≤ w2.heap.size := by have := lt_of_heap HB2.out; omega
  clear ho5 hua hou
  obtain ⟨b0, b1, b2, b3, b4, b5, b6, b7, b8, b9, b10⟩ := cells11 HB3.out
  go_wp2_with fail
  refine (HS2.out _ R3.out (HRB.out _ X3.out)).mono ?_
  rintro e w4 ⟨A6, n6, c6, rfl, ho6, hub, hou⟩
  have T4 := Lib.hid (T2.out.acts U3.out O3.out (Ext.refl _) hub hou)
  have H4 := Lib.hid (own_onlyP H3.out hou HLR.out zq2); have HB4 := Lib.hid (hou.keep HLR.out (Nat.le_refl _) HB3.out); have HG4 := Lib.hid (hou.keep HLR.out (by omega) HG3.out)
  have HSM := Lib.hid (same_any _ _ A5 A6 n5 n6 c5 c6 w4 H4.out.rd ho6.rd (by have := H4.out.cap; have := H4.out.capLe; unfold maxLen; omega))
  rw [decide_eq_true rfl] at HSM
  clear ho6 hub hou b0 b1 b2 b3 b4 b5 b6 b7 b8 b9 b10
  go_wp2_with fail
  refine HSM.out.mono ?_
  rintro e w5 ⟨rfl, hb5⟩
  have T5 := Lib.hid (T4.out.ext (Ext.of hb5)); have HB5 := Lib.hid ((Ext.of hb5).block HB4.out); have HG5 := Lib.hid ((Ext.of hb5).block HG4.out); have H5 := Lib.hid (H4.out.ext (Ext.of hb5))
  clear hb5
  obtain ⟨b0, b1, b2, b3, b4, b5, b6, b7, b8, b9, b10⟩ := cells11 HB5.out
  go_wp2_with fail
  refine (kept_any bytes B m k g cur _ (HRB.out _ T5.out.x) HG5.out HCU.out (by omega)).mono ?_
  rintro e w6 ⟨rfl, hb6⟩
  have T6 := Lib.hid (T5.out.ext (Ext.of hb6)); have H6 := Lib.hid (H5.out.ext (Ext.of hb6))
  have z6 : q ≤ w6.heap.size := by
    have h1 := lt_of_heap HB5.out
    have h2 := hb6.size
    omega
  clear hb6 b0 b1 b2 b3 b4 b5 b6 b7 b8 b9 b10
  go_wp2_with fail
  refine (spoil_any A5 n5 c5 _ _ w6 H6.out).mono ?_
  rintro e w7 ⟨rfl, -, hg7⟩
  have T7 := Lib.hid (T6.out.below (C := q) ⟨hg7.os, hg7.tape, hg7.output, hg7.size, fun k hk => hg7.block k (Nat.lt_of_lt_of_le hk z6) (fun e => by have := (H6.out.lt _ e.symm).1; omega)⟩ HLS.out HLR.out (by have := HT.out.x.size; omega))
  clear hg7
  go_wp2_with fail
  go_ret
  exact ⟨rfl, T7.out⟩
end Go.Proofs.Ytpjmhckdeeonbaa

namespace Go.Proofs.Ytpjmhckdeeonbaa
set_option linter.unusedVariables false
set_option linter.unusedSimpArgs false
set_option maxRecDepth 100000
set_option maxHeartbeats 1000000
open Go Go.RowKit Go.Out

theorem cellsP_cut : ∀ (l : List PartD) (i : Nat) (x : PartD), l[i]? = some x → ((cellsP l).drop (i * 3)).take 3 = [.int .i64 x.file, .int .i64 x.record, .int .i64 x.len]
  | [], i, x, h => by simp at h
  | p :: r, 0, x, h => by
    simp only [List.getElem?_cons_zero, Option.some.injEq] at h
    subst h
    simp [cellsP]
  | p :: r, i + 1, x, h => by
    simp only [List.getElem?_cons_succ] at h
    have ih := cellsP_cut r i x h
    have e : cellsP (p :: r) = [.int .i64 p.file, .int .i64 p.record, .int .i64 p.len] ++ cellsP r := by simp [cellsP]
    rw [e, show (i + 1) * 3 = 3 + i * 3 by omega, ← List.drop_drop]
    exact ih
theorem lent_ow {w w0 : World} {base : Nat} {a : AskD} {s t : AskS} (h : AskLent w base a s t) (hr : AskRd w0 a s) (h1 : s.n1 ≤ 70000) (h2 : s.n2 ≤ 70000) (h3 : s.n3 ≤ 70000) : AskOw w base a t := by
  obtain ⟨⟨g1, u1, p1, p2, p3, p4, p5, p6⟩, ⟨g2, u2, q1, q2, q3, q4, q5, q6⟩, ⟨g3, u3, r1, r2, r3, r4, r5, r6⟩⟩ := h
  have e1 := hr.n1; have e2 := hr.n2; have e3 := hr.n3
  refine ⟨?_, ?_, ?_, hr.code, hr.addr, hr.count⟩
  · rw [p1, p2, p3]
    have hs : u1.size = 0 + (s.n1 + 5) := by rw [← Array.length_toList, p6]; simp [e1]
    have ho := Own.of_heap (p := IsBo) p4 p5 (off := 0) s.n1 (s.n1 + 5) (by omega) hs (by unfold maxLen; omega) (by
      intro v hv
      rw [p6] at hv
      rcases List.mem_append.1 hv with hv | hv
      · exact isBo_map v hv
      · exact ⟨true, (List.mem_replicate.1 hv).2⟩)
    rw [List.drop_zero, p6, List.take_append_of_le_length (by simp [e1]), List.take_of_length_le (by simp [e1])] at ho
    exact ho
  · rw [q1, q2, q3]
    have hs : u2.size = 0 + (s.n2 + 5) := by rw [← Array.length_toList, q6]; simp [e2]
    have ho := Own.of_heap (p := IsU16) q4 q5 (off := 0) s.n2 (s.n2 + 5) (by omega) hs (by unfold maxLen; omega) (by
      intro v hv
      rw [q6] at hv
      rcases List.mem_append.1 hv with hv | hv
      · exact isU16_map v hv
      · rw [(List.mem_replicate.1 hv).2]; exact isU16_of (by omega) (by omega))
    rw [List.drop_zero, q6, List.take_append_of_le_length (by simp [e2]), List.take_of_length_le (by simp [e2])] at ho
    exact ho
  · rw [r1, r2, r3]
    have hcp : cellsP (lentP a.parts) = cellsP a.parts ++ cellsP (List.replicate 5 ⟨-77, 0, 0⟩) := by unfold lentP cellsP; rw [List.flatMap_append]
    have hs : u3.size = (s.n3 + 5) * 3 := by rw [← Array.length_toList, r6, cellsP_length, lentP_length, e3]
    refine ⟨⟨cellsP a.parts, ⟨by rw [cellsP_length]; rfl, .inr ⟨g3, s.n3 + 5, u3, by rw [e3], r4, r5, by omega, by unfold maxLen; omega, hs, ?_⟩⟩, by rw [cellsP_length]; rfl, fun i x hx => ?_⟩, fun g hg => ?_⟩
    · rw [r6, hcp, List.take_append_of_le_length (by rw [cellsP_length]; exact Nat.le_refl _), List.take_of_length_le (by rw [cellsP_length]; exact Nat.le_refl _)]
    · obtain ⟨hi, hxx⟩ := List.getElem?_eq_some_iff.1 hx
      obtain ⟨b, o, rfl', hb, hl', cs, -, hc, hR⟩ := hr.parts.at_ (i := i) (by omega)
      rw [hxx] at hR
      obtain ⟨-, k1, k2, k3⟩ := hR
      exact ⟨cellsP_cut _ _ _ hx, k1, k2, k3⟩
    · simp only [Value.ownBlock, Option.some.injEq] at hg
      subst hg
      refine ⟨u3, _, r5, fun v hv => ?_⟩
      rw [r6] at hv
      unfold cellsP at hv
      obtain ⟨p, -, hv⟩ := List.mem_flatMap.1 hv
      simp only [List.mem_cons, List.mem_nil_iff, or_false] at hv
      rcases hv with rfl | rfl | rfl
      · exact ⟨_, rfl⟩
      · exact ⟨_, rfl⟩
      · exact ⟨_, rfl⟩
theorem lent_only {w w' : World} {base C : Nat} {a : AskD} {s t : AskS} {x : UnitS} (h : AskLent w base a s t) (ho : OnlyU x w w') (hl : LtU x C) (hB : C ≤ base) : AskLent w' base a s t := by
  obtain ⟨⟨g1, u1, p1, p2, p3, p4, p5, p6⟩, ⟨g2, u2, q1, q2, q3, q4, q5, q6⟩, ⟨g3, u3, r1, r2, r3, r4, r5, r6⟩⟩ := h
  exact ⟨⟨g1, u1, p1, p2, p3, p4, ho.keep hl (by omega) p5, p6⟩, ⟨g2, u2, q1, q2, q3, q4, ho.keep hl (by omega) q5, q6⟩, ⟨g3, u3, r1, r2, r3, r4, ho.keep hl (by omega) r5, r6⟩⟩
theorem lent_below {w w' : World} {base C : Nat} {a : AskD} {s t : AskS} (h : AskLent w base a s t) (hb : Below C w w') (hc : w.heap.size ≤ C ∨ (∀ g, t.A1 = some ⟨g, 0, none⟩ ∨ t.A2 = some ⟨g, 0, none⟩ ∨ t.A3 = some ⟨g, 0, none⟩ → g < C)) : AskLent w' base a s t := by
  obtain ⟨⟨g1, u1, p1, p2, p3, p4, p5, p6⟩, ⟨g2, u2, q1, q2, q3, q4, q5, q6⟩, ⟨g3, u3, r1, r2, r3, r4, r5, r6⟩⟩ := h
  have hg : g1 < C ∧ g2 < C ∧ g3 < C := by
    rcases hc with hc | hc
    · have := lt_of_heap p5; have := lt_of_heap q5; have := lt_of_heap r5; omega
    · exact ⟨hc _ (.inl p1), hc _ (.inr (.inl q1)), hc _ (.inr (.inr r1))⟩
  exact ⟨⟨g1, u1, p1, p2, p3, p4, (hb.block _ hg.1).trans p5, p6⟩, ⟨g2, u2, q1, q2, q3, q4, (hb.block _ hg.2.1).trans q5, q6⟩, ⟨g3, u3, r1, r2, r3, r4, (hb.block _ hg.2.2).trans r5, r6⟩⟩
theorem repow_only {x : UnitS} {a b : World} {C base : Nat} {r : RepD} {t : RepS} (hr : RepOw a base r t) (hf : r.files = []) (h : OnlyU x a b) (hl : LtU x C) (hB : C ≤ base) : RepOw b base r t := by
  obtain ⟨l0, l1, l2, l3, l4⟩ := hl
  have hk : ∀ g, base ≤ g → g < a.heap.size → b.heap[g]? = a.heap[g]? := fun g hg hw => h.block g hw (by omega) (by omega) (by omega) (by omega) (by omega)
  refine ⟨hr.on.kept fun g hg => hk g (hr.on.lt g hg).1 (hr.on.lt g hg).2, hr.set.kept fun g hg => hk g (hr.set.lt g hg).1 (hr.set.lt g hg).2, ?_, hr.n3, hr.cap3, hr.exc⟩
  obtain ⟨xs, ⟨e1, e2⟩, e3⟩ := hr.files
  rw [hf] at e1 e2 e3 ⊢
  refine ⟨xs, ⟨e1, ?_⟩, e3.1, fun i x hx => by simp at hx⟩
  rcases e2 with e2 | ⟨g, cap, cur, v1, v2, v3, v4, v5, v6, v7⟩
  · exact .inl e2
  · exact .inr ⟨g, cap, cur, v1, v2, (hk g v2 (lt_of_heap v3)).trans v3, v4, v5, v6, v7⟩
end Go.Proofs.Ytpjmhckdeeonbaa

namespace Go.Proofs.Ytpjmhckdeeonbaa
set_option linter.unusedVariables false
set_option linter.unusedSimpArgs false
set_option maxRecDepth 100000
set_option maxHeartbeats 1500000
open Go Go.RowKit Go.Out

theorem doU_files2 (u : UnitD) (a : AskD) : (doU u a).2.files = [] := by
  unfold doU
  split
  · rfl
  · split
    · rfl
    · split
      · rfl
      · split
        · rfl
        · split
          · rfl
          · split <;> rfl
theorem did_do (u : UnitD) (s r : UnitS) (o : OpD) (t : AskS) (B : Option Addr) (m k : Nat) (w0 w : World) (h : Two w0 w s r u) (hu : UnitOk u) (hk : pickF o.kind 4 = 2) (hra : AskRd w0 o.ask t) (h1 : t.n1 ≤ 70000) (h2 : t.n2 ≤ 70000) (h3 : t.n3 ≤ 70000) (hwr : u.wrote < 4611686018427387904) :
    Calls Try.prog 45 #[.pointer (some ⟨s.p, 0, none⟩), .pointer (some ⟨r.p, 0, none⟩), opV o t B m k] w (RetDid w0 s r (actU u o)) := by
  have hact : actU u o = (doU u o.ask).1 := by unfold actU; rw [if_neg (by omega), if_neg (by omega), if_pos hk]
  rw [hact]
  have HP := pick_eq o.kind 4
  rw [hk] at HP
  have hfl := doU_files2 u o.ask
  have HLN := Lib.hid (fun W (hX : Ext w0 W) => lentAsk_any o.ask t W (hra.ext hX) h1 h2 h3)
  have HKP := Lib.hid (fun t' base W (hX : Ext w0 W) (hl : AskLent W base o.ask t t') => keptAsk_any o.ask t t' base W (hra.ext hX) hl h1 h2 h3)
  have HSP := Lib.hid (fun t' base W (hl : AskLent W base o.ask t t') (hb : base ≤ W.heap.size) => spoilAsk_any o.ask t' base W (lent_ow hl hra h1 h2 h3) hb)
  have HLR2 := Lib.hid (fun t' base W (hl : AskLent W base o.ask t t') => hl.rd hra h1 h2 h3)
  have HRA := Lib.hid hra
  have HS := Lib.hid (fun t' W (hU : UnitAt W s u) (hA : AskRd W o.ask t') => do_any u s o.ask t' W hU hu hA hwr)
  have HS2 := Lib.hid (fun W (hU : RefAt W r u) (hX : Ext w0 W) (hal : ∀ W', OnlyU r W W' → Rd W' t.A2 t.n2 (o.ask.set.map cW)) => do_any_r u r o.ask t W hU hu (hra.ext hX) hal hwr)
  obtain ⟨DU, hDU⟩ : ∃ p, doU u o.ask = p := ⟨_, rfl⟩
  unfold RetDo at HS
  unfold RetDoR at HS2
  rw [hDU] at HS HS2 hfl ⊢
  obtain ⟨u', ex, on', set', files'⟩ := DU
  simp only at hfl
  subst hfl
  unfold pU at HS HS2
  have HT := Lib.hid h
  have HLS : Hid (LtU s w.heap.size) := h.a.lt
  have HLR : Hid (LtU r w.heap.size) := h.b.lt
  clear h hact hu hk hra hDU
  obtain ⟨kind, table, at_, val, ⟨code, addr, count, on, set, parts⟩, bytes⟩ := o
  obtain ⟨A1, n1, c1, A2, n2, c2, A3, n3, c3⟩ := t
  simp only [opV, askV] at HP HLN HKP HSP HS HS2 ⊢
  simp only at HRA HLR2
  have HP := Lib.hid HP
  obtain ⟨q, hq⟩ : ∃ q, w.heap.size = q := ⟨_, rfl⟩
  go_enter Try.func45, Try.ntmps45
  have HB := Lib.hid (heap_alloc_new w (.cells #[.int .i64 kind, .int .i64 table, .int .i64 at_, .int .u16 (val.toNat : Int), .int .i64 code, .int .i64 addr, .int .i64 count, .slice A1 n1 c1, .slice A2 n2 c2, .slice A3 n3 c3, .slice B m k] 75))
  have HV := Lib.hid (HT.out.ext (Ext.alloc w (.cells #[.int .i64 kind, .int .i64 table, .int .i64 at_, .int .u16 (val.toNat : Int), .int .i64 code, .int .i64 addr, .int .i64 count, .slice A1 n1 c1, .slice A2 n2 c2, .slice A3 n3 c3, .slice B m k] 75)))
  go_wp2_with fail
  refine (HP.out _ (by omega) (by omega)).mono ?_
  rintro e w1 ⟨rfl, rfl⟩
  have hqv : q + 1 = (w.alloc (.cells #[.int .i64 kind, .int .i64 table, .int .i64 at_, .int .u16 (val.toNat : Int), .int .i64 code, .int .i64 addr, .int .i64 count, .slice A1 n1 c1, .slice A2 n2 c2, .slice A3 n3 c3, .slice B m k] 75)).heap.size := by simp [hq]
  generalize w.alloc (.cells #[.int .i64 kind, .int .i64 table, .int .i64 at_, .int .u16 (val.toNat : Int), .int .i64 code, .int .i64 addr, .int .i64 count, .slice A1 n1 c1, .slice A2 n2 c2, .slice A3 n3 c3, .slice B m k] 75) = v at *
  rw [hq] at HB HLS HLR
  simp only [hq]
  obtain ⟨b0, b1, b2, b3, b4, b5, b6, b7, b8, b9, b10⟩ := cells11 HB.out
  go_wp2_with fail
  refine (HLN.out _ HV.out.x).mono ?_
  rintro e w2 ⟨⟨E1, m1, k1, E2, m2, k2, E3, m3, k3⟩, rfl, hl2, hx2⟩
  have T2 := Lib.hid ((HV.out.ext hx2).ext (Ext.alloc w2 (.cells #[.int .i64 code, .int .i64 addr, .int .i64 count, .slice E1 m1 k1, .slice E2 m2 k2, .slice E3 m3 k3] 26))); have HB2 := Lib.hid ((Ext.alloc w2 (.cells #[.int .i64 code, .int .i64 addr, .int .i64 count, .slice E1 m1 k1, .slice E2 m2 k2, .slice E3 m3 k3] 26)).block (hx2.block HB.out)); have L2 := Lib.hid (hl2.ext (Ext.alloc w2 (.cells #[.int .i64 code, .int .i64 addr, .int .i64 count, .slice E1 m1 k1, .slice E2 m2 k2, .slice E3 m3 k3] 26)))
  have HC2 := Lib.hid (heap_alloc_new w2 (.cells #[.int .i64 code, .int .i64 addr, .int .i64 count, .slice E1 m1 k1, .slice E2 m2 k2, .slice E3 m3 k3] 26))
  have z2 : q + 1 ≤ w2.heap.size := by have := hx2.size; omega
  have zv2 : (w2.alloc (.cells #[.int .i64 code, .int .i64 addr, .int .i64 count, .slice E1 m1 k1, .slice E2 m2 k2, .slice E3 m3 k3] 26)).heap.size = w2.heap.size + 1 := by simp
  clear b0 b1 b2 b3 b4 b5 b6 b7 b8 b9 b10 hl2 hx2
  go_wp2_with fail
  obtain ⟨q11, hq11⟩ : ∃ x, w2.heap.size = x := ⟨_, rfl⟩
  generalize w2.alloc (.cells #[.int .i64 code, .int .i64 addr, .int .i64 count, .slice E1 m1 k1, .slice E2 m2 k2, .slice E3 m3 k3] 26) = w2' at *
  rw [hq11] at HC2 z2 zv2
  simp only [hq11]
  refine (HS.out _ _ T2.out.a (HLR2.out _ _ _ L2.out)).mono ?_
  rintro e w3 ⟨⟨G1, p1, y1, G2, p2, y2, G3, p3, y3⟩, rfl, hro, hua, hou, -⟩
  simp only [repV]
  have U3 := Lib.hid hua; have O3 := Lib.hid hou
  have z3 : w2'.heap.size ≤ w3.heap.size := hou.size
  have HB3 := Lib.hid ((Ext.alloc w3 (.cells #[.int .i64 ex, .slice G1 p1 y1, .slice G2 p2 y2, .slice G3 p3 y3] 29)).block (hou.keep HLS.out (Nat.le_refl _) HB2.out)); have HC3 := Lib.hid ((Ext.alloc w3 (.cells #[.int .i64 ex, .slice G1 p1 y1, .slice G2 p2 y2, .slice G3 p3 y3] 29)).block (hou.keep HLS.out (by omega) HC2.out)); have HD3 := Lib.hid (heap_alloc_new w3 (.cells #[.int .i64 ex, .slice G1 p1 y1, .slice G2 p2 y2, .slice G3 p3 y3] 29))
  have L3 := Lib.hid ((lent_only L2.out hou HLS.out (by omega)).ext (Ext.alloc w3 (.cells #[.int .i64 ex, .slice G1 p1 y1, .slice G2 p2 y2, .slice G3 p3 y3] 29)))
  have R3 := Lib.hid ((T2.out.b.other hou T2.out.ba).ext (Ext.alloc w3 (.cells #[.int .i64 ex, .slice G1 p1 y1, .slice G2 p2 y2, .slice G3 p3 y3] 29)))
  have X3 := Lib.hid ((OnlyU.ext hou T2.out.fa T2.out.x).trans (Ext.alloc w3 (.cells #[.int .i64 ex, .slice G1 p1 y1, .slice G2 p2 y2, .slice G3 p3 y3] 29)))
  have W3 := Lib.hid (hro.ext (Ext.alloc w3 (.cells #[.int .i64 ex, .slice G1 p1 y1, .slice G2 p2 y2, .slice G3 p3 y3] 29)))
  have EA := Lib.hid (Ext.alloc w3 (.cells #[.int .i64 ex, .slice G1 p1 y1, .slice G2 p2 y2, .slice G3 p3 y3] 29))
  clear hro hua hou
  go_wp2_with fail
  obtain ⟨q12, hq12⟩ : ∃ x, w3.heap.size = x := ⟨_, rfl⟩
  generalize w3.alloc (.cells #[.int .i64 ex, .slice G1 p1 y1, .slice G2 p2 y2, .slice G3 p3 y3] 29) = w4 at *
  rw [hq12] at HD3 z3
  simp only [hq12]
  have HSS : Hid (∀ W : World, W.heap[q12]? = some (.cells #[.int .i64 ex, .slice G1 p1 y1, .slice G2 p2 y2, .slice G3 p3 y3] 29 (0, 0)) → W.heap[q]? = some (.cells #[.int .i64 kind, .int .i64 table, .int .i64 at_, .int .u16 (val.toNat : Int), .int .i64 code, .int .i64 addr, .int .i64 count, .slice A1 n1 c1, .slice A2 n2 c2, .slice A3 n3 c3, .slice B m k] 75 (0, 0)) → W.heap[q11]? = some (.cells #[.int .i64 code, .int .i64 addr, .int .i64 count, .slice E1 m1 k1, .slice E2 m2 k2, .slice E3 m3 k3] 26 (0, 0)) → ((W.cell? ⟨q12, 0, none⟩ = some (.int .i64 ex) ∧ W.cell? ⟨q12, 1, none⟩ = some (.slice G1 p1 y1) ∧ W.cell? ⟨q12, 2, none⟩ = some (.slice G2 p2 y2) ∧ W.cell? ⟨q12, 3, none⟩ = some (.slice G3 p3 y3)) ∧ (W.cell? ⟨q, 4, none⟩ = some (.int .i64 code) ∧ W.cell? ⟨q, 5, none⟩ = some (.int .i64 addr) ∧ W.cell? ⟨q, 6, none⟩ = some (.int .i64 count) ∧ W.cell? ⟨q, 7, none⟩ = some (.slice A1 n1 c1) ∧ W.cell? ⟨q, 8, none⟩ = some (.slice A2 n2 c2) ∧ W.cell? ⟨q, 9, none⟩ = some (.slice A3 n3 c3)) ∧ (W.cell? ⟨q11, 0, none⟩ = some (.int .i64 code) ∧ W.cell? ⟨q11, 1, none⟩ = some (.int .i64 addr) ∧ W.cell? ⟨q11, 2, none⟩ = some (.int .i64 count) ∧ W.cell? ⟨q11, 3, none⟩ = some (.slice E1 m1 k1) ∧ W.cell? ⟨q11, 4, none⟩ = some (.slice E2 m2 k2) ∧ W.cell? ⟨q11, 5, none⟩ = some (.slice E3 m3 k3)))) := fun W x1 x2 x3 => by
    obtain ⟨-, -, -, -, i4, i5, i6, i7, i8, i9, -⟩ := cells11 x2
    exact ⟨cells4 x1, ⟨i4, i5, i6, i7, i8, i9⟩, cells6 x3⟩
  obtain ⟨⟨b0, b1, b2, b3⟩, ⟨b4, b5, b6, b7, b8, b9⟩, d0, d1, d2, d3, d4, d5⟩ := HSS.out _ HD3.out HB3.out HC3.out
  go_region_held3 (fun W => ((W.cell? ⟨q12, 0, none⟩ = some (.int .i64 ex) ∧ W.cell? ⟨q12, 1, none⟩ = some (.slice G1 p1 y1) ∧ W.cell? ⟨q12, 2, none⟩ = some (.slice G2 p2 y2) ∧ W.cell? ⟨q12, 3, none⟩ = some (.slice G3 p3 y3)) ∧ (W.cell? ⟨q, 4, none⟩ = some (.int .i64 code) ∧ W.cell? ⟨q, 5, none⟩ = some (.int .i64 addr) ∧ W.cell? ⟨q, 6, none⟩ = some (.int .i64 count) ∧ W.cell? ⟨q, 7, none⟩ = some (.slice A1 n1 c1) ∧ W.cell? ⟨q, 8, none⟩ = some (.slice A2 n2 c2) ∧ W.cell? ⟨q, 9, none⟩ = some (.slice A3 n3 c3)) ∧ (W.cell? ⟨q11, 0, none⟩ = some (.int .i64 code) ∧ W.cell? ⟨q11, 1, none⟩ = some (.int .i64 addr) ∧ W.cell? ⟨q11, 2, none⟩ = some (.int .i64 count) ∧ W.cell? ⟨q11, 3, none⟩ = some (.slice E1 m1 k1) ∧ W.cell? ⟨q11, 4, none⟩ = some (.slice E2 m2 k2) ∧ W.cell? ⟨q11, 5, none⟩ = some (.slice E3 m3 k3)))) (first | go_keep | exact K5.out | exact K6.out | exact K7.out) ((first
    | (go_at_call 89
       with_reducible refine Calls.mono (HS2.out _ (R3.out.ext (Ext.draw _)) (X3.out.trans (Ext.draw _)) (fun W' ho => (HRA.out.ext (OnlyU.ext ho T2.out.fb (X3.out.trans (Ext.draw _)))).set)) ?_
       rintro e w5 ⟨⟨F1, g1, x1, F2, g2, x2, F3, g3, x3⟩, rfl, hro, hub, hou, -⟩
       have J1 := Lib.hid (hou.keep HLR.out (by omega) HD3.out); have J2 := Lib.hid (hou.keep HLR.out (Nat.le_refl _) HB3.out); have J3 := Lib.hid (hou.keep HLR.out (by omega) HC3.out)
       have K5 := Lib.hid (HSS.out w5 J1.out J2.out J3.out)
       have T5 := Lib.hid (T2.out.acts U3.out O3.out (EA.out.trans (Ext.draw _)) hub hou)
       have W5 := Lib.hid (repow_only (W3.out.ext (Ext.draw _)) rfl hou HLR.out (by omega))
       have L5 := Lib.hid (lent_only (L3.out.ext (Ext.draw _)) hou HLR.out (by omega))
       have SR := Lib.hid (same_reply ⟨ex, on', set', []⟩ ⟨G1, p1, y1, G2, p2, y2, G3, p3, y3⟩ ⟨F1, g1, x1, F2, g2, x2, F3, g3, x3⟩ w5 W5.out.rd hro.rd)
       simp only [repV] at SR ⊢
       clear hro hub hou)
    | (go_at_call 24
       with_reducible refine Calls.mono SR.out ?_
       rintro e w6 ⟨rfl, hx6⟩
       have X6 := Lib.hid hx6
       have K6 := Lib.hid (HSS.out w6 (hx6.block J1.out) (hx6.block J2.out) (hx6.block J3.out))
       have KA := Lib.hid (HKP.out _ _ w6 (T5.out.x.trans hx6) (L5.out.ext hx6))
       clear hx6)
    | (go_at_call 23
       with_reducible refine Calls.mono KA.out ?_
       rintro e w7 ⟨rfl, hx7⟩
       have X7 := Lib.hid (X6.out.trans hx7)
       have K7 := Lib.hid (HSS.out w7 (X7.out.block J1.out) (X7.out.block J2.out) (X7.out.block J3.out))
       clear hx7)))
  clear b0 b1 b2 b3 b4 b5 b6 b7 b8 b9 d0 d1 d2 d3 d4 d5
  obtain ⟨⟨b0, b1, b2, b3⟩, -, -⟩ := K7.out
  have HSR := Lib.hid (spoilReply_any ⟨ex, on', set', []⟩ ⟨G1, p1, y1, G2, p2, y2, G3, p3, y3⟩ _ w5 w7 W5.out X7.out (by have h := lt_of_heap J1.out; omega))
  simp only [repV] at HSR
  have HLL : Hid (∀ g, E1 = some ⟨g, 0, none⟩ ∨ E2 = some ⟨g, 0, none⟩ ∨ E3 = some ⟨g, 0, none⟩ → g < w2'.heap.size) := by
    obtain ⟨⟨g1, u1, p1, -, -, -, p5, -⟩, ⟨g2, u2, p2, -, -, -, p6, -⟩, ⟨g3, u3, p3, -, -, -, p7, -⟩⟩ := L2.out
    simp only at p1 p2 p3
    have l1 := lt_of_heap p5; have l2 := lt_of_heap p6; have l3 := lt_of_heap p7
    intro g hg
    rcases hg with hg | hg | hg
    · rw [p1] at hg; injection hg with hg; injection hg with hg; omega
    · rw [p2] at hg; injection hg with hg; injection hg with hg; omega
    · rw [p3] at hg; injection hg with hg; injection hg with hg; omega
  have lm : ∀ {x : UnitS} {a b : Nat}, LtU x a → a ≤ b → LtU x b := fun h hab => ⟨by have := h.1; omega, by have := h.2.1; omega, by have := h.2.2.1; omega, by have := h.2.2.2.1; omega, by have := h.2.2.2.2; omega⟩
  have HLS2 := Lib.hid (lm HLS.out (show q ≤ w2'.heap.size by omega)); have HLR3 := Lib.hid (lm HLR.out (show q ≤ w2'.heap.size by omega))
  have HLS3 := Lib.hid (lm HLS.out (show q ≤ v.heap.size by omega)); have HLR4 := Lib.hid (lm HLR.out (show q ≤ v.heap.size by omega))
  have h0v : w0.heap.size ≤ v.heap.size := HV.out.x.size
  clear lm
  go_wp2_with fail
  refine HSR.out.mono ?_
  rintro e w8 ⟨rfl, hm⟩
  have T8 := Lib.hid ((T5.out.ext X7.out).below hm.below HLS2.out HLR3.out (by omega))
  have J8 := Lib.hid ((hm.below.block q11 (by omega)).trans (X7.out.block J3.out))
  have L8 := Lib.hid (lent_below (L5.out.ext X7.out) hm.below (.inr HLL.out))
  have z8 : v.heap.size ≤ w8.heap.size := by have := lt_of_heap J8.out; have := hm.below.size; have := lt_of_heap J1.out; have := X7.out.size; omega
  clear hm b0 b1 b2 b3
  obtain ⟨d0, d1, d2, d3, d4, d5⟩ := cells6 J8.out
  go_wp2_with fail
  refine (HSP.out _ _ w8 L8.out z8).mono ?_
  rintro e w9 ⟨rfl, hb9⟩
  have T9 := Lib.hid (T8.out.below hb9 HLS3.out HLR4.out h0v)
  clear hb9
  go_wp2_with fail
  go_ret
  exact ⟨rfl, T9.out⟩
theorem did_any (u : UnitD) (s r : UnitS) (o : OpD) (t : AskS) (B : Option Addr) (m k : Nat) (w0 w : World) (h : Two w0 w s r u) (hu : UnitOk u) (hra : AskRd w0 o.ask t) (h1 : t.n1 ≤ 70000) (h2 : t.n2 ≤ 70000) (h3 : t.n3 ≤ 70000)
    (hrb : Rd w0 B m (o.bytes.map cB)) (hcb : m ≤ k) (hmb : m ≤ 140737488351232) (hwr : u.wrote < 4611686018427387904) :
    Calls Try.prog 45 #[.pointer (some ⟨s.p, 0, none⟩), .pointer (some ⟨r.p, 0, none⟩), opV o t B m k] w (RetDid w0 s r (actU u o)) := by
  have hp := pickF_lt o.kind 4 (by omega)
  by_cases k0 : pickF o.kind 4 = 0
  · exact did_set u s r o t B m k w0 w h hu k0
  · by_cases k1 : pickF o.kind 4 = 1
    · exact did_get u s r o t B m k w0 w h hu k1
    · by_cases k2 : pickF o.kind 4 = 2
      · exact did_do u s r o t B m k w0 w h hu k2 hra h1 h2 h3 hwr
      · exact did_hear u s r o t B m k w0 w h hu (by omega) hrb hcb hmb hwr
end Go.Proofs.Ytpjmhckdeeonbaa

namespace Go.Out
open Go Go.RowKit
theorem setU_ok {u : UnitD} (h : UnitOk u) (k i : Int) (v : UInt16) : UnitOk (setU u k i v).1 := by
  unfold setU
  split
  · exact h
  · split
    · exact h
    · unfold putU tabU
      split
      · exact ⟨by simp [h.l1], h.l2, h.l3, h.l4, h.s, h.a⟩
      · split
        · exact ⟨h.l1, by simp [h.l2], h.l3, h.l4, h.s, h.a⟩
        · split
          · exact ⟨h.l1, h.l2, by simp [h.l3], h.l4, h.s, h.a⟩
          · exact ⟨h.l1, h.l2, h.l3, by simp [h.l4], h.s, h.a⟩
theorem setU_wrote (u : UnitD) (k i : Int) (v : UInt16) : (setU u k i v).1.wrote = u.wrote ∧ (setU u k i v).1.size = u.size := by
  unfold setU
  split
  · exact ⟨rfl, rfl⟩
  · split
    · exact ⟨rfl, rfl⟩
    · unfold putU
      split
      · exact ⟨rfl, rfl⟩
      · split
        · exact ⟨rfl, rfl⟩
        · split <;> exact ⟨rfl, rfl⟩
theorem hearU_cases (u : UnitD) (b : List UInt8) : (hearU u b).1 = u ∨ ∃ a, (hearU u b).1 = (doU u a).1 := by
  unfold hearU
  split
  · exact .inl rfl
  · split
    · exact .inl rfl
    · split
      · exact .inl rfl
      · exact .inr ⟨_, rfl⟩
theorem actU_ok {u : UnitD} (h : UnitOk u) (o : OpD) : UnitOk (actU u o) := by
  unfold actU
  split
  · exact setU_ok h _ _ _
  · split
    · exact h
    · split
      · exact doU_ok h
      · rcases hearU_cases u o.bytes with e | ⟨a, e⟩
        · rw [e]; exact h
        · rw [e]; exact doU_ok h
theorem actU_wrote (u : UnitD) (o : OpD) : (actU u o).wrote ≤ u.wrote + 1 ∧ (actU u o).size = u.size := by
  unfold actU
  split
  · have h := setU_wrote u o.table o.at_ o.val; exact ⟨by omega, h.2⟩
  · split
    · exact ⟨by omega, rfl⟩
    · split
      · exact ⟨doU_wrote u o.ask, (doU_addr u o.ask).2⟩
      · rcases hearU_cases u o.bytes with e | ⟨a, e⟩
        · rw [e]; exact ⟨by omega, rfl⟩
        · rw [e]; exact ⟨doU_wrote u a, (doU_addr u a).2⟩
def actsU (u : UnitD) (l : List OpD) : UnitD := l.foldl actU u
theorem actsU_snoc (u : UnitD) (l : List OpD) (o : OpD) : actsU u (l ++ [o]) = actU (actsU u l) o := by unfold actsU; rw [List.foldl_append]; rfl
theorem actsU_ok {u : UnitD} {l : List OpD} (h : UnitOk u) : UnitOk (actsU u l) := by
  induction l generalizing u with
  | nil => exact h
  | cons a l ih => exact ih (actU_ok h a)
theorem actsU_wrote (u : UnitD) (l : List OpD) : (actsU u l).wrote ≤ u.wrote + l.length ∧ (actsU u l).size = u.size := by
  induction l generalizing u with
  | nil => exact ⟨by simp [actsU], rfl⟩
  | cons a l ih =>
    have h1 := ih (actU u a)
    have h2 := actU_wrote u a
    simp only [List.length_cons]
    exact ⟨show (actsU (actU u a) l).wrote ≤ _ by omega, h1.2.trans h2.2⟩
end Go.Out
namespace Go.Proofs.Ytpjmhckdeeonbaa
open Go Go.RowKit Go.ChangeShapes Go.WideShapes Go.Deep Go.Out
set_option linter.unusedVariables false
set_option maxRecDepth 100000
/-- An act's eleven cells. -/
def opK : Kind OpD := ⟨11, fun w cs x => ∃ (t : AskS) (B : Option Addr) (m k : Nat), cs = [.int .i64 x.kind, .int .i64 x.table, .int .i64 x.at_, .int .u16 (x.val.toNat : Int), .int .i64 x.ask.code, .int .i64 x.ask.addr, .int .i64 x.ask.count, .slice t.A1 t.n1 t.c1, .slice t.A2 t.n2 t.c2, .slice t.A3 t.n3 t.c3, .slice B m k] ∧
    AskRd w x.ask t ∧ Rd w B m (x.bytes.map cB) ∧ m ≤ k ∧ k ≤ 140737488351232,
  fun ⟨t, B, m, k, h, hr, hb, h1, h2⟩ hx => ⟨t, B, m, k, h, hr.ext hx, hb.ext hx, h1, h2⟩⟩
theorem sees_op {H : Type} {enc : TypeId × Value → H} {w : World} {cs : List Value} (h : Sees enc Try.prog w 75 cs) : ∃ x : OpD, opK.R w cs x := by
  obtain ⟨hl, hf⟩ := sees_struct Try.underlying75 h
  rw [show Try.prog.cellsOf 75 = 11 from by kernel_rfl] at hl
  match cs, hl with
  | [v0, v1, v2, v3, v4, v5, v6, v7, v8, v9, v10], _ =>
    have h0 := hf 0 _ rfl; have h1 := hf 1 _ rfl; have h2 := hf 2 _ rfl; have h3 := hf 3 _ rfl; have h4 := hf 4 _ rfl; have h5 := hf 5 _ rfl
    obtain ⟨a0, rfl, wf0⟩ := sees_int Try.underlying3 h0
    obtain ⟨a1, rfl, wf1⟩ := sees_int Try.underlying3 h1
    obtain ⟨a2, rfl, wf2⟩ := sees_int Try.underlying3 h2
    obtain ⟨a3, rfl, wf3⟩ := sees_int Try.underlying54 h3
    have h4' : Sees enc Try.prog w 26 (#[v4, v5, v6, v7, v8, v9] : Array Value).toList := h4
    obtain ⟨a, t, he, hr⟩ := sees_ask h4'
    obtain ⟨l1, B, m, k, rfl, hrb, hcb, hmb, hbb⟩ := sees_u8s Try.underlying36 (by kernel_rfl) Try.underlying5 h5
    have hb3 := bounds_u16 wf3
    obtain ⟨x3, hx3⟩ := isU16_of hb3.1 hb3.2
    injection he with he
    simp only [List.cons.injEq, and_true] at he
    obtain ⟨rfl, rfl, rfl, rfl, rfl, rfl⟩ := he
    rw [hx3]
    exact ⟨⟨a0, a1, a2, x3, a, l1⟩, t, B, m, k, rfl, hr, hrb, hcb, by rw [show Try.prog.bytesOf 5 = 1 from by kernel_rfl] at hbb; omega⟩
theorem sees_ops {H : Type} {enc : TypeId × Value → H} {w : World} {v : Value} (h : Sees enc Try.prog w 68 [v]) :
    ∃ (l : List OpD) (A : Option Addr) (n c : Nat), v = .slice A n c ∧ RdL opK w A n l ∧ n ≤ c ∧ c ≤ 9223372036854775807 :=
  sees_list ⟨0, 0, 0, 0, ⟨0, 0, 0, [], [], []⟩, []⟩ opK Try.underlying68 (by kernel_rfl) (by decide) (fun cs hs => sees_op hs) h
theorem ops_at {w : World} {A : Option Addr} {n k : Nat} {l : List OpD} (h : RdL opK w A n l) (hk : k < n) : ∃ b off, ∃ hl : k < l.length, ∃ (t : AskS) (B : Option Addr) (m c : Nat), A = some ⟨b, off, none⟩ ∧ b < w.heap.size ∧ AskRd w l[k].ask t ∧ Rd w B m (l[k].bytes.map cB) ∧ m ≤ c ∧ c ≤ 140737488351232 ∧
    ∀ j v, [.int .i64 l[k].kind, .int .i64 l[k].table, .int .i64 l[k].at_, .int .u16 (l[k].val.toNat : Int), .int .i64 l[k].ask.code, .int .i64 l[k].ask.addr, .int .i64 l[k].ask.count, .slice t.A1 t.n1 t.c1, .slice t.A2 t.n2 t.c2, .slice t.A3 t.n3 t.c3, .slice B m c][j]? = some v → w.cell? ⟨b, off + (k * 11 + j), none⟩ = some v := by
  obtain ⟨b, off, rfl, hbk, hl', cs, -, hc, t, B, m, c, rfl, hR, hrb, h1, h2⟩ := h.at_ hk
  exact ⟨b, off, hl', t, B, m, c, rfl, hbk, hR, hrb, h1, h2, fun j v hv => hc j v hv⟩
end Go.Proofs.Ytpjmhckdeeonbaa

namespace Go.Out
open Go Go.RowKit
theorem getU_in {u : UnitD} (_h : UnitOk u) (k : Int) (i : Nat) (hk : 1 ≤ k ∧ k ≤ 4) (hi : i < u.size) : getU u k (i : Int) = ((tabU u k).getD i 0, 0) := by
  unfold getU thereU
  rw [if_neg (by rw [if_neg (by omega), if_neg (by omega)]; simp)]; rfl
end Go.Out
namespace Go.Proofs.Ytpjmhckdeeonbaa
set_option linter.unusedVariables false
set_option linter.unusedSimpArgs false
set_option maxRecDepth 100000
set_option maxHeartbeats 1500000
open Go Go.RowKit Go.Out

theorem get_p {u : UnitD} {s : UnitS} {w : World} (k i r : Int) (v : UInt16) (nv : Int) (hv : (v.toNat : Int) = nv) (hu : UnitOk u) (hs : getU u k i = (v, r)) (h : UnitAt w s u) : Calls Try.prog 46 #[.pointer (some ⟨s.p, 0, none⟩), .int .i64 k, .int .i64 i] w
    (fun e w' => e = .returned (.tuple #[.int .u16 nv, .int .i64 r]) ∧ w = w') := by
  have h2 := get_u u s k i w hu h
  unfold getV at h2
  rw [hs, hv] at h2
  exact h2
theorem new_p (a z x : Int) (h : newE a z = x) (h0 : x ≠ 0) (w : World) : Calls Try.prog 43 #[.int .i64 a, .int .i64 z] w (fun e w' => e = .returned (.tuple #[.pointer none, .int .i64 x]) ∧ w = w') := by
  refine (new_u a z w).mono ?_
  subst h
  rintro e w' (⟨h, rfl, rfl⟩ | ⟨h, -⟩)
  · exact ⟨rfl, rfl⟩
  · exact absurd h h0
theorem newr_p (a z x : Int) (h : newE a z = x) (h0 : x ≠ 0) (w : World) : Calls Try.prog 44 #[.int .i64 a, .int .i64 z] w (fun e w' => e = .returned (.tuple #[.pointer none, .int .i64 x]) ∧ w = w') := by
  refine (new_r a z w).mono ?_
  subst h
  rintro e w' (⟨h, rfl, rfl⟩ | ⟨h, -⟩)
  · exact ⟨rfl, rfl⟩
  · exact absurd h h0
theorem newr_v (a z : Nat) (w : World) (ha : 1 ≤ a ∧ a ≤ 247) (hz : 1 ≤ z ∧ z ≤ 1024) : Calls Try.prog 44 #[.int .i64 (a : Int), .int .i64 (z : Int)] w
    (fun e w' => ∃ s, e = .returned (.tuple #[.pointer (some ⟨s.p, 0, none⟩), .int .i64 0]) ∧ RefAt w' s (newU a z) ∧ Ext w w' ∧ FromU w.heap.size s) := by
  refine (new_r a z w).mono ?_
  have h0 : newE a z = 0 := by unfold newE; rw [if_neg (by omega), if_neg (by omega)]
  rintro e w' (⟨h, -⟩ | ⟨-, s, rfl, hU, hx, hF⟩)
  · exact absurd h0 h
  · exact ⟨s, rfl, by simpa using hU, hx, hF⟩
theorem apart_p {s t : UnitS} {C : Nat} (hs : LtU s C) (ht : FromU C t) : Apart2 t s ∧ Apart2 s t := by
  obtain ⟨a0, a1, a2, a3, a4⟩ := hs
  obtain ⟨b0, b1, b2, b3, b4⟩ := ht
  refine ⟨?_, ?_⟩
  · rintro k (rfl | rfl | rfl | rfl | rfl) <;> exact ⟨by omega, by omega, by omega, by omega, by omega⟩
  · rintro k (rfl | rfl | rfl | rfl | rfl) <;> exact ⟨by omega, by omega, by omega, by omega, by omega⟩
theorem lawUnitPlays (a z : Int) (l : List OpD) (A : Option Addr) (n c : Nat) (w : World) (wfa : (Lit.int .i64 a).wf = true) (wfz : (Lit.int .i64 z).wf = true) (hr : RdL opK w A n l) (hc : n ≤ c) (hm : c ≤ 9223372036854775807) :
    Calls Try.prog 11 #[.int .i64 a, .int .i64 z, .slice A n c] w (RetQ w true) := by
  have hlen := hr.length
  have HR := Lib.hid hr
  clear hr
  by_cases h0 : newE a z = 0
  · have haz : 1 ≤ a ∧ a ≤ 247 ∧ 1 ≤ z ∧ z ≤ 1024 := by
      unfold newE at h0
      split at h0
      · omega
      · split at h0
        · omega
        · omega
    obtain ⟨ad, rfl⟩ : ∃ x : Nat, a = (x : Int) := ⟨a.toNat, by omega⟩
    obtain ⟨sz, rfl⟩ : ∃ x : Nat, z = (x : Int) := ⟨z.toNat, by omega⟩
    have HN1 := Lib.hid (fun W => new_v ad sz W (by omega) (by omega))
    have HN2 := Lib.hid (fun W => newr_v ad sz W (by omega) (by omega))
    have HOK : Hid (UnitOk (newU ad sz)) := newU_ok (by omega) (by omega)
    have HU0 : Hid ((newU ad sz).wrote = 0 ∧ (newU ad sz).size = sz) := ⟨rfl, rfl⟩
    clear h0 wfa wfz
    generalize newU ad sz = u0 at *
    go_enter Try.func11, Try.ntmps11
    go_wp2_with fail
    refine (HN1.out _).mono ?_
    rintro e w1 ⟨s, rfl, hU, hx1, hF⟩
    have V1 := Lib.hid hU; have X1 := Lib.hid hx1; have F1 := Lib.hid hF; have L1 : Hid (LtU s w1.heap.size) := hU.lt
    clear hU hx1 hF
    go_wp2_with fail
    refine (HN2.out _).mono ?_
    rintro e w2 ⟨r, rfl, hU, hx2, hF⟩
    have T2 : Hid (Two w w2 s r u0) := ⟨V1.out.ext hx2, hU, X1.out.trans hx2, F1.out, by
      obtain ⟨f0, f1, f2, f3, f4⟩ := hF
      have := X1.out.size
      exact ⟨by omega, by omega, by omega, by omega, by omega⟩, (apart_p L1.out hF).2, (apart_p L1.out hF).1⟩
    clear hU hx2 hF V1 F1 L1 X1
    go_wp2_with fail
    go_loopw [11] (fun i wr => ∃ k : Nat, k ≤ n ∧ k ≤ 100 ∧ i = .int .i64 (k : Int) ∧ Hid (Two w wr s r (actsU u0 (l.take k)))) (fun i _ => n - (intOf i).toNat)
    case atStart => exact ⟨0, Nat.zero_le _, by omega, rfl, by unfold Hid; rw [List.take_zero]; exact T2.out⟩
    case round =>
      obtain ⟨k, hk, hk100, rfl, HT⟩ := hrel
      by_cases hgo : k < n ∧ k < 100
      · obtain ⟨hlt, h100⟩ := hgo
        obtain ⟨b, off, hl, t, B, m, cc, rfl, hb, hA, hB, hmc, hcc, hcells⟩ := ops_at HR.out hlt
        have hwr : (actsU u0 (l.take k)).wrote < 4611686018427387904 := by
          have h := (actsU_wrote u0 (l.take k)).1
          rw [List.length_take] at h
          have h2 := HU0.out.1
          omega
        have HOKU : Hid (UnitOk (actsU u0 (l.take k))) := actsU_ok HOK.out
        have HST : Hid (actsU u0 (l.take (k + 1)) = actU (actsU u0 (l.take k)) l[k]) := by
          unfold Hid; rw [List.take_add_one, List.getElem?_eq_getElem hl]; exact actsU_snoc _ _ _
        have HCL : Hid (∀ W, Ext w W → (W.cell? ⟨b, off + k * 11, none⟩ = some (.int .i64 l[k].kind) ∧ W.cell? ⟨b, off + k * 11 + 1, none⟩ = some (.int .i64 l[k].table) ∧ W.cell? ⟨b, off + k * 11 + 2, none⟩ = some (.int .i64 l[k].at_) ∧ W.cell? ⟨b, off + k * 11 + 3, none⟩ = some (.int .u16 (l[k].val.toNat : Int)) ∧ W.cell? ⟨b, off + k * 11 + 4, none⟩ = some (.int .i64 l[k].ask.code) ∧ W.cell? ⟨b, off + k * 11 + 5, none⟩ = some (.int .i64 l[k].ask.addr) ∧ W.cell? ⟨b, off + k * 11 + 6, none⟩ = some (.int .i64 l[k].ask.count) ∧ W.cell? ⟨b, off + k * 11 + 7, none⟩ = some (.slice t.A1 t.n1 t.c1) ∧ W.cell? ⟨b, off + k * 11 + 8, none⟩ = some (.slice t.A2 t.n2 t.c2) ∧ W.cell? ⟨b, off + k * 11 + 9, none⟩ = some (.slice t.A3 t.n3 t.c3) ∧ W.cell? ⟨b, off + k * 11 + 10, none⟩ = some (.slice B m cc))) := fun W hX => ⟨hX.cell hb (by have h := hcells 0 _ rfl; rwa [show off + (k * 11 + 0) = off + k * 11 by omega] at h), hX.cell hb (by have h := hcells 1 _ rfl; rwa [show off + (k * 11 + 1) = off + k * 11 + 1 by omega] at h), hX.cell hb (by have h := hcells 2 _ rfl; rwa [show off + (k * 11 + 2) = off + k * 11 + 2 by omega] at h), hX.cell hb (by have h := hcells 3 _ rfl; rwa [show off + (k * 11 + 3) = off + k * 11 + 3 by omega] at h), hX.cell hb (by have h := hcells 4 _ rfl; rwa [show off + (k * 11 + 4) = off + k * 11 + 4 by omega] at h), hX.cell hb (by have h := hcells 5 _ rfl; rwa [show off + (k * 11 + 5) = off + k * 11 + 5 by omega] at h), hX.cell hb (by have h := hcells 6 _ rfl; rwa [show off + (k * 11 + 6) = off + k * 11 + 6 by omega] at h), hX.cell hb (by have h := hcells 7 _ rfl; rwa [show off + (k * 11 + 7) = off + k * 11 + 7 by omega] at h), hX.cell hb (by have h := hcells 8 _ rfl; rwa [show off + (k * 11 + 8) = off + k * 11 + 8 by omega] at h), hX.cell hb (by have h := hcells 9 _ rfl; rwa [show off + (k * 11 + 9) = off + k * 11 + 9 by omega] at h), hX.cell hb (by have h := hcells 10 _ rfl; rwa [show off + (k * 11 + 10) = off + k * 11 + 10 by omega] at h)⟩
        have hLA := longAsk_any l[k].ask t wr
        have HDID := Lib.hid (fun W h h1 h2 h3 hm2 => did_any (actsU u0 (l.take k)) s r l[k] t B m cc w W h HOKU.out hA h1 h2 h3 hB hmc hm2 hwr)
        clear hcells hA hB hwr
        generalize l[k] = o at *
        obtain ⟨kind, table, at_, val, ⟨code, addr, count, on, set, parts⟩, bytes⟩ := o
        obtain ⟨A1, n1, c1, A2, n2, c2, A3, n3, c3⟩ := t
        simp only [askV] at hLA
        simp only [opV] at HDID
        have HLA := Lib.hid hLA
        clear hLA
        obtain ⟨x0, x1, x2, x3, x4, x5, x6, x7, x8, x9, x10⟩ := HCL.out _ HT.out.x
        go_wp2_with fail
        refine HLA.out.mono ?_
        rintro e w3 ⟨rfl, hx3⟩
        have T3 := Lib.hid (HT.out.ext hx3)
        clear hx3 HLA x0 x1 x2 x3 x4 x5 x6 x7 x8 x9 x10
        obtain ⟨x0, x1, x2, x3, x4, x5, x6, x7, x8, x9, x10⟩ := HCL.out _ T3.out.x
        by_cases hP : 70000 < n1 ∨ 70000 < n2 ∨ 70000 < n3
        · rw [decide_eq_true hP]
          go_wp2_with fail
          refine (known19_any _).mono ?_
          rintro e w4 ⟨rfl, hx4⟩
          go_wp2_with fail
          go_ret
          exact ⟨rfl, T3.out.x.trans hx4⟩
        · rw [decide_eq_false hP]
          by_cases hlong : (65536 : Int) < (m : Int)
          · go_wp2_with fail
            refine (known19_any _).mono ?_
            rintro e w4 ⟨rfl, hx4⟩
            go_wp2_with fail
            go_ret
            exact ⟨rfl, T3.out.x.trans hx4⟩
          · have HD := Lib.hid (HDID.out _ (T3.out.ext (Ext.draw _)) (by omega) (by omega) (by omega) (by omega))
            have hk0 : (k : Int) < (n : Int) := by omega
            have hk1 : (0 : Int) ≤ (k : Int) := by omega
            clear HDID
            go_wp2_with fail
            go_region_law ((first
              | (go_simp
                 go_at_call 45
                 with_reducible refine Calls.mono HD.out ?_
                 rintro e w5 ⟨rfl, hT⟩
                 have T5 := Lib.hid hT
                 have c6 := hT.b.cells.2.2.2.2.2
                 have HWW := Lib.hid (writes_u _ s w5 hT.a)
                 unfold pU at HWW
                 clear hT)
              | (go_simp
                 go_at_call 39
                 with_reducible refine Calls.mono HWW.out ?_
                 rintro e w6 ⟨rfl, rfl⟩)))
            all_goals
              go_wp2_with fail
              go_roundw
              case rel => exact ⟨k + 1, by omega, by omega, by go_num, by unfold Hid; rw [HST.out]; exact T5.out⟩
              case measure => simp [intOf]; omega
      · have HSZ : Hid ((actsU u0 (l.take k)).size = sz) := (actsU_wrote u0 (l.take k)).2.trans HU0.out.2
        have HOKU : Hid (UnitOk (actsU u0 (l.take k))) := actsU_ok HOK.out
        generalize actsU u0 (l.take k) = uu at *
        have hgo2 : ¬ (k : Int) < (n : Int) ∨ ((k : Int) < (n : Int) ∧ ¬ (k : Int) < 100) := by omega
        clear hgo
        rcases hgo2 with hg | ⟨hg, hg2⟩
        all_goals
          go_wp2_with fail
          go_loopw [12, 13, 14, 15] (fun kk _ _ _ w3 => ∃ K : Int, 1 ≤ K ∧ K ≤ 5 ∧ kk = .int .i64 K ∧ Hid (Two w w3 s r uu)) (fun kk _ _ _ _ => 6 - (intOf kk).toNat)
          case atStart => exact ⟨1, by omega, by omega, rfl, HT⟩
          case round =>
            obtain ⟨K, hK1, hK5, rfl, HT3⟩ := hrel
            by_cases hK4 : K ≤ 4
            · go_wp2_with fail
              go_loopw [13, 14, 15] (fun i _ _ w4 => ∃ y : Nat, y ≤ sz ∧ i = .int .i64 (y : Int) ∧ Hid (Two w w4 s r uu)) (fun i _ _ _ => sz - (intOf i).toNat)
              case atStart => exact ⟨0, Nat.zero_le _, rfl, HT3⟩
              case round =>
                obtain ⟨y, hy, rfl, HT4⟩ := hrel
                obtain ⟨-, d2, d3, d4, d5, -⟩ := HT4.out.b.cells
                rcases Nat.lt_or_ge y sz with hlt2 | hge2
                · have hin := getU_in HOKU.out K y (by omega) (by have := HSZ.out; omega)
                  have HG := Lib.hid (get_p K (y : Int) 0 _ _ rfl HOKU.out hin HT4.out.a)
                  have hc := wordRow_cell (HT4.out.b.tab K) (i := y) (by rw [tabU_length HOKU.out]; have h2 := HSZ.out; omega)
                  generalize ((tabU uu K).getD y 0).toNat = X at *
                  have q1 : (y : Int) < (uu.size : Int) := by have := HSZ.out; omega
                  have q3 : (0 : Int) ≤ (y : Int) := by omega
                  clear hin
                  have h4 : K = 1 ∨ K = 2 ∨ K = 3 ∨ K = 4 := by omega
                  rcases h4 with rfl | rfl | rfl | rfl
                  all_goals
                    first | rw [show tabS r 1 = r.g1 from rfl] at hc | rw [show tabS r 2 = r.g2 from rfl] at hc | rw [show tabS r 3 = r.g3 from rfl] at hc | rw [show tabS r 4 = r.g4 from rfl] at hc
                    go_wp2_with fail
                    refine HG.out.mono ?_
                    rintro e w5 ⟨rfl, rfl⟩
                    go_wp2_with fail
                    go_roundw
                    case rel => exact ⟨y + 1, by omega, by go_num, HT4⟩
                    case measure => simp [intOf]; omega
                · have hy2 : ¬ (y : Int) < (sz : Int) := by omega
                  clear d2 d3 d4 d5
                  go_wp2_with fail
                  go_roundw
                  case rel => exact ⟨K + 1, by omega, by omega, rfl, HT4⟩
                  case measure => simp [intOf]; omega
            · go_wp2_with fail
              refine (known19_any _).mono ?_
              rintro e w5 ⟨rfl, hx5⟩
              go_wp2_with fail
              go_ret
              exact ⟨rfl, HT3.out.x.trans hx5⟩
  · have HN1 := Lib.hid (fun W => new_p a z _ rfl h0 W)
    have HN2 := Lib.hid (fun W => newr_p a z _ rfl h0 W)
    generalize newE a z = x at *
    have hx0 : (x != 0) = true := by simp [h0]
    have hxx : (x != x) = false := by simp
    clear h0
    go_enter Try.func11, Try.ntmps11
    go_wp2_with fail
    refine (HN1.out _).mono ?_
    rintro e w1 ⟨rfl, rfl⟩
    go_wp2_with fail
    refine (HN2.out _).mono ?_
    rintro e w1 ⟨rfl, rfl⟩
    go_wp2_with fail
    refine (known19_any _).mono ?_
    rintro e w2 ⟨rfl, hx2⟩
    go_wp2_with fail
    go_ret
    exact ⟨rfl, hx2⟩
end Go.Proofs.Ytpjmhckdeeonbaa
