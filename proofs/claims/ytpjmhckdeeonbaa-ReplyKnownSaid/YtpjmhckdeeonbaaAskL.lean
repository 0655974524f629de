/- Contracts of the kit's functions on parts and requests: lent, kept. -/
import Derived.Test.YtpjmhckdeeonbaaAskKit
import Derived.Test.YtpjmhckdeeonbaaAsk3
import Derived.Test.YtpjmhckdeeonbaaAskSe
namespace Go.Out
set_option linter.unusedVariables false
open Go Go.RowKit
/-- The cells of parts, one behind the other. -/
def cellsP (l : List PartD) : List Value := l.flatMap fun p => [.int .i64 p.file, .int .i64 p.record, .int .i64 p.len]
theorem cellsP_length (l : List PartD) : (cellsP l).length = l.length * 3 := by
  unfold cellsP
  induction l with
  | nil => rfl
  | cons p r ih => simp only [List.flatMap_cons, List.length_append, ih, List.length_cons, List.length_nil]; omega
theorem cellsP_at : ∀ (l : List PartD) (k : Nat) (h : k < l.length), (cellsP l)[k * 3]? = some (.int .i64 l[k].file) ∧ (cellsP l)[k * 3 + 1]? = some (.int .i64 l[k].record) ∧ (cellsP l)[k * 3 + 2]? = some (.int .i64 l[k].len)
  | p :: r, 0, _ => ⟨rfl, rfl, rfl⟩
  | p :: r, k + 1, h => by
    have ih := cellsP_at r k (by simpa using h)
    simp only [cellsP, List.flatMap_cons, List.getElem_cons_succ] at ih ⊢
    rw [show (k + 1) * 3 = k * 3 + 3 by omega]
    simpa using ih
/-- Parts that were lent: five marks behind them. -/
def lentP (l : List PartD) : List PartD := l ++ List.replicate 5 ⟨-77, 0, 0⟩
theorem lentP_length (l : List PartD) : (lentP l).length = l.length + 5 := by simp [lentP]
theorem part_fill {cur : Array Value} {T : List Value} {z v0 v1 v2 : Value} {k N : Nat} (h : cur.toList = T.take (k * 3) ++ List.replicate (N - k * 3) z) (hN : T.length = N) (h0 : T[k * 3]? = some v0) (h1 : T[k * 3 + 1]? = some v1) (h2 : T[k * 3 + 2]? = some v2) :
    (((cur.setIfInBounds (k * 3) v0).setIfInBounds (k * 3 + 1) v1).setIfInBounds (k * 3 + 2) v2).toList = T.take ((k + 1) * 3) ++ List.replicate (N - (k + 1) * 3) z := by
  rw [show (k + 1) * 3 = k * 3 + 2 + 1 by omega]
  exact fill_step (fill_step (fill_step h hN h0) hN h1) hN h2
theorem made3 (a : Value) (N : Nat) : madeCells #[a, a, a] N = Array.replicate N a := by
  apply Array.ext
  · simp [size_madeCells]
  · intro i h1 h2
    simp only [madeCells, Array.getElem_map, Array.getElem_range, Array.getElem_replicate]
    have : i % 3 = 0 ∨ i % 3 = 1 ∨ i % 3 = 2 := by omega
    rcases this with h | h | h <;> simp [h]
end Go.Out
namespace Go.Proofs.Ytpjmhckdeeonbaa
set_option linter.unusedVariables false
set_option linter.unusedSimpArgs false
set_option maxRecDepth 100000
set_option maxHeartbeats 2000000
open Go Go.RowKit Go.Out

theorem info_part' : (Try.prog.info? 85).map (fun i => (i.zero, i.size, i.bytes)) = some (some (.agg #[.int .i64 0, .int .i64 0, .int .i64 0]), 3, 24) := by kernel_rfl
theorem make_parts (n : Nat) (hn : n ≤ 70000) (W : World) : (Instr.makeSlice 24 (.int .i64 ((n : Int) + 5)) (.int .i64 ((n : Int) + 5))).run Try.prog W = .ok (.slice (some ⟨W.heap.size, 0, none⟩) (n + 5) (n + 5)) (W.alloc (.cells (Array.replicate ((n + 5) * 3) (.int .i64 0)) 85)) := by
  obtain ⟨i, hi, hz, hs, hb⟩ := info_parts info_part'
  have h := run_make (P := Try.prog) W 24 85 i _ Try.underlying24 hi hz .i64 .i64 ((n : Int) + 5) ((n : Int) + 5) (by omega) (Int.le_refl _) (by rw [hb]; omega) (by omega)
  rw [hs, show ((n : Int) + 5).toNat = n + 5 by omega, show (Value.agg #[.int .i64 0, .int .i64 0, .int .i64 0]).cells = #[.int .i64 0, .int .i64 0, .int .i64 0] by rfl, made3] at h
  exact h

theorem lentParts_any (l : List PartD) (A : Option Addr) (n c : Nat) (w : World) (hr : RdL partK w A n l) (hn : n ≤ 70000) :
    Calls Try.prog 61 #[.slice A n c] w fun e w' => ∃ g cur, e = .returned (.slice (some ⟨g, 0, none⟩) n (n + 5)) ∧ w.heap.size ≤ g ∧ w'.heap[g]? = some (.cells cur 85 (0, 0)) ∧ cur.toList = cellsP (lentP l) ∧ Ext w w' := by
  have hl : l.length = n := hr.length
  have Hr := Lib.hid hr; have Hl := Lib.hid hl; clear hr hl
  have hmk := fun W => make_parts n hn W
  have HT : Hid ((cellsP (lentP l)).length = (n + 5) * 3) := by have := Hl.out; unfold Hid; rw [cellsP_length, lentP_length, this]
  have HTA : Hid (∀ k (h : k < n), ∃ p, l[k]? = some p ∧ (cellsP (lentP l))[k * 3]? = some (.int .i64 p.file) ∧ (cellsP (lentP l))[k * 3 + 1]? = some (.int .i64 p.record) ∧ (cellsP (lentP l))[k * 3 + 2]? = some (.int .i64 p.len)) := fun k h => by
    have hk : k < l.length := by have := Hl.out; omega
    have := cellsP_at (lentP l) k (by rw [lentP_length]; omega)
    rw [show (lentP l)[k]'(by rw [lentP_length]; omega) = l[k] by unfold lentP; rw [List.getElem_append_left hk]] at this
    exact ⟨l[k], List.getElem?_eq_getElem hk, this⟩
  have HTB : Hid (∀ k, n ≤ k → k < n + 5 → (cellsP (lentP l))[k * 3]? = some (.int .i64 (-77)) ∧ (cellsP (lentP l))[k * 3 + 1]? = some (.int .i64 0) ∧ (cellsP (lentP l))[k * 3 + 2]? = some (.int .i64 0)) := fun k h1 h2 => by
    have hl := Hl.out
    have := cellsP_at (lentP l) k (by rw [lentP_length]; omega)
    rw [show (lentP l)[k]'(by rw [lentP_length]; omega) = ⟨-77, 0, 0⟩ by unfold lentP; rw [List.getElem_append_right (by omega), List.getElem_replicate]] at this
    exact this
  generalize cellsP (lentP l) = T at *
  go_enter Try.func61, Try.ntmps61
  go_wp2_with fail
  go_loopw [4] (fun i wr => ∃ (k : Nat) (cur : Array Value), k ≤ n ∧ i = .int .i64 k ∧ wr.heap[w.heap.size]? = some (.cells cur 85 (0, 0)) ∧ Hid (cur.toList = T.take (k * 3) ++ List.replicate ((n + 5) * 3 - k * 3) (.int .i64 0)) ∧ Hid (cur.size = (n + 5) * 3) ∧ Ext w wr) (fun i _ => n - (intOf i).toNat)
  case atStart => exact ⟨0, Array.replicate ((n + 5) * 3) (.int .i64 0), Nat.zero_le _, rfl, heap_alloc_new w _, by simp [Hid], by simp [Hid], Ext.alloc _ _⟩
  case round =>
    obtain ⟨k, cur, hk, rfl, hh, hcur, Hcs, hx⟩ := hrel
    rcases Nat.lt_or_ge k n with hlt | hge
    · obtain ⟨b1, o1, p, hp, rfl, hb1, e0, e1, e2, -⟩ := part_cells (Hr.out.ext hx) hlt
      obtain ⟨p', hp', HV⟩ := HTA.out k hlt
      obtain rfl : p = p' := by rw [hp] at hp'; injection hp'
      have HV2 := Lib.hid HV
      clear hp hp' HV
      generalize p.file = F at *
      generalize p.record = R at *
      generalize p.len = L at *
      obtain ⟨x0, hc0⟩ := heap_cell (k := k * 3) hh (by have := Hcs.out; omega)
      obtain ⟨x1, hc1⟩ := heap_cell (k := k * 3 + 1) hh (by have := Hcs.out; omega)
      obtain ⟨x2, hc2⟩ := heap_cell (k := k * 3 + 2) hh (by have := Hcs.out; omega)
      have z0 := frozen_of_row wr w.heap.size (k * 3) cur _ hh
      have z1 := frozen_of_row wr w.heap.size (k * 3 + 1) cur _ hh
      have z2 := frozen_of_row wr w.heap.size (k * 3 + 2) cur _ hh
      have Hh := Lib.hid hh; clear hh
      go_wp2_with fail
      go_roundw
      case rel => exact ⟨k + 1, _, by omega, by go_num, heap_setCell_same _ _ _ _ _ _ (heap_setCell_same _ _ _ _ _ _ (heap_setCell_same _ _ _ _ _ _ Hh.out)), part_fill hcur.out HT.out HV2.out.1 HV2.out.2.1 HV2.out.2.2, by have := Hcs.out; simp [Hid]; omega, ((hx.set' (by simp) _).set' (by simp) _).set' (by simp) _⟩
      case measure => simp [intOf]; omega
    · obtain rfl : k = n := by omega
      have Hh := Lib.hid hh; clear hh
      go_wp2_with fail
      go_loopw [5] (fun i wr => ∃ (j : Nat) (cur : Array Value), k ≤ j ∧ j ≤ k + 5 ∧ i = .int .i64 j ∧ wr.heap[w.heap.size]? = some (.cells cur 85 (0, 0)) ∧ Hid (cur.toList = T.take (j * 3) ++ List.replicate ((k + 5) * 3 - j * 3) (.int .i64 0)) ∧ Hid (cur.size = (k + 5) * 3) ∧ Ext w wr) (fun i _ => k + 5 - (intOf i).toNat)
      case atStart => exact ⟨k, cur, Nat.le_refl _, by omega, rfl, Hh.out, hcur, Hcs, hx⟩
      case round =>
        obtain ⟨j, cur', hj1, hj2, rfl, hh', hcur', Hcs', hx'⟩ := hrel
        rcases Nat.lt_or_ge j (k + 5) with hlt' | hge'
        · have HV := Lib.hid (HTB.out j hj1 hlt')
          obtain ⟨x0, hc0⟩ := heap_cell (k := j * 3) hh' (by have := Hcs'.out; omega)
          obtain ⟨x1, hc1⟩ := heap_cell (k := j * 3 + 1) hh' (by have := Hcs'.out; omega)
          obtain ⟨x2, hc2⟩ := heap_cell (k := j * 3 + 2) hh' (by have := Hcs'.out; omega)
          have z0 := frozen_of_row _ w.heap.size (j * 3) cur' _ hh'
          have z1 := frozen_of_row _ w.heap.size (j * 3 + 1) cur' _ hh'
          have z2 := frozen_of_row _ w.heap.size (j * 3 + 2) cur' _ hh'
          have Hh' := Lib.hid hh'; clear hh'
          go_wp2_with fail
          go_roundw
          case rel => exact ⟨j + 1, _, by omega, by omega, by go_num, heap_setCell_same _ _ _ _ _ _ (heap_setCell_same _ _ _ _ _ _ (heap_setCell_same _ _ _ _ _ _ Hh'.out)), part_fill hcur'.out HT.out HV.out.1 HV.out.2.1 HV.out.2.2, by have := Hcs'.out; simp [Hid]; omega, ((hx'.set' (by simp) _).set' (by simp) _).set' (by simp) _⟩
          case measure => simp [intOf]; omega
        · obtain rfl : j = k + 5 := by omega
          have Hh' := Lib.hid hh'; clear hh'
          go_wp2_with fail
          go_ret
          exact ⟨_, cur', rfl, Nat.le_refl _, Hh'.out, by have h := hcur'.out; rwa [Nat.sub_self, List.replicate_zero, List.append_nil, List.take_of_length_le (by rw [HT.out]; exact Nat.le_refl _)] at h, hx'⟩

theorem rdL_lent {l : List PartD} {A : Option Addr} {n g : Nat} {cur : Array Value} {w w0 : World} (hr : RdL partK w0 A n l) (hh : w.heap[g]? = some (.cells cur 85 (0, 0))) (hcur : cur.toList = cellsP (lentP l)) : RdL partK w (some ⟨g, 0, none⟩) n l :=
  ⟨hr.length, fun _ => ⟨g, 0, rfl, lt_of_heap hh, fun i x hi => by
    have hl := hr.length
    have hil := (List.getElem?_eq_some_iff.1 hi).1
    have hk : i < (lentP l).length := by rw [lentP_length]; omega
    obtain ⟨h0, h1, h2⟩ := cellsP_at (lentP l) i hk
    have hx : (lentP l)[i] = x := by
      have : l[i] = x := (List.getElem?_eq_some_iff.1 hi).2
      rw [← this]; exact List.getElem_append_left hil
    rw [hx, ← hcur, Array.getElem?_toList] at h0 h1 h2
    obtain ⟨b, off, -, -, hc⟩ := hr.2 (by omega)
    obtain ⟨cs, -, -, hR⟩ := hc i x hi
    refine ⟨partCells x, rfl, ?_, rfl, hR.2.1, hR.2.2.1, hR.2.2.2⟩
    intro j u hu
    rw [Nat.zero_add, cell_of_row _ _ _ _ _ _ hh]
    match j with
    | 0 => simp [partCells] at hu; subst hu; exact h0
    | 1 => simp [partCells] at hu; subst hu; exact h1
    | 2 => simp [partCells] at hu; subst hu; exact h2
    | j + 3 => simp [partCells] at hu⟩⟩

theorem keptParts_any (l : List PartD) (A : Option Addr) (n c g : Nat) (cur : Array Value) (w : World) (hr : RdL partK w A n l) (hh : w.heap[g]? = some (.cells cur 85 (0, 0))) (hcur : cur.toList = cellsP (lentP l)) (hn : n ≤ 70000) :
    Calls Try.prog 72 #[.slice (some ⟨g, 0, none⟩) n (n + 5), .slice A n c] w (RetQ w true) := by
  have hl : l.length = n := hr.length
  have hcl : ∀ k (h : k < n + 5), ∃ p, (lentP l)[k]? = some p ∧ w.cell? ⟨g, k * 3, none⟩ = some (.int .i64 p.file) ∧ w.cell? ⟨g, k * 3 + 1, none⟩ = some (.int .i64 p.record) ∧ w.cell? ⟨g, k * 3 + 2, none⟩ = some (.int .i64 p.len) := fun k h => by
    have hk : k < (lentP l).length := by rw [lentP_length]; omega
    obtain ⟨h0, h1, h2⟩ := cellsP_at (lentP l) k hk
    refine ⟨(lentP l)[k], List.getElem?_eq_getElem hk, ?_, ?_, ?_⟩ <;> (rw [cell_of_row _ _ _ _ _ _ hh, ← Array.getElem?_toList, hcur]; assumption)
  have hlt := lt_of_heap hh
  have hrg : RdL partK w (some ⟨g, 0, none⟩) n l := rdL_lent hr hh hcur
  have Hsp := Lib.hid (show ∀ j, n ≤ j → j < n + 5 → w.cell? ⟨g, j * 3, none⟩ = some (.int .i64 (-77)) ∧ w.cell? ⟨g, j * 3 + 1, none⟩ = some (.int .i64 0) ∧ w.cell? ⟨g, j * 3 + 2, none⟩ = some (.int .i64 0) from fun j h1 h2 => by
    obtain ⟨p, hp, r⟩ := hcl j h2
    unfold lentP at hp
    rw [List.getElem?_append_right (by omega), List.getElem?_replicate, if_pos (by omega)] at hp
    injection hp with hp; subst hp; exact r)
  have Hr := Lib.hid hr; have Hrg := Lib.hid hrg; clear hr hrg hl hh hcur hcl
  go_enter Try.func72, Try.ntmps72
  go_wp2_with fail
  refine (sameParts_eq l _ _ _ _ _ _ Hrg.out Hr.out (by omega)).mono ?_
  rintro e w1 ⟨rfl, hx1⟩
  go_wp2_with fail
  go_loopw [6] (fun i wr => ∃ (j : Nat), n ≤ j ∧ j ≤ n + 5 ∧ i = .int .i64 j ∧ Ext w wr) (fun i _ => n + 5 - (intOf i).toNat)
  case atStart => exact ⟨n, Nat.le_refl _, by omega, rfl, hx1⟩
  case round =>
    obtain ⟨j, hj1, hj2, rfl, hx⟩ := hrel
    rcases Nat.lt_or_ge j (n + 5) with hlt' | hge'
    · obtain ⟨s0, s1, s2⟩ := Hsp.out j hj1 hlt'
      have c0 := hx.cell hlt s0
      have c1 := hx.cell hlt s1
      have c2 := hx.cell hlt s2
      clear s0 s1 s2
      go_wp2_with fail
      go_roundw
      case rel => exact ⟨j + 1, by omega, by omega, by go_num, hx⟩
      case measure => simp [intOf]; omega
    · go_wp2_with fail
      go_ret
      exact ⟨rfl, hx⟩

/-- A request that was lent: rows of the call's own, five marks behind each. -/
structure AskLent (w : World) (base : Nat) (a : AskD) (s t : AskS) : Prop where
  on : ∃ g cur, t.A1 = some ⟨g, 0, none⟩ ∧ t.n1 = s.n1 ∧ t.c1 = s.n1 + 5 ∧ base ≤ g ∧ w.heap[g]? = some (.cells cur 4 (0, 0)) ∧ cur.toList = a.on.map cL ++ List.replicate 5 (.bool true)
  set : ∃ g cur, t.A2 = some ⟨g, 0, none⟩ ∧ t.n2 = s.n2 ∧ t.c2 = s.n2 + 5 ∧ base ≤ g ∧ w.heap[g]? = some (.cells cur 54 (0, 0)) ∧ cur.toList = a.set.map cW ++ List.replicate 5 (.int .u16 42330)
  parts : ∃ g cur, t.A3 = some ⟨g, 0, none⟩ ∧ t.n3 = s.n3 ∧ t.c3 = s.n3 + 5 ∧ base ≤ g ∧ w.heap[g]? = some (.cells cur 85 (0, 0)) ∧ cur.toList = cellsP (lentP a.parts)
theorem AskLent.ext {w w' : World} {base : Nat} {a : AskD} {s t : AskS} (h : AskLent w base a s t) (hx : Ext w w') : AskLent w' base a s t := by
  obtain ⟨⟨g1, c1, p1, p2, p3, p4, p5, p6⟩, ⟨g2, c2, q1, q2, q3, q4, q5, q6⟩, ⟨g3, c3, r1, r2, r3, r4, r5, r6⟩⟩ := h
  exact ⟨⟨g1, c1, p1, p2, p3, p4, hx.block p5, p6⟩, ⟨g2, c2, q1, q2, q3, q4, hx.block q5, q6⟩, ⟨g3, c3, r1, r2, r3, r4, hx.block r5, r6⟩⟩
theorem AskLent.rd {w w0 : World} {base : Nat} {a : AskD} {s t : AskS} (h : AskLent w base a s t) (hr : AskRd w0 a s) (h1 : s.n1 ≤ 70000) (h2 : s.n2 ≤ 70000) (h3 : s.n3 ≤ 70000) : AskRd w a t := by
  have e1 := hr.n1; have e2 := hr.n2
  obtain ⟨⟨g1, c1, p1, p2, p3, p4, p5, p6⟩, ⟨g2, c2, q1, q2, q3, q4, q5, q6⟩, ⟨g3, c3, r1, r2, r3, r4, r5, r6⟩⟩ := h
  obtain ⟨B1, m1, k1, B2, m2, k2, B3, m3, k3⟩ := t
  simp only at p1 p2 p3 q1 q2 q3 r1 r2 r3
  subst p1; subst p2; subst p3; subst q1; subst q2; subst q3; subst r1; subst r2; subst r3
  exact ⟨Rd.of_heap p5 p6 (by simpa using e1), Rd.of_heap q5 q6 (by simpa using e2), rdL_lent hr.parts r5 r6, hr.code, hr.addr, hr.count, ⟨by simp, by simp; omega⟩, ⟨by simp, by simp; omega⟩, ⟨by simp, by simp; omega⟩⟩

theorem lentAsk_any (a : AskD) (s : AskS) (w : World) (hr : AskRd w a s) (h1 : s.n1 ≤ 70000) (h2 : s.n2 ≤ 70000) (h3 : s.n3 ≤ 70000) :
    Calls Try.prog 18 #[askV a s] w fun e w' => ∃ t, e = .returned (askV a t) ∧ AskLent w' w.heap.size a s t ∧ Ext w w' := by
  have HR := Lib.hid hr
  obtain ⟨code, addr, count, on, set, parts⟩ := a
  obtain ⟨A1, n1, c1, A2, n2, c2, A3, n3, c3⟩ := s
  simp only at h1 h2 h3
  clear hr
  simp only [askV]
  go_enter Try.func18, Try.ntmps18
  go_wp2_with fail
  refine (lentL_any on _ _ _ _ (HR.out.on.ext (Ext.two w _ _)) (by show n1 ≤ _; omega)).mono ?_
  rintro e w1 ⟨g1, u1, rfl, hg1, hr1, hu1, hb1⟩
  have hX1 := Ext.of hb1
  have hA := hX1.block ((Ext.alloc _ _).block (heap_alloc_new w (.cells #[.int .i64 code, .int .i64 addr, .int .i64 count, .slice A1 n1 c1, .slice A2 n2 c2, .slice A3 n3 c3] 26)))
  have hB := hX1.block (heap_at _ (.cells #[.int .i64 0, .int .i64 0, .int .i64 0, .slice none 0 0, .slice none 0 0, .slice none 0 0] 26) (w.heap.size + 1) (by simp))
  have hge1 : w.heap.size + 2 ≤ g1 := by simpa using hg1
  obtain ⟨d0, d1, d2, d3, d4, d5, x0, x1, x2, x3, x4, x5⟩ := askBox hA
  have hA2 := heap_setCell_same w1 w.heap.size 3 _ _ (.slice (some ⟨g1, 0, none⟩) n1 (n1 + 5)) hA
  have hB2 := (Below.heap_setCell w1 ⟨w.heap.size, 3, none⟩ (.slice (some ⟨g1, 0, none⟩) n1 (n1 + 5)) (w.heap.size + 1) (by simp)).trans hB
  have hR1 := (Below.heap_setCell w1 ⟨w.heap.size, 3, none⟩ (.slice (some ⟨g1, 0, none⟩) n1 (n1 + 5)) g1 (by simp; omega)).trans hr1
  have X1s := Lib.hid (((Ext.two w _ _).trans hX1).set' (p := ⟨w.heap.size, 3, none⟩) (Nat.le_refl _) (.slice (some ⟨g1, 0, none⟩) n1 (n1 + 5)))
  have HA2 := Lib.hid hA2; have HB2 := Lib.hid hB2; have HR1 := Lib.hid hR1; have HU1 := Lib.hid hu1
  clear hA hB hA2 hB2 hR1 hX1 hb1 hg1 hr1 hu1
  go_wp2_with fail
  refine (lentW_any set _ _ _ _ (HR.out.set.ext X1s.out) (by show n2 ≤ _; omega)).mono ?_
  rintro e w2 ⟨g2, u2, rfl, hg2, hr2, hu2, hb2⟩
  have hX2 := Ext.of hb2
  have hA := hX2.block HA2.out
  have hB := hX2.block HB2.out
  have hR1 := hX2.block HR1.out
  have hz := lt_of_heap HB2.out
  have hge2 : w.heap.size + 2 ≤ g2 := by omega
  clear d0 d1 d2 d3 d4 d5 x0 x1 x2 x3 x4 x5 hz
  obtain ⟨d0, d1, d2, d3, d4, d5, x0, x1, x2, x3, x4, x5⟩ := askBox hA
  have hA2 := heap_setCell_same w2 w.heap.size 4 _ _ (.slice (some ⟨g2, 0, none⟩) n2 (n2 + 5)) hA
  have hB2 := (Below.heap_setCell w2 ⟨w.heap.size, 4, none⟩ (.slice (some ⟨g2, 0, none⟩) n2 (n2 + 5)) (w.heap.size + 1) (by simp)).trans hB
  have hR1s := (Below.heap_setCell w2 ⟨w.heap.size, 4, none⟩ (.slice (some ⟨g2, 0, none⟩) n2 (n2 + 5)) g1 (by simp; omega)).trans hR1
  have hR2s := (Below.heap_setCell w2 ⟨w.heap.size, 4, none⟩ (.slice (some ⟨g2, 0, none⟩) n2 (n2 + 5)) g2 (by simp; omega)).trans hr2
  have X2s := Lib.hid ((X1s.out.trans hX2).set' (p := ⟨w.heap.size, 4, none⟩) (Nat.le_refl _) (.slice (some ⟨g2, 0, none⟩) n2 (n2 + 5)))
  have HA3 := Lib.hid hA2; have HB3 := Lib.hid hB2; have HR1s := Lib.hid hR1s; have HR2s := Lib.hid hR2s; have HU2 := Lib.hid hu2
  clear hA hB hA2 hB2 hR1 hR1s hR2s hX2 hb2 hg2 hr2 hu2 HA2 HB2 HR1
  go_wp2_with fail
  refine (lentParts_any parts _ _ _ _ (HR.out.parts.ext X2s.out) (by show n3 ≤ _; omega)).mono ?_
  rintro e w3 ⟨g3, u3, rfl, hg3, hr3, hu3, hX3⟩
  have hA := hX3.block HA3.out
  have hB := hX3.block HB3.out
  have hR1 := hX3.block HR1s.out
  have hR2 := hX3.block HR2s.out
  have hz := lt_of_heap HB3.out
  have hge3 : w.heap.size + 2 ≤ g3 := by omega
  clear d0 d1 d2 d3 d4 d5 x0 x1 x2 x3 x4 x5 hz
  obtain ⟨d0, d1, d2, d3, d4, d5, x0, x1, x2, x3, x4, x5⟩ := askBox hA
  obtain ⟨f0, f1, f2, f3, f4, f5, y0, y1, y2, y3, y4, y5⟩ := askBox hB
  have X3 := Lib.hid (X2s.out.trans hX3)
  have HR1 := Lib.hid hR1; have HR2 := Lib.hid hR2; have HR3 := Lib.hid hr3; have HU3 := Lib.hid hu3
  clear hA hB hR1 hR2 hX3 hg3 hr3 hu3
  go_wp2_with fail
  refine bodyPost_ret (v := askV ⟨code, addr, count, on, set, parts⟩ ⟨some ⟨g1, 0, none⟩, n1, n1 + 5, some ⟨g2, 0, none⟩, n2, n2 + 5, some ⟨g3, 0, none⟩, n3, n3 + 5⟩) (by simp [results, Try.results18, go_sem, askV, *]) rfl ⟨⟨some ⟨g1, 0, none⟩, n1, n1 + 5, some ⟨g2, 0, none⟩, n2, n2 + 5, some ⟨g3, 0, none⟩, n3, n3 + 5⟩, rfl, ⟨⟨g1, u1, rfl, rfl, rfl, by omega, ?_, HU1.out⟩, ⟨g2, u2, rfl, rfl, rfl, by omega, ?_, HU2.out⟩, ⟨g3, u3, rfl, rfl, rfl, by omega, ?_, HU3.out⟩⟩, ?_⟩
  · repeat' (first | with_reducible exact HR1.out | (with_reducible refine (Below.heap_setCell _ _ _ _ (by simp; omega)).trans ?_))
  · repeat' (first | with_reducible exact HR2.out | (with_reducible refine (Below.heap_setCell _ _ _ _ (by simp; omega)).trans ?_))
  · repeat' (first | with_reducible exact HR3.out | (with_reducible refine (Below.heap_setCell _ _ _ _ (by simp; omega)).trans ?_))
  · repeat' (first | with_reducible exact X3.out | with_reducible refine Ext.set' ?_ (by simp) _)

theorem keptAsk_any (a : AskD) (s t : AskS) (base : Nat) (w : World) (hr : AskRd w a s) (hl : AskLent w base a s t) (h1 : s.n1 ≤ 70000) (h2 : s.n2 ≤ 70000) (h3 : s.n3 ≤ 70000) :
    Calls Try.prog 23 #[askV a t, askV a s] w (RetQ w true) := by
  obtain ⟨⟨g1, u1, p1, p2, p3, p4, p5, p6⟩, ⟨g2, u2, q1, q2, q3, q4, q5, q6⟩, ⟨g3, u3, r1, r2, r3, r4, r5, r6⟩⟩ := hl
  obtain ⟨B1, m1, k1, B2, m2, k2, B3, m3, k3⟩ := t
  simp only at p1 p2 p3 q1 q2 q3 r1 r2 r3
  subst p1; subst p2; subst p3; subst q1; subst q2; subst q3; subst r1; subst r2; subst r3
  have H1 := Lib.hid (fun (W : World) (hX : Ext w W) => keptL_any a.on s.A1 s.n1 s.c1 g1 u1 W (hr.on.ext hX) (hX.block p5) p6 (by omega))
  have H2 := Lib.hid (fun (W : World) (hX : Ext w W) => keptW_any a.set s.A2 s.n2 s.c2 g2 u2 W (hr.set.ext hX) (hX.block q5) q6 (by omega))
  have H3 := Lib.hid (fun (W : World) (hX : Ext w W) => keptParts_any a.parts s.A3 s.n3 s.c3 g3 u3 W (hr.parts.ext hX) (hX.block r5) r6 h3)
  clear hr p4 p5 p6 q4 q5 q6 r4 r5 r6
  obtain ⟨code, addr, count, on, set, parts⟩ := a
  obtain ⟨A1, n1, c1, A2, n2, c2, A3, n3, c3⟩ := s
  simp only at h1 h2 h3 H1 H2 H3
  simp only [askV]
  go_enter Try.func23, Try.ntmps23
  go_wp2_with fail
  refine (H1.out _ (Ext.two w _ _)).mono ?_
  rintro e w1 ⟨rfl, hb1⟩
  have hx1 := Ext.of hb1
  obtain ⟨d0, d1, d2, d3, d4, d5⟩ := ask_cells _ ((Ext.alloc _ _).trans hx1)
  obtain ⟨f0, f1, f2, f3, f4, f5⟩ := ask_cells_at (g := w.heap.size + 1) (by simp) _ hx1
  have X1 := Lib.hid ((Ext.two w _ _).trans hx1)
  have Y1 := Lib.hid hx1
  clear hx1 hb1
  go_wp2_with fail
  refine (H2.out _ X1.out).mono ?_
  rintro e w2 ⟨rfl, hb2⟩
  clear d0 d1 d2 d3 d4 d5 f0 f1 f2 f3 f4 f5
  obtain ⟨d0, d1, d2, d3, d4, d5⟩ := ask_cells _ ((Ext.alloc _ _).trans (Y1.out.trans (Ext.of hb2)))
  obtain ⟨f0, f1, f2, f3, f4, f5⟩ := ask_cells_at (g := w.heap.size + 1) (by simp) _ (Y1.out.trans (Ext.of hb2))
  have X2 := Lib.hid (X1.out.trans (Ext.of hb2))
  clear hb2
  go_wp2_with fail
  refine (H3.out _ X2.out).mono ?_
  rintro e w3 ⟨rfl, hx3⟩
  go_wp2_with fail
  go_ret
  exact ⟨rfl, X2.out.trans hx3⟩
end Go.Proofs.Ytpjmhckdeeonbaa
