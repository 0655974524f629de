/- Chapter 18: a call upon both masters (outstationlaw18.both). (genboth.py prints this.) -/
import Derived.Test.YtomcipkmohhpjaaGreatG13
import Derived.Test.YtomcipkmohhpjaaGreatG11
import Derived.Test.YtomcipkmohhpjaaGreatG12
import Derived.Test.YtomcipkmohhpjaaGreatG00
import Derived.ProofKit
import Derived.ShutString
import Derived.ChangeOld
import Derived.SizedLaws
import Derived.Deep.Slices
import Derived.Test.YtomcipkmohhpjaaGreatG01
import Derived.Test.YtomcipkmohhpjaaGreatG03
namespace Go.Out
open Go Go.RowKit
structure Op18 where
  kind : Int
  now : Int
  unit : Int
  ask : AskD
  rep : RepD
  data : List UInt8
end Go.Out
namespace Go.Proofs.YtomcipkmohhpjaaGreat
set_option linter.unusedVariables false
set_option linter.unusedSimpArgs false
set_option maxRecDepth 100000
set_option maxHeartbeats 2000000
open Go Go.RowKit Go.Out

theorem spoilAsk_foot (a : AskD) (s : AskS) (base : Nat) (w : World) (ho : AskOw w base a s) :
    Calls Tryz.prog 23 #[askV a s] w fun e w' => e = .returned (.tuple #[]) ∧ Only (fun k => blk s.A1 = some k ∨ blk s.A2 = some k ∨ blk s.A3 = some k) w w' := by
  have Ho := Lib.hid ho
  clear ho
  obtain ⟨code, addr, count, on, set, parts⟩ := a
  obtain ⟨A1, n1, c1, A2, n2, c2, A3, n3, c3⟩ := s
  simp only [askV]
  have B0 := Lib.hid (show Only (fun k => blk A1 = some k ∨ blk A2 = some k ∨ blk A3 = some k) w (w.alloc (.cells #[.int .i64 code, .int .i64 addr, .int .i64 count, .slice A1 n1 c1, .slice A2 n2 c2, .slice A3 n3 c3] 37)) from Only.of_ext (Ext.alloc _ _))
  have hbox := heap_alloc_new w (.cells #[.int .i64 code, .int .i64 addr, .int .i64 count, .slice A1 n1 c1, .slice A2 n2 c2, .slice A3 n3 c3] 37)
  have Ho1 := Lib.hid (Ho.out.ext (Ext.alloc w (.cells #[.int .i64 code, .int .i64 addr, .int .i64 count, .slice A1 n1 c1, .slice A2 n2 c2, .slice A3 n3 c3] 37)))
  have l1 := Lib.hid (fun g hg => (Ho.out.on.lt g hg))
  have l2 := Lib.hid (fun g hg => (Ho.out.set.lt g hg))
  have Hbox := Lib.hid hbox
  clear hbox
  obtain ⟨W1, hW1⟩ : ∃ W1, w.alloc (.cells #[.int .i64 code, .int .i64 addr, .int .i64 count, .slice A1 n1 c1, .slice A2 n2 c2, .slice A3 n3 c3] 37) = W1 := ⟨_, rfl⟩
  rw [hW1] at B0 Hbox Ho1
  have HW1 := Lib.hid hW1
  clear hW1
  go_enter Tryz.func23, Tryz.ntmps23
  go_wp2_with fail
  rw [HW1.out]
  refine (spoilL_any _ _ _ _ _ _ Ho1.out.on).mono ?_
  rintro e w1 ⟨rfl, -, hg1⟩
  have hlt : w.heap.size < W1.heap.size := lt_of_heap Hbox.out
  have hbx1 := (hg1.block w.heap.size hlt (fun e => by have := (l1.out _ e.symm).2; omega)).trans Hbox.out
  have Hb1 := Lib.hid (B0.out.trans (Only.of_grown (F := (fun k => blk A1 = some k ∨ blk A2 = some k ∨ blk A3 = some k)) hg1 (fun g hg => .inl hg)) (fun _ _ h => h))
  have Hs1 := Lib.hid (Ho1.out.set.grown hg1 (fun g hg e => by
    have q1 := Ho1.out.set.ty hg
    have q2 := Ho1.out.on.ty e.symm
    exact absurd (q1.inj q2) (by decide)))
  obtain ⟨⟨xs, hrow, hit⟩, hint⟩ := Ho1.out.parts
  have Hp1 : Hid (OwP w1 base (.slice A3 n3 c3) parts) := by
    have hne : ∀ g, Value.ownBlock (.slice A3 n3 c3) = some g → blk A1 ≠ some g := fun g hg e => by
      have q1 := ownsRow_ty hrow hg
      have q2 := Ho1.out.on.ty e
      exact absurd (q1.inj q2) (by decide)
    refine ⟨⟨xs, hrow.kept hg1 ?_, hit.mono fun _ _ h => h⟩, hint.kept fun g hg => hg1.block g (hrow.lt g hg).2 fun e => hne g hg e.symm⟩
    cases hov : Value.ownBlock (.slice A3 n3 c3) with
    | none => exact .inl rfl
    | some g => exact .inr fun e => hne g hov e.symm
  obtain ⟨-, -, -, -, d4, d5, -⟩ := askBox hbx1
  have Hbx1 := Lib.hid hbx1
  have hz1 := hg1.size
  clear hrow hit hint hg1 hbx1
  go_wp2_with fail
  refine (spoilW_any _ _ _ _ _ _ Hs1.out).mono ?_
  rintro e w2 ⟨rfl, -, hg2⟩
  have hlt1 : w.heap.size < w1.heap.size := lt_of_heap Hbx1.out
  have hbx2 := (hg2.block w.heap.size hlt1 (fun e => by have := (l2.out _ e.symm).2; omega)).trans Hbx1.out
  have Hb2 := Lib.hid (Hb1.out.trans (Only.of_grown (F := (fun k => blk A1 = some k ∨ blk A2 = some k ∨ blk A3 = some k)) hg2 (fun g hg => .inr (.inl hg))) (fun _ _ h => h))
  obtain ⟨⟨xs, hrow, hit⟩, hint⟩ := Hp1.out
  have Hp2 : Hid (OwP w2 base (.slice A3 n3 c3) parts) := by
    have hne : ∀ g, Value.ownBlock (.slice A3 n3 c3) = some g → blk A2 ≠ some g := fun g hg e => by
      have q1 := ownsRow_ty hrow hg
      have q2 := Hs1.out.ty e
      exact absurd (q1.inj q2) (by decide)
    refine ⟨⟨xs, hrow.kept hg2 ?_, hit.mono fun _ _ h => h⟩, hint.kept fun g hg => hg2.block g (hrow.lt g hg).2 fun e => hne g hg e.symm⟩
    cases hov : Value.ownBlock (.slice A3 n3 c3) with
    | none => exact .inl rfl
    | some g => exact .inr fun e => hne g hov e.symm
  obtain ⟨-, -, -, -, -, e5, -⟩ := askBox hbx2
  have l3 := Lib.hid (fun g (hg : Value.ownBlock (.slice A3 n3 c3) = some g) => (hrow.lt g hg))
  clear hrow hit hint hg2 hbx2 d4 d5
  go_wp2_with fail
  refine (spoilParts_any _ _ _ _ _ _ Hp2.out).mono ?_
  rintro e w3 ⟨rfl, hg3⟩
  have Hb3 := Lib.hid (Hb2.out.trans (Only.of_grown (F := (fun k => blk A1 = some k ∨ blk A2 = some k ∨ blk A3 = some k)) hg3 (fun g hg => .inr (.inr hg))) (fun _ _ h => h))
  clear hg3
  go_wp2_with fail
  go_end0
  exact ⟨rfl, Hb3.out⟩
theorem cells14 {W : World} {g : Nat} {t : TypeId} {v0 v1 v2 v3 v4 v5 v6 v7 v8 v9 v10 v11 v12 v13 : Value} (h : W.heap[g]? = some (.cells #[v0, v1, v2, v3, v4, v5, v6, v7, v8, v9, v10, v11, v12, v13] t (0, 0))) :
    W.cell? ⟨g, 0, none⟩ = some v0 ∧ W.cell? ⟨g, 1, none⟩ = some v1 ∧ W.cell? ⟨g, 2, none⟩ = some v2 ∧ W.cell? ⟨g, 3, none⟩ = some v3 ∧ W.cell? ⟨g, 4, none⟩ = some v4 ∧ W.cell? ⟨g, 5, none⟩ = some v5 ∧ W.cell? ⟨g, 6, none⟩ = some v6 ∧ W.cell? ⟨g, 7, none⟩ = some v7 ∧ W.cell? ⟨g, 8, none⟩ = some v8 ∧ W.cell? ⟨g, 9, none⟩ = some v9 ∧ W.cell? ⟨g, 10, none⟩ = some v10 ∧ W.cell? ⟨g, 11, none⟩ = some v11 ∧ W.cell? ⟨g, 12, none⟩ = some v12 ∧ W.cell? ⟨g, 13, none⟩ = some v13 :=
  ⟨(cell_of_row _ _ _ _ _ _ h).trans rfl, (cell_of_row _ _ _ _ _ _ h).trans rfl, (cell_of_row _ _ _ _ _ _ h).trans rfl, (cell_of_row _ _ _ _ _ _ h).trans rfl, (cell_of_row _ _ _ _ _ _ h).trans rfl, (cell_of_row _ _ _ _ _ _ h).trans rfl, (cell_of_row _ _ _ _ _ _ h).trans rfl, (cell_of_row _ _ _ _ _ _ h).trans rfl, (cell_of_row _ _ _ _ _ _ h).trans rfl, (cell_of_row _ _ _ _ _ _ h).trans rfl, (cell_of_row _ _ _ _ _ _ h).trans rfl, (cell_of_row _ _ _ _ _ _ h).trans rfl, (cell_of_row _ _ _ _ _ _ h).trans rfl, (cell_of_row _ _ _ _ _ _ h).trans rfl⟩
def op18V (o : Op18) (s : AskS) (t : RepS) (B : Option Addr) (m k : Nat) : Value := .agg #[.int .i64 o.kind, .int .i64 o.now, .int .i64 o.unit, .int .i64 o.ask.code, .int .i64 o.ask.addr, .int .i64 o.ask.count, .slice s.A1 s.n1 s.c1, .slice s.A2 s.n2 s.c2, .slice s.A3 s.n3 s.c3, .int .i64 o.rep.exc, .slice t.A1 t.n1 t.c1, .slice t.A2 t.n2 t.c2, .slice t.A3 t.n3 t.c3, .slice B m k]
def RetBothE (w0 : World) (p q : Nat) (e : Ending) (w' : World) : Prop := e = .returned (.bool true) ∧ ∃ F G d, Both w0 w' p F q G d
theorem AskLent.onlyK {w w' : World} {K : Nat → Prop} {base : Nat} {a : AskD} {s t : AskS} (h : AskLent w base a s t) (ho : Only K w w') (hK : ∀ k, K k → k < base) : AskLent w' base a s t := by
  obtain ⟨⟨g1, u1, p1, p2, p3, p4, p5, p6⟩, ⟨g2, u2, q1, q2, q3, q4, q5, q6⟩, ⟨g3, u3, r1, r2, r3, r4, r5, r6⟩⟩ := h
  exact ⟨⟨g1, u1, p1, p2, p3, p4, (ho.block g1 (lt_of_heap p5) (fun e => by have := hK _ e; omega)).trans p5, p6⟩, ⟨g2, u2, q1, q2, q3, q4, (ho.block g2 (lt_of_heap q5) (fun e => by have := hK _ e; omega)).trans q5, q6⟩, ⟨g3, u3, r1, r2, r3, r4, (ho.block g3 (lt_of_heap r5) (fun e => by have := hK _ e; omega)).trans r5, r6⟩⟩
theorem AskLent.foot {w : World} {base : Nat} {a : AskD} {s t : AskS} (h : AskLent w base a s t) : ∀ k, (blk t.A1 = some k ∨ blk t.A2 = some k ∨ blk t.A3 = some k) → base ≤ k ∧ k < w.heap.size := by
  obtain ⟨⟨g1, u1, p1, p2, p3, p4, p5, p6⟩, ⟨g2, u2, q1, q2, q3, q4, q5, q6⟩, ⟨g3, u3, r1, r2, r3, r4, r5, r6⟩⟩ := h
  rw [p1, q1, r1]
  have l1 := lt_of_heap p5; have l2 := lt_of_heap q5; have l3 := lt_of_heap r5
  intro k hk
  rcases hk with h | h | h
  all_goals
    simp [blk] at h
    omega
theorem cellsP_cut : ∀ (l : List PartD) (i : Nat) (x : PartD), l[i]? = some x → ((cellsP l).drop (i * 3)).take 3 = [.int .i64 x.file, .int .i64 x.record, .int .i64 x.len]
  | [], i, x, h => by simp at h
  | p :: r, 0, x, h => by
    simp only [List.getElem?_cons_zero, Option.some.injEq] at h
    subst h
    simp [cellsP]
  | p :: r, i + 1, x, h => by
    simp only [List.getElem?_cons_succ] at h
    have ih := cellsP_cut r i x h
    have e : cellsP (p :: r) = [.int .i64 p.file, .int .i64 p.record, .int .i64 p.len] ++ cellsP r := by simp [cellsP]
    rw [e, show (i + 1) * 3 = 3 + i * 3 by omega, ← List.drop_drop]
    exact ih
theorem lent_ow {w w0 : World} {base : Nat} {a : AskD} {s t : AskS} (h : AskLent w base a s t) (hr : AskRd w0 a s) (h1 : s.n1 ≤ 70000) (h2 : s.n2 ≤ 70000) (h3 : s.n3 ≤ 70000) : AskOw w base a t := by
  obtain ⟨⟨g1, u1, p1, p2, p3, p4, p5, p6⟩, ⟨g2, u2, q1, q2, q3, q4, q5, q6⟩, ⟨g3, u3, r1, r2, r3, r4, r5, r6⟩⟩ := h
  have e1 := hr.n1; have e2 := hr.n2; have e3 := hr.n3
  refine ⟨?_, ?_, ?_, hr.code, hr.addr, hr.count⟩
  · rw [p1, p2, p3]
    have hs : u1.size = 0 + (s.n1 + 5) := by rw [← Array.length_toList, p6]; simp [e1]
    have ho := Own.of_heap (p := IsBo) p4 p5 (off := 0) s.n1 (s.n1 + 5) (by omega) hs (by unfold maxLen; omega) (by
      intro v hv
      rw [p6] at hv
      rcases List.mem_append.1 hv with hv | hv
      · exact isBo_map v hv
      · exact ⟨true, (List.mem_replicate.1 hv).2⟩)
    rw [List.drop_zero, p6, List.take_append_of_le_length (by simp [e1]), List.take_of_length_le (by simp [e1])] at ho
    exact ho
  · rw [q1, q2, q3]
    have hs : u2.size = 0 + (s.n2 + 5) := by rw [← Array.length_toList, q6]; simp [e2]
    have ho := Own.of_heap (p := IsU16) q4 q5 (off := 0) s.n2 (s.n2 + 5) (by omega) hs (by unfold maxLen; omega) (by
      intro v hv
      rw [q6] at hv
      rcases List.mem_append.1 hv with hv | hv
      · exact isU16_map v hv
      · rw [(List.mem_replicate.1 hv).2]; exact isU16_of (by omega) (by omega))
    rw [List.drop_zero, q6, List.take_append_of_le_length (by simp [e2]), List.take_of_length_le (by simp [e2])] at ho
    exact ho
  · rw [r1, r2, r3]
    have hcp : cellsP (lentP a.parts) = cellsP a.parts ++ cellsP (List.replicate 5 ⟨-77, 0, 0⟩) := by unfold lentP cellsP; rw [List.flatMap_append]
    have hs : u3.size = (s.n3 + 5) * 3 := by rw [← Array.length_toList, r6, cellsP_length, lentP_length, e3]
    refine ⟨⟨cellsP a.parts, ⟨by rw [cellsP_length]; rfl, .inr ⟨g3, s.n3 + 5, u3, by rw [e3], r4, r5, by omega, by unfold maxLen; omega, hs, ?_⟩⟩, by rw [cellsP_length]; rfl, fun i x hx => ?_⟩, fun g hg => ?_⟩
    · rw [r6, hcp, List.take_append_of_le_length (by rw [cellsP_length]; exact Nat.le_refl _), List.take_of_length_le (by rw [cellsP_length]; exact Nat.le_refl _)]
    · obtain ⟨hi, hxx⟩ := List.getElem?_eq_some_iff.1 hx
      obtain ⟨b, o, rfl', hb, hl', cs, -, hc, hR⟩ := hr.parts.at_ (i := i) (by omega)
      rw [hxx] at hR
      obtain ⟨-, k1, k2, k3⟩ := hR
      exact ⟨cellsP_cut _ _ _ hx, k1, k2, k3⟩
    · simp only [Value.ownBlock, Option.some.injEq] at hg
      subst hg
      refine ⟨u3, _, r5, fun v hv => ?_⟩
      rw [r6] at hv
      unfold cellsP at hv
      obtain ⟨p, -, hv⟩ := List.mem_flatMap.1 hv
      simp only [List.mem_cons, List.mem_nil_iff, or_false] at hv
      rcases hv with rfl | rfl | rfl
      · exact ⟨_, rfl⟩
      · exact ⟨_, rfl⟩
      · exact ⟨_, rfl⟩
theorem both_start (now unit : Int) (a : AskD) (r : RepD) (data : List UInt8) (s : AskS) (t : RepS) (B : Option Addr) (m k : Nat) (w0 w : World) (p q : Nat) (F G : Nat → Prop) (d : MasD) (h : Both w0 w p F q G d) (hr : ∀ W, Ext w0 W → AskRd W a s) (h1 : s.n1 ≤ 70000) (h2 : s.n2 ≤ 70000) (h3 : s.n3 ≤ 70000) :
    Calls Tryz.prog 9 #[pM p, pM q, .agg #[.int .i64 0, .int .i64 now, .int .i64 unit, .int .i64 a.code, .int .i64 a.addr, .int .i64 a.count, .slice s.A1 s.n1 s.c1, .slice s.A2 s.n2 s.c2, .slice s.A3 s.n3 s.c3, .int .i64 r.exc, .slice t.A1 t.n1 t.c1, .slice t.A2 t.n2 t.c2, .slice t.A3 t.n3 t.c3, .slice B m k]] w (RetBothE w0 p q) := by
  have HT := Lib.hid h
  have HLF := Lib.hid h.a.lt; have HLG := Lib.hid h.b.lt
  clear h
  have HA := Lib.hid hr
  have HLA := Lib.hid (fun W (hX : Ext w0 W) => lentAsk_any a s W (hr W hX) h1 h2 h3)
  clear hr
  simp only [askV] at HLA
  unfold pM
  have HB := Lib.hid (heap_alloc_new w (.cells #[.int .i64 0, .int .i64 now, .int .i64 unit, .int .i64 a.code, .int .i64 a.addr, .int .i64 a.count, .slice s.A1 s.n1 s.c1, .slice s.A2 s.n2 s.c2, .slice s.A3 s.n3 s.c3, .int .i64 r.exc, .slice t.A1 t.n1 t.c1, .slice t.A2 t.n2 t.c2, .slice t.A3 t.n3 t.c3, .slice B m k] 43))
  have hs0 : w.heap.size < (w.alloc (.cells #[.int .i64 0, .int .i64 now, .int .i64 unit, .int .i64 a.code, .int .i64 a.addr, .int .i64 a.count, .slice s.A1 s.n1 s.c1, .slice s.A2 s.n2 s.c2, .slice s.A3 s.n3 s.c3, .int .i64 r.exc, .slice t.A1 t.n1 t.c1, .slice t.A2 t.n2 t.c2, .slice t.A3 t.n3 t.c3, .slice B m k] 43)).heap.size := lt_of_heap HB.out
  have X0 := Lib.hid (Ext.alloc w (.cells #[.int .i64 0, .int .i64 now, .int .i64 unit, .int .i64 a.code, .int .i64 a.addr, .int .i64 a.count, .slice s.A1 s.n1 s.c1, .slice s.A2 s.n2 s.c2, .slice s.A3 s.n3 s.c3, .int .i64 r.exc, .slice t.A1 t.n1 t.c1, .slice t.A2 t.n2 t.c2, .slice t.A3 t.n3 t.c3, .slice B m k] 43))
  go_enter Tryz.func9, Tryz.ntmps9
  go_wp2_with fail
  generalize w.alloc (.cells #[.int .i64 0, .int .i64 now, .int .i64 unit, .int .i64 a.code, .int .i64 a.addr, .int .i64 a.count, .slice s.A1 s.n1 s.c1, .slice s.A2 s.n2 s.c2, .slice s.A3 s.n3 s.c3, .int .i64 r.exc, .slice t.A1 t.n1 t.c1, .slice t.A2 t.n2 t.c2, .slice t.A3 t.n3 t.c3, .slice B m k] 43) = wA at *
  refine (HLA.out _ (HT.out.x.trans X0.out)).mono ?_
  rintro e w1 ⟨u, rfl, hl, hx⟩
  have XA := Lib.hid (hx.trans (Ext.alloc w1 (.cells #[.int .i64 a.code, .int .i64 a.addr, .int .i64 a.count, .slice u.A1 u.n1 u.c1, .slice u.A2 u.n2 u.c2, .slice u.A3 u.n3 u.c3] 37)))
  have T1 := Lib.hid (HT.out.ext (X0.out.trans XA.out))
  have L1 := Lib.hid (hl.ext (Ext.alloc w1 (.cells #[.int .i64 a.code, .int .i64 a.addr, .int .i64 a.count, .slice u.A1 u.n1 u.c1, .slice u.A2 u.n2 u.c2, .slice u.A3 u.n3 u.c3] 37)))
  have hft : Hid (∀ k, (blk u.A1 = some k ∨ blk u.A2 = some k ∨ blk u.A3 = some k) → wA.heap.size ≤ k ∧ k < w1.heap.size) := hl.foot
  have BX1 := Lib.hid (XA.out.block HB.out)
  have BA1 := Lib.hid (heap_alloc_new w1 (.cells #[.int .i64 a.code, .int .i64 a.addr, .int .i64 a.count, .slice u.A1 u.n1 u.c1, .slice u.A2 u.n2 u.c2, .slice u.A3 u.n3 u.c3] 37))
  have hs1 := hx.size
  have hs2 : w1.heap.size < (w1.alloc (.cells #[.int .i64 a.code, .int .i64 a.addr, .int .i64 a.count, .slice u.A1 u.n1 u.c1, .slice u.A2 u.n2 u.c2, .slice u.A3 u.n3 u.c3] 37)).heap.size := lt_of_heap BA1.out
  have hst := mas_start now unit a u (w1.alloc (.cells #[.int .i64 a.code, .int .i64 a.addr, .int .i64 a.count, .slice u.A1 u.n1 u.c1, .slice u.A2 u.n2 u.c2, .slice u.A3 u.n3 u.c3] 37)) p F d T1.out.a T1.out.ok (L1.out.rd (HA.out _ T1.out.x) h1 h2 h3)
  simp only [askV, pM] at hst
  have HST := Lib.hid hst
  clear hx hl HLA HB hst XA
  obtain ⟨c0, c1, c2, c3, c4, c5, c6, c7, c8, c9, c10, c11, c12, c13⟩ := cells14 BX1.out
  go_wp2_with fail
  clear c0 c1 c2 c3 c4 c5 c6 c7 c8 c9 c10 c11 c12 c13
  generalize w1.alloc (.cells #[.int .i64 a.code, .int .i64 a.addr, .int .i64 a.count, .slice u.A1 u.n1 u.c1, .slice u.A2 u.n2 u.c2, .slice u.A3 u.n3 u.c3] 37) = w2 at *
  obtain ⟨ga, hga⟩ : ∃ x, w1.heap.size = x := ⟨_, rfl⟩
  obtain ⟨g0, hg0⟩ : ∃ x, w.heap.size = x := ⟨_, rfl⟩
  rw [hga] at BA1 hs1 hs2 hft
  rw [hg0] at BX1 hs0 HLF HLG
  try simp only [hga, hg0]
  clear hga hg0
  refine HST.out.mono ?_
  rintro e w3 ⟨F', A3, n3, c3, rfl, hm, ho, hf, how, hna⟩
  have hs3 := ho.size
  have M3 := Lib.hid hm; have O3 := Lib.hid how; have HF' := Lib.hid hf; have HNA := Lib.hid hna
  have hlF : Hid (∀ k, F k → k < g0) := HLF.out
  have R3 := Lib.hid (T1.out.b.only ho (fun k hk hF => T1.out.ab k hF hk))
  have X3 := Lib.hid (ho.ext T1.out.x T1.out.fa)
  have BX3 := Lib.hid ((ho.block g0 (by omega) (fun e => by have := hlF.out _ e; omega)).trans BX1.out)
  have BA3 := Lib.hid ((ho.block ga (by omega) (fun e => by have := hlF.out _ e; omega)).trans BA1.out)
  have L3 := Lib.hid (L1.out.onlyK ho (fun k e => by have := hlF.out _ e; omega))
  have HO3lt : Hid (∀ g, blk A3 = some g → g < w3.heap.size) := fun g hg => (how.lt g hg).2
  have hl3 : Hid (∀ k, F' k → k < w3.heap.size) := hm.lt
  have hst := rem_start now unit a s w3 q G d R3.out (fun W hW => HA.out W (hW.ext X3.out T1.out.fb))
  simp only [askV, pM] at hst
  have HST2 := Lib.hid hst
  have HOKS : Hid (MasOk (startM d now unit a)) := startM_ok T1.out.ok
  clear hm ho hf how hna hst HST BX1 BA1 L1 R3
  obtain ⟨c0, c1, c2, c3, c4, c5, c6, c7, c8, c9, c10, c11, c12, c13⟩ := cells14 BX3.out
  go_wp2_with fail
  clear c0 c1 c2 c3 c4 c5 c6 c7 c8 c9 c10 c11 c12 c13
  generalize startE d now unit a = E at *
  generalize startM d now unit a = dm at *
  generalize startB d now unit a = bs at *
  refine HST2.out.mono ?_
  rintro e w4 ⟨G', A4, n4, k4, rfl, hm, ho, hf, how, hna⟩
  have hs4 := ho.size
  have hlG : Hid (∀ k, G k → k < g0) := HLG.out
  have R4 := Lib.hid hm; have O4 := Lib.hid how; have HG' := Lib.hid hf
  have M4 := Lib.hid (M3.out.only ho (fun k hk hG => by
    rcases HF'.out k hk with h | h
    · exact T1.out.ab k h hG
    · have := hlG.out k hG; omega))
  have O34 := Lib.hid (O3.out.only ho (fun g hg hG => by have := (O3.out.lt g hg).1; have := hlG.out _ hG; omega))
  have X4 := Lib.hid (ho.ext X3.out T1.out.fb)
  have BX4 := Lib.hid ((ho.block g0 (by omega) (fun e => by have := hlG.out _ e; omega)).trans BX3.out)
  have BA4 := Lib.hid ((ho.block ga (by omega) (fun e => by have := hlG.out _ e; omega)).trans BA3.out)
  have L4 := Lib.hid (L3.out.onlyK ho (fun k e => by have := hlG.out _ e; omega))
  have T4 : Hid (Both w0 w4 p F' q G' dm) := ⟨M4.out, R4.out, HOKS.out, X4.out, fun k hk => by
      rcases HF'.out k hk with h | h
      · exact T1.out.fa k h
      · have := T1.out.x.size; omega, fun k hk => by
      rcases HG'.out k hk with h | h
      · exact T1.out.fb k h
      · have := T1.out.x.size; omega, fun k hF hG => by
      have h1 := hl3.out k hF
      rcases HG'.out k hG with h | h
      · rcases HF'.out k hF with h' | h'
        · exact T1.out.ab k h' h
        · have := hlG.out k h; omega
      · omega⟩
  have hEE : (E != E) = false := by simp
  have HSB := Lib.hid (same_any bs bs A3 A4 n3 n4 c3 k4 w4 O34.out.rd O4.out.rd (by have := O34.out.cap; have := O34.out.capLe; unfold maxLen; omega))
  rw [decide_eq_true rfl] at HSB
  clear hm ho hf how hna HST2 BX3 BA3 L3 M3 R4 M4 X3 X4 O3
  go_wp2_with fail
  refine HSB.out.mono ?_
  rintro e w5 ⟨rfl, hxx⟩
  have hx := Ext.of hxx
  have T5 := Lib.hid (T4.out.ext hx); have BX5 := Lib.hid (hx.block BX4.out); have BA5 := Lib.hid (hx.block BA4.out); have L5 := Lib.hid (L4.out.ext hx); have O5 := Lib.hid (O34.out.ext hx)
  have hs5 := hx.size
  have hk := keptAsk_any a s u wA.heap.size w5 (HA.out _ T5.out.x) L5.out h1 h2 h3
  simp only [askV] at hk
  have HK := Lib.hid hk
  clear hxx hx hk HSB T4 BX4 BA4 L4 O34 O4
  obtain ⟨c0, c1, c2, c3, c4, c5, c6, c7, c8, c9, c10, c11, c12, c13⟩ := cells14 BX5.out
  obtain ⟨d0, d1, d2, d3, d4, d5⟩ := cells6 BA5.out
  go_wp2_with fail
  clear c0 c1 c2 c3 c4 c5 c6 c7 c8 c9 c10 c11 c12 c13 d0 d1 d2 d3 d4 d5
  refine HK.out.mono ?_
  rintro e w6 ⟨rfl, hx⟩
  have T6 := Lib.hid (T5.out.ext hx); have BA6 := Lib.hid (hx.block BA5.out); have L6 := Lib.hid (L5.out.ext hx); have O6 := Lib.hid (O5.out.ext hx)
  have hs6 := hx.size
  have hk := spoilAsk_foot a u wA.heap.size w6 (lent_ow L6.out (HA.out _ T6.out.x) h1 h2 h3)
  simp only [askV] at hk
  have HK2 := Lib.hid hk
  clear hx hk HK T5 BX5 BA5 L5 O5
  obtain ⟨d0, d1, d2, d3, d4, d5⟩ := cells6 BA6.out
  go_wp2_with fail
  clear d0 d1 d2 d3 d4 d5
  refine HK2.out.mono ?_
  rintro e w7 ⟨rfl, ho⟩
  have hlF' : Hid (∀ k, F' k → k < g0 ∨ w2.heap.size ≤ k) := fun k hk => (HF'.out k hk).imp (hlF.out k) id
  have hlG' : Hid (∀ k, G' k → k < g0 ∨ w3.heap.size ≤ k) := fun k hk => (HG'.out k hk).imp (hlG.out k) id
  have T7 := Lib.hid (T6.out.only ho (fun k hk e => by have := hft.out k e; have := hlF'.out k hk; omega) (fun k hk e => by have := hft.out k e; have := hlG'.out k hk; omega) (fun k e => by have := hft.out k e; have := HT.out.x.size; have := X0.out.size; omega))
  have O7 := Lib.hid (O6.out.only ho (fun g hg e => by have := hft.out g e; have := (O6.out.lt g hg).1; omega))
  clear ho HK2 T6 BA6 L6 O6
  go_wp2_with fail
  refine (spoil_any _ _ _ _ _ _ O7.out).mono ?_
  rintro e w8 ⟨rfl, -, hgr⟩
  have hk0 : ∀ g, blk A3 = some g → w2.heap.size ≤ g ∧ g < w7.heap.size := fun g hg => O7.out.lt g hg
  have hgG : ∀ g, blk A3 = some g → ¬ G' g := fun g hg hG => by
    rcases HG'.out g hG with h | h
    · have := hlG.out g h; have := hk0 g hg; omega
    · exact absurd (HO3lt.out g hg) (by omega)
  have T8 := Lib.hid (T7.out.only (Only.of_grown (F := fun k => blk A3 = some k) hgr (fun g hg => hg)) (fun k hk e => HNA.out k e hk) (fun k hk e => hgG k e hk) (fun k e => by have := hk0 k e; have := T1.out.x.size; omega))
  clear hgr T7 O7
  go_wp2_with fail
  go_ret
  exact ⟨rfl, F', G', dm, T8.out⟩
theorem both_hear (now unit : Int) (a : AskD) (r : RepD) (data : List UInt8) (s : AskS) (t : RepS) (B : Option Addr) (m k : Nat) (w0 w : World) (p q : Nat) (F G : Nat → Prop) (d : MasD) (h : Both w0 w p F q G d) (hd : ∀ W, Ext w0 W → Rd W B m (data.map cB)) (hc : m ≤ k ∧ k ≤ 9223372036854775807) (hm : m ≤ 1048576) :
    Calls Tryz.prog 9 #[pM p, pM q, .agg #[.int .i64 1, .int .i64 now, .int .i64 unit, .int .i64 a.code, .int .i64 a.addr, .int .i64 a.count, .slice s.A1 s.n1 s.c1, .slice s.A2 s.n2 s.c2, .slice s.A3 s.n3 s.c3, .int .i64 r.exc, .slice t.A1 t.n1 t.c1, .slice t.A2 t.n2 t.c2, .slice t.A3 t.n3 t.c3, .slice B m k]] w (RetBothE w0 p q) := by
  have HT := Lib.hid h
  have HLF := Lib.hid h.a.lt; have HLG := Lib.hid h.b.lt
  clear h
  unfold pM
  have HB := Lib.hid (heap_alloc_new w (.cells #[.int .i64 1, .int .i64 now, .int .i64 unit, .int .i64 a.code, .int .i64 a.addr, .int .i64 a.count, .slice s.A1 s.n1 s.c1, .slice s.A2 s.n2 s.c2, .slice s.A3 s.n3 s.c3, .int .i64 r.exc, .slice t.A1 t.n1 t.c1, .slice t.A2 t.n2 t.c2, .slice t.A3 t.n3 t.c3, .slice B m k] 43))
  have hs0 : w.heap.size < (w.alloc (.cells #[.int .i64 1, .int .i64 now, .int .i64 unit, .int .i64 a.code, .int .i64 a.addr, .int .i64 a.count, .slice s.A1 s.n1 s.c1, .slice s.A2 s.n2 s.c2, .slice s.A3 s.n3 s.c3, .int .i64 r.exc, .slice t.A1 t.n1 t.c1, .slice t.A2 t.n2 t.c2, .slice t.A3 t.n3 t.c3, .slice B m k] 43)).heap.size := lt_of_heap HB.out
  have T1 := Lib.hid (HT.out.ext (Ext.alloc w (.cells #[.int .i64 1, .int .i64 now, .int .i64 unit, .int .i64 a.code, .int .i64 a.addr, .int .i64 a.count, .slice s.A1 s.n1 s.c1, .slice s.A2 s.n2 s.c2, .slice s.A3 s.n3 s.c3, .int .i64 r.exc, .slice t.A1 t.n1 t.c1, .slice t.A2 t.n2 t.c2, .slice t.A3 t.n3 t.c3, .slice B m k] 43)))
  have hh := heard_any data B m k w0 (w.alloc (.cells #[.int .i64 1, .int .i64 now, .int .i64 unit, .int .i64 a.code, .int .i64 a.addr, .int .i64 a.count, .slice s.A1 s.n1 s.c1, .slice s.A2 s.n2 s.c2, .slice s.A3 s.n3 s.c3, .int .i64 r.exc, .slice t.A1 t.n1 t.c1, .slice t.A2 t.n2 t.c2, .slice t.A3 t.n3 t.c3, .slice B m k] 43)) p q F G d T1.out (fun W hW => hd W (hW.ext T1.out.x (fun k hk => hk.elim (T1.out.fa k) (T1.out.fb k)))) hc hm
  simp only [pM] at hh
  have HH := Lib.hid hh
  clear hh hd
  go_enter Tryz.func9, Tryz.ntmps9
  obtain ⟨c0, c1, c2, c3, c4, c5, c6, c7, c8, c9, c10, c11, c12, c13⟩ := cells14 HB.out
  go_wp2_with fail
  refine HH.out.mono ?_
  rintro e w1 ⟨rfl, F', G', hB⟩
  go_wp2_with fail
  go_ret
  exact ⟨rfl, F', G', _, hB⟩
end Go.Proofs.YtomcipkmohhpjaaGreat

namespace Go.Out
open Go Go.RowKit
theorem putR_err' (a : AskD) (r : RepD) : (putR a r).2 = checkR a r := by
  unfold putR
  split
  · rfl
  · rename_i h; split
    · exact (Classical.not_not.1 h).symm
    · split <;> exact (Classical.not_not.1 h).symm
theorem tickO_rep (d : MasD) (now : Int) : (tickO d now).rep = rep0 := by
  unfold tickO; split <;> rfl
theorem rtuF_256 {u : UInt8} {b : List UInt8} (h : b.length ≤ 253) : (rtuF u b).1.length ≤ 256 := by
  by_cases h0 : (rtuF u b).2 = 0
  · have := (openRtu_rtu h0).2.1; omega
  · by_cases h1 : u.toNat < 1 ∨ 247 < u.toNat
    · rw [rtuF_unit h1]; simp
    · by_cases h2 : szF b.length = 0
      · rw [rtuF_ok h1 h2] at h0; exact absurd rfl h0
      · rw [rtuF_size h1 h2]; simp
end Go.Out
namespace Go.Proofs.YtomcipkmohhpjaaGreat
set_option linter.unusedVariables false
set_option linter.unusedSimpArgs false
set_option maxRecDepth 100000
set_option maxHeartbeats 2000000
open Go Go.RowKit Go.Out

theorem both_tick (now unit : Int) (a : AskD) (r : RepD) (data : List UInt8) (s : AskS) (t : RepS) (B : Option Addr) (m k : Nat) (w0 w : World) (p q : Nat) (F G : Nat → Prop) (d : MasD) (h : Both w0 w p F q G d)  :
    Calls Tryz.prog 9 #[pM p, pM q, .agg #[.int .i64 2, .int .i64 now, .int .i64 unit, .int .i64 a.code, .int .i64 a.addr, .int .i64 a.count, .slice s.A1 s.n1 s.c1, .slice s.A2 s.n2 s.c2, .slice s.A3 s.n3 s.c3, .int .i64 r.exc, .slice t.A1 t.n1 t.c1, .slice t.A2 t.n2 t.c2, .slice t.A3 t.n3 t.c3, .slice B m k]] w (RetBothE w0 p q) := by
  have HT := Lib.hid h
  have HLF := Lib.hid h.a.lt; have HLG := Lib.hid h.b.lt
  clear h
  unfold pM
  have HB := Lib.hid (heap_alloc_new w (.cells #[.int .i64 2, .int .i64 now, .int .i64 unit, .int .i64 a.code, .int .i64 a.addr, .int .i64 a.count, .slice s.A1 s.n1 s.c1, .slice s.A2 s.n2 s.c2, .slice s.A3 s.n3 s.c3, .int .i64 r.exc, .slice t.A1 t.n1 t.c1, .slice t.A2 t.n2 t.c2, .slice t.A3 t.n3 t.c3, .slice B m k] 43))
  have hs0 : w.heap.size < (w.alloc (.cells #[.int .i64 2, .int .i64 now, .int .i64 unit, .int .i64 a.code, .int .i64 a.addr, .int .i64 a.count, .slice s.A1 s.n1 s.c1, .slice s.A2 s.n2 s.c2, .slice s.A3 s.n3 s.c3, .int .i64 r.exc, .slice t.A1 t.n1 t.c1, .slice t.A2 t.n2 t.c2, .slice t.A3 t.n3 t.c3, .slice B m k] 43)).heap.size := lt_of_heap HB.out
  have T1 := Lib.hid (HT.out.ext (Ext.alloc w (.cells #[.int .i64 2, .int .i64 now, .int .i64 unit, .int .i64 a.code, .int .i64 a.addr, .int .i64 a.count, .slice s.A1 s.n1 s.c1, .slice s.A2 s.n2 s.c2, .slice s.A3 s.n3 s.c3, .int .i64 r.exc, .slice t.A1 t.n1 t.c1, .slice t.A2 t.n2 t.c2, .slice t.A3 t.n3 t.c3, .slice B m k] 43)))
  have hh := mas_tick now (w.alloc (.cells #[.int .i64 2, .int .i64 now, .int .i64 unit, .int .i64 a.code, .int .i64 a.addr, .int .i64 a.count, .slice s.A1 s.n1 s.c1, .slice s.A2 s.n2 s.c2, .slice s.A3 s.n3 s.c3, .int .i64 r.exc, .slice t.A1 t.n1 t.c1, .slice t.A2 t.n2 t.c2, .slice t.A3 t.n3 t.c3, .slice B m k] 43)) p F d T1.out.a T1.out.ok
  simp only [pM] at hh
  have HH := Lib.hid hh
  clear hh
  go_enter Tryz.func9, Tryz.ntmps9
  obtain ⟨c0, c1, c2, c3, c4, c5, c6, c7, c8, c9, c10, c11, c12, c13⟩ := cells14 HB.out
  go_wp2_with fail
  clear c0 c1 c2 c3 c4 c5 c6 c7 c8 c9 c10 c11 c12 c13
  generalize w.alloc (.cells #[.int .i64 2, .int .i64 now, .int .i64 unit, .int .i64 a.code, .int .i64 a.addr, .int .i64 a.count, .slice s.A1 s.n1 s.c1, .slice s.A2 s.n2 s.c2, .slice s.A3 s.n3 s.c3, .int .i64 r.exc, .slice t.A1 t.n1 t.c1, .slice t.A2 t.n2 t.c2, .slice t.A3 t.n3 t.c3, .slice B m k] 43) = w1 at *
  obtain ⟨g0, hg0⟩ : ∃ x, w.heap.size = x := ⟨_, rfl⟩
  rw [hg0] at HB hs0 HLF HLG
  try simp only [hg0]
  clear hg0
  have hrep := tickO_rep d now
  have hokt := tickM_ok (now := now) T1.out.ok
  have hbd := fun W (X : RemAt W q G d) => rem_tick now W q G d X T1.out.ok
  generalize tickO d now = oo at *
  generalize tickM d now = dm at *
  generalize tickB d now = bs at *
  generalize decide (tickK d now = 2) = ok at *
  have HRP := Lib.hid hrep; have HOKT := Lib.hid hokt
  simp only [pM, outV, repS0] at HH hbd ⊢
  have HBD := Lib.hid hbd
  clear hrep hokt hbd
  refine HH.out.mono ?_
  rintro e w2 ⟨A3, n3, c3, rfl, hm, ho, how⟩
  simp only [outV, repS0]
  have hs2 := ho.size
  have M2 := Lib.hid (hm.ext (Ext.alloc w2 (.cells #[.int .i64 oo.what, .int .i64 oo.rep.exc, .slice none 0 0, .slice none 0 0, .slice none 0 0, .int .i64 (oo.tries : Int)] 59))); have O2 := Lib.hid (how.ext (Ext.alloc w2 (.cells #[.int .i64 oo.what, .int .i64 oo.rep.exc, .slice none 0 0, .slice none 0 0, .slice none 0 0, .int .i64 (oo.tries : Int)] 59)))
  have R2 := Lib.hid ((T1.out.b.only ho (fun k hk hF => T1.out.ab k hF hk)).ext (Ext.alloc w2 (.cells #[.int .i64 oo.what, .int .i64 oo.rep.exc, .slice none 0 0, .slice none 0 0, .slice none 0 0, .int .i64 (oo.tries : Int)] 59)))
  have X2 := Lib.hid ((ho.ext T1.out.x T1.out.fa).trans (Ext.alloc w2 (.cells #[.int .i64 oo.what, .int .i64 oo.rep.exc, .slice none 0 0, .slice none 0 0, .slice none 0 0, .int .i64 (oo.tries : Int)] 59)))
  have BX2 := Lib.hid ((Ext.alloc w2 (.cells #[.int .i64 oo.what, .int .i64 oo.rep.exc, .slice none 0 0, .slice none 0 0, .slice none 0 0, .int .i64 (oo.tries : Int)] 59)).block ((ho.block g0 (by omega) (fun e => by have := HLF.out _ e; omega)).trans HB.out))
  have BO2 := Lib.hid (heap_alloc_new w2 (.cells #[.int .i64 oo.what, .int .i64 oo.rep.exc, .slice none 0 0, .slice none 0 0, .slice none 0 0, .int .i64 (oo.tries : Int)] 59))
  have HQ := Lib.hid (HBD.out _ R2.out)
  clear hm ho how HH HBD HB
  obtain ⟨c0, c1, c2, c3', c4, c5, c6, c7, c8, c9, c10, c11, c12, c13⟩ := cells14 BX2.out
  go_wp2_with fail
  clear c0 c1 c2 c3' c4 c5 c6 c7 c8 c9 c10 c11 c12 c13
  have hs3 : w2.heap.size < (w2.alloc (.cells #[.int .i64 oo.what, .int .i64 oo.rep.exc, .slice none 0 0, .slice none 0 0, .slice none 0 0, .int .i64 (oo.tries : Int)] 59)).heap.size := lt_of_heap BO2.out
  generalize w2.alloc (.cells #[.int .i64 oo.what, .int .i64 oo.rep.exc, .slice none 0 0, .slice none 0 0, .slice none 0 0, .int .i64 (oo.tries : Int)] 59) = w3 at *
  obtain ⟨g2, hg2⟩ : ∃ x, w2.heap.size = x := ⟨_, rfl⟩
  rw [hg2] at BO2 hs2 hs3
  try simp only [hg2]
  clear hg2
  refine HQ.out.mono ?_
  rintro e w4 ⟨A4, n4, c4, rfl, hm, ho, how⟩
  simp only [outV, repS0]
  have hs4 := ho.size
  have R4 := Lib.hid (hm.ext (Ext.alloc w4 (.cells #[.int .i64 oo.what, .int .i64 oo.rep.exc, .slice none 0 0, .slice none 0 0, .slice none 0 0, .int .i64 (oo.tries : Int)] 59))); have O4 := Lib.hid (how.ext (Ext.alloc w4 (.cells #[.int .i64 oo.what, .int .i64 oo.rep.exc, .slice none 0 0, .slice none 0 0, .slice none 0 0, .int .i64 (oo.tries : Int)] 59)))
  have M4 := Lib.hid ((M2.out.only ho (fun k hk hG => T1.out.ab k hk hG)).ext (Ext.alloc w4 (.cells #[.int .i64 oo.what, .int .i64 oo.rep.exc, .slice none 0 0, .slice none 0 0, .slice none 0 0, .int .i64 (oo.tries : Int)] 59)))
  have O34 := Lib.hid ((O2.out.only ho (fun g hg hG => by have := (O2.out.lt g hg).1; have := HLG.out _ hG; omega)).ext (Ext.alloc w4 (.cells #[.int .i64 oo.what, .int .i64 oo.rep.exc, .slice none 0 0, .slice none 0 0, .slice none 0 0, .int .i64 (oo.tries : Int)] 59)))
  have X4 := Lib.hid ((ho.ext X2.out T1.out.fb).trans (Ext.alloc w4 (.cells #[.int .i64 oo.what, .int .i64 oo.rep.exc, .slice none 0 0, .slice none 0 0, .slice none 0 0, .int .i64 (oo.tries : Int)] 59)))
  have BO4 := Lib.hid ((Ext.alloc w4 (.cells #[.int .i64 oo.what, .int .i64 oo.rep.exc, .slice none 0 0, .slice none 0 0, .slice none 0 0, .int .i64 (oo.tries : Int)] 59)).block ((ho.block g2 (by omega) (fun e => by have := HLG.out _ e; omega)).trans BO2.out))
  have BP4 := Lib.hid (heap_alloc_new w4 (.cells #[.int .i64 oo.what, .int .i64 oo.rep.exc, .slice none 0 0, .slice none 0 0, .slice none 0 0, .int .i64 (oo.tries : Int)] 59))
  have T4 : Hid (Both w0 (w4.alloc (.cells #[.int .i64 oo.what, .int .i64 oo.rep.exc, .slice none 0 0, .slice none 0 0, .slice none 0 0, .int .i64 (oo.tries : Int)] 59)) p F q G dm) := ⟨M4.out, R4.out, HOKT.out, X4.out, T1.out.fa, T1.out.fb, T1.out.ab⟩
  have hso := fun W => sameOut_any oo repS0 repS0 W (by rw [HRP.out]; exact (rep0_ow W 0).rd) (by rw [HRP.out]; exact (rep0_ow W 0).rd)
  simp only [outV, repS0] at hso
  have HSO := Lib.hid hso
  clear hso hm ho how HQ BO2 M2 R2 M4 R4 X2 X4 BX2 O2
  obtain ⟨c0, c1, c2, c3', c4', c5⟩ := cells6 BO4.out
  go_wp2_with fail
  clear c0 c1 c2 c3' c4' c5
  generalize w4.alloc (.cells #[.int .i64 oo.what, .int .i64 oo.rep.exc, .slice none 0 0, .slice none 0 0, .slice none 0 0, .int .i64 (oo.tries : Int)] 59) = w5 at *
  refine (HSO.out _).mono ?_
  rintro e w6 ⟨rfl, hx⟩
  have T6 := Lib.hid (T4.out.ext hx); have O6 := Lib.hid (O34.out.ext hx); have P6 := Lib.hid (O4.out.ext hx)
  have hs6 := hx.size
  have HSB := Lib.hid (same_any bs bs A3 A4 n3 n4 c3 c4 w6 O6.out.rd P6.out.rd (by have := O34.out.cap; have := O34.out.capLe; unfold maxLen; omega))
  rw [decide_eq_true rfl] at HSB
  clear hx HSO T4 O34 O4 BO4 BP4
  go_wp2_with fail
  refine HSB.out.mono ?_
  rintro e w7 ⟨rfl, hxx⟩
  have hx := Ext.of hxx
  have T7 := Lib.hid (T6.out.ext hx); have O7 := Lib.hid (O6.out.ext hx)
  clear hxx hx HSB T6 O6 P6
  go_wp2_with fail
  refine (spoil_any _ _ _ _ _ _ O7.out).mono ?_
  rintro e w8 ⟨rfl, -, hgr⟩
  have hk0 : ∀ g, blk A3 = some g → w1.heap.size ≤ g := fun g hg => (O7.out.lt g hg).1
  have T8 := Lib.hid (T7.out.only (Only.of_grown (F := fun k => blk A3 = some k) hgr (fun g hg => hg)) (fun k hk e => by have := hk0 k e; have := HLF.out k hk; omega) (fun k hk e => by have := hk0 k e; have := HLG.out k hk; omega) (fun k e => by have := hk0 k e; have := T1.out.x.size; omega))
  clear hgr T7 O7
  go_wp2_with fail
  go_ret
  exact ⟨rfl, F, G, dm, T8.out⟩
theorem both_none (kind now unit : Int) (a : AskD) (r : RepD) (data : List UInt8) (s : AskS) (t : RepS) (B : Option Addr) (m k : Nat) (w0 w : World) (p q : Nat) (F G : Nat → Prop) (d : MasD) (h : Both w0 w p F q G d) (k0 : (kind == 0) = false) (k1 : (kind == 1) = false) (k2 : (kind == 2) = false) (k3 : (kind == 3) = false) :
    Calls Tryz.prog 9 #[pM p, pM q, .agg #[.int .i64 kind, .int .i64 now, .int .i64 unit, .int .i64 a.code, .int .i64 a.addr, .int .i64 a.count, .slice s.A1 s.n1 s.c1, .slice s.A2 s.n2 s.c2, .slice s.A3 s.n3 s.c3, .int .i64 r.exc, .slice t.A1 t.n1 t.c1, .slice t.A2 t.n2 t.c2, .slice t.A3 t.n3 t.c3, .slice B m k]] w (RetBothE w0 p q) := by
  have HT := Lib.hid h
  have HLF := Lib.hid h.a.lt; have HLG := Lib.hid h.b.lt
  clear h
  unfold pM
  have HB := Lib.hid (heap_alloc_new w (.cells #[.int .i64 kind, .int .i64 now, .int .i64 unit, .int .i64 a.code, .int .i64 a.addr, .int .i64 a.count, .slice s.A1 s.n1 s.c1, .slice s.A2 s.n2 s.c2, .slice s.A3 s.n3 s.c3, .int .i64 r.exc, .slice t.A1 t.n1 t.c1, .slice t.A2 t.n2 t.c2, .slice t.A3 t.n3 t.c3, .slice B m k] 43))
  have T1 := Lib.hid (HT.out.ext (Ext.alloc w (.cells #[.int .i64 kind, .int .i64 now, .int .i64 unit, .int .i64 a.code, .int .i64 a.addr, .int .i64 a.count, .slice s.A1 s.n1 s.c1, .slice s.A2 s.n2 s.c2, .slice s.A3 s.n3 s.c3, .int .i64 r.exc, .slice t.A1 t.n1 t.c1, .slice t.A2 t.n2 t.c2, .slice t.A3 t.n3 t.c3, .slice B m k] 43)))
  go_enter Tryz.func9, Tryz.ntmps9
  go_wp2_with fail
  go_ret
  exact ⟨rfl, F, G, d, T1.out⟩
theorem both_answer (now unit : Int) (a : AskD) (r : RepD) (data : List UInt8) (s : AskS) (t : RepS) (B : Option Addr) (m k : Nat) (w0 w : World) (p q : Nat) (F G : Nat → Prop) (d : MasD) (h : Both w0 w p F q G d) (hr : ∀ W, Ext w0 W → RepRd W r t) (hd : ∀ W, Ext w0 W → Rd W B m (data.map cB)) (hc : m ≤ k ∧ k ≤ 9223372036854775807) (hm : m ≤ 1048576) :
    Calls Tryz.prog 9 #[pM p, pM q, .agg #[.int .i64 3, .int .i64 now, .int .i64 unit, .int .i64 a.code, .int .i64 a.addr, .int .i64 a.count, .slice s.A1 s.n1 s.c1, .slice s.A2 s.n2 s.c2, .slice s.A3 s.n3 s.c3, .int .i64 r.exc, .slice t.A1 t.n1 t.c1, .slice t.A2 t.n2 t.c2, .slice t.A3 t.n3 t.c3, .slice B m k]] w (RetBothE w0 p q) := by
  have HT := Lib.hid h
  have HLF := Lib.hid h.a.lt; have HLG := Lib.hid h.b.lt
  clear h
  have HR := Lib.hid hr; have HD := Lib.hid hd
  clear hr hd
  unfold pM
  have HB := Lib.hid (heap_alloc_new w (.cells #[.int .i64 3, .int .i64 now, .int .i64 unit, .int .i64 a.code, .int .i64 a.addr, .int .i64 a.count, .slice s.A1 s.n1 s.c1, .slice s.A2 s.n2 s.c2, .slice s.A3 s.n3 s.c3, .int .i64 r.exc, .slice t.A1 t.n1 t.c1, .slice t.A2 t.n2 t.c2, .slice t.A3 t.n3 t.c3, .slice B m k] 43))
  have T1 := Lib.hid (HT.out.ext (Ext.alloc w (.cells #[.int .i64 3, .int .i64 now, .int .i64 unit, .int .i64 a.code, .int .i64 a.addr, .int .i64 a.count, .slice s.A1 s.n1 s.c1, .slice s.A2 s.n2 s.c2, .slice s.A3 s.n3 s.c3, .int .i64 r.exc, .slice t.A1 t.n1 t.c1, .slice t.A2 t.n2 t.c2, .slice t.A3 t.n3 t.c3, .slice B m k] 43)))
  obtain ⟨x, A9, n9, c9, h1, h2, -, -, -, h6⟩ := T1.out.b
  have HP := Lib.hid (fun W (hX : Ext (w.alloc (.cells #[.int .i64 3, .int .i64 now, .int .i64 unit, .int .i64 a.code, .int .i64 a.addr, .int .i64 a.count, .slice s.A1 s.n1 s.c1, .slice s.A2 s.n2 s.c2, .slice s.A3 s.n3 s.c3, .int .i64 r.exc, .slice t.A1 t.n1 t.c1, .slice t.A2 t.n2 t.c2, .slice t.A3 t.n3 t.c3, .slice B m k] 43)) W) => ref04Put_any d.ask r x t W (h2 W ⟨hX.size, fun k hk => Below.block hX k (h6 k hk.1)⟩).1 (HR.out W (T1.out.x.trans hX)))
  unfold remRow at h1
  have HC := Lib.hid (fun W (hX : Ext (w.alloc (.cells #[.int .i64 3, .int .i64 now, .int .i64 unit, .int .i64 a.code, .int .i64 a.addr, .int .i64 a.count, .slice s.A1 s.n1 s.c1, .slice s.A2 s.n2 s.c2, .slice s.A3 s.n3 s.c3, .int .i64 r.exc, .slice t.A1 t.n1 t.c1, .slice t.A2 t.n2 t.c2, .slice t.A3 t.n3 t.c3, .slice B m k] 43)) W) => cells13 (hX.block h1))
  clear h1 h2 h6
  simp only [askV, repV] at HP
  go_enter Tryz.func9, Tryz.ntmps9
  have HOK := Lib.hid T1.out.ok
  obtain ⟨c0, c1, c2, c3, c4, c5, c6, c7, c8, c9', c10, c11, c12, c13⟩ := cells14 HB.out
  obtain ⟨b0, b1, b2, b3, b4, b5, b6, b7, b8, b9, b10, b11, b12⟩ := HC.out _ (Ext.refl _)
  go_wp2_with fail
  generalize w.alloc (.cells #[.int .i64 3, .int .i64 now, .int .i64 unit, .int .i64 a.code, .int .i64 a.addr, .int .i64 a.count, .slice s.A1 s.n1 s.c1, .slice s.A2 s.n2 s.c2, .slice s.A3 s.n3 s.c3, .int .i64 r.exc, .slice t.A1 t.n1 t.c1, .slice t.A2 t.n2 t.c2, .slice t.A3 t.n3 t.c3, .slice B m k] 43) = w1 at *
  obtain ⟨g0, hg0⟩ : ∃ x, w.heap.size = x := ⟨_, rfl⟩
  rw [hg0] at HB HLF HLG c0 c1 c2 c3 c4 c5 c6 c7 c8 c9' c10 c11 c12 c13
  try simp only [hg0]
  clear hg0
  have HPQ := Lib.hid (HP.out w1.drew (Ext.draw _))
  clear HP
  go_region_law ((first
    | (go_simp
       go_at_call 28
       with_reducible refine Calls.mono HPQ.out ?_
       rintro e w5 ⟨A5, n5, c5', rfl, how, hx⟩
       have XX := Lib.hid ((Ext.draw _).trans hx)
       have O5 := Lib.hid how
       clear how hx)))
  all_goals
    clear c0 c1 c2 c3 c4 c5 c6 c7 c8 c9' c10 c11 c12 c13 b0 b1 b2 b3 b4 b5 b6 b7 b8 b9 b10 b11 b12 HPQ
    obtain ⟨-, -, -, b3, -⟩ := HC.out _ XX.out
    have hpe := putR_err' d.ask r
    have hpl : checkR d.ask r = 0 → (putR d.ask r).1.length ≤ 253 := fun h => (getR_putR h).2.2.2
    rw [← hpe] at hpl
    have T5 := Lib.hid (T1.out.ext XX.out)
    have HB5 := Lib.hid (XX.out.block HB.out)
    have hun := HOK.out.un
    clear hpe HC HB
    generalize (putR d.ask r).2 = E at *
    generalize (putR d.ask r).1 = pd at *
    by_cases hE : E = 0
    case neg =>
      have t1 : (E != 0) = true := by simp [hE]
      clear hE hpl
      go_wp2_with fail
      go_ret
      exact ⟨rfl, F, G, d, T5.out⟩
    case pos =>
    subst hE
    have hpl2 : pd.length ≤ 253 := hpl rfl
    clear hpl
    by_cases hU : d.unit = 0
    case pos =>
      have t1 : ((d.unit : Int) == 0) = true := by simp [hU]
      clear hU
      go_wp2_with fail
      go_ret
      exact ⟨rfl, F, G, d, T5.out⟩
    case neg =>
    have t1 : ((d.unit : Int) == 0) = false := by simp [hU]
    have hwu : IntKind.u8.wrap (d.unit : Int) = ((UInt8.ofNat d.unit).toNat : Int) := by
      rw [toNat_ofNat8 (by omega)]
      exact IntWalk.u8_in _ (by omega)
    have hnl := O5.out.rd.length
    have HRT := Lib.hid (refRtu_any (UInt8.ofNat d.unit) pd A5 n5 c5' w5 O5.out.rd (by omega))
    have hr6 := rtuF_256 (u := UInt8.ofNat d.unit) hpl2
    clear hU hnl
    generalize rtuF (UInt8.ofNat d.unit) pd = RR at *
    generalize (UInt8.ofNat d.unit).toNat = U8 at *
    obtain ⟨xs, xe⟩ := RR
    have Hr6 : Hid (xs.length ≤ 256) := hr6
    clear hr6
    go_wp2_with fail
    refine HRT.out.mono ?_
    rintro e w6 ⟨A6, n6, c6, rfl, how, hxx⟩
    have hx := Ext.of hxx
    have T6 := Lib.hid (T5.out.ext hx); have HB6 := Lib.hid (hx.block HB5.out); have O6 := Lib.hid how
    have hn6 : n6 ≤ 256 := by have h1 : xs.length = n6 := how.rd.length; have := Hr6.out; omega
    clear hxx hx how HRT T5 HB5 O5 b3 t1 hwu
    obtain ⟨c0, c1, c2, c3, c4, c5, c6', c7, c8, c9', c10, c11, c12, c13⟩ := cells14 HB6.out
    go_wp2_with fail
    clear c0 c1 c2 c3 c4 c5 c6' c7 c8 c9' c10 c11 c12 c13
    refine (turned18_any xs data A6 B n6 c6 m k w6 O6.out.rd (HD.out _ T6.out.x) (by omega) (by omega)).mono ?_
    rintro e w7 ⟨X7, A7, c7, rfl, -, how, hx⟩
    have T7 := Lib.hid (T6.out.ext hx); have O7 := Lib.hid how
    have hsz6 := T6.out.a.lt; have hsz6' := T6.out.b.lt
    have HF6 := Lib.hid hsz6; have HG6 := Lib.hid hsz6'
    have hq := heard_any X7 A7 n6 c7 w0 w7 p q F G d T7.out (fun W hW => (O7.out.only hW (fun g hg hk => by
      have h1 := (O7.out.lt g hg).1
      rcases hk with hk | hk
      · have := HF6.out g hk; omega
      · have := HG6.out g hk; omega)).rd) ⟨O7.out.cap, O7.out.capLe⟩ (by omega)
    simp only [pM] at hq
    have HQ := Lib.hid hq
    clear how hx hsz6 hsz6' hq
    go_wp2_with fail
    refine HQ.out.mono ?_
    rintro e w8 ⟨rfl, F', G', hB⟩
    go_wp2_with fail
    go_ret
    exact ⟨rfl, F', G', _, hB⟩
end Go.Proofs.YtomcipkmohhpjaaGreat

namespace Go.Out
set_option linter.unusedVariables false
open Go Go.RowKit Go.ChangeShapes Go.WideShapes Go.Deep

section
variable {H : Type} {enc : TypeId × Value → H} {P : Program} {w : World}

end
end Go.Out

namespace Go.Out
set_option linter.unusedVariables false
open Go Go.RowKit Go.ChangeShapes Go.WideShapes Go.Deep

/-- The cells cs read as a value of type t, and all that is reached through them is within the form's reach. -/
def Sees {H : Type} (enc : TypeId × Value → H) (P : Program) (w : World) (t : TypeId) (cs : List Value) : Prop :=
  ∃ fuel x, DataW.trod enc P w 0 (fun _ => true) true fuel t cs = some x ∧ ∀ n ∈ DataW.weights P t x.1, n ≤ 140737488351232

section
variable {H : Type} {enc : TypeId × Value → H} {P : Program} {w : World} {t e : TypeId} {v : Value} {cs : List Value}

end
end Go.Out

namespace Go.Proofs.YtomcipkmohhpjaaGreat
set_option linter.unusedVariables false
set_option linter.unusedSimpArgs false
set_option maxRecDepth 100000
open Go Go.RowKit Go.ChangeShapes Go.WideShapes Go.Deep Go.Out

section
variable {H : Type} {enc : TypeId × Value → H} {w : World}
end
end Go.Proofs.YtomcipkmohhpjaaGreat

namespace Go.Proofs.YtomcipkmohhpjaaGreat
set_option linter.unusedVariables false
set_option linter.unusedSimpArgs false
set_option maxRecDepth 100000
open Go Go.RowKit Go.ChangeShapes Go.WideShapes Go.Deep Go.Out

section
variable {H : Type} {enc : TypeId × Value → H} {w : World}
end
end Go.Proofs.YtomcipkmohhpjaaGreat
