/- A sink (chapter 23): what it answers, and where it lies. -/
import Derived.Test.YtifojmmggcenkaaPac7
import Derived.Test.YtifojmmggcenkaaIntRow
import Derived.Test.YtifojmmggcenkaaAskKit
import Derived.Deep.RegionHeld3
import Derived.Deep.RegionLaw
import Derived.StillTailTactics
import Derived.Maps.Own
import Derived.Maps.Views
import Derived.Carry
namespace Go.Out
open Go Go.RowKit
set_option linter.unusedVariables false

structure SinkD where
  rows : List (List UInt8)
  done : List PacD
def sink0 : SinkD := ⟨[], []⟩
def ackP (E N : Int) : PacD := ⟨2, E, N, 0, 0, []⟩
/-- What a packet makes of a sink. -/
def takeP (s : SinkD) (p : PacD) : SinkD :=
  if p.kind = 1 then (if p.seq = s.rows.length then { s with rows := s.rows ++ [p.body] } else s)
  else if p.kind = 4 then (if p.id ∈ s.done.map (·.id) then s else { s with done := s.done ++ [p] }) else s
def sayP (s : SinkD) (p : PacD) : List UInt8 := if p.kind = 1 then (putP (ackP p.epoch s.rows.length)).1 else []
def takeF (s : SinkD) (b : List UInt8) : SinkD × List UInt8 :=
  if (getP b).2 ≠ 0 then (s, []) else (takeP s (getP b).1, sayP (takeP s (getP b).1) (getP b).1)

theorem sixC {W : World} {g : Nat} {t : TypeId} {v0 v1 v2 v3 v4 v5 : Value} (h : W.heap[g]? = some (.cells #[v0, v1, v2, v3, v4, v5] t (0, 0))) :
    W.cell? ⟨g, 0, none⟩ = some v0 ∧ W.cell? ⟨g, 1, none⟩ = some v1 ∧ W.cell? ⟨g, 2, none⟩ = some v2 ∧ W.cell? ⟨g, 3, none⟩ = some v3 ∧ W.cell? ⟨g, 4, none⟩ = some v4 ∧ W.cell? ⟨g, 5, none⟩ = some v5 :=
  ⟨(cell_of_row _ _ _ _ _ _ h).trans rfl, (cell_of_row _ _ _ _ _ _ h).trans rfl, (cell_of_row _ _ _ _ _ _ h).trans rfl, (cell_of_row _ _ _ _ _ _ h).trans rfl, (cell_of_row _ _ _ _ _ _ h).trans rfl, (cell_of_row _ _ _ _ _ _ h).trans rfl⟩
/-- What may have turned lies in F. -/
structure Only (F : Nat → Prop) (w w' : World) : Prop where
  os : w'.os = w.os
  tape : w'.tape = w.tape
  output : w'.output = w.output
  size : w.heap.size ≤ w'.heap.size
  block : ∀ k, k < w.heap.size → ¬ F k → w'.heap[k]? = w.heap[k]?
section
variable {F G : Nat → Prop} {w w1 w2 a : World}
theorem Only.refl (F : Nat → Prop) (w : World) : Only F w w := ⟨rfl, rfl, rfl, Nat.le_refl _, fun _ _ _ => rfl⟩
theorem Only.trans (h : Only F w w1) (k : Only G w1 w2) (hG : ∀ g, g < w.heap.size → G g → F g) : Only F w w2 :=
  ⟨k.os.trans h.os, k.tape.trans h.tape, k.output.trans h.output, Nat.le_trans h.size k.size, fun g hg hf => (k.block g (Nat.lt_of_lt_of_le hg h.size) (fun q => hf (hG g hg q))).trans (h.block g hg hf)⟩
theorem Only.of_ext (h : Ext w w1) : Only F w w1 := ⟨h.os, h.tape, h.output, h.size, fun k hk _ => Below.block h k hk⟩
theorem Only.of_grown {row : Option Nat} (h : w.grownBy w1 row) (hr : ∀ g, row = some g → F g) : Only F w w1 :=
  ⟨h.os, h.tape, h.output, h.size, fun k hk hf => h.block k hk (fun e => hf (hr k e.symm))⟩
theorem Only.new (h : Only (fun k => F k ∨ w.heap.size ≤ k) w w1) : Only F w w1 := ⟨h.os, h.tape, h.output, h.size, fun k hk hf => h.block k hk (fun q => by rcases q with q | q; exact hf q; omega)⟩
theorem Only.of_set {p : Addr} (u : Value) (hp : F p.block) : Only F w (w.setCell p u) :=
  ⟨rfl, rfl, rfl, by simp [World.setCell], fun k _ hf => Below.heap_setCell w p u k (fun e => hf (e ▸ hp))⟩
theorem Only.ext (h : Only F w w1) (hx : Ext a w) (hF : ∀ k, F k → a.heap.size ≤ k) : Ext a w1 :=
  ⟨h.os.trans hx.os, h.tape.trans hx.tape, h.output.trans hx.output, Nat.le_trans hx.size h.size,
   fun k hk => (h.block k (Nat.lt_of_lt_of_le hk hx.size) (fun q => absurd (hF k q) (by omega))).trans (Below.block hx k hk)⟩
theorem Only.mono (h : Only F w w1) (hF : ∀ k, F k → G k) : Only G w w1 := ⟨h.os, h.tape, h.output, h.size, fun k hk hg => h.block k hk (fun q => hg (hF k q))⟩
end
end Go.Out

namespace Go.Proofs.Ytifojmmggcenkaa
set_option linter.unusedVariables false
set_option linter.unusedSimpArgs false
set_option maxRecDepth 100000
set_option maxHeartbeats 1000000
open Go Go.RowKit Go.Out

def IsSl (v : Value) : Prop := ∃ A n c, v = .slice A n c
theorem isSl_one {u : Value} (h : IsSl u) : u.oneCell' = true := by obtain ⟨A, n, c, rfl⟩ := h; rfl
theorem isSl_map (rs : List (Option Addr × Nat × Nat)) : ∀ u ∈ rs.map sl, IsSl u := by intro u hu; obtain ⟨x, _, rfl⟩ := List.mem_map.1 hu; exact ⟨_, _, _, rfl⟩
theorem info_sl8 : (Try.prog.info? 27).map (fun i => (i.zero, i.size, i.bytes)) = some (some (.slice none 0 0), 1, 24) := by kernel_rfl
theorem info_pac : (Try.prog.info? 32).map (fun i => (i.zero, i.size, i.bytes)) = some (some (.agg #[.int .i64 0, .int .i64 0, .int .i64 0, .int .i64 0, .int .i64 0, .slice none 0 0]), 6, 64) := by kernel_rfl

/-- A row's bytes, of the sink's own. -/
structure BodyAt (w : World) (F : Nat → Prop) (t : Option Addr × Nat × Nat) (l : List UInt8) : Prop where
  own : Own w 0 5 IsU8 t.1 t.2.1 t.2.2 (l.map cB)
  foot : ∀ g, blk t.1 = some g → F g
def RowsAt (w : World) (F : Nat → Prop) (A : Option Addr) (c : Nat) (rows : List (List UInt8)) : Prop :=
  ∃ rs : List (Option Addr × Nat × Nat), Own w 0 27 IsSl A rows.length c (rs.map sl) ∧ (∀ g, blk A = some g → F g) ∧ ∀ (i : Nat) (t : Option Addr × Nat × Nat) (l : List UInt8), rs[i]? = some t → rows[i]? = some l → BodyAt w F t l
section
variable {w w' : World} {F F' : Nat → Prop} {A : Option Addr} {c : Nat} {rows : List (List UInt8)}
theorem BodyAt.kept {t : Option Addr × Nat × Nat} {l : List UInt8} (h : BodyAt w F t l) (hk : ∀ k, F k → TyAt w k 5 → w'.heap[k]? = w.heap[k]?) : BodyAt w' F t l :=
  ⟨h.own.kept fun g hg => hk g (h.foot g hg) (h.own.ty hg), h.foot⟩
theorem BodyAt.mono {t : Option Addr × Nat × Nat} {l : List UInt8} (h : BodyAt w F t l) (hF : ∀ k, F k → F' k) : BodyAt w F' t l := ⟨h.own, fun g hg => hF g (h.foot g hg)⟩
theorem RowsAt.kept (h : RowsAt w F A c rows) (hk : ∀ k, F k → (TyAt w k 5 ∨ TyAt w k 27) → w'.heap[k]? = w.heap[k]?) : RowsAt w' F A c rows := by
  obtain ⟨rs, h1, h2, h3⟩ := h
  exact ⟨rs, h1.kept fun g hg => hk g (h2 g hg) (.inr (h1.ty hg)), h2, fun i t l ht hl => (h3 i t l ht hl).kept fun k hF hT => hk k hF (.inl hT)⟩
theorem RowsAt.mono (h : RowsAt w F A c rows) (hF : ∀ k, F k → F' k) : RowsAt w F' A c rows := by
  obtain ⟨rs, h1, h2, h3⟩ := h
  exact ⟨rs, h1, fun g hg => hF g (h2 g hg), fun i t l ht hl => (h3 i t l ht hl).mono hF⟩
theorem RowsAt.nil_ (w : World) (F : Nat → Prop) : RowsAt w F none 0 [] := ⟨[], Own.nil_ _ _ _ _, by simp [blk], by simp⟩
theorem RowsAt.ext (h : RowsAt w F A c rows) (hF : ∀ k, F k → k < w.heap.size) (hx : Ext w w') : RowsAt w' F A c rows := h.kept fun k hk _ => Below.block hx k (hF k hk)
/-- One row more: what append has made of it. -/
theorem RowsAt.app {rs : List (Option Addr × Nat × Nat)} {A1 : Option Addr} {c1 : Nat} {t : Option Addr × Nat × Nat} {l : List UInt8}
    (h1 : Own w 0 27 IsSl A rows.length c (rs.map sl)) (h2 : ∀ g, blk A = some g → F g) (h3 : ∀ (i : Nat) (t : Option Addr × Nat × Nat) (l : List UInt8), rs[i]? = some t → rows[i]? = some l → BodyAt w F t l) (hb : BodyAt w F t l)
    (hown : Own w' 0 27 IsSl A1 (rows.length + 1) c1 (rs.map sl ++ [sl t])) (hg : w.grownBy w' (blk A)) (hbk : blk A1 = blk A ∨ blk A1 = some w.heap.size) (hF : ∀ k, F k → k < w.heap.size) :
    RowsAt w' (fun k => F k ∨ k = w.heap.size) A1 c1 (rows ++ [l]) := by
  have hk : ∀ k, F k → TyAt w k 5 → w'.heap[k]? = w.heap[k]? := fun k hf hT => hg.block k (hF k hf) (fun e => absurd (hT.inj (h1.ty e.symm)) (by decide))
  have hl : rs.length = rows.length := by have := h1.len; simpa using this
  refine ⟨rs ++ [t], by rw [List.map_append, List.length_append]; exact hown, fun g hg' => ?_, fun i t' l' ht hl' => ?_⟩
  · rcases hbk with e | e
    · exact .inl (h2 g (e ▸ hg'))
    · rw [e] at hg'; exact .inr (by injection hg' with q; exact q.symm)
  · refine BodyAt.mono (F := F) ?_ fun k hk => .inl hk
    rcases Nat.lt_or_ge i rs.length with hlt | hge
    · rw [List.getElem?_append_left hlt] at ht
      rw [List.getElem?_append_left (by omega)] at hl'
      exact (h3 i t' l' ht hl').kept hk
    · rw [List.getElem?_append_right hge] at ht
      rw [List.getElem?_append_right (by omega)] at hl'
      have hi : i - rs.length = 0 := by
        rcases Nat.eq_zero_or_pos (i - rs.length) with h0 | h0
        · exact h0
        · rw [List.getElem?_eq_none (by simp; omega)] at ht; cases ht
      rw [hi] at ht
      rw [← hl, hi] at hl'
      simp only [List.getElem?_cons_zero, Option.some.injEq] at ht hl'
      subst ht hl'
      exact hb.kept hk
end

/-- The cells of a packet without a body. -/
def doneK : Kind PacD := ⟨6, fun _ cs p => p.body = [] ∧ i64P p.id ∧ ∃ A c, c ≤ 9223372036854775807 ∧ cs = [.int .i64 p.kind, .int .i64 p.epoch, .int .i64 p.seq, .int .i64 p.id, .int .i64 p.code, .slice A 0 c] ∧ i64P p.kind ∧ i64P p.epoch ∧ i64P p.seq ∧ i64P p.code, fun h _ => h⟩
def DoneAt (w : World) (F : Nat → Prop) (v : Value) (done : List PacD) : Prop :=
  ∃ xs, w.ownsRow 0 32 6 v done.length xs ∧ (∀ w, Items doneK w xs done) ∧ ∀ g, v.ownBlock = some g → F g
section
variable {w w' : World} {F F' : Nat → Prop} {v : Value} {done : List PacD}
theorem DoneAt.kept (h : DoneAt w F v done) (hk : ∀ k, F k → TyAt w k 32 → w'.heap[k]? = w.heap[k]?) : DoneAt w' F v done := by
  obtain ⟨xs, ⟨h0, h1⟩, h2, h3⟩ := h
  refine ⟨xs, ⟨h0, ?_⟩, h2, h3⟩
  rcases h1 with h1 | ⟨g, cap, cur, rfl, hb, hg, r⟩
  · exact .inl h1
  · exact .inr ⟨g, cap, cur, rfl, hb, (hk g (h3 g rfl) (TyAt.of hg)).trans hg, r⟩
theorem DoneAt.mono (h : DoneAt w F v done) (hF : ∀ k, F k → F' k) : DoneAt w F' v done := by
  obtain ⟨xs, h1, h2, h3⟩ := h
  exact ⟨xs, h1, h2, fun g hg => hF g (h3 g hg)⟩
theorem DoneAt.nil_ (w : World) (F : Nat → Prop) : DoneAt w F (.slice none 0 0) [] := ⟨[], World.ownsRow_nil _ _ _ _, fun _ => Items.nil_ _ _, by simp [Value.ownBlock]⟩
theorem DoneAt.ext (h : DoneAt w F v done) (hF : ∀ k, F k → k < w.heap.size) (hx : Ext w w') : DoneAt w' F v done := h.kept fun k hk _ => Below.block hx k (hF k hk)
end

/-- A map from numbers to truths: it has just these numbers. -/
def MapAt (w : World) (g : Nat) (ids : List Int) : Prop :=
  ∃ (D : DataW Unit) (n : Nat), w.ownsMap Try.prog 3 (plainElem Try.prog 4) g n D ∧ n ≤ ids.length ∧ Maps.IsMap D ∧ ∀ i : Int, D.atKey (.int .i64 i) (.lit (.bool false)) = .lit (.bool (decide (i ∈ ids)))
theorem zero_bool (w : World) : (zeroValue 4).run Try.prog w = .ok (.bool false) w := by
  obtain ⟨i0, hi, hz0, hz1, hz2⟩ := info_parts info_bo
  simp [zeroValue, typeInfo, hi, hz0]
section
variable {w w' : World} {g : Nat} {ids : List Int}
theorem MapAt.made (w : World) : MapAt (w.alloc (.map #[] 0)) w.heap.size [] := ⟨.map [], 0, World.ownsMap_made w _ _ _, Nat.le_refl _, Maps.isMap_empty, fun i => by
  rw [WideAt.atKey_none _ (by simp)]; rfl⟩
theorem MapAt.kept (h : MapAt w g ids) (hk : w'.heap[g]? = w.heap[g]?) : MapAt w' g ids := by
  obtain ⟨D, n, ⟨es, clock, hb, F, r⟩, h2⟩ := h
  exact ⟨D, n, ⟨es, clock, hk.trans hb, F, r⟩, h2⟩
theorem MapAt.notCells (h : MapAt w g ids) (t : TypeId) : ¬ TyAt w g t := by
  obtain ⟨D, n, ⟨es, clock, hb, _⟩, _⟩ := h
  rintro ⟨cs, fr, hc⟩
  rw [hb] at hc; cases hc
theorem MapAt.lt (h : MapAt w g ids) : g < w.heap.size := by
  obtain ⟨D, n, ⟨es, clock, hb, _⟩, _⟩ := h
  exact lt_of_heap hb
theorem MapAt.look (h : MapAt w g ids) {i : Int} (hi : i64P i) : (Instr.lookup 55 (.map (some g)) (.int .i64 i) false).run Try.prog w = .ok (.bool (decide (i ∈ ids))) w := by
  obtain ⟨D, n, h1, h2, h3, h4⟩ := h
  obtain ⟨v, ps, hr, hv⟩ := h1.lookup (Maps.int_keyed Try.underlying3) Try.underlying55 (zero_bool w) (plainElem_bool Try.underlying4 false) (Maps.keyOf_int_mk Try.underlying3 (WalkArith.wf_i64 hi))
  rw [h4 i] at hv
  rw [hr]
  unfold plainElem at hv
  rw [Try.underlying4] at hv
  cases v <;> simp at hv
  obtain ⟨rfl, -⟩ := hv
  rfl
end

/-- A sink lies at p; all that belongs to it lies in F. -/
def SinkAt (w : World) (p : Nat) (F : Nat → Prop) (d : SinkD) : Prop :=
  ∃ A c v g, w.heap[p]? = some (.cells #[.slice A d.rows.length c, v, .map (some g)] 57 (0, 0)) ∧ RowsAt w F A c d.rows ∧ DoneAt w F v d.done ∧ MapAt w g (d.done.map (·.id)) ∧ F p ∧ F g ∧ ∀ k, F k → k < w.heap.size
/-- The document's sink. -/
def RefAt (w : World) (p : Nat) (F : Nat → Prop) (d : SinkD) : Prop :=
  ∃ A c v, w.heap[p]? = some (.cells #[.slice A d.rows.length c, v] 47 (0, 0)) ∧ RowsAt w F A c d.rows ∧ DoneAt w F v d.done ∧ F p ∧ ∀ k, F k → k < w.heap.size
section
variable {w w' : World} {F G : Nat → Prop} {p : Nat} {d : SinkD}
theorem SinkAt.lt (h : SinkAt w p F d) : ∀ k, F k → k < w.heap.size := by obtain ⟨A, c, v, g, -, -, -, -, -, -, h⟩ := h; exact h
theorem RefAt.lt (h : RefAt w p F d) : ∀ k, F k → k < w.heap.size := by obtain ⟨A, c, v, -, -, -, -, h⟩ := h; exact h
theorem SinkAt.foot (h : SinkAt w p F d) : F p := by obtain ⟨A, c, v, g, -, -, -, -, h, -, -⟩ := h; exact h
theorem RefAt.foot (h : RefAt w p F d) : F p := by obtain ⟨A, c, v, -, -, -, h, -⟩ := h; exact h
theorem SinkAt.keep (h : SinkAt w p F d) (hk : ∀ k, F k → w'.heap[k]? = w.heap[k]?) (hs : w.heap.size ≤ w'.heap.size) : SinkAt w' p F d := by
  obtain ⟨A, c, v, g, h1, h2, h3, h4, h5, h6, h7⟩ := h
  exact ⟨A, c, v, g, (hk p h5).trans h1, h2.kept fun k q _ => hk k q, h3.kept fun k q _ => hk k q, h4.kept (hk g h6), h5, h6, fun k q => Nat.lt_of_lt_of_le (h7 k q) hs⟩
theorem RefAt.keep (h : RefAt w p F d) (hk : ∀ k, F k → w'.heap[k]? = w.heap[k]?) (hs : w.heap.size ≤ w'.heap.size) : RefAt w' p F d := by
  obtain ⟨A, c, v, h1, h2, h3, h5, h7⟩ := h
  exact ⟨A, c, v, (hk p h5).trans h1, h2.kept fun k q _ => hk k q, h3.kept fun k q _ => hk k q, h5, fun k q => Nat.lt_of_lt_of_le (h7 k q) hs⟩
theorem SinkAt.only (h : SinkAt w p F d) (ho : Only G w w') (hd : ∀ k, F k → ¬ G k) : SinkAt w' p F d := h.keep (fun k q => ho.block k (h.lt k q) (hd k q)) ho.size
theorem RefAt.only (h : RefAt w p F d) (ho : Only G w w') (hd : ∀ k, F k → ¬ G k) : RefAt w' p F d := h.keep (fun k q => ho.block k (h.lt k q) (hd k q)) ho.size
theorem SinkAt.ext (h : SinkAt w p F d) (hx : Ext w w') : SinkAt w' p F d := h.keep (fun k q => Below.block hx k (h.lt k q)) hx.size
theorem RefAt.ext (h : RefAt w p F d) (hx : Ext w w') : RefAt w' p F d := h.keep (fun k q => Below.block hx k (h.lt k q)) hx.size
end
def pS (p : Nat) : Value := .pointer (some ⟨p, 0, none⟩)
theorem sink_new (w : World) : Calls Try.prog 7 #[] w (fun e w' => ∃ p F, e = .returned (pS p) ∧ SinkAt w' p F sink0 ∧ Ext w w' ∧ ∀ k, F k → w.heap.size ≤ k) := by
  have HM := Lib.hid (MapAt.made w)
  have hmm := @run_makeMap Try.prog
  go_enter Try.func7, Try.ntmps7
  go_wp2_with fail
  go_ret
  refine ⟨_, fun k => w.heap.size ≤ k ∧ k < w.heap.size + 2, rfl, ⟨none, 0, .slice none 0 0, w.heap.size, heap_at _ _ (w.heap.size + 1) (by simp), RowsAt.nil_ _ _, DoneAt.nil_ _ _, HM.out.kept (Below.heap_alloc _ _ _ (by simp)), by simp, by omega, fun k hk => by simp; omega⟩, Ext.duo _ _ _, fun k hk => hk.1⟩
theorem sink_next (p : Nat) (F : Nat → Prop) (d : SinkD) (w : World) (h : SinkAt w p F d) : Calls Try.prog 12 #[pS p] w (fun e w' => e = .returned (.int .i64 (d.rows.length : Int)) ∧ w = w') := by
  obtain ⟨A, c, v, g, h1, -⟩ := h
  have c0 := cell_of_row _ p 0 _ _ _ h1
  generalize d.rows.length = n at *
  simp only [List.getElem?_toArray] at c0
  have c0 : w.cell? ⟨p, 0, none⟩ = some (.slice A n c) := c0
  clear h1
  unfold pS
  go_enter Try.func12, Try.ntmps12
  go_wp2_with fail
  go_ret
  exact ⟨rfl, rfl⟩
end Go.Proofs.Ytifojmmggcenkaa
