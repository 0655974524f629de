/- Plain lemmas of our own on worlds and slices; no program in sight. -/
import Derived.WalkKit
import Derived.BigQuiet
import Derived.Deep.QuietTactic
import Derived.Deep.OwnRows
import Derived.Lib.Hide
import Derived.WalkLawsBesides
import Derived.WalkSpells
import Derived.OpenShut
import Derived.Laws.CopyOwn
import Derived.StillTailTactics
import Derived.Deep.RegionLaw
namespace Go.Out
set_option linter.unusedVariables false
open Go Go.RowKit

/-- A slice value `.slice A n c` reads as the cells `xs` (all of them in a block that is there). -/
def Rd (w : World) (A : Option Addr) (n : Nat) (xs : List Value) : Prop :=
  xs.length = n ∧ (0 < n → ∃ b off, A = some ⟨b, off, none⟩ ∧ b < w.heap.size ∧ ∀ j u, xs[j]? = some u → w.cell? ⟨b, off + j, none⟩ = some u)

theorem Rd.nil_ (w : World) : Rd w none 0 [] := ⟨rfl, fun h => absurd h (by omega)⟩

theorem Rd.empty_ (w : World) (A : Option Addr) : Rd w A 0 [] := ⟨rfl, fun h => absurd h (by omega)⟩

theorem Rd.below {w w' : World} {A : Option Addr} {n : Nat} {xs : List Value} (h : Rd w A n xs) (hb : Below w.heap.size w w') : Rd w' A n xs :=
  ⟨h.1, fun hn => by
    obtain ⟨b, off, e, hlt, hc⟩ := h.2 hn
    exact ⟨b, off, e, Nat.lt_of_lt_of_le hlt hb.size, fun j u hu => (hb.cell (p := ⟨b, off + j, none⟩) hlt).trans (hc j u hu)⟩⟩

theorem Rd.at_ {w : World} {A : Option Addr} {n : Nat} {xs : List Value} (h : Rd w A n xs) {k : Nat} (hk : k < n) :
    ∃ b off, A = some ⟨b, off, none⟩ ∧ b < w.heap.size ∧ ∃ hl : k < xs.length, w.cell? ⟨b, off + k, none⟩ = some xs[k] := by
  obtain ⟨b, off, e, hb, hc⟩ := h.2 (by omega)
  have hl : k < xs.length := by have := h.1; omega
  exact ⟨b, off, e, hb, hl, hc k xs[k] (by simp [hl])⟩

theorem below_drewN {B : Nat} {a w : World} (h : Below B a w) (n : Nat) : Below B a (w.drewN n) := ⟨h.os, h.tape, h.output, h.size, h.block⟩

/-- The block that a slice's address lies in. -/
def blk (A : Option Addr) : Option Nat := A.map (·.block)

/-- The slice `.slice A n c` is nil, or lies in one block of the call's own (from block `base` on), of which it has the end: its elements are `xs`, and every cell of the block is as `p` says. -/
def Own (w : World) (base : Nat) (e : TypeId) (p : Value → Prop) (A : Option Addr) (n c : Nat) (xs : List Value) : Prop :=
  xs.length = n ∧ n ≤ c ∧ c ≤ maxLen ∧ ((A = none ∧ c = 0) ∨ ∃ g off cur, A = some ⟨g, off, none⟩ ∧ base ≤ g ∧ w.heap[g]? = some (.cells cur e (0, 0)) ∧ cur.size = off + c ∧
    (cur.toList.drop off).take n = xs ∧ ∀ u ∈ cur.toList, p u)

theorem lt_of_heap {w : World} {g : Nat} {o : Obj} (h : w.heap[g]? = some o) : g < w.heap.size := (Array.getElem?_eq_some_iff.1 h).1

section
variable {w w' : World} {base : Nat} {e : TypeId} {p : Value → Prop} {A : Option Addr} {n c : Nat} {xs : List Value}

theorem Own.nil_ (w : World) (base : Nat) (e : TypeId) (p : Value → Prop) : Own w base e p none 0 0 [] := ⟨rfl, Nat.le_refl _, Nat.zero_le _, .inl ⟨rfl, rfl⟩⟩

theorem Own.len (h : Own w base e p A n c xs) : xs.length = n := h.1
theorem Own.cap (h : Own w base e p A n c xs) : n ≤ c := h.2.1
theorem Own.capLe (h : Own w base e p A n c xs) : c ≤ 9223372036854775807 := h.2.2.1

theorem Own.rd (h : Own w base e p A n c xs) : Rd w A n xs := by
  refine ⟨h.1, fun hn => ?_⟩
  obtain ⟨h1, h2, h3, h4⟩ := h
  rcases h4 with ⟨rfl, rfl⟩ | ⟨g, off, cur, rfl, hb, hg, hs, ht, hp⟩
  · omega
  · refine ⟨g, off, rfl, lt_of_heap hg, fun j u hu => ?_⟩
    rw [cell_of_row w g (off + j) cur e (0, 0) hg]
    rw [← ht, List.getElem?_take] at hu
    split at hu
    · rw [List.getElem?_drop] at hu; simpa using hu
    · cases hu

theorem Own.all (h : Own w base e p A n c xs) : ∀ u ∈ xs, p u := by
  obtain ⟨h1, h2, h3, h4⟩ := h
  rcases h4 with ⟨rfl, rfl⟩ | ⟨g, off, cur, rfl, hb, hh, hs, ht, hp⟩
  · have : xs = [] := List.eq_nil_of_length_eq_zero (by omega)
    subst this; simp
  · intro u hu; rw [← ht] at hu; exact hp u (List.mem_of_mem_drop (List.mem_of_mem_take hu))

theorem Own.lt (h : Own w base e p A n c xs) : ∀ g, blk A = some g → base ≤ g ∧ g < w.heap.size := by
  intro g hg
  rcases h.2.2.2 with ⟨rfl, _⟩ | ⟨g', off, cur, rfl, hb, hh, _⟩
  · simp [blk] at hg
  · simp [blk] at hg; subst hg; exact ⟨hb, lt_of_heap hh⟩

theorem Own.kept (h : Own w base e p A n c xs) (hk : ∀ g, blk A = some g → w'.heap[g]? = w.heap[g]?) : Own w' base e p A n c xs := by
  obtain ⟨h1, h2, h3, h4⟩ := h
  refine ⟨h1, h2, h3, ?_⟩
  rcases h4 with h4 | ⟨g, off, cur, rfl, hb, hh, r⟩
  · exact .inl h4
  · exact .inr ⟨g, off, cur, rfl, hb, (hk g rfl).trans hh, r⟩

theorem Own.below (h : Own w base e p A n c xs) (hb : Below w.heap.size w w') : Own w' base e p A n c xs :=
  h.kept fun g hg => hb.block g (h.lt g hg).2

theorem Own.grown {row : Option Nat} (h : Own w base e p A n c xs) (hb : w.grownBy w' row) (hne : ∀ g, blk A = some g → some g ≠ row) : Own w' base e p A n c xs :=
  h.kept fun g hg => hb.block g (h.lt g hg).2 (hne g hg)

theorem Own.mono {base' : Nat} (h : Own w base e p A n c xs) (hb : base' ≤ base) : Own w base' e p A n c xs := by
  obtain ⟨h1, h2, h3, h4⟩ := h
  refine ⟨h1, h2, h3, ?_⟩
  rcases h4 with h4 | ⟨g, off, cur, rfl, hbg, r⟩
  · exact .inl h4
  · exact .inr ⟨g, off, cur, rfl, by omega, r⟩

theorem Own.drewN (h : Own w base e p A n c xs) (k : Nat) : Own (w.drewN k) base e p A n c xs := h
theorem Own.drew (h : Own w base e p A n c xs) : Own w.drew base e p A n c xs := h
theorem Own.alloc (h : Own w base e p A n c xs) (o : Obj) : Own (w.alloc o) base e p A n c xs := h.kept fun g hg => Below.heap_alloc w o g (h.lt g hg).2

/-- A new block, whole. -/
theorem Own.new (w : World) (hb : base ≤ w.heap.size) (e : TypeId) (cur : Array Value) (n : Nat) (hn : n ≤ cur.size) (hc : cur.size ≤ maxLen) (hp : ∀ u ∈ cur.toList, p u) :
    Own (w.alloc (.cells cur e)) base e p (some ⟨w.heap.size, 0, none⟩) n cur.size (cur.toList.take n) :=
  ⟨by simp [hn], hn, hc, .inr ⟨_, 0, cur, rfl, hb, heap_alloc_new w _, by simp, by simp, hp⟩⟩

/-- A block known whole. -/
theorem Own.of_heap {g off : Nat} {cur : Array Value} (hb : base ≤ g) (hg : w.heap[g]? = some (.cells cur e (0, 0))) (n c : Nat) (hn : n ≤ c) (hs : cur.size = off + c) (hc : c ≤ maxLen) (hp : ∀ u ∈ cur.toList, p u) :
    Own w base e p (some ⟨g, off, none⟩) n c ((cur.toList.drop off).take n) :=
  ⟨by simp [hs]; omega, hn, hc, .inr ⟨g, off, cur, rfl, hb, hg, hs, rfl, hp⟩⟩
end

theorem zeroCells_mem {z u : Value} {k : Nat} (hz : z.cells = #[z]) (h : u ∈ (Builtin.zeroCells z.cells k).toList) : u = z := by
  rw [hz] at h
  simp [Builtin.zeroCells, Nat.mod_one] at h
  exact h.2.symm

theorem only_of_below {a w : World} (h : Below a.heap.size a w) (row : Option Nat) : a.grownBy w row := ⟨h.os, h.tape, h.output, h.size, fun i hi _ => h.block i hi⟩
theorem only_setCell {a w : World} {g : Nat} (h : a.grownBy w (some g)) {p : Addr} (hp : p.block = g ∨ a.heap.size ≤ p.block) (u : Value) : a.grownBy (w.setCell p u) (some g) :=
  ⟨h.os, h.tape, h.output, by simpa [World.setCell] using h.size, fun i hi hne => (Below.heap_setCell w p u i (by
    rintro rfl
    rcases hp with hp | hp
    · exact hne (by rw [hp])
    · omega)).trans (h.block i hi hne)⟩
section
variable {P : Program} (w : World)

theorem run_append_room_off (t ty e : TypeId) (i : TypeInfo) (ht : P.underlying t = some (.slice e)) (hi : P.info? e = some i) (hsz : i.size = 1)
    (g off sLen sCap : Nat) (cur : Array Value) (hg : w.heap[g]? = some (.cells cur e (0, 0)))
    (a : Addr) (m c : Nat) (news : List Value) (hl : news.length = m) (hnews : ∀ j u, news[j]? = some u → w.cell? (a.add j) = some u) (h1 : ∀ u ∈ news, u.oneCell' = true)
    (hroom : sLen + m ≤ sCap) (hfit : off + sLen + news.length ≤ cur.size) :
    (Builtin.append_ #[t, t] ty #[.slice (some ⟨g, off, none⟩) sLen sCap, .slice (some a) m c]).run P w =
      .ok (.slice (some ⟨g, off, none⟩) (sLen + m) sCap) (w.setRow g (cur.toList.take (off + sLen) ++ news ++ cur.toList.drop (off + sLen + news.length)).toArray) := by
  have hf := run_firstCells_some (P := P) w i.size m a m c news (by rw [hl, hsz]; omega) hnews
  have hst := run_storeCells_at P g (off + sLen) e news 0 cur w hg (by simpa using hfit) h1
  simp only [Nat.add_zero] at hst
  simp only [hsz] at hf
  simp [Builtin.append_, run_underlying ht, sizeOf, typeInfo, hi, hsz, Builtin.lenOf, hroom, hf, Addr.add_lit, hst]

theorem run_append_nilsrc (t ty e : TypeId) (i : TypeInfo) (ht : P.underlying t = some (.slice e)) (hi : P.info? e = some i) (A : Option Addr) (n c c' : Nat) (hnc : n ≤ c) :
    (Builtin.append_ #[t, t] ty #[.slice A n c, .slice none 0 c']).run P w = .ok (.slice A n c) w := by
  rcases A with _ | a <;> simp [Builtin.append_, run_underlying ht, sizeOf, typeInfo, hi, Builtin.lenOf, Builtin.firstCells, hnc, storeCells]

theorem run_append_Own (p : Value → Prop) (base : Nat) (t ty e : TypeId) (z : Value) (bytes : Nat) (ht : P.underlying t = some (.slice e))
    (hinfo : (P.info? e).map (fun i => (i.zero, i.size, i.bytes)) = some (some z, 1, bytes)) (hzc : z.cells = #[z]) (hpz : p z) (hp1 : ∀ u, p u → u.oneCell' = true)
    (A : Option Addr) (n c : Nat) (xs : List Value) (hown : Own w base e p A n c xs)
    (A' : Option Addr) (m c' : Nat) (news : List Value) (hr : Rd w A' m news) (hnp : ∀ u ∈ news, p u) (hbytes : (n + m) * bytes ≤ 140737488355328) (h63 : n + m ≤ 9223372036854775807) (hbase : base ≤ w.heap.size) :
    ∃ A1 c1 w1, (Builtin.append_ #[t, t] ty #[.slice A n c, .slice A' m c']).run P w = .ok (.slice A1 (n + m) c1) w1 ∧ Own w1 base e p A1 (n + m) c1 (xs ++ news) ∧ w.grownBy w1 (blk A) ∧
      (blk A1 = blk A ∨ blk A1 = some w.heap.size) := by
  obtain ⟨i, hi, hz, hs, hby⟩ := info_parts hinfo
  subst hby
  rcases A' with _ | a
  · have hm : m = 0 := by
      rcases Nat.eq_zero_or_pos m with h | h
      · exact h
      · obtain ⟨_, _, h, _⟩ := hr.2 h; cases h
    subst hm
    have hn : news = [] := List.eq_nil_of_length_eq_zero hr.1
    subst hn
    exact ⟨A, c, w, run_append_nilsrc w t ty e i ht hi A n c c' hown.2.1, by simpa using hown, World.grownBy.refl w _, .inl rfl⟩
  · have hcells : ∀ j u, news[j]? = some u → w.cell? (a.add j) = some u := by
      intro j u hu
      rcases Nat.eq_zero_or_pos m with h0 | h0
      · have hn : news = [] := List.eq_nil_of_length_eq_zero (by have := hr.1; omega)
        subst hn; simp at hu
      · obtain ⟨b, off, e1, _, hc⟩ := hr.2 h0
        cases e1
        rw [Addr.add_lit]
        exact hc j u hu
    have h1 : ∀ u ∈ news, u.oneCell' = true := fun u hu => hp1 u (hnp u hu)
    obtain ⟨hxl, hnc, hcm, h4⟩ := hown
    have grown : ∀ (old : Nat), old < n + m →
        Own (w.drew.alloc (.cells (xs.toArray ++ news.toArray ++ Builtin.zeroCells z.cells (grownCap w (n + m) old e - (n + m))) e)) base e p
          (some ⟨w.heap.size, 0, none⟩) (n + m) (grownCap w (n + m) old e) (xs ++ news) ∧
        w.grownBy (w.drew.alloc (.cells (xs.toArray ++ news.toArray ++ Builtin.zeroCells z.cells (grownCap w (n + m) old e - (n + m))) e)) (blk A) := by
      intro old ho
      have hge := grownCap_ge w (n + m) old e
      have hle : grownCap w (n + m) old e ≤ maxLen := grownCap_le_maxLen w (n + m) old e (by unfold maxLen; omega)
      have hpx : ∀ u ∈ xs, p u := by
        rcases h4 with ⟨rfl, rfl⟩ | ⟨g, off, cur, rfl, _, _, _, ht, hp⟩
        · have : xs = [] := List.eq_nil_of_length_eq_zero (by omega)
          subst this; simp
        · intro u hu; rw [← ht] at hu; exact hp u (List.mem_of_mem_drop (List.mem_of_mem_take hu))
      refine ⟨⟨by simp [hxl, hr.1], hge, hle, .inr ⟨w.heap.size, 0, _, rfl, hbase, heap_alloc_new w.drew _, ?_, ?_, ?_⟩⟩, ⟨rfl, rfl, rfl, by simp, fun k hk _ => Below.heap_alloc w.drew _ k hk⟩⟩
      · simp only [Array.size_append, List.size_toArray, size_zeroCells, hzc, hxl, hr.1]
        simp; omega
      · simp only [Array.toList_append, List.drop_zero]
        rw [List.take_append_of_le_length (by simp [hxl, hr.1])]
        rw [List.take_of_length_le (by simp [hxl, hr.1])]
      · intro u hu
        simp only [Array.toList_append, List.mem_append] at hu
        rcases hu with (hu | hu) | hu
        · exact hpx u hu
        · exact hnp u hu
        · rw [zeroCells_mem hzc hu]; exact hpz
    rcases h4 with ⟨rfl, rfl⟩ | ⟨g, off, cur, rfl, hbg, hg, hcs, htake, hp⟩
    · have hn0 : n = 0 := by omega
      subst hn0
      have hx : xs = [] := List.eq_nil_of_length_eq_zero hxl
      subst hx
      by_cases hm : m = 0
      · subst hm
        have hn : news = [] := List.eq_nil_of_length_eq_zero hr.1
        subst hn
        refine ⟨none, 0, w, ?_, Own.nil_ w base e p, World.grownBy.refl w _, .inl rfl⟩
        simp [Builtin.append_, run_underlying ht, sizeOf, typeInfo, hi, Builtin.lenOf, Builtin.firstCells, loadCells, loadCellsFrom]
      · have hrr := run_append_nil (P := P) w t ty e i z ht hi hz a m c' news (by rw [hs, hr.1]; omega) hcells (by omega) (by omega) (by simp only [Nat.zero_add] at hbytes; omega)
        have hgr := grown 0 (by omega)
        simp only [Nat.zero_add, List.nil_append, Array.empty_append] at hgr ⊢
        exact ⟨_, _, _, hrr, hgr.1, hgr.2, .inr rfl⟩
    · by_cases hroom : n + m ≤ c
      · have hrr := run_append_room_off (P := P) w t ty e i ht hi hs g off n c cur hg a m c' news hr.1 hcells h1 hroom (by rw [hr.1, hcs]; omega)
        refine ⟨_, _, _, hrr, ⟨by simp [hxl, hr.1], hroom, hcm, .inr ⟨g, off, _, rfl, hbg, setRow_heap w g cur _ e _ hg, ?_, ?_, ?_⟩⟩, ⟨rfl, rfl, rfl, by simp, fun k _ hk => setRow_other w g k _ (fun e => hk (by simp [blk, e]))⟩, .inl rfl⟩
        · simp only [List.size_toArray, List.length_append, List.length_take, List.length_drop, Array.length_toList, hr.1]
          omega
        · simp only []
          have e1 : cur.toList.take (off + n) = cur.toList.take off ++ xs := by rw [← htake, ← List.take_add]
          rw [e1, List.append_assoc, List.append_assoc, List.drop_append_of_le_length (by simp; omega), List.drop_of_length_le (by simp; omega), List.nil_append,
            ← List.append_assoc, List.take_append_of_le_length (by simp [hxl, hr.1]), List.take_of_length_le (by simp [hxl, hr.1])]
        · intro u hu
          simp only [List.mem_append] at hu
          rcases hu with (hu | hu) | hu
          · exact hp u (List.mem_of_mem_take hu)
          · exact hnp u hu
          · exact hp u (List.mem_of_mem_drop hu)
      · have hrd : Rd w (some ⟨g, off, none⟩) n xs := Own.rd ⟨hxl, hnc, hcm, .inr ⟨g, off, cur, rfl, hbg, hg, hcs, htake, hp⟩⟩
        have holds : ∀ j u, xs[j]? = some u → w.cell? ((⟨g, off, none⟩ : Addr).add j) = some u := by
          intro j u hu
          rcases Nat.eq_zero_or_pos n with h0 | h0
          · have hn : xs = [] := List.eq_nil_of_length_eq_zero (by omega)
            subst hn; simp at hu
          · obtain ⟨b, o, e1, _, hc⟩ := hrd.2 h0
            cases e1
            rw [Addr.add_lit]
            exact hc j u hu
        have hrr := run_append_grow (P := P) w t ty e i z ht hi hz ⟨g, off, none⟩ n c xs (by rw [hs, hxl]; omega) holds a m c' news (by rw [hs, hr.1]; omega) hcells (by omega) (by omega) (growslice_fits (by omega) hbytes)
        have hgr := grown c (by omega)
        exact ⟨_, _, _, hrr, hgr.1, hgr.2, .inr rfl⟩

theorem wp_append_Own {o : Oper} {a : Act} {K : Act → World → Prop} {Q : Exit → Act → World → Prop} (s x : Operand) (t : TypeId)
    (ho : o.op = .call { callee := .builtin .append, args := #[s, x], argTypes := #[t, t] })
    (p : Value → Prop) (base : Nat) (e : TypeId) (z : Value) (bytes : Nat) (ht : P.underlying t = some (.slice e))
    (hinfo : (P.info? e).map (fun i => (i.zero, i.size, i.bytes)) = some (some z, 1, bytes)) (hzc : z.cells = #[z]) (hpz : p z) (hp1 : ∀ u, p u → u.oneCell' = true)
    (A : Option Addr) (n c : Nat) (xs : List Value) (hs : a.eval s = .slice A n c) (hown : Own w base e p A n c xs)
    (A' : Option Addr) (m c' : Nat) (news : List Value) (hx : a.eval x = .slice A' m c') (hr : Rd w A' m news) (hnp : ∀ u ∈ news, p u) (hbytes : (n + m) * bytes ≤ 140737488355328) (h63 : n + m ≤ 9223372036854775807) (hbase : base ≤ w.heap.size)
    (h : ∀ A1 c1 w1, Own w1 base e p A1 (n + m) c1 (xs ++ news) → w.grownBy w1 (blk A) → (blk A1 = blk A ∨ blk A1 = some w.heap.size) → K (a.put o.dst (.slice A1 (n + m) c1)) w1) : o.wp P a w K Q := by
  obtain ⟨A1, c1, w1, hrun, h2, h3, h4⟩ := run_append_Own (P := P) w p base t o.type e z bytes ht hinfo hzc hpz hp1 A n c xs hown A' m c' news hr hnp hbytes h63 hbase
  unfold Oper.wp execOp
  simp only [ho, resolve, invoke, builtin, Sem.run_bind, Sem.run_pure, Result.andThen_ok, List.map_toArray, List.map_cons, List.map_nil, hs, hx, hrun]
  exact h A1 c1 w1 h2 h3 h4

theorem wpList_append_Own {ops : Array Oper} {rest : List Oper} {o : Oper} {a : Act} {Q : Exit → Act → World → Prop} (hgd : o.guard = none) (s x : Operand) (t : TypeId)
    (ho : o.op = .call { callee := .builtin .append, args := #[s, x], argTypes := #[t, t] })
    (p : Value → Prop) (base : Nat) (e : TypeId) (z : Value) (bytes : Nat) (ht : P.underlying t = some (.slice e))
    (hinfo : (P.info? e).map (fun i => (i.zero, i.size, i.bytes)) = some (some z, 1, bytes)) (hzc : z.cells = #[z]) (hpz : p z) (hp1 : ∀ u, p u → u.oneCell' = true)
    (A : Option Addr) (n c : Nat) (xs : List Value) (hs : a.eval s = .slice A n c) (hown : Own w base e p A n c xs)
    (A' : Option Addr) (m c' : Nat) (news : List Value) (hx : a.eval x = .slice A' m c') (hr : Rd w A' m news) (hnp : ∀ u ∈ news, p u) (hbytes : (n + m) * bytes ≤ 140737488355328) (h63 : n + m ≤ 9223372036854775807) (hbase : base ≤ w.heap.size)
    (h : ∀ A1 c1 w1, Own w1 base e p A1 (n + m) c1 (xs ++ news) → w.grownBy w1 (blk A) → (blk A1 = blk A ∨ blk A1 = some w.heap.size) → wpList P ops Q rest (a.put o.dst (.slice A1 (n + m) c1)) w1) : wpList P ops Q (o :: rest) a w :=
  wpList_plain hgd fun _ hK => wp_append_Own w s x t ho p base e z bytes ht hinfo hzc hpz hp1 A n c xs hs hown A' m c' news hx hr hnp hbytes h63 hbase fun A1 c1 w1 h2 h3 h4 => hK _ _ (h A1 c1 w1 h2 h3 h4)
end

/-- copy(dst, src), the source no longer than the destination, which lies in one block. -/
theorem wpList_copy_Rd {P : Program} (w : World) {ops : Array Oper} {rest : List Oper} {o : Oper} {a : Act} {Q : Exit → Act → World → Prop} (hgd : o.guard = none) (d s : Operand) (dT sT : TypeId)
    (ho : o.op = .call { callee := .builtin .copy, args := #[d, s], argTypes := #[dT, sT] }) (elem : TypeId) (hu : P.underlying dT = some (.slice elem)) (hsz : (P.info? elem).map (·.size) = some 1)
    {g off dLen dCap sLen sCap : Nat} {A : Option Addr} {cur : Array Value} {cs : List Value} {t : TypeId} (hd : a.eval d = .slice (some ⟨g, off, none⟩) dLen dCap) (hs : a.eval s = .slice A sLen sCap)
    (hg : w.heap[g]? = some (.cells cur t (0, 0))) (hr : Rd w A sLen cs) (hle : sLen ≤ dLen) (hfit : off + sLen ≤ cur.size) (h1 : ∀ v ∈ cs, v.oneCell' = true)
    (h : ∀ w', w'.heap[g]? = some (.cells (cur.toList.take off ++ cs ++ cur.toList.drop (off + sLen)).toArray t (0, 0)) → w.grownBy w' (some g) → wpList P ops Q rest (a.put o.dst (.int .i64 (sLen : Int))) w') :
    wpList P ops Q (o :: rest) a w := by
  have hl := hr.1
  by_cases h0 : sLen = 0
  · subst h0
    obtain rfl : cs = [] := List.eq_nil_of_length_eq_zero hl
    refine wpList_copy_nothing hgd d s dT sT ho elem hu hsz (some ⟨g, off, none⟩) A dLen dCap 0 sCap hd hs (by simp) ?_
    have := h w (by simpa using hg) (World.grownBy.refl w _)
    simpa [goInt] using this
  · obtain ⟨b, o1, rfl, hb, hc⟩ := hr.2 (by omega)
    have hh := wpList_copy_own (P := P) (w := w) (ops := ops) (rest := rest) (o := o) (a := a) (Q := Q) hgd d s dT sT ho elem hu hsz g off dLen dCap ⟨b, o1, none⟩ sLen sCap hd hs cur t hg cs
      (by rw [hl]; exact (Nat.min_eq_left hle).symm) (fun j v hv => by rw [Addr.add_lit]; exact hc j v hv) (by omega) h1
    refine hh ?_
    have := h (w.setRow g (cur.toList.take off ++ (cs ++ cur.toList.drop (off + cs.length))).toArray) (by rw [hl, ← List.append_assoc]; exact setRow_heap w g cur _ t _ hg) ⟨rfl, rfl, rfl, by simp, fun k _ hk => setRow_other w g k _ (fun e => hk (by simp [e]))⟩
    rw [hl] at this ⊢
    exact this

/-! ### Bytes, words, bools as values -/
def cB (x : UInt8) : Value := .int .u8 (x.toNat : Int)
def cW (x : UInt16) : Value := .int .u16 (x.toNat : Int)
def cL (x : Bool) : Value := .bool x
def IsU8 (v : Value) : Prop := ∃ x : UInt8, v = .int .u8 (x.toNat : Int)
def IsU16 (v : Value) : Prop := ∃ x : UInt16, v = .int .u16 (x.toNat : Int)
def IsBo (v : Value) : Prop := ∃ x : Bool, v = .bool x
theorem isU8_u8 {x : UInt8} : IsU8 (cB x) := ⟨x, rfl⟩
theorem isU16_u16 {x : UInt16} : IsU16 (cW x) := ⟨x, rfl⟩
theorem isBo_bo {x : Bool} : IsBo (cL x) := ⟨x, rfl⟩
theorem isU8_map {l : List UInt8} : ∀ u ∈ l.map cB, IsU8 u := by intro u hu; obtain ⟨x, _, rfl⟩ := List.mem_map.1 hu; exact isU8_u8
theorem isU16_map {l : List UInt16} : ∀ u ∈ l.map cW, IsU16 u := by intro u hu; obtain ⟨x, _, rfl⟩ := List.mem_map.1 hu; exact isU16_u16
theorem isBo_map {l : List Bool} : ∀ u ∈ l.map cL, IsBo u := by intro u hu; obtain ⟨x, _, rfl⟩ := List.mem_map.1 hu; exact isBo_bo
theorem isU8_one {u : Value} (h : IsU8 u) : u.oneCell' = true := by obtain ⟨x, rfl⟩ := h; rfl
theorem isU16_one {u : Value} (h : IsU16 u) : u.oneCell' = true := by obtain ⟨x, rfl⟩ := h; rfl
theorem isBo_one {u : Value} (h : IsBo u) : u.oneCell' = true := by obtain ⟨x, rfl⟩ := h; rfl
theorem isU8_of {n : Int} (h0 : 0 ≤ n) (h1 : n ≤ 255) : IsU8 (.int .u8 n) := ⟨UInt8.ofNat n.toNat, by simp; omega⟩
theorem isU16_of {n : Int} (h0 : 0 ≤ n) (h1 : n ≤ 65535) : IsU16 (.int .u16 n) := ⟨UInt16.ofNat n.toNat, by simp; omega⟩

theorem isU8_bits (op : BinOp) (x y : Int) : IsU8 (.int .u8 (bits op .u8 x y)) := isU8_of (bounds_u8 (wf_bits ..)).1 (bounds_u8 (wf_bits ..)).2
theorem isU16_bits (op : BinOp) (x y : Int) : IsU16 (.int .u16 (bits op .u16 x y)) := isU16_of (bounds_u16 (wf_bits ..)).1 (bounds_u16 (wf_bits ..)).2
theorem all_u8 : ∀ {xs : List Value}, (∀ u ∈ xs, IsU8 u) → ∃ l : List UInt8, xs = l.map cB
  | [], _ => ⟨[], rfl⟩
  | v :: r, h => by
    obtain ⟨x, rfl⟩ := h v (by simp)
    obtain ⟨l, rfl⟩ := all_u8 (xs := r) fun u hu => h u (by simp [hu])
    exact ⟨x :: l, rfl⟩
theorem all_u16 : ∀ {xs : List Value}, (∀ u ∈ xs, IsU16 u) → ∃ l : List UInt16, xs = l.map cW
  | [], _ => ⟨[], rfl⟩
  | v :: r, h => by
    obtain ⟨x, rfl⟩ := h v (by simp)
    obtain ⟨l, rfl⟩ := all_u16 (xs := r) fun u hu => h u (by simp [hu])
    exact ⟨x :: l, rfl⟩
theorem all_bo : ∀ {xs : List Value}, (∀ u ∈ xs, IsBo u) → ∃ l : List Bool, xs = l.map cL
  | [], _ => ⟨[], rfl⟩
  | v :: r, h => by
    obtain ⟨x, rfl⟩ := h v (by simp)
    obtain ⟨l, rfl⟩ := all_bo (xs := r) fun u hu => h u (by simp [hu])
    exact ⟨x :: l, rfl⟩
theorem Rd.of_heap {w : World} {g : Nat} {cur : Array Value} {t : TypeId} {xs ys : List Value} {n : Nat} (hh : w.heap[g]? = some (.cells cur t (0, 0))) (hc : cur.toList = xs ++ ys) (hn : xs.length = n) : Rd w (some ⟨g, 0, none⟩) n xs :=
  ⟨hn, fun _ => ⟨g, 0, rfl, lt_of_heap hh, fun j u hu => by
    rw [cell_of_row _ _ _ _ _ _ hh, ← Array.getElem?_toList, hc, Nat.zero_add, List.getElem?_append_left (List.getElem?_eq_some_iff.1 hu).1]; exact hu⟩⟩

theorem Rd.take {w : World} {A : Option Addr} {n k : Nat} {xs : List Value} (h : Rd w A n xs) (hk : k ≤ n) : Rd w A k (xs.take k) :=
  ⟨by have := h.1; simp; omega, fun hp => by
    obtain ⟨b, off, e, hb, hc⟩ := h.2 (by omega)
    exact ⟨b, off, e, hb, fun j u hu => hc j u (by rw [List.getElem?_take] at hu; split at hu; exact hu; cases hu)⟩⟩

/-- A cut in the middle; where it is empty, its address counts for nothing. -/
theorem Rd.cut {w : World} {A : Option Addr} {n k m : Nat} {xs : List Value} (h : Rd w A n xs) (hk : k + m ≤ n) : Rd w (Option.map (fun x => x.add k) A) m ((xs.drop k).take m) :=
  ⟨by have := h.1; simp; omega, fun hp => by
    obtain ⟨b, off, e, hb, hc⟩ := h.2 (by omega)
    subst e
    refine ⟨b, off + k, by simp [Addr.add_lit], hb, fun j u hu => ?_⟩
    rw [List.getElem?_take] at hu
    split at hu
    · rw [List.getElem?_drop] at hu
      rw [Nat.add_assoc]; exact hc _ u hu
    · cases hu⟩

theorem Rd.length {α : Type} {f : α → Value} {w : World} {A : Option Addr} {n : Nat} {l : List α} (h : Rd w A n (l.map f)) : l.length = n := by have := h.1; simpa using this

/-- A block filled with bytes, whole. -/
theorem Own.bytes {w : World} {base : Nat} {e : TypeId} {g : Nat} {cur : Array Value} {l : List UInt8} {n : Nat} (hb : base ≤ g) (hg : w.heap[g]? = some (.cells cur e (0, 0))) (hc : cur.toList = l.map cB) (hn : l.length = n) (hm : n ≤ maxLen) :
    Own w base e IsU8 (some ⟨g, 0, none⟩) n n (l.map cB) := by
  have hs : cur.size = n := by rw [← Array.length_toList, hc]; simpa using hn
  have h := Own.of_heap (p := IsU8) hb hg (off := 0) n n (Nat.le_refl _) (by omega) hm (by rw [hc]; exact isU8_map)
  rwa [List.drop_zero, hc, List.take_of_length_le (by simp; omega)] at h

theorem all_set {p : Value → Prop} {cur : Array Value} {v : Value} {i : Nat} (h : ∀ u ∈ cur.toList, p u) (hv : p v) : ∀ u ∈ (cur.setIfInBounds i v).toList, p u := by
  intro u hu
  rw [Array.toList_setIfInBounds] at hu
  rcases List.mem_or_eq_of_mem_set hu with hu | rfl
  · exact h u hu
  · exact hv

theorem Rd.u8at {w : World} {A : Option Addr} {n : Nat} {l : List UInt8} (h : Rd w A n (l.map cB)) {k : Nat} (hk : k < n) :
    ∃ b off, A = some ⟨b, off, none⟩ ∧ b < w.heap.size ∧ ∃ hl : k < l.length, w.cell? ⟨b, off + k, none⟩ = some (.int .u8 (l[k].toNat : Int)) := by
  obtain ⟨b, off, e, hb, hl, hc⟩ := h.at_ hk
  exact ⟨b, off, e, hb, by simpa using hl, by simpa [cB] using hc⟩
theorem Rd.u16at {w : World} {A : Option Addr} {n : Nat} {l : List UInt16} (h : Rd w A n (l.map cW)) {k : Nat} (hk : k < n) :
    ∃ b off, A = some ⟨b, off, none⟩ ∧ b < w.heap.size ∧ ∃ hl : k < l.length, w.cell? ⟨b, off + k, none⟩ = some (.int .u16 (l[k].toNat : Int)) := by
  obtain ⟨b, off, e, hb, hl, hc⟩ := h.at_ hk
  exact ⟨b, off, e, hb, by simpa using hl, by simpa [cW] using hc⟩
theorem Rd.boat {w : World} {A : Option Addr} {n : Nat} {l : List Bool} (h : Rd w A n (l.map cL)) {k : Nat} (hk : k < n) :
    ∃ b off, A = some ⟨b, off, none⟩ ∧ b < w.heap.size ∧ ∃ hl : k < l.length, w.cell? ⟨b, off + k, none⟩ = some (.bool l[k]) := by
  obtain ⟨b, off, e, hb, hl, hc⟩ := h.at_ hk
  exact ⟨b, off, e, hb, by simpa using hl, by simpa [cL] using hc⟩

theorem Rd.one (w : World) (t : TypeId) (v : Value) : Rd (w.alloc (.cells #[v] t)) (some ⟨w.heap.size, 0, none⟩) 1 [v] :=
  ⟨rfl, fun _ => ⟨_, 0, rfl, by simp, fun j u hu => by
    rw [cell_of_row _ _ _ _ _ _ (heap_alloc_new w _)]
    rcases j with _ | j
    · simpa using hu
    · simp at hu⟩⟩

/-- The call hands back a slice of its own, of the cells `xs`; nothing that was there has turned. -/
def RetOwn (w : World) (t : TypeId) (p : Value → Prop) (n : Nat) (xs : List Value) (e : Ending) (w' : World) : Prop :=
  ∃ A c, e = .returned (.slice A n c) ∧ Own w' w.heap.size t p A n c xs ∧ Below w.heap.size w w'

theorem map_take_succ {α : Type} (f : α → Value) (l : List α) (k : Nat) (h : k < l.length) : (l.take (k + 1)).map f = (l.take k).map f ++ [f l[k]] := by
  rw [List.take_succ_eq_append_getElem h, List.map_append]; rfl

theorem run_make1 {P : Program} (t e : TypeId) (z : Value) (bytes : Nat) (ht : P.underlying t = some (.slice e)) (hinfo : (P.info? e).map (fun i => (i.zero, i.size, i.bytes)) = some (some z, 1, bytes)) (hz1 : z.cells = #[z])
    (n : Nat) (hbytes : bytes * n ≤ 281474976710656) (h63 : n ≤ 9223372036854775807) (W : World) :
    (Instr.makeSlice t (.int .i64 (n : Int)) (.int .i64 (n : Int))).run P W = .ok (.slice (some ⟨W.heap.size, 0, none⟩) n n) (W.alloc (.cells (Array.replicate n z) e)) := by
  have h := run_make_row' (P := P) t e z bytes ht hinfo hz1 .i64 .i64 n hbytes h63 W
  have e1 : madeCells #[z] n = Array.replicate n z := by apply Array.ext'; rw [toList_madeCells_one]; simp
  rw [e1] at h; exact h

/-- The next cell of a row that is filled from its beginning, up to the list `T`. -/
theorem fill_step {cur : Array Value} {T : List Value} {z v : Value} {k N : Nat} (h : cur.toList = T.take k ++ List.replicate (N - k) z) (hN : T.length = N) (hv : T[k]? = some v) :
    (cur.setIfInBounds k v).toList = T.take (k + 1) ++ List.replicate (N - (k + 1)) z := by
  have hk : k < T.length := by
    rcases Nat.lt_or_ge k T.length with hk | hk
    · exact hk
    · rw [List.getElem?_eq_none hk] at hv; cases hv
  have e1 : T[k] = v := by rw [List.getElem?_eq_getElem hk] at hv; injection hv
  have e2 : N - k = (N - (k + 1)) + 1 := by omega
  have e3 : (T.take k).length = k := by simp; omega
  rw [Array.toList_setIfInBounds, h, e2, List.replicate_succ, List.take_succ_eq_append_getElem hk, e1, List.set_append_right _ _ (by omega), e3]
  simp

theorem heap_cell {w : World} {g : Nat} {cur : Array Value} {t : TypeId} {k : Nat} (h : w.heap[g]? = some (.cells cur t (0, 0))) (hk : k < cur.size) : ∃ u, w.cell? ⟨g, k, none⟩ = some u := by
  rw [cell_of_row w g k cur t (0, 0) h]; exact ⟨cur[k], by simp [hk]⟩

/-- A slice of the call's own gets one cell more. -/
theorem below_app {B : Nat} {a w w1 : World} {o : Obj} {row : Option Nat} (h : Below B a w) (hB : B ≤ w.heap.size) (hg : (w.alloc o).grownBy w1 row) (hr : ∀ k, row = some k → B ≤ k) : Below B a w1 :=
  (h.alloc hB o).grown hg (by simp; omega) hr

/-- Two slices that share no block. -/
def Sep (A B : Option Addr) : Prop := ∀ g, blk A = some g → blk B ≠ some g
theorem Sep.symm {A B : Option Addr} (h : Sep A B) : Sep B A := fun g h1 h2 => h g h2 h1
theorem ret_bool {a b : Bool} (h : a = b) : Ending.returned (.bool a) = .returned (.bool b) := by rw [h]
theorem ret_int {k : IntKind} {a b : Int} (h : a = b) : Ending.returned (.int k a) = .returned (.int k b) := by rw [h]

end Go.Out

namespace Go.Out
open Go Go.RowKit
set_option linter.unusedVariables false

/-- A number of n bytes, the highest first. -/
def be (v : Nat) : Nat → List UInt8
  | 0 => []
  | n + 1 => UInt8.ofNat (v / 256 ^ n) :: be v n

theorem be_length (v n : Nat) : (be v n).length = n := by
  induction n with
  | zero => rfl
  | succ n ih => simp [be, ih]
theorem pow256 (k : Nat) : (2 : Nat) ^ (8 * k) = 256 ^ k := by rw [Nat.pow_mul]

theorem shr_cast (v k : Nat) : (v : Int) / 2 ^ (8 * k) = ((v / 256 ^ k : Nat) : Int) := by
  rw [← pow256]; simp

theorem fill_back {cur : Array Value} {xs ys : List Value} {z v : Value} {m n k : Nat} (h : cur.toList = (xs ++ List.replicate (n - k) z) ++ ys) (hx : xs.length = m) (hk : k < n) :
    (cur.setIfInBounds (m + n - 1 - k) v).toList = (xs ++ List.replicate (n - (k + 1)) z) ++ (v :: ys) := by
  have e1 : n - k = (n - (k + 1)) + 1 := by omega
  have e2 : m + n - 1 - k = (xs ++ List.replicate (n - (k + 1)) z).length := by simp [hx]; omega
  rw [Array.toList_setIfInBounds, h, e1, List.replicate_succ', e2]
  simp [List.append_assoc]

theorem be_cell (v k : Nat) : (.int .u8 ((v : Int) / 2 ^ (8 * k) % 256) : Value) = cB (UInt8.ofNat (v / 256 ^ k)) := by
  rw [shr_cast]; unfold cB; congr 1

/-- The number that bytes are, the highest first. -/
def num (l : List UInt8) : Nat := l.foldl (fun a x => a * 256 + x.toNat) 0

theorem num_snoc (l : List UInt8) (x : UInt8) : num (l ++ [x]) = num l * 256 + x.toNat := by simp [num]

theorem num_lt (l : List UInt8) : num l < 256 ^ l.length := by
  suffices h : ∀ (l : List UInt8) (a k : Nat), a < 256 ^ k → l.foldl (fun a x => a * 256 + x.toNat) a < 256 ^ (k + l.length) by
    have := h l 0 0 (by simp); simpa [num] using this
  intro l
  induction l with
  | nil => intro a k h; simpa using h
  | cons x l ih =>
    intro a k h
    have hx : x.toNat < 256 := x.toNat_lt
    have := ih (a * 256 + x.toNat) (k + 1) (by rw [Nat.pow_succ]; omega)
    simp only [List.foldl_cons, List.length_cons]
    rw [show k + (l.length + 1) = k + 1 + l.length from by omega]
    exact this

theorem num_small {x k : Nat} (h : x < 256 ^ k) (hk : k ≤ 7) : x ≤ 72057594037927935 := by
  have := Nat.pow_le_pow_right (n := 256) (by omega) hk
  omega

theorem num_or {X : Nat} (x : UInt8) (h : X ≤ 72057594037927935) : bits .or .u64 ((X : Int) * 256) (IntKind.u64.wrap (x.toNat : Int)) = ((X * 256 + x.toNat : Nat) : Int) := by
  have hx : x.toNat < 256 := x.toNat_lt
  have e1 : IntKind.u64.wrap (x.toNat : Int) = ((x.toNat : Nat) : Int) := by rw [IntKind.wrap_u64]; omega
  have e2 : ((X : Int) * 256) = ((X * 256 : Nat) : Int) := by simp
  rw [e1, e2, u64_or_nat _ _ (by omega) (by omega), nat_join 8 _ _ (by omega) (by omega)]

theorem u8_ofNat (X : Nat) : cB (UInt8.ofNat X) = .int .u8 ((X : Int) % 256) := by unfold cB; congr 1

theorem take_drop_succ {α : Type} (b : List α) (k at_ : Nat) (h : at_ + k < b.length) : (b.drop at_).take (k + 1) = (b.drop at_).take k ++ [b[at_ + k]] := by
  rw [List.take_succ_eq_append_getElem (by simp; omega)]; simp

end Go.Out

namespace Go.Out
open Go Go.RowKit
set_option linter.unusedVariables false

/-- Words as bytes. -/
def wb : List UInt16 → List UInt8
  | [] => []
  | w :: r => UInt8.ofNat (w.toNat / 256) :: UInt8.ofNat w.toNat :: wb r
/-- Bytes as words. -/
def bw : List UInt8 → List UInt16
  | a :: b :: r => UInt16.ofNat (a.toNat * 256 + b.toNat) :: bw r
  | _ => []
def wordsF (b : List UInt8) : List UInt16 × Int := if b.length % 2 = 1 then ([], 22) else (bw b, 0)

theorem wb_length (l : List UInt16) : (wb l).length = 2 * l.length := by
  induction l with
  | nil => rfl
  | cons w r ih => simp [wb, ih]; omega
theorem wb_append (a b : List UInt16) : wb (a ++ b) = wb a ++ wb b := by
  induction a with
  | nil => rfl
  | cons w r ih => simp [wb, ih]
theorem wb_snoc (l : List UInt16) (k : Nat) (h : k < l.length) : wb (l.take (k + 1)) = wb (l.take k) ++ [UInt8.ofNat (l[k].toNat / 256), UInt8.ofNat l[k].toNat] := by
  rw [List.take_succ_eq_append_getElem h, wb_append]; rfl
theorem bw_wb (l : List UInt16) : bw (wb l) = l := by
  induction l with
  | nil => rfl
  | cons w r ih =>
    simp only [wb, bw, ih]
    congr 1
    apply UInt16.toNat.inj
    have h1 : (UInt8.ofNat (w.toNat / 256)).toNat = w.toNat / 256 % 256 := rfl
    have h2 : (UInt8.ofNat w.toNat).toNat = w.toNat % 256 := rfl
    have h3 := w.toNat_lt
    have h4 : (UInt16.ofNat ((UInt8.ofNat (w.toNat / 256)).toNat * 256 + (UInt8.ofNat w.toNat).toNat)).toNat = ((UInt8.ofNat (w.toNat / 256)).toNat * 256 + (UInt8.ofNat w.toNat).toNat) % 65536 := rfl
    rw [h4, h1, h2]; omega
theorem bw_length : ∀ l : List UInt8, (bw l).length = l.length / 2
  | [] => rfl
  | [_] => by simp [bw]
  | a :: b :: r => by simp [bw, bw_length r]; omega
theorem wb_bw : ∀ l : List UInt8, l.length % 2 = 0 → wb (bw l) = l
  | [], _ => rfl
  | [_], h => by simp at h
  | a :: b :: r, h => by
    have ih := wb_bw r (by simp at h; omega)
    simp only [bw, wb, ih]
    have ha := a.toNat_lt
    have hb := b.toNat_lt
    have h4 : (UInt16.ofNat (a.toNat * 256 + b.toNat)).toNat = (a.toNat * 256 + b.toNat) % 65536 := rfl
    congr 1
    · apply UInt8.toNat.inj
      have h5 : (UInt8.ofNat ((UInt16.ofNat (a.toNat * 256 + b.toNat)).toNat / 256)).toNat = (UInt16.ofNat (a.toNat * 256 + b.toNat)).toNat / 256 % 256 := rfl
      rw [h5, h4]; omega
    · congr 1
      apply UInt8.toNat.inj
      have h5 : (UInt8.ofNat ((UInt16.ofNat (a.toNat * 256 + b.toNat)).toNat)).toNat = (UInt16.ofNat (a.toNat * 256 + b.toNat)).toNat % 256 := rfl
      rw [h5, h4]; omega
theorem bw_get : ∀ (l : List UInt8) (k : Nat) (h : 2 * k + 1 < l.length), (bw l)[k]? = some (UInt16.ofNat (l[2 * k].toNat * 256 + l[2 * k + 1].toNat))
  | [], k, h => by simp at h
  | [_], k, h => by simp at h
  | a :: b :: r, 0, h => by simp [bw]
  | a :: b :: r, k + 1, h => by
    have := bw_get r k (by simp at h; omega)
    simp only [bw, List.getElem?_cons_succ, this]
    rfl

theorem cB_cell (x : Int) (n : Nat) (h : x = ((n % 256 : Nat) : Int)) : (.int .u8 x : Value) = cB (UInt8.ofNat n) := by unfold cB; congr 1
theorem Rd.two (w : World) (t : TypeId) (v u : Value) : Rd (w.alloc (.cells #[v, u] t)) (some ⟨w.heap.size, 0, none⟩) 2 [v, u] :=
  ⟨rfl, fun _ => ⟨_, 0, rfl, by simp, fun j x hu => by
    rw [cell_of_row _ _ _ _ _ _ (heap_alloc_new w _)]
    rcases j with _ | _ | j
    · simpa using hu
    · simpa using hu
    · simp at hu⟩⟩
theorem run_make0 {P : Program} (t e : TypeId) (z : Value) (bytes : Nat) (ht : P.underlying t = some (.slice e)) (hinfo : (P.info? e).map (fun i => (i.zero, i.size, i.bytes)) = some (some z, 1, bytes)) (hz1 : z.cells = #[z])
    (c : Nat) (hbytes : bytes * c ≤ 281474976710656) (h63 : c ≤ 9223372036854775807) (W : World) :
    (Instr.makeSlice t (.int .i64 0) (.int .i64 (c : Int))).run P W = .ok (.slice (some ⟨W.heap.size, 0, none⟩) 0 c) (W.alloc (.cells (Array.replicate c z) e)) := by
  obtain ⟨i, hi, hz, hs, hb⟩ := info_parts hinfo
  subst hb
  have h := run_make (P := P) W t e i z ht hi hz .i64 .i64 0 (c : Int) (by omega) (by omega) (by have := Int.ofNat_le.2 hbytes; simpa using this) (by omega)
  have e1 : madeCells #[z] c = Array.replicate c z := by apply Array.ext'; rw [toList_madeCells_one]; simp
  simpa [hs, hz1, e1] using h
theorem Own.made {w : World} {base : Nat} {e : TypeId} {p : Value → Prop} {z : Value} {c : Nat} (hb : base ≤ w.heap.size) (hc : c ≤ 9223372036854775807) (hz : p z) : Own (w.alloc (.cells (Array.replicate c z) e)) base e p (some ⟨w.heap.size, 0, none⟩) 0 c [] := by
  have h := Own.of_heap (w := w.alloc (.cells (Array.replicate c z) e)) (p := p) hb (heap_alloc_new w _) (off := 0) 0 c (by omega) (by simp) (by unfold maxLen; omega) (by intro u hu; simp at hu; rw [hu.2]; exact hz)
  simpa using h
theorem Rd.u16in {w wr : World} {A : Option Addr} {n : Nat} {l : List UInt16} (h : Rd w A n (l.map cW)) (hb : Below w.heap.size w wr) {k : Nat} (hk : k < n) :
    ∃ b off, A = some ⟨b, off, none⟩ ∧ b < w.heap.size ∧ ∃ hl : k < l.length, wr.cell? ⟨b, off + k, none⟩ = some (.int .u16 (l[k].toNat : Int)) := by
  obtain ⟨b, off, e, hlt, hl, hc⟩ := h.u16at hk
  exact ⟨b, off, e, hlt, hl, (hb.cell (p := ⟨b, off + k, none⟩) hlt).trans hc⟩
theorem Rd.u8in {w wr : World} {A : Option Addr} {n : Nat} {l : List UInt8} (h : Rd w A n (l.map cB)) (hb : Below w.heap.size w wr) {k : Nat} (hk : k < n) :
    ∃ b off, A = some ⟨b, off, none⟩ ∧ b < w.heap.size ∧ ∃ hl : k < l.length, wr.cell? ⟨b, off + k, none⟩ = some (.int .u8 (l[k].toNat : Int)) := by
  obtain ⟨b, off, e, hlt, hl, hc⟩ := h.u8at hk
  exact ⟨b, off, e, hlt, hl, (hb.cell (p := ⟨b, off + k, none⟩) hlt).trans hc⟩
/-- A cell below the call's own blocks, behind an append to one of these. -/
theorem cell_app {w w2 : World} {o : Obj} {base : Nat} {e : TypeId} {p : Value → Prop} {A : Option Addr} {n c b off : Nat} {xs : List Value} {v : Value} (hc : w.cell? ⟨b, off, none⟩ = some v) (hg : (w.alloc o).grownBy w2 (blk A)) (hown : Own w base e p A n c xs) (hlt : b < base) (hbase : base ≤ w.heap.size) :
    w2.cell? ⟨b, off, none⟩ = some v :=
  (World.cell?_of_block (a := ⟨b, off, none⟩) (hg.block b (by simp; omega) (fun e => by have := (hown.lt b e.symm).1; omega))).trans ((World.cell?_alloc_lt w o ⟨b, off, none⟩ (by simp; omega)).trans hc)
theorem word_or (x y : UInt8) : bits .or .u16 (IntKind.u16.wrap (IntKind.u16.wrap (x.toNat : Int) * 256)) (IntKind.u16.wrap (y.toNat : Int)) = (((x.toNat * 256 + y.toNat) % 65536 : Nat) : Int) := by
  have hx := x.toNat_lt
  have hy := y.toNat_lt
  have e1 : IntKind.u16.wrap (IntKind.u16.wrap (x.toNat : Int) * 256) = ((x.toNat * 256 : Nat) : Int) := by rw [IntKind.wrap_u16, IntKind.wrap_u16]; omega
  have e2 : IntKind.u16.wrap (y.toNat : Int) = ((y.toNat : Nat) : Int) := by rw [IntKind.wrap_u16]; omega
  rw [e1, e2, u16_or_nat _ _ (by omega) (by omega), nat_join 8 _ _ (by omega) (by omega)]
  omega
theorem word_add (x y : UInt8) : IntKind.u16.wrap (IntKind.u16.wrap (IntKind.u16.wrap (x.toNat : Int) * 256) + IntKind.u16.wrap (y.toNat : Int)) = (((x.toNat * 256 + y.toNat) % 65536 : Nat) : Int) := by
  have hx := x.toNat_lt
  have hy := y.toNat_lt
  rw [IntKind.wrap_u16, IntKind.wrap_u16, IntKind.wrap_u16, IntKind.wrap_u16]; omega
theorem bw_get' (l : List UInt8) (k : Nat) (h : 2 * k + 1 < l.length) : ((bw l).map cW)[k]? = some (.int .u16 (((l[2 * k].toNat * 256 + l[2 * k + 1].toNat) % 65536 : Nat) : Int)) := by
  rw [List.getElem?_map, bw_get l k h]; rfl
theorem bw_take (l : List UInt8) (k : Nat) (h : 2 * k + 1 < l.length) : ((bw l).take (k + 1)).map cW = ((bw l).take k).map cW ++ [.int .u16 (((l[2 * k].toNat * 256 + l[2 * k + 1].toNat) % 65536 : Nat) : Int)] := by
  have h1 := bw_get' l k h
  rw [List.getElem?_map] at h1
  have hk : k < (bw l).length := by rw [bw_length]; omega
  rw [map_take_succ cW _ _ hk]
  rw [List.getElem?_eq_getElem hk] at h1
  simp only [Option.map_some, Option.some.injEq] at h1
  rw [h1]
/-- A block filled with words, whole. -/
theorem Own.words {w : World} {base : Nat} {e : TypeId} {g : Nat} {cur : Array Value} {l : List UInt16} {n : Nat} (hb : base ≤ g) (hg : w.heap[g]? = some (.cells cur e (0, 0))) (hc : cur.toList = l.map cW) (hn : l.length = n) (hm : n ≤ maxLen) :
    Own w base e IsU16 (some ⟨g, 0, none⟩) n n (l.map cW) := by
  have hs : cur.size = n := by rw [← Array.length_toList, hc]; simpa using hn
  have h := Own.of_heap (p := IsU16) hb hg (off := 0) n n (Nat.le_refl _) (by omega) hm (by rw [hc]; exact isU16_map)
  rwa [List.drop_zero, hc, List.take_of_length_le (by simp; omega)] at h
/-- append onto a slice of the call's own, as one step of a region that draws. -/
theorem step_append_Own {P : Program} {ops : Array Oper} {o : Oper} {a : Act} {w : World} {K : Act → World → Prop} {Q : Exit → Act → World → Prop} {E : Prop} (hg : o.guard = none) (s x : Operand) (t : TypeId)
    (ho : o.op = .call { callee := .builtin .append, args := #[s, x], argTypes := #[t, t] })
    (p : Value → Prop) (base : Nat) (e : TypeId) (z : Value) (bytes : Nat) (ht : P.underlying t = some (.slice e))
    (hinfo : (P.info? e).map (fun i => (i.zero, i.size, i.bytes)) = some (some z, 1, bytes)) (hzc : z.cells = #[z]) (hpz : p z) (hp1 : ∀ u, p u → u.oneCell' = true)
    (A : Option Addr) (n c : Nat) (xs : List Value) (hs : a.eval s = .slice A n c) (hown : Own w base e p A n c xs)
    (A' : Option Addr) (m c' : Nat) (news : List Value) (hx : a.eval x = .slice A' m c') (hr : Rd w A' m news) (hnp : ∀ u ∈ news, p u) (hbytes : (n + m) * bytes ≤ 140737488355328) (h63 : n + m ≤ 9223372036854775807) (hbase : base ≤ w.heap.size)
    (h : ∀ A1 c1 w1, Own w1 base e p A1 (n + m) c1 (xs ++ news) → w.grownBy w1 (blk A) → (blk A1 = blk A ∨ blk A1 = some w.heap.size) → K (a.put o.dst (.slice A1 (n + m) c1)) w1) :
    if Region.wanted o (yielded ops a.tmps) = true then Oper.wp P o a w K Q else E := by
  have hw : Region.wanted o (yielded ops a.tmps) = true := by simp [Region.wanted, hg]
  rw [if_pos hw]
  exact wp_append_Own w s x t ho p base e z bytes ht hinfo hzc hpz hp1 A n c xs hs hown A' m c' news hx hr hnp hbytes h63 hbase h
end Go.Out

namespace Go.Out
open Go Go.RowKit
set_option linter.unusedVariables false

def need (n : Nat) : Nat := (n + 7) / 8
/-- Bit i of a list, as a number. -/
def bt (l : List Bool) (i : Nat) : Nat := if l.getD i false then 1 else 0
def bByte (l : List Bool) (j : Nat) : Nat := bt l (8 * j) + 2 * bt l (8 * j + 1) + 4 * bt l (8 * j + 2) + 8 * bt l (8 * j + 3) + 16 * bt l (8 * j + 4) + 32 * bt l (8 * j + 5) + 64 * bt l (8 * j + 6) + 128 * bt l (8 * j + 7)
/-- The bytes that N bytes' room holds behind the bits l. -/
def bitsN (l : List Bool) (N : Nat) : List UInt8 := (List.range N).map fun j => UInt8.ofNat (bByte l j)
def bitsF (l : List Bool) : List UInt8 := bitsN l (need l.length)
/-- Bit i of bytes. -/
def ubit (b : List UInt8) (i : Nat) : Bool := decide ((b.getD (i / 8) 0).toNat / 2 ^ (i % 8) % 2 = 1)
/-- Is a bit set from n on? -/
def spare (b : List UInt8) (n : Nat) : Bool := (List.range (8 * b.length)).any fun i => decide (n ≤ i) && ubit b i
def unbitsF (b : List UInt8) (n : Int) : List Bool × Int :=
  if n < 0 then ([], 3) else if b.length ≠ need n.toNat then ([], 22) else if spare b n.toNat then ([], 4) else ((List.range n.toNat).map (ubit b), 0)

theorem bt_le (l : List Bool) (i : Nat) : bt l i ≤ 1 := by unfold bt; split <;> omega
theorem getD_take (l : List Bool) (k i : Nat) : (l.take k).getD i false = if i < k then l.getD i false else false := by
  rw [List.getD_eq_getElem?_getD, List.getD_eq_getElem?_getD, List.getElem?_take]; split <;> rfl
theorem bt_take (l : List Bool) (k i : Nat) (hk : k < l.length) : bt (l.take (k + 1)) i = bt (l.take k) i + (if i = k then bt l k else 0) := by
  unfold bt
  rw [getD_take, getD_take]
  rcases Nat.lt_trichotomy i k with h | h | h
  · rw [if_pos (show i < k + 1 by omega), if_pos h, if_neg (show ¬ i = k by omega)]; rfl
  · subst h; rw [if_pos (show i < i + 1 by omega), if_neg (show ¬ i < i by omega), if_pos (show i = i from rfl)]; simp
  · rw [if_neg (show ¬ i < k + 1 by omega), if_neg (show ¬ i < k by omega), if_neg (show ¬ i = k by omega), if_neg (by decide)]
theorem bt_past (l : List Bool) (k i : Nat) (h : k ≤ i) : bt (l.take k) i = 0 := by
  unfold bt
  rw [getD_take, if_neg (show ¬ i < k by omega), if_neg (by decide)]
theorem bByte_step (l : List Bool) (k j : Nat) (hk : k < l.length) : bByte (l.take (k + 1)) j = bByte (l.take k) j + (if j = k / 8 then bt l k * 2 ^ (k % 8) else 0) := by
  unfold bByte
  simp only [bt_take l k _ hk]
  generalize bt l k = B
  have hr : k % 8 < 8 := Nat.mod_lt _ (by omega)
  by_cases hj : j = k / 8
  · rw [if_pos hj]
    have hk8 : k = 8 * j + k % 8 := by omega
    generalize k % 8 = r at *
    subst hk8
    match r, hr with
    | 0, _ | 1, _ | 2, _ | 3, _ | 4, _ | 5, _ | 6, _ | 7, _ => simp <;> omega
  · rw [if_neg hj]
    have n0 : ¬ 8 * j = k := by omega
    have n1 : ¬ 8 * j + 1 = k := by omega
    have n2 : ¬ 8 * j + 2 = k := by omega
    have n3 : ¬ 8 * j + 3 = k := by omega
    have n4 : ¬ 8 * j + 4 = k := by omega
    have n5 : ¬ 8 * j + 5 = k := by omega
    have n6 : ¬ 8 * j + 6 = k := by omega
    have n7 : ¬ 8 * j + 7 = k := by omega
    simp only [if_neg n0, if_neg n1, if_neg n2, if_neg n3, if_neg n4, if_neg n5, if_neg n6, if_neg n7]
    omega
theorem bByte_lt (l : List Bool) (j : Nat) : bByte l j < 256 := by
  unfold bByte
  have := bt_le l (8 * j); have := bt_le l (8 * j + 1); have := bt_le l (8 * j + 2); have := bt_le l (8 * j + 3)
  have := bt_le l (8 * j + 4); have := bt_le l (8 * j + 5); have := bt_le l (8 * j + 6); have := bt_le l (8 * j + 7)
  omega
/-- Behind k bits, the byte that the next one goes to has nothing from that bit on. -/
theorem bByte_low (l : List Bool) (k : Nat) : bByte (l.take k) (k / 8) < 2 ^ (k % 8) := by
  have hr : k % 8 < 8 := Nat.mod_lt _ (by omega)
  have hk8 : k = 8 * (k / 8) + k % 8 := by omega
  have hp := fun i (h : k ≤ i) => bt_past l k i h
  have hb := fun i => bt_le (l.take k) i
  unfold bByte
  generalize hj : k / 8 = j at *
  have b0 := hb (8 * j); have b1 := hb (8 * j + 1); have b2 := hb (8 * j + 2); have b3 := hb (8 * j + 3); have b4 := hb (8 * j + 4); have b5 := hb (8 * j + 5); have b6 := hb (8 * j + 6)
  have p0 := hp (8 * j); have p1 := hp (8 * j + 1); have p2 := hp (8 * j + 2); have p3 := hp (8 * j + 3); have p4 := hp (8 * j + 4); have p5 := hp (8 * j + 5); have p6 := hp (8 * j + 6); have p7 := hp (8 * j + 7)
  generalize k % 8 = r at *
  match r, hr with
  | 0, _ | 1, _ | 2, _ | 3, _ | 4, _ | 5, _ | 6, _ | 7, _ => simp only [Nat.reducePow]; omega
theorem bitsN_get (l : List Bool) (N j : Nat) (h : j < N) : (bitsN l N)[j]? = some (UInt8.ofNat (bByte l j)) := by simp [bitsN, h]
theorem bitsN_length (l : List Bool) (N : Nat) : (bitsN l N).length = N := by simp [bitsN]
theorem bitsN_nil (N : Nat) : (bitsN [] N).map cB = List.replicate N (.int .u8 0) := by
  apply List.ext_getElem?
  intro i
  rcases Nat.lt_or_ge i N with h | h
  · rw [List.getElem?_map, bitsN_get _ _ _ h, List.getElem?_replicate, if_pos h]; rfl
  · rw [List.getElem?_eq_none (by simp [bitsN_length]; omega), List.getElem?_eq_none (by simp; omega)]
theorem bitsN_set (l : List Bool) (N k : Nat) (hk : k < l.length) (hN : k / 8 < N) (h : l[k] = true) : ((bitsN (l.take k) N).map cB).set (k / 8) (.int .u8 ((bByte (l.take k) (k / 8) + 2 ^ (k % 8) : Nat) : Int)) = (bitsN (l.take (k + 1)) N).map cB := by
  have hbt : bt l k = 1 := by unfold bt; simp [List.getD, hk, h]
  apply List.ext_getElem?
  intro i
  rcases Nat.lt_or_ge i N with hi | hi
  · rw [List.getElem?_map, bitsN_get _ _ _ hi, List.getElem?_set]
    have hs := bByte_step l k i hk
    by_cases hik : k / 8 = i
    · subst hik
      rw [if_pos rfl, if_pos (by simpa [bitsN_length] using hN)]
      rw [if_pos rfl, hbt, Nat.one_mul] at hs
      have hlt := bByte_lt (l.take (k + 1)) (k / 8)
      simp only [Option.map_some]
      congr 1
      unfold cB
      have e : (UInt8.ofNat (bByte (l.take (k + 1)) (k / 8))).toNat = bByte (l.take (k + 1)) (k / 8) % 256 := rfl
      rw [e, ← hs, Nat.mod_eq_of_lt hlt]
    · rw [if_neg hik, List.getElem?_map, bitsN_get _ _ _ hi]
      rw [if_neg (fun e => hik e.symm)] at hs
      simp only [Nat.add_zero] at hs
      rw [hs]
  · rw [List.getElem?_eq_none (by simp [bitsN_length]; omega), List.getElem?_eq_none (by simp [bitsN_length]; omega)]
theorem bitsN_skip (l : List Bool) (N k : Nat) (hk : k < l.length) (h : l[k] = false) : bitsN (l.take (k + 1)) N = bitsN (l.take k) N := by
  have hbt : bt l k = 0 := by unfold bt; simp [List.getD, hk, h]
  unfold bitsN
  apply List.map_congr_left
  intro j _
  rw [bByte_step l k j hk, hbt]
  simp
theorem bit_or (x r : Nat) (hx : x < 2 ^ r) (hr : r < 8) : bits .or .u8 (x : Int) ((2 ^ r : Nat) : Int) = ((x + 2 ^ r : Nat) : Int) := by
  have h2 : (2 : Nat) ^ r ≤ 2 ^ 7 := Nat.pow_le_pow_right (by omega) (by omega)
  rw [u8_or_nat _ _ (by omega) (by omega), Nat.or_comm, nat_join r _ _ (by simp) hx, Nat.add_comm]
theorem bit_or' (x r : Nat) (hx : x < 2 ^ r) (hr : r < 8) : bits .or .u8 (x : Int) (IntKind.u8.wrap ((2 : Int) ^ r)) = ((x + 2 ^ r : Nat) : Int) := by
  have h2 : (2 : Nat) ^ r ≤ 2 ^ 7 := Nat.pow_le_pow_right (by omega) (by omega)
  have e : IntKind.u8.wrap ((2 : Int) ^ r) = ((2 ^ r : Nat) : Int) := by rw [IntKind.wrap_u8', Int.natCast_pow]; have : ((2 : Nat) : Int) = 2 := rfl; rw [this, ← this, ← Int.natCast_pow]; omega
  rw [e, bit_or x r hx hr]
theorem bit_or'' (x r : Nat) (hx : x < 2 ^ r) (hr : r < 8) : bits .or .u8 (x : Int) ((2 : Int) ^ r % 256) = ((x + 2 ^ r : Nat) : Int) := by
  rw [← bit_or' x r hx hr, IntKind.wrap_u8']
theorem bit_add (x r : Nat) (hx : x < 2 ^ r) (hr : r < 8) : IntKind.u8.wrap ((x : Int) + ((2 ^ r : Nat) : Int) % 256) = ((x + 2 ^ r : Nat) : Int) := by
  have h2 : (2 : Nat) ^ r ≤ 2 ^ 7 := Nat.pow_le_pow_right (by omega) (by omega)
  rw [IntKind.wrap_u8']; omega
theorem bit_add' (x r : Nat) (hx : x < 2 ^ r) (hr : r < 8) : ((x : Int) + (2 : Int) ^ r) % 256 = ((x + 2 ^ r : Nat) : Int) := by
  have h2 : (2 : Nat) ^ r ≤ 2 ^ 7 := Nat.pow_le_pow_right (by omega) (by omega)
  have e : (2 : Int) ^ r = ((2 ^ r : Nat) : Int) := by simp
  rw [e]; omega
theorem pow_le_128 {r : Nat} (hr : r < 8) : (2 : Nat) ^ r ≤ 128 := Nat.pow_le_pow_right (n := 2) (by omega) (show r ≤ 7 by omega)
theorem ubit_shift (x r : Nat) (hx : x < 256) : bits .and .u8 ((x : Int) / 2 ^ r) 1 = ((x / 2 ^ r % 2 : Nat) : Int) := by
  have e : (x : Int) / 2 ^ r = ((x / 2 ^ r : Nat) : Int) := by simp
  have hd : x / 2 ^ r ≤ x := Nat.div_le_self _ _
  rw [e, show (1 : Int) = ((1 : Nat) : Int) from rfl, u8_and_nat _ _ (by omega) (by omega), nat_mask1]
/-- The spare bits are those of the last byte. -/
theorem spare_iff (b : List UInt8) (n : Nat) (hl : b.length = need n) : spare b n = true ↔ n % 8 ≠ 0 ∧ (b.getD (b.length - 1) 0).toNat / 2 ^ (n % 8) ≠ 0 := by
  unfold spare
  rw [List.any_eq_true]
  constructor
  · rintro ⟨i, hi, h⟩
    simp only [List.mem_range, Bool.and_eq_true, decide_eq_true_eq] at hi h
    obtain ⟨h1, h2⟩ := h
    unfold ubit at h2
    rw [decide_eq_true_eq] at h2
    unfold need at hl
    have e1 : i / 8 = b.length - 1 := by omega
    rw [e1] at h2
    refine ⟨by omega, fun h0 => ?_⟩
    have hr : n % 8 ≤ i % 8 := by omega
    have : (b.getD (b.length - 1) 0).toNat < 2 ^ (n % 8) := by
      rcases Nat.lt_or_ge (b.getD (b.length - 1) 0).toNat (2 ^ (n % 8)) with h | h
      · exact h
      · have := Nat.div_pos h (Nat.two_pow_pos _); omega
    have h3 : (2 : Nat) ^ (n % 8) ≤ 2 ^ (i % 8) := Nat.pow_le_pow_right (by omega) hr
    rw [Nat.div_eq_of_lt (by omega)] at h2
    omega
  · rintro ⟨h0, h1⟩
    have hex : ∃ j, n % 8 ≤ j ∧ j < 8 ∧ (b.getD (b.length - 1) 0).toNat / 2 ^ j % 2 = 1 := by
      have hx := (b.getD (b.length - 1) 0).toNat_lt
      generalize (b.getD (b.length - 1) 0).toNat = x at *
      have hr : n % 8 < 8 := Nat.mod_lt _ (by omega)
      generalize n % 8 = r at *
      by_cases c7 : x / 2 ^ 7 % 2 = 1
      · exact ⟨7, by omega, by omega, c7⟩
      by_cases c6 : r ≤ 6 ∧ x / 2 ^ 6 % 2 = 1
      · exact ⟨6, c6.1, by omega, c6.2⟩
      by_cases c5 : r ≤ 5 ∧ x / 2 ^ 5 % 2 = 1
      · exact ⟨5, c5.1, by omega, c5.2⟩
      by_cases c4 : r ≤ 4 ∧ x / 2 ^ 4 % 2 = 1
      · exact ⟨4, c4.1, by omega, c4.2⟩
      by_cases c3 : r ≤ 3 ∧ x / 2 ^ 3 % 2 = 1
      · exact ⟨3, c3.1, by omega, c3.2⟩
      by_cases c2 : r ≤ 2 ∧ x / 2 ^ 2 % 2 = 1
      · exact ⟨2, c2.1, by omega, c2.2⟩
      by_cases c1 : r ≤ 1 ∧ x / 2 ^ 1 % 2 = 1
      · exact ⟨1, c1.1, by omega, c1.2⟩
      exfalso
      simp only [Nat.reducePow] at c7 c6 c5 c4 c3 c2 c1
      match r, hr with
      | 0, _ => exact h0 rfl
      | 1, _ | 2, _ | 3, _ | 4, _ | 5, _ | 6, _ | 7, _ => simp only [Nat.reducePow] at h1; omega
    obtain ⟨j, hj1, hj2, hj3⟩ := hex
    unfold need at hl
    refine ⟨8 * (b.length - 1) + j, by simp; omega, ?_⟩
    simp only [Bool.and_eq_true, decide_eq_true_eq]
    refine ⟨by omega, ?_⟩
    unfold ubit
    rw [show (8 * (b.length - 1) + j) / 8 = b.length - 1 from by omega, show (8 * (b.length - 1) + j) % 8 = j from by omega]
    simpa using hj3
theorem bByte_zero (l : List Bool) (k j : Nat) (h : k ≤ 8 * j) : bByte (l.take k) j = 0 := by
  unfold bByte
  rw [bt_past l k _ (by omega), bt_past l k _ (by omega), bt_past l k _ (by omega), bt_past l k _ (by omega), bt_past l k _ (by omega), bt_past l k _ (by omega), bt_past l k _ (by omega), bt_past l k _ (by omega)]
theorem bitsN_grow (l : List Bool) (k N : Nat) (h : k ≤ 8 * N) : (bitsN (l.take k) (N + 1)).map cB = (bitsN (l.take k) N).map cB ++ [.int .u8 0] := by
  unfold bitsN
  rw [List.range_succ, List.map_append, List.map_append]
  simp [bByte_zero l k N h, cB]
theorem Own.set_ {w : World} {base : Nat} {e : TypeId} {p : Value → Prop} {g off n c i : Nat} {xs : List Value} {v : Value} (h : Own w base e p (some ⟨g, off, none⟩) n c xs) (hv : p v) :
    Own (w.setCell ⟨g, off + i, none⟩ v) base e p (some ⟨g, off, none⟩) n c (xs.set i v) := by
  obtain ⟨h1, h2, h3, h4⟩ := h
  rcases h4 with ⟨h4, _⟩ | ⟨g', off', cur, h4, hb, hh, hs, ht, hp⟩
  · cases h4
  · injection h4 with h4; injection h4 with h4 h5; subst h4; subst h5
    refine ⟨by simpa using h1, h2, h3, .inr ⟨g, off, cur.setIfInBounds (off + i) v, rfl, hb, heap_setCell_same _ _ _ _ _ _ hh, by simpa using hs, ?_, all_set hp hv⟩⟩
    rw [Array.toList_setIfInBounds, ← ht, List.drop_set, if_neg (by omega), Nat.add_sub_cancel_left, List.take_set]
theorem Own.at_ {w : World} {base : Nat} {e : TypeId} {p : Value → Prop} {A : Option Addr} {n c i : Nat} {xs : List Value} (h : Own w base e p A n c xs) (hi : i < n) :
    ∃ g off, A = some ⟨g, off, none⟩ ∧ base ≤ g ∧ w.cell? ⟨g, off + i, none⟩ = xs[i]? ∧ w.frozen? ⟨g, off + i, none⟩ = false := by
  obtain ⟨b, off, e1, hb, hc⟩ := h.rd.2 (by omega)
  subst e1
  have hl : i < xs.length := by have := h.1; omega
  refine ⟨b, off, rfl, (h.lt b rfl).1, by rw [List.getElem?_eq_getElem hl]; exact hc i _ (List.getElem?_eq_getElem hl), ?_⟩
  obtain ⟨_, _, _, h4⟩ := h
  rcases h4 with ⟨h4, _⟩ | ⟨g', off', cur, h4, _, hh, _⟩
  · cases h4
  · injection h4 with h4; injection h4 with h4 h5; subst h4; subst h5
    exact frozen_of_row _ _ _ _ _ hh
theorem bitsF_length (l : List Bool) : (bitsF l).length = need l.length := bitsN_length _ _
end Go.Out

namespace Go.Out
open Go Go.RowKit
set_option linter.unusedVariables false

/-- The number in the two bytes at a place. -/
def at2 (b : List UInt8) (i : Nat) : Nat := (b.getD i 0).toNat * 256 + (b.getD (i + 1) 0).toNat
/-- A number in two bytes. -/
def two (v : Nat) : List UInt8 := [UInt8.ofNat (v / 256), UInt8.ofNat v]
theorem two_join (v : Nat) (h : v < 65536) : (UInt8.ofNat (v / 256)).toNat * 256 + (UInt8.ofNat v).toNat = v := by simp; omega
end Go.Out

namespace Go.Out
open Go Go.RowKit
set_option linter.unusedVariables false

theorem bByte_bit (l : List Bool) (j r : Nat) (hr : r < 8) : bByte l j / 2 ^ r % 2 = bt l (8 * j + r) := by
  have b0 := bt_le l (8 * j); have b1 := bt_le l (8 * j + 1); have b2 := bt_le l (8 * j + 2); have b3 := bt_le l (8 * j + 3)
  have b4 := bt_le l (8 * j + 4); have b5 := bt_le l (8 * j + 5); have b6 := bt_le l (8 * j + 6); have b7 := bt_le l (8 * j + 7)
  unfold bByte
  match r, hr with
  | 0, _ | 1, _ | 2, _ | 3, _ | 4, _ | 5, _ | 6, _ | 7, _ => simp only [Nat.reducePow, Nat.add_zero]; omega

theorem ubit_bits (l : List Bool) (N i : Nat) (h : i < 8 * N) : ubit (bitsN l N) i = l.getD i false := by
  unfold ubit
  have h1 : (bitsN l N).getD (i / 8) 0 = UInt8.ofNat (bByte l (i / 8)) := by
    rw [List.getD_eq_getElem?_getD, bitsN_get _ _ _ (by omega)]; rfl
  rw [h1]
  have h2 : (UInt8.ofNat (bByte l (i / 8))).toNat = bByte l (i / 8) := by
    show bByte l (i / 8) % 256 = _
    exact Nat.mod_eq_of_lt (bByte_lt _ _)
  rw [h2, bByte_bit l (i / 8) (i % 8) (by omega), show 8 * (i / 8) + i % 8 = i from by omega]
  unfold bt
  cases l.getD i false <;> simp

theorem unbits_bits (l : List Bool) : unbitsF (bitsF l) l.length = (l, 0) := by
  have hl := bitsF_length l
  have hs : spare (bitsF l) l.length = false := by
    rw [← Bool.not_eq_true]
    intro hs
    unfold spare at hs
    rw [List.any_eq_true] at hs
    obtain ⟨i, hi, hh⟩ := hs
    simp only [List.mem_range, Bool.and_eq_true, decide_eq_true_eq] at hi hh
    rw [hl] at hi
    unfold bitsF at hh
    rw [ubit_bits l _ i hi, List.getD_eq_getElem?_getD, List.getElem?_eq_none hh.1] at hh
    exact absurd hh.2 (by decide)
  unfold unbitsF
  rw [if_neg (by omega), if_neg (by simpa using hl), if_neg (by simp [hs])]
  congr 1
  apply List.ext_getElem?
  intro i
  rcases Nat.lt_or_ge i l.length with h | h
  · simp only [Int.toNat_natCast, List.getElem?_map, List.getElem?_range h, Option.map_some]
    unfold bitsF
    rw [ubit_bits l _ i (by unfold need; omega), List.getD_eq_getElem?_getD, List.getElem?_eq_getElem h]; rfl
  · rw [List.getElem?_eq_none (by simpa using h), List.getElem?_eq_none h]

theorem byte_sum (x : Nat) (hx : x < 256) : x / 2 ^ 0 % 2 + 2 * (x / 2 ^ 1 % 2) + 4 * (x / 2 ^ 2 % 2) + 8 * (x / 2 ^ 3 % 2) + 16 * (x / 2 ^ 4 % 2) + 32 * (x / 2 ^ 5 % 2) + 64 * (x / 2 ^ 6 % 2) + 128 * (x / 2 ^ 7 % 2) = x := by
  simp only [Nat.reducePow]; omega

theorem bits_unbits (b : List UInt8) (n : Nat) (hl : b.length = need n) (hs : spare b n = false) : bitsF ((List.range n).map (ubit b)) = b := by
  apply List.ext_getElem?
  intro j
  have hlen : (bitsF ((List.range n).map (ubit b))).length = need n := by rw [bitsF_length]; simp
  rcases Nat.lt_or_ge j (need n) with h | h
  · have hj : j < b.length := by omega
    unfold bitsF
    rw [bitsN_get _ _ _ (by simpa using h), List.getElem?_eq_getElem hj]
    congr 1
    apply UInt8.toNat.inj
    have hx := b[j].toNat_lt
    have e1 : ∀ L : List Bool, (UInt8.ofNat (bByte L j)).toNat = bByte L j := fun L => Nat.mod_eq_of_lt (bByte_lt L j)
    rw [e1]
    have hbit : ∀ r, r < 8 → bt ((List.range n).map (ubit b)) (8 * j + r) = b[j].toNat / 2 ^ r % 2 := by
      intro r hr
      have hu : ubit b (8 * j + r) = decide (b[j].toNat / 2 ^ r % 2 = 1) := by
        unfold ubit
        rw [show (8 * j + r) / 8 = j from by omega, show (8 * j + r) % 8 = r from by omega, List.getD_eq_getElem?_getD, List.getElem?_eq_getElem hj]; rfl
      rcases Nat.lt_or_ge (8 * j + r) n with hn | hn
      · have hg : ((List.range n).map (ubit b)).getD (8 * j + r) false = decide (b[j].toNat / 2 ^ r % 2 = 1) := by
          rw [List.getD_eq_getElem?_getD, List.getElem?_map, List.getElem?_range hn, ← hu]; rfl
        unfold bt
        simp only [hg]
        by_cases hb : b[j].toNat / 2 ^ r % 2 = 1
        · simp [hb]
        · rw [if_neg (by simpa using hb)]; omega
      · have hg : ((List.range n).map (ubit b)).getD (8 * j + r) false = false := by
          rw [List.getD_eq_getElem?_getD, List.getElem?_eq_none (by simpa using hn)]; rfl
        have : ubit b (8 * j + r) = false := by
          rw [← Bool.not_eq_true]
          intro h1
          have : spare b n = true := by
            unfold spare
            rw [List.any_eq_true]
            exact ⟨8 * j + r, by simp; omega, by simp [hn, h1]⟩
          rw [hs] at this; cases this
        rw [hu, decide_eq_false_iff_not] at this
        unfold bt
        simp only [hg]
        simp only [Bool.false_eq_true, if_false]
        omega
    have hb0 := hbit 0 (by omega)
    rw [Nat.add_zero] at hb0
    unfold bByte
    rw [hb0, hbit 1 (by omega), hbit 2 (by omega), hbit 3 (by omega), hbit 4 (by omega), hbit 5 (by omega), hbit 6 (by omega), hbit 7 (by omega)]
    exact byte_sum _ hx
  · rw [List.getElem?_eq_none (by omega), List.getElem?_eq_none (by omega)]

theorem unbitsF_zero {b : List UInt8} {n : Int} (h : (unbitsF b n).2 = 0) : ((unbitsF b n).1.length : Int) = n ∧ bitsF (unbitsF b n).1 = b := by
  unfold unbitsF at h ⊢
  split at h
  · simp at h
  · split at h
    · simp at h
    · split at h
      · simp at h
      · rename_i h1 h2 h3
        rw [if_neg h1, if_neg h2, if_neg h3]
        exact ⟨by simp; omega, bits_unbits b _ (by simpa using h2) (by simpa using h3)⟩
end Go.Out
