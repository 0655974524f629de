/- Plain lemmas of our own on worlds and slices; no program in sight. -/
import Derived.WalkKit
import Derived.BigQuiet
import Derived.Deep.QuietTactic
import Derived.Deep.OwnRows
import Derived.Lib.Hide
import Derived.WalkLawsBesides
import Derived.WalkSpells
import Derived.OpenShut
import Derived.Laws.CopyOwn
namespace Go.Out
set_option linter.unusedVariables false
open Go Go.RowKit

/-- A slice value `.slice A n c` reads as the cells `xs` (all of them in a block that is there). -/
def Rd (w : World) (A : Option Addr) (n : Nat) (xs : List Value) : Prop :=
  xs.length = n ∧ (0 < n → ∃ b off, A = some ⟨b, off, none⟩ ∧ b < w.heap.size ∧ ∀ j u, xs[j]? = some u → w.cell? ⟨b, off + j, none⟩ = some u)

theorem Rd.nil_ (w : World) : Rd w none 0 [] := ⟨rfl, fun h => absurd h (by omega)⟩

theorem Rd.empty_ (w : World) (A : Option Addr) : Rd w A 0 [] := ⟨rfl, fun h => absurd h (by omega)⟩

theorem Rd.below {w w' : World} {A : Option Addr} {n : Nat} {xs : List Value} (h : Rd w A n xs) (hb : Below w.heap.size w w') : Rd w' A n xs :=
  ⟨h.1, fun hn => by
    obtain ⟨b, off, e, hlt, hc⟩ := h.2 hn
    exact ⟨b, off, e, Nat.lt_of_lt_of_le hlt hb.size, fun j u hu => (hb.cell (p := ⟨b, off + j, none⟩) hlt).trans (hc j u hu)⟩⟩

theorem Rd.at_ {w : World} {A : Option Addr} {n : Nat} {xs : List Value} (h : Rd w A n xs) {k : Nat} (hk : k < n) :
    ∃ b off, A = some ⟨b, off, none⟩ ∧ b < w.heap.size ∧ ∃ hl : k < xs.length, w.cell? ⟨b, off + k, none⟩ = some xs[k] := by
  obtain ⟨b, off, e, hb, hc⟩ := h.2 (by omega)
  have hl : k < xs.length := by have := h.1; omega
  exact ⟨b, off, e, hb, hl, hc k xs[k] (by simp [hl])⟩

theorem below_drewN {B : Nat} {a w : World} (h : Below B a w) (n : Nat) : Below B a (w.drewN n) := ⟨h.os, h.tape, h.output, h.size, h.block⟩

/-- The block that a slice's address lies in. -/
def blk (A : Option Addr) : Option Nat := A.map (·.block)

/-- The slice `.slice A n c` is nil, or lies in one block of the call's own (from block `base` on), of which it has the end: its elements are `xs`, and every cell of the block is as `p` says. -/
def Own (w : World) (base : Nat) (e : TypeId) (p : Value → Prop) (A : Option Addr) (n c : Nat) (xs : List Value) : Prop :=
  xs.length = n ∧ n ≤ c ∧ c ≤ maxLen ∧ ((A = none ∧ c = 0) ∨ ∃ g off cur, A = some ⟨g, off, none⟩ ∧ base ≤ g ∧ w.heap[g]? = some (.cells cur e (0, 0)) ∧ cur.size = off + c ∧
    (cur.toList.drop off).take n = xs ∧ ∀ u ∈ cur.toList, p u)

theorem lt_of_heap {w : World} {g : Nat} {o : Obj} (h : w.heap[g]? = some o) : g < w.heap.size := (Array.getElem?_eq_some_iff.1 h).1

section
variable {w w' : World} {base : Nat} {e : TypeId} {p : Value → Prop} {A : Option Addr} {n c : Nat} {xs : List Value}

theorem Own.nil_ (w : World) (base : Nat) (e : TypeId) (p : Value → Prop) : Own w base e p none 0 0 [] := ⟨rfl, Nat.le_refl _, Nat.zero_le _, .inl ⟨rfl, rfl⟩⟩

theorem Own.len (h : Own w base e p A n c xs) : xs.length = n := h.1
theorem Own.cap (h : Own w base e p A n c xs) : n ≤ c := h.2.1
theorem Own.capLe (h : Own w base e p A n c xs) : c ≤ 9223372036854775807 := h.2.2.1

theorem Own.rd (h : Own w base e p A n c xs) : Rd w A n xs := by
  refine ⟨h.1, fun hn => ?_⟩
  obtain ⟨h1, h2, h3, h4⟩ := h
  rcases h4 with ⟨rfl, rfl⟩ | ⟨g, off, cur, rfl, hb, hg, hs, ht, hp⟩
  · omega
  · refine ⟨g, off, rfl, lt_of_heap hg, fun j u hu => ?_⟩
    rw [cell_of_row w g (off + j) cur e (0, 0) hg]
    rw [← ht, List.getElem?_take] at hu
    split at hu
    · rw [List.getElem?_drop] at hu; simpa using hu
    · cases hu

theorem Own.all (h : Own w base e p A n c xs) : ∀ u ∈ xs, p u := by
  obtain ⟨h1, h2, h3, h4⟩ := h
  rcases h4 with ⟨rfl, rfl⟩ | ⟨g, off, cur, rfl, hb, hh, hs, ht, hp⟩
  · have : xs = [] := List.eq_nil_of_length_eq_zero (by omega)
    subst this; simp
  · intro u hu; rw [← ht] at hu; exact hp u (List.mem_of_mem_drop (List.mem_of_mem_take hu))

theorem Own.lt (h : Own w base e p A n c xs) : ∀ g, blk A = some g → base ≤ g ∧ g < w.heap.size := by
  intro g hg
  rcases h.2.2.2 with ⟨rfl, _⟩ | ⟨g', off, cur, rfl, hb, hh, _⟩
  · simp [blk] at hg
  · simp [blk] at hg; subst hg; exact ⟨hb, lt_of_heap hh⟩

theorem Own.kept (h : Own w base e p A n c xs) (hk : ∀ g, blk A = some g → w'.heap[g]? = w.heap[g]?) : Own w' base e p A n c xs := by
  obtain ⟨h1, h2, h3, h4⟩ := h
  refine ⟨h1, h2, h3, ?_⟩
  rcases h4 with h4 | ⟨g, off, cur, rfl, hb, hh, r⟩
  · exact .inl h4
  · exact .inr ⟨g, off, cur, rfl, hb, (hk g rfl).trans hh, r⟩

theorem Own.below (h : Own w base e p A n c xs) (hb : Below w.heap.size w w') : Own w' base e p A n c xs :=
  h.kept fun g hg => hb.block g (h.lt g hg).2

theorem Own.grown {row : Option Nat} (h : Own w base e p A n c xs) (hb : w.grownBy w' row) (hne : ∀ g, blk A = some g → some g ≠ row) : Own w' base e p A n c xs :=
  h.kept fun g hg => hb.block g (h.lt g hg).2 (hne g hg)

theorem Own.mono {base' : Nat} (h : Own w base e p A n c xs) (hb : base' ≤ base) : Own w base' e p A n c xs := by
  obtain ⟨h1, h2, h3, h4⟩ := h
  refine ⟨h1, h2, h3, ?_⟩
  rcases h4 with h4 | ⟨g, off, cur, rfl, hbg, r⟩
  · exact .inl h4
  · exact .inr ⟨g, off, cur, rfl, by omega, r⟩

theorem Own.drewN (h : Own w base e p A n c xs) (k : Nat) : Own (w.drewN k) base e p A n c xs := h
theorem Own.drew (h : Own w base e p A n c xs) : Own w.drew base e p A n c xs := h
theorem Own.alloc (h : Own w base e p A n c xs) (o : Obj) : Own (w.alloc o) base e p A n c xs := h.kept fun g hg => Below.heap_alloc w o g (h.lt g hg).2

/-- A new block, whole. -/
theorem Own.new (w : World) (hb : base ≤ w.heap.size) (e : TypeId) (cur : Array Value) (n : Nat) (hn : n ≤ cur.size) (hc : cur.size ≤ maxLen) (hp : ∀ u ∈ cur.toList, p u) :
    Own (w.alloc (.cells cur e)) base e p (some ⟨w.heap.size, 0, none⟩) n cur.size (cur.toList.take n) :=
  ⟨by simp [hn], hn, hc, .inr ⟨_, 0, cur, rfl, hb, heap_alloc_new w _, by simp, by simp, hp⟩⟩

/-- A block known whole. -/
theorem Own.of_heap {g off : Nat} {cur : Array Value} (hb : base ≤ g) (hg : w.heap[g]? = some (.cells cur e (0, 0))) (n c : Nat) (hn : n ≤ c) (hs : cur.size = off + c) (hc : c ≤ maxLen) (hp : ∀ u ∈ cur.toList, p u) :
    Own w base e p (some ⟨g, off, none⟩) n c ((cur.toList.drop off).take n) :=
  ⟨by simp [hs]; omega, hn, hc, .inr ⟨g, off, cur, rfl, hb, hg, hs, rfl, hp⟩⟩
end

theorem zeroCells_mem {z u : Value} {k : Nat} (hz : z.cells = #[z]) (h : u ∈ (Builtin.zeroCells z.cells k).toList) : u = z := by
  rw [hz] at h
  simp [Builtin.zeroCells, Nat.mod_one] at h
  exact h.2.symm

theorem only_drew {a w : World} {row : Option Nat} (h : a.grownBy w row) : a.grownBy w.drew row := ⟨h.os, h.tape, h.output, h.size, h.block⟩
theorem only_drewN {a w : World} {row : Option Nat} (h : a.grownBy w row) (n : Nat) : a.grownBy (w.drewN n) row := ⟨h.os, h.tape, h.output, h.size, h.block⟩
theorem only_of_below {a w : World} (h : Below a.heap.size a w) (row : Option Nat) : a.grownBy w row := ⟨h.os, h.tape, h.output, h.size, fun i hi _ => h.block i hi⟩
theorem only_setCell {a w : World} {g : Nat} (h : a.grownBy w (some g)) {p : Addr} (hp : p.block = g ∨ a.heap.size ≤ p.block) (u : Value) : a.grownBy (w.setCell p u) (some g) :=
  ⟨h.os, h.tape, h.output, by simpa [World.setCell] using h.size, fun i hi hne => (Below.heap_setCell w p u i (by
    rintro rfl
    rcases hp with hp | hp
    · exact hne (by rw [hp])
    · omega)).trans (h.block i hi hne)⟩
theorem below_grown {B : Nat} {a w w' : World} {row : Option Nat} (h : Below B a w) (hg : w.grownBy w' row) (hB : B ≤ w.heap.size) (hr : ∀ k, row = some k → B ≤ k) : Below B a w' := h.grown hg hB hr

section
variable {P : Program} (w : World)

theorem run_append_room_off (t ty e : TypeId) (i : TypeInfo) (ht : P.underlying t = some (.slice e)) (hi : P.info? e = some i) (hsz : i.size = 1)
    (g off sLen sCap : Nat) (cur : Array Value) (hg : w.heap[g]? = some (.cells cur e (0, 0)))
    (a : Addr) (m c : Nat) (news : List Value) (hl : news.length = m) (hnews : ∀ j u, news[j]? = some u → w.cell? (a.add j) = some u) (h1 : ∀ u ∈ news, u.oneCell' = true)
    (hroom : sLen + m ≤ sCap) (hfit : off + sLen + news.length ≤ cur.size) :
    (Builtin.append_ #[t, t] ty #[.slice (some ⟨g, off, none⟩) sLen sCap, .slice (some a) m c]).run P w =
      .ok (.slice (some ⟨g, off, none⟩) (sLen + m) sCap) (w.setRow g (cur.toList.take (off + sLen) ++ news ++ cur.toList.drop (off + sLen + news.length)).toArray) := by
  have hf := run_firstCells_some (P := P) w i.size m a m c news (by rw [hl, hsz]; omega) hnews
  have hst := run_storeCells_at P g (off + sLen) e news 0 cur w hg (by simpa using hfit) h1
  simp only [Nat.add_zero] at hst
  simp only [hsz] at hf
  simp [Builtin.append_, run_underlying ht, sizeOf, typeInfo, hi, hsz, Builtin.lenOf, hroom, hf, Addr.add_lit, hst]

theorem run_append_nilsrc (t ty e : TypeId) (i : TypeInfo) (ht : P.underlying t = some (.slice e)) (hi : P.info? e = some i) (A : Option Addr) (n c c' : Nat) (hnc : n ≤ c) :
    (Builtin.append_ #[t, t] ty #[.slice A n c, .slice none 0 c']).run P w = .ok (.slice A n c) w := by
  rcases A with _ | a <;> simp [Builtin.append_, run_underlying ht, sizeOf, typeInfo, hi, Builtin.lenOf, Builtin.firstCells, hnc, storeCells]

theorem run_append_Own (p : Value → Prop) (base : Nat) (t ty e : TypeId) (z : Value) (bytes : Nat) (ht : P.underlying t = some (.slice e))
    (hinfo : (P.info? e).map (fun i => (i.zero, i.size, i.bytes)) = some (some z, 1, bytes)) (hzc : z.cells = #[z]) (hpz : p z) (hp1 : ∀ u, p u → u.oneCell' = true)
    (A : Option Addr) (n c : Nat) (xs : List Value) (hown : Own w base e p A n c xs)
    (A' : Option Addr) (m c' : Nat) (news : List Value) (hr : Rd w A' m news) (hnp : ∀ u ∈ news, p u) (hbytes : (n + m) * bytes ≤ 140737488355328) (h63 : n + m ≤ 9223372036854775807) (hbase : base ≤ w.heap.size) :
    ∃ A1 c1 w1, (Builtin.append_ #[t, t] ty #[.slice A n c, .slice A' m c']).run P w = .ok (.slice A1 (n + m) c1) w1 ∧ Own w1 base e p A1 (n + m) c1 (xs ++ news) ∧ w.grownBy w1 (blk A) ∧
      (blk A1 = blk A ∨ blk A1 = some w.heap.size) := by
  obtain ⟨i, hi, hz, hs, hby⟩ := info_parts hinfo
  subst hby
  rcases A' with _ | a
  · have hm : m = 0 := by
      rcases Nat.eq_zero_or_pos m with h | h
      · exact h
      · obtain ⟨_, _, h, _⟩ := hr.2 h; cases h
    subst hm
    have hn : news = [] := List.eq_nil_of_length_eq_zero hr.1
    subst hn
    exact ⟨A, c, w, run_append_nilsrc w t ty e i ht hi A n c c' hown.2.1, by simpa using hown, World.grownBy.refl w _, .inl rfl⟩
  · have hcells : ∀ j u, news[j]? = some u → w.cell? (a.add j) = some u := by
      intro j u hu
      rcases Nat.eq_zero_or_pos m with h0 | h0
      · have hn : news = [] := List.eq_nil_of_length_eq_zero (by have := hr.1; omega)
        subst hn; simp at hu
      · obtain ⟨b, off, e1, _, hc⟩ := hr.2 h0
        cases e1
        rw [Addr.add_lit]
        exact hc j u hu
    have h1 : ∀ u ∈ news, u.oneCell' = true := fun u hu => hp1 u (hnp u hu)
    obtain ⟨hxl, hnc, hcm, h4⟩ := hown
    have grown : ∀ (old : Nat), old < n + m →
        Own (w.drew.alloc (.cells (xs.toArray ++ news.toArray ++ Builtin.zeroCells z.cells (grownCap w (n + m) old e - (n + m))) e)) base e p
          (some ⟨w.heap.size, 0, none⟩) (n + m) (grownCap w (n + m) old e) (xs ++ news) ∧
        w.grownBy (w.drew.alloc (.cells (xs.toArray ++ news.toArray ++ Builtin.zeroCells z.cells (grownCap w (n + m) old e - (n + m))) e)) (blk A) := by
      intro old ho
      have hge := grownCap_ge w (n + m) old e
      have hle : grownCap w (n + m) old e ≤ maxLen := grownCap_le_maxLen w (n + m) old e (by unfold maxLen; omega)
      have hpx : ∀ u ∈ xs, p u := by
        rcases h4 with ⟨rfl, rfl⟩ | ⟨g, off, cur, rfl, _, _, _, ht, hp⟩
        · have : xs = [] := List.eq_nil_of_length_eq_zero (by omega)
          subst this; simp
        · intro u hu; rw [← ht] at hu; exact hp u (List.mem_of_mem_drop (List.mem_of_mem_take hu))
      refine ⟨⟨by simp [hxl, hr.1], hge, hle, .inr ⟨w.heap.size, 0, _, rfl, hbase, heap_alloc_new w.drew _, ?_, ?_, ?_⟩⟩, ⟨rfl, rfl, rfl, by simp, fun k hk _ => Below.heap_alloc w.drew _ k hk⟩⟩
      · simp only [Array.size_append, List.size_toArray, size_zeroCells, hzc, hxl, hr.1]
        simp; omega
      · simp only [Array.toList_append, List.drop_zero]
        rw [List.take_append_of_le_length (by simp [hxl, hr.1])]
        rw [List.take_of_length_le (by simp [hxl, hr.1])]
      · intro u hu
        simp only [Array.toList_append, List.mem_append] at hu
        rcases hu with (hu | hu) | hu
        · exact hpx u hu
        · exact hnp u hu
        · rw [zeroCells_mem hzc hu]; exact hpz
    rcases h4 with ⟨rfl, rfl⟩ | ⟨g, off, cur, rfl, hbg, hg, hcs, htake, hp⟩
    · have hn0 : n = 0 := by omega
      subst hn0
      have hx : xs = [] := List.eq_nil_of_length_eq_zero hxl
      subst hx
      by_cases hm : m = 0
      · subst hm
        have hn : news = [] := List.eq_nil_of_length_eq_zero hr.1
        subst hn
        refine ⟨none, 0, w, ?_, Own.nil_ w base e p, World.grownBy.refl w _, .inl rfl⟩
        simp [Builtin.append_, run_underlying ht, sizeOf, typeInfo, hi, Builtin.lenOf, Builtin.firstCells, loadCells, loadCellsFrom]
      · have hrr := run_append_nil (P := P) w t ty e i z ht hi hz a m c' news (by rw [hs, hr.1]; omega) hcells (by omega) (by omega) (by simp only [Nat.zero_add] at hbytes; omega)
        have hgr := grown 0 (by omega)
        simp only [Nat.zero_add, List.nil_append, Array.empty_append] at hgr ⊢
        exact ⟨_, _, _, hrr, hgr.1, hgr.2, .inr rfl⟩
    · by_cases hroom : n + m ≤ c
      · have hrr := run_append_room_off (P := P) w t ty e i ht hi hs g off n c cur hg a m c' news hr.1 hcells h1 hroom (by rw [hr.1, hcs]; omega)
        refine ⟨_, _, _, hrr, ⟨by simp [hxl, hr.1], hroom, hcm, .inr ⟨g, off, _, rfl, hbg, setRow_heap w g cur _ e _ hg, ?_, ?_, ?_⟩⟩, ⟨rfl, rfl, rfl, by simp, fun k _ hk => setRow_other w g k _ (fun e => hk (by simp [blk, e]))⟩, .inl rfl⟩
        · simp only [List.size_toArray, List.length_append, List.length_take, List.length_drop, Array.length_toList, hr.1]
          omega
        · simp only []
          have e1 : cur.toList.take (off + n) = cur.toList.take off ++ xs := by rw [← htake, ← List.take_add]
          rw [e1, List.append_assoc, List.append_assoc, List.drop_append_of_le_length (by simp; omega), List.drop_of_length_le (by simp; omega), List.nil_append,
            ← List.append_assoc, List.take_append_of_le_length (by simp [hxl, hr.1]), List.take_of_length_le (by simp [hxl, hr.1])]
        · intro u hu
          simp only [List.mem_append] at hu
          rcases hu with (hu | hu) | hu
          · exact hp u (List.mem_of_mem_take hu)
          · exact hnp u hu
          · exact hp u (List.mem_of_mem_drop hu)
      · have hrd : Rd w (some ⟨g, off, none⟩) n xs := Own.rd ⟨hxl, hnc, hcm, .inr ⟨g, off, cur, rfl, hbg, hg, hcs, htake, hp⟩⟩
        have holds : ∀ j u, xs[j]? = some u → w.cell? ((⟨g, off, none⟩ : Addr).add j) = some u := by
          intro j u hu
          rcases Nat.eq_zero_or_pos n with h0 | h0
          · have hn : xs = [] := List.eq_nil_of_length_eq_zero (by omega)
            subst hn; simp at hu
          · obtain ⟨b, o, e1, _, hc⟩ := hrd.2 h0
            cases e1
            rw [Addr.add_lit]
            exact hc j u hu
        have hrr := run_append_grow (P := P) w t ty e i z ht hi hz ⟨g, off, none⟩ n c xs (by rw [hs, hxl]; omega) holds a m c' news (by rw [hs, hr.1]; omega) hcells (by omega) (by omega) (growslice_fits (by omega) hbytes)
        have hgr := grown c (by omega)
        exact ⟨_, _, _, hrr, hgr.1, hgr.2, .inr rfl⟩

theorem wp_append_Own {o : Oper} {a : Act} {K : Act → World → Prop} {Q : Exit → Act → World → Prop} (s x : Operand) (t : TypeId)
    (ho : o.op = .call { callee := .builtin .append, args := #[s, x], argTypes := #[t, t] })
    (p : Value → Prop) (base : Nat) (e : TypeId) (z : Value) (bytes : Nat) (ht : P.underlying t = some (.slice e))
    (hinfo : (P.info? e).map (fun i => (i.zero, i.size, i.bytes)) = some (some z, 1, bytes)) (hzc : z.cells = #[z]) (hpz : p z) (hp1 : ∀ u, p u → u.oneCell' = true)
    (A : Option Addr) (n c : Nat) (xs : List Value) (hs : a.eval s = .slice A n c) (hown : Own w base e p A n c xs)
    (A' : Option Addr) (m c' : Nat) (news : List Value) (hx : a.eval x = .slice A' m c') (hr : Rd w A' m news) (hnp : ∀ u ∈ news, p u) (hbytes : (n + m) * bytes ≤ 140737488355328) (h63 : n + m ≤ 9223372036854775807) (hbase : base ≤ w.heap.size)
    (h : ∀ A1 c1 w1, Own w1 base e p A1 (n + m) c1 (xs ++ news) → w.grownBy w1 (blk A) → (blk A1 = blk A ∨ blk A1 = some w.heap.size) → K (a.put o.dst (.slice A1 (n + m) c1)) w1) : o.wp P a w K Q := by
  obtain ⟨A1, c1, w1, hrun, h2, h3, h4⟩ := run_append_Own (P := P) w p base t o.type e z bytes ht hinfo hzc hpz hp1 A n c xs hown A' m c' news hr hnp hbytes h63 hbase
  unfold Oper.wp execOp
  simp only [ho, resolve, invoke, builtin, Sem.run_bind, Sem.run_pure, Result.andThen_ok, List.map_toArray, List.map_cons, List.map_nil, hs, hx, hrun]
  exact h A1 c1 w1 h2 h3 h4

theorem wpList_append_Own {ops : Array Oper} {rest : List Oper} {o : Oper} {a : Act} {Q : Exit → Act → World → Prop} (hgd : o.guard = none) (s x : Operand) (t : TypeId)
    (ho : o.op = .call { callee := .builtin .append, args := #[s, x], argTypes := #[t, t] })
    (p : Value → Prop) (base : Nat) (e : TypeId) (z : Value) (bytes : Nat) (ht : P.underlying t = some (.slice e))
    (hinfo : (P.info? e).map (fun i => (i.zero, i.size, i.bytes)) = some (some z, 1, bytes)) (hzc : z.cells = #[z]) (hpz : p z) (hp1 : ∀ u, p u → u.oneCell' = true)
    (A : Option Addr) (n c : Nat) (xs : List Value) (hs : a.eval s = .slice A n c) (hown : Own w base e p A n c xs)
    (A' : Option Addr) (m c' : Nat) (news : List Value) (hx : a.eval x = .slice A' m c') (hr : Rd w A' m news) (hnp : ∀ u ∈ news, p u) (hbytes : (n + m) * bytes ≤ 140737488355328) (h63 : n + m ≤ 9223372036854775807) (hbase : base ≤ w.heap.size)
    (h : ∀ A1 c1 w1, Own w1 base e p A1 (n + m) c1 (xs ++ news) → w.grownBy w1 (blk A) → (blk A1 = blk A ∨ blk A1 = some w.heap.size) → wpList P ops Q rest (a.put o.dst (.slice A1 (n + m) c1)) w1) : wpList P ops Q (o :: rest) a w :=
  wpList_plain hgd fun _ hK => wp_append_Own w s x t ho p base e z bytes ht hinfo hzc hpz hp1 A n c xs hs hown A' m c' news hx hr hnp hbytes h63 hbase fun A1 c1 w1 h2 h3 h4 => hK _ _ (h A1 c1 w1 h2 h3 h4)
end

/-- copy(dst, src), the source no longer than the destination, which lies in one block. -/
theorem wpList_copy_Rd {P : Program} (w : World) {ops : Array Oper} {rest : List Oper} {o : Oper} {a : Act} {Q : Exit → Act → World → Prop} (hgd : o.guard = none) (d s : Operand) (dT sT : TypeId)
    (ho : o.op = .call { callee := .builtin .copy, args := #[d, s], argTypes := #[dT, sT] }) (elem : TypeId) (hu : P.underlying dT = some (.slice elem)) (hsz : (P.info? elem).map (·.size) = some 1)
    {g off dLen dCap sLen sCap : Nat} {A : Option Addr} {cur : Array Value} {cs : List Value} {t : TypeId} (hd : a.eval d = .slice (some ⟨g, off, none⟩) dLen dCap) (hs : a.eval s = .slice A sLen sCap)
    (hg : w.heap[g]? = some (.cells cur t (0, 0))) (hr : Rd w A sLen cs) (hle : sLen ≤ dLen) (hfit : off + sLen ≤ cur.size) (h1 : ∀ v ∈ cs, v.oneCell' = true)
    (h : ∀ w', w'.heap[g]? = some (.cells (cur.toList.take off ++ cs ++ cur.toList.drop (off + sLen)).toArray t (0, 0)) → w.grownBy w' (some g) → wpList P ops Q rest (a.put o.dst (.int .i64 (sLen : Int))) w') :
    wpList P ops Q (o :: rest) a w := by
  have hl := hr.1
  by_cases h0 : sLen = 0
  · subst h0
    obtain rfl : cs = [] := List.eq_nil_of_length_eq_zero hl
    refine wpList_copy_nothing hgd d s dT sT ho elem hu hsz (some ⟨g, off, none⟩) A dLen dCap 0 sCap hd hs (by simp) ?_
    have := h w (by simpa using hg) (World.grownBy.refl w _)
    simpa [goInt] using this
  · obtain ⟨b, o1, rfl, hb, hc⟩ := hr.2 (by omega)
    have hh := wpList_copy_own (P := P) (w := w) (ops := ops) (rest := rest) (o := o) (a := a) (Q := Q) hgd d s dT sT ho elem hu hsz g off dLen dCap ⟨b, o1, none⟩ sLen sCap hd hs cur t hg cs
      (by rw [hl]; exact (Nat.min_eq_left hle).symm) (fun j v hv => by rw [Addr.add_lit]; exact hc j v hv) (by omega) h1
    refine hh ?_
    have := h (w.setRow g (cur.toList.take off ++ (cs ++ cur.toList.drop (off + cs.length))).toArray) (by rw [hl, ← List.append_assoc]; exact setRow_heap w g cur _ t _ hg) ⟨rfl, rfl, rfl, by simp, fun k _ hk => setRow_other w g k _ (fun e => hk (by simp [e]))⟩
    rw [hl] at this ⊢
    exact this

/-! ### Bytes, words, bools as values -/
def cB (x : UInt8) : Value := .int .u8 (x.toNat : Int)
def cW (x : UInt16) : Value := .int .u16 (x.toNat : Int)
def cL (x : Bool) : Value := .bool x
def IsU8 (v : Value) : Prop := ∃ x : UInt8, v = .int .u8 (x.toNat : Int)
def IsU16 (v : Value) : Prop := ∃ x : UInt16, v = .int .u16 (x.toNat : Int)
def IsBo (v : Value) : Prop := ∃ x : Bool, v = .bool x
theorem isU8_u8 {x : UInt8} : IsU8 (cB x) := ⟨x, rfl⟩
theorem isU16_u16 {x : UInt16} : IsU16 (cW x) := ⟨x, rfl⟩
theorem isBo_bo {x : Bool} : IsBo (cL x) := ⟨x, rfl⟩
theorem isU8_map {l : List UInt8} : ∀ u ∈ l.map cB, IsU8 u := by intro u hu; obtain ⟨x, _, rfl⟩ := List.mem_map.1 hu; exact isU8_u8
theorem isU16_map {l : List UInt16} : ∀ u ∈ l.map cW, IsU16 u := by intro u hu; obtain ⟨x, _, rfl⟩ := List.mem_map.1 hu; exact isU16_u16
theorem isBo_map {l : List Bool} : ∀ u ∈ l.map cL, IsBo u := by intro u hu; obtain ⟨x, _, rfl⟩ := List.mem_map.1 hu; exact isBo_bo
theorem isU8_one {u : Value} (h : IsU8 u) : u.oneCell' = true := by obtain ⟨x, rfl⟩ := h; rfl
theorem isU16_one {u : Value} (h : IsU16 u) : u.oneCell' = true := by obtain ⟨x, rfl⟩ := h; rfl
theorem isBo_one {u : Value} (h : IsBo u) : u.oneCell' = true := by obtain ⟨x, rfl⟩ := h; rfl
theorem isU8_of {n : Int} (h0 : 0 ≤ n) (h1 : n ≤ 255) : IsU8 (.int .u8 n) := ⟨UInt8.ofNat n.toNat, by simp; omega⟩
theorem isU16_of {n : Int} (h0 : 0 ≤ n) (h1 : n ≤ 65535) : IsU16 (.int .u16 n) := ⟨UInt16.ofNat n.toNat, by simp; omega⟩

theorem isU8_bits (op : BinOp) (x y : Int) : IsU8 (.int .u8 (bits op .u8 x y)) := isU8_of (bounds_u8 (wf_bits ..)).1 (bounds_u8 (wf_bits ..)).2
theorem isU16_bits (op : BinOp) (x y : Int) : IsU16 (.int .u16 (bits op .u16 x y)) := isU16_of (bounds_u16 (wf_bits ..)).1 (bounds_u16 (wf_bits ..)).2
theorem all_u8 : ∀ {xs : List Value}, (∀ u ∈ xs, IsU8 u) → ∃ l : List UInt8, xs = l.map cB
  | [], _ => ⟨[], rfl⟩
  | v :: r, h => by
    obtain ⟨x, rfl⟩ := h v (by simp)
    obtain ⟨l, rfl⟩ := all_u8 (xs := r) fun u hu => h u (by simp [hu])
    exact ⟨x :: l, rfl⟩
theorem all_u16 : ∀ {xs : List Value}, (∀ u ∈ xs, IsU16 u) → ∃ l : List UInt16, xs = l.map cW
  | [], _ => ⟨[], rfl⟩
  | v :: r, h => by
    obtain ⟨x, rfl⟩ := h v (by simp)
    obtain ⟨l, rfl⟩ := all_u16 (xs := r) fun u hu => h u (by simp [hu])
    exact ⟨x :: l, rfl⟩
theorem all_bo : ∀ {xs : List Value}, (∀ u ∈ xs, IsBo u) → ∃ l : List Bool, xs = l.map cL
  | [], _ => ⟨[], rfl⟩
  | v :: r, h => by
    obtain ⟨x, rfl⟩ := h v (by simp)
    obtain ⟨l, rfl⟩ := all_bo (xs := r) fun u hu => h u (by simp [hu])
    exact ⟨x :: l, rfl⟩
theorem Rd.of_heap {w : World} {g : Nat} {cur : Array Value} {t : TypeId} {xs ys : List Value} {n : Nat} (hh : w.heap[g]? = some (.cells cur t (0, 0))) (hc : cur.toList = xs ++ ys) (hn : xs.length = n) : Rd w (some ⟨g, 0, none⟩) n xs :=
  ⟨hn, fun _ => ⟨g, 0, rfl, lt_of_heap hh, fun j u hu => by
    rw [cell_of_row _ _ _ _ _ _ hh, ← Array.getElem?_toList, hc, Nat.zero_add, List.getElem?_append_left (List.getElem?_eq_some_iff.1 hu).1]; exact hu⟩⟩

theorem Rd.take {w : World} {A : Option Addr} {n k : Nat} {xs : List Value} (h : Rd w A n xs) (hk : k ≤ n) : Rd w A k (xs.take k) :=
  ⟨by have := h.1; simp; omega, fun hp => by
    obtain ⟨b, off, e, hb, hc⟩ := h.2 (by omega)
    exact ⟨b, off, e, hb, fun j u hu => hc j u (by rw [List.getElem?_take] at hu; split at hu; exact hu; cases hu)⟩⟩

/-- A cut in the middle; where it is empty, its address counts for nothing. -/
theorem Rd.cut {w : World} {A : Option Addr} {n k m : Nat} {xs : List Value} (h : Rd w A n xs) (hk : k + m ≤ n) : Rd w (Option.map (fun x => x.add k) A) m ((xs.drop k).take m) :=
  ⟨by have := h.1; simp; omega, fun hp => by
    obtain ⟨b, off, e, hb, hc⟩ := h.2 (by omega)
    subst e
    refine ⟨b, off + k, by simp [Addr.add_lit], hb, fun j u hu => ?_⟩
    rw [List.getElem?_take] at hu
    split at hu
    · rw [List.getElem?_drop] at hu
      rw [Nat.add_assoc]; exact hc _ u hu
    · cases hu⟩

theorem Rd.length {α : Type} {f : α → Value} {w : World} {A : Option Addr} {n : Nat} {l : List α} (h : Rd w A n (l.map f)) : l.length = n := by have := h.1; simpa using this

/-- A block filled with bytes, whole. -/
theorem Own.bytes {w : World} {base : Nat} {e : TypeId} {g : Nat} {cur : Array Value} {l : List UInt8} {n : Nat} (hb : base ≤ g) (hg : w.heap[g]? = some (.cells cur e (0, 0))) (hc : cur.toList = l.map cB) (hn : l.length = n) (hm : n ≤ maxLen) :
    Own w base e IsU8 (some ⟨g, 0, none⟩) n n (l.map cB) := by
  have hs : cur.size = n := by rw [← Array.length_toList, hc]; simpa using hn
  have h := Own.of_heap (p := IsU8) hb hg (off := 0) n n (Nat.le_refl _) (by omega) hm (by rw [hc]; exact isU8_map)
  rwa [List.drop_zero, hc, List.take_of_length_le (by simp; omega)] at h

theorem all_set {p : Value → Prop} {cur : Array Value} {v : Value} {i : Nat} (h : ∀ u ∈ cur.toList, p u) (hv : p v) : ∀ u ∈ (cur.setIfInBounds i v).toList, p u := by
  intro u hu
  rw [Array.toList_setIfInBounds] at hu
  rcases List.mem_or_eq_of_mem_set hu with hu | rfl
  · exact h u hu
  · exact hv

theorem Rd.u8at {w : World} {A : Option Addr} {n : Nat} {l : List UInt8} (h : Rd w A n (l.map cB)) {k : Nat} (hk : k < n) :
    ∃ b off, A = some ⟨b, off, none⟩ ∧ b < w.heap.size ∧ ∃ hl : k < l.length, w.cell? ⟨b, off + k, none⟩ = some (.int .u8 (l[k].toNat : Int)) := by
  obtain ⟨b, off, e, hb, hl, hc⟩ := h.at_ hk
  exact ⟨b, off, e, hb, by simpa using hl, by simpa [cB] using hc⟩
theorem Rd.u16at {w : World} {A : Option Addr} {n : Nat} {l : List UInt16} (h : Rd w A n (l.map cW)) {k : Nat} (hk : k < n) :
    ∃ b off, A = some ⟨b, off, none⟩ ∧ b < w.heap.size ∧ ∃ hl : k < l.length, w.cell? ⟨b, off + k, none⟩ = some (.int .u16 (l[k].toNat : Int)) := by
  obtain ⟨b, off, e, hb, hl, hc⟩ := h.at_ hk
  exact ⟨b, off, e, hb, by simpa using hl, by simpa [cW] using hc⟩
theorem Rd.boat {w : World} {A : Option Addr} {n : Nat} {l : List Bool} (h : Rd w A n (l.map cL)) {k : Nat} (hk : k < n) :
    ∃ b off, A = some ⟨b, off, none⟩ ∧ b < w.heap.size ∧ ∃ hl : k < l.length, w.cell? ⟨b, off + k, none⟩ = some (.bool l[k]) := by
  obtain ⟨b, off, e, hb, hl, hc⟩ := h.at_ hk
  exact ⟨b, off, e, hb, by simpa using hl, by simpa [cL] using hc⟩

theorem Rd.one (w : World) (t : TypeId) (v : Value) : Rd (w.alloc (.cells #[v] t)) (some ⟨w.heap.size, 0, none⟩) 1 [v] :=
  ⟨rfl, fun _ => ⟨_, 0, rfl, by simp, fun j u hu => by
    rw [cell_of_row _ _ _ _ _ _ (heap_alloc_new w _)]
    rcases j with _ | j
    · simpa using hu
    · simp at hu⟩⟩

/-- The call hands back a slice of its own, of the cells `xs`; nothing that was there has turned. -/
def RetOwn (w : World) (t : TypeId) (p : Value → Prop) (n : Nat) (xs : List Value) (e : Ending) (w' : World) : Prop :=
  ∃ A c, e = .returned (.slice A n c) ∧ Own w' w.heap.size t p A n c xs ∧ Below w.heap.size w w'

theorem map_take_succ {α : Type} (f : α → Value) (l : List α) (k : Nat) (h : k < l.length) : (l.take (k + 1)).map f = (l.take k).map f ++ [f l[k]] := by
  rw [List.take_succ_eq_append_getElem h, List.map_append]; rfl

theorem run_make1 {P : Program} (t e : TypeId) (z : Value) (bytes : Nat) (ht : P.underlying t = some (.slice e)) (hinfo : (P.info? e).map (fun i => (i.zero, i.size, i.bytes)) = some (some z, 1, bytes)) (hz1 : z.cells = #[z])
    (n : Nat) (hbytes : bytes * n ≤ 281474976710656) (h63 : n ≤ 9223372036854775807) (W : World) :
    (Instr.makeSlice t (.int .i64 (n : Int)) (.int .i64 (n : Int))).run P W = .ok (.slice (some ⟨W.heap.size, 0, none⟩) n n) (W.alloc (.cells (Array.replicate n z) e)) := by
  have h := run_make_row' (P := P) t e z bytes ht hinfo hz1 .i64 .i64 n hbytes h63 W
  have e1 : madeCells #[z] n = Array.replicate n z := by apply Array.ext'; rw [toList_madeCells_one]; simp
  rw [e1] at h; exact h

/-- The next cell of a row that is filled from its beginning, up to the list `T`. -/
theorem fill_step {cur : Array Value} {T : List Value} {z v : Value} {k N : Nat} (h : cur.toList = T.take k ++ List.replicate (N - k) z) (hN : T.length = N) (hv : T[k]? = some v) :
    (cur.setIfInBounds k v).toList = T.take (k + 1) ++ List.replicate (N - (k + 1)) z := by
  have hk : k < T.length := by
    rcases Nat.lt_or_ge k T.length with hk | hk
    · exact hk
    · rw [List.getElem?_eq_none hk] at hv; cases hv
  have e1 : T[k] = v := by rw [List.getElem?_eq_getElem hk] at hv; injection hv
  have e2 : N - k = (N - (k + 1)) + 1 := by omega
  have e3 : (T.take k).length = k := by simp; omega
  rw [Array.toList_setIfInBounds, h, e2, List.replicate_succ, List.take_succ_eq_append_getElem hk, e1, List.set_append_right _ _ (by omega), e3]
  simp

theorem heap_cell {w : World} {g : Nat} {cur : Array Value} {t : TypeId} {k : Nat} (h : w.heap[g]? = some (.cells cur t (0, 0))) (hk : k < cur.size) : ∃ u, w.cell? ⟨g, k, none⟩ = some u := by
  rw [cell_of_row w g k cur t (0, 0) h]; exact ⟨cur[k], by simp [hk]⟩

/-- A slice of the call's own gets one cell more. -/
theorem below_app {B : Nat} {a w w1 : World} {o : Obj} {row : Option Nat} (h : Below B a w) (hB : B ≤ w.heap.size) (hg : (w.alloc o).grownBy w1 row) (hr : ∀ k, row = some k → B ≤ k) : Below B a w1 :=
  (h.alloc hB o).grown hg (by simp; omega) hr

/-- Two slices that share no block. -/
def Sep (A B : Option Addr) : Prop := ∀ g, blk A = some g → blk B ≠ some g
theorem Sep.symm {A B : Option Addr} (h : Sep A B) : Sep B A := fun g h1 h2 => h g h2 h1
theorem Sep.of_lt {w w' : World} {b1 b2 : Nat} {e1 e2 : TypeId} {p1 p2 : Value → Prop} {A B : Option Addr} {n1 c1 n2 c2 : Nat} {xs ys : List Value} (h1 : Own w b1 e1 p1 A n1 c1 xs) (h2 : Own w' b2 e2 p2 B n2 c2 ys) (h : w.heap.size ≤ b2) : Sep A B := by
  intro g hg hg'
  have := (h1.lt g hg).2
  have := (h2.lt g hg').1
  omega
theorem sep_index {S : List (Option Addr × Nat × Nat)} (h : S.Pairwise fun s t => Sep s.1 t.1) {i j : Nat} (hi : i < S.length) (hj : j < S.length) (hij : i ≠ j) : Sep S[i].1 S[j].1 := by
  rw [List.pairwise_iff_getElem] at h
  rcases Nat.lt_or_ge i j with hlt | hge
  · exact h i j hi hj hlt
  · exact (h j i hj hi (by omega)).symm

theorem ret_bool {a b : Bool} (h : a = b) : Ending.returned (.bool a) = .returned (.bool b) := by rw [h]
theorem ret_two {v1 v2 u1 u2 : Value} (h1 : v1 = u1) (h2 : v2 = u2) : Ending.returned (.tuple #[v1, v2]) = .returned (.tuple #[u1, u2]) := by rw [h1, h2]
theorem ret_int {k : IntKind} {a b : Int} (h : a = b) : Ending.returned (.int k a) = .returned (.int k b) := by rw [h]

end Go.Out
