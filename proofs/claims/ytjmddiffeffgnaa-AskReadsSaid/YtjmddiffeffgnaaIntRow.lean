/- A row of the call's own all of whose cells, the spare ones too, are numbers: plain lemmas; no program in sight. -/
import Derived.Test.YtjmddiffeffgnaaList2
namespace Go.Out
open Go Go.RowKit
set_option linter.unusedVariables false

def IsI64 (u : Value) : Prop := ∃ n : Int, u = .int .i64 n
/-- All cells of the slice's block are numbers. -/
def IntRow (w : World) (v : Value) : Prop := ∀ g, v.ownBlock = some g → ∃ cur e, w.heap[g]? = some (.cells cur e (0, 0)) ∧ ∀ u ∈ cur.toList, IsI64 u
theorem IntRow.nil_ (w : World) : IntRow w (.slice none 0 0) := fun g h => by simp [Value.ownBlock] at h
theorem IntRow.kept {w w' : World} {v : Value} (h : IntRow w v) (hk : ∀ g, v.ownBlock = some g → w'.heap[g]? = w.heap[g]?) : IntRow w' v := fun g hg => by
  obtain ⟨cur, e, h1, h2⟩ := h g hg
  exact ⟨cur, e, (hk g hg).trans h1, h2⟩
theorem IntRow.ext {w w' : World} {v : Value} (h : IntRow w v) (hx : Ext w w') : IntRow w' v := fun g hg => by
  obtain ⟨cur, e, h1, h2⟩ := h g hg
  exact ⟨cur, e, hx.block h1, h2⟩
theorem zeroCells_ints {z : Value} (hz : ∀ u ∈ z.cells, IsI64 u) (hs : 0 < z.cells.size) (k : Nat) : ∀ u ∈ (Builtin.zeroCells z.cells k).toList, IsI64 u := by
  intro u hu
  simp only [Builtin.zeroCells, Array.toList_map, List.mem_map] at hu
  obtain ⟨i, -, rfl⟩ := hu
  have hlt : i % z.cells.size < z.cells.size := Nat.mod_lt _ hs
  rw [getElem!_pos z.cells _ hlt]
  exact hz _ (Array.getElem_mem hlt)

/-- Behind an append the row's cells are numbers, as they were. -/
theorem run_append_ints {P : Program} {w : World} (base : Nat) (t ty e : TypeId) (i : TypeInfo) (z : Value) (size bytes : Nat) (ht : P.underlying t = some (.slice e)) (hi : P.info? e = some i) (hz : i.zero = some z)
    (hsize : i.size = size) (hby : i.bytes = bytes) (hzs : z.cells.size = size) (hsz : 0 < size) (hzi : ∀ u ∈ z.cells, IsI64 u)
    (v : Value) (n : Nat) (xs : List Value) (hown : w.ownsRow base e size v n xs) (hint : IntRow w v)
    (a : Addr) (m c : Nat) (news : List Value) (hl : news.length = m * size) (hnews : ∀ j u, news[j]? = some u → w.cell? (a.add j) = some u) (h1 : ∀ u ∈ news, u.oneCell' = true) (hni : ∀ u ∈ news, IsI64 u)
    (h63 : n + m ≤ maxLen) (hbytes : (n + m) * bytes ≤ 140737488355328) (hm0 : 0 < m) {v' : Value} {w' : World}
    (hrun : (Builtin.append_ #[t, t] ty #[v, .slice (some a) m c]).run P w = .ok v' w') : IntRow w' v' := by
  subst hsize
  subst hby
  have hxi : ∀ u ∈ xs, IsI64 u := by
    rcases hown.2 with ⟨rfl, rfl⟩ | ⟨g, cap, cur, rfl, hbg, hg, hnc, hcm, hcs, htake⟩
    · have hx : xs = [] := List.eq_nil_of_length_eq_zero (by simpa using hown.1)
      subst hx; simp
    · obtain ⟨cur', e', hg', hp⟩ := hint g rfl
      rw [hg] at hg'
      injection hg' with hg'
      injection hg' with h1 h2 h3
      subst h1
      intro u hu
      rw [← htake] at hu
      exact hp u (List.mem_of_mem_take hu)
  have hsmall : n + m ≤ 9223372036854775807 := by simp only [maxLen] at h63; omega
  rcases hown.2 with ⟨rfl, rfl⟩ | ⟨g, cap, cur, rfl, hbg, hg, hnc, hcm, hcs, htake⟩
  · have hr := run_append_nil (P := P) w t ty e i z ht hi hz a m c news hl hnews hm0 (by omega) (by have hb := hbytes; simp only [Nat.zero_add] at hb; omega)
    rw [hr] at hrun
    injection hrun with e1 e2
    subst e1; subst e2
    intro g hg
    simp only [Value.ownBlock, Option.some.injEq] at hg
    subst hg
    refine ⟨_, _, heap_alloc_new w.drew _, fun u hu => ?_⟩
    simp only [Array.toList_append, List.mem_append] at hu
    rcases hu with hu | hu
    · exact hni u hu
    · exact zeroCells_ints hzi (by omega) _ u hu
  · by_cases hroom : n + m ≤ cap
    · have hfit : n * i.size + news.length ≤ cur.size := by rw [hl, hcs, ← Nat.add_mul]; exact Nat.mul_le_mul_right _ hroom
      have hr := run_append_room (P := P) w t ty e i ht hi g n cap cur hg a m c news hl hnews h1 hroom hfit
      rw [hr] at hrun
      injection hrun with e1 e2
      subst e1; subst e2
      obtain ⟨cur', e', hg', hp⟩ := hint g rfl
      rw [hg] at hg'
      injection hg' with hg'
      injection hg' with q1 q2 q3
      subst q1
      intro g' hg'
      simp only [Value.ownBlock, Option.some.injEq] at hg'
      subst hg'
      refine ⟨_, _, setRow_heap w g cur _ e _ hg, fun u hu => ?_⟩
      simp only [List.mem_append] at hu
      rcases hu with (hu | hu) | hu
      · exact hp u (List.mem_of_mem_take hu)
      · exact hni u hu
      · exact hp u (List.mem_of_mem_drop hu)
    · have holds : ∀ j u, xs[j]? = some u → w.cell? ((⟨g, 0, none⟩ : Addr).add j) = some u := hown.cells (g := g) rfl
      have hr := run_append_grow (P := P) w t ty e i z ht hi hz ⟨g, 0, none⟩ n cap xs hown.1 holds a m c news hl hnews (by omega) (by omega) (growslice_fits (by omega) hbytes)
      rw [hr] at hrun
      injection hrun with e1 e2
      subst e1; subst e2
      intro g' hg'
      simp only [Value.ownBlock, Option.some.injEq] at hg'
      subst hg'
      refine ⟨_, _, heap_alloc_new w.drew _, fun u hu => ?_⟩
      simp only [Array.toList_append, List.mem_append] at hu
      rcases hu with (hu | hu) | hu
      · exact hxi u (by simpa using hu)
      · exact hni u (by simpa using hu)
      · exact zeroCells_ints hzi (by omega) _ u hu
/-- An append to a row of the call's own whose cells are numbers. -/
theorem wp_append_ints {P : Program} {w : World} {o : Oper} {a : Act} {K : Act → World → Prop} {Q : Exit → Act → World → Prop} (s x : Operand) (t : TypeId)
    (ho : o.op = .call { callee := .builtin .append, args := #[s, x], argTypes := #[t, t] })
    (base : Nat) (e : TypeId) (i : TypeInfo) (z : Value) (size bytes : Nat) (ht : P.underlying t = some (.slice e)) (hi : P.info? e = some i) (hz : i.zero = some z)
    (hsize : i.size = size) (hby : i.bytes = bytes) (hzs : z.cells.size = size) (hsz : 0 < size) (hzi : ∀ u ∈ z.cells, IsI64 u)
    (v : Value) (n : Nat) (xs : List Value) (hs : a.eval s = v) (hown : w.ownsRow base e size v n xs) (hint : IntRow w v)
    (ad : Addr) (m c : Nat) (news : List Value) (hx : a.eval x = .slice (some ad) m c) (hl : news.length = m * size) (hnews : ∀ j u, news[j]? = some u → w.cell? (ad.add j) = some u) (h1 : ∀ u ∈ news, u.oneCell' = true) (hni : ∀ u ∈ news, IsI64 u)
    (h63 : n + m ≤ maxLen) (hbytes : (n + m) * bytes ≤ 140737488355328) (hbase : base ≤ w.heap.size) (hm0 : 0 < m)
    (h : ∀ v' w', w'.ownsRow base e size v' (n + m) (xs ++ news) → IntRow w' v' → w.grownBy w' v.ownBlock → K (a.put o.dst v') w') : o.wp P a w K Q := by
  obtain ⟨v', w', hr, h2, h3, h4⟩ := run_append_own (P := P) w base t o.type e i z size bytes ht hi hz hsize hby hzs hsz v n xs hown ad m c news hl hnews h1 h63 hbytes hbase
  have h5 := run_append_ints base t o.type e i z size bytes ht hi hz hsize hby hzs hsz hzi v n xs hown hint ad m c news hl hnews h1 hni h63 hbytes hm0 hr
  unfold Oper.wp execOp
  simp only [ho, resolve, invoke, builtin, Sem.run_bind, Sem.run_pure, Result.andThen_ok, List.map_toArray, List.map_cons, List.map_nil, hs, hx, hr]
  exact h v' w' h2 h5 h3
end Go.Out
