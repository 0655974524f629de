/- How arguments are opened, whatever their types: plain lemmas, no program in sight. -/
import Derived.Test.YtcnjhjfepojdaaaOpen
namespace Go.Out
set_option linter.unusedVariables false
open Go Go.RowKit Go.ChangeShapes Go.WideShapes Go.Deep

/-- The cells cs read as a value of type t, and all that is reached through them is within the form's reach. -/
def Sees {H : Type} (enc : TypeId × Value → H) (P : Program) (w : World) (t : TypeId) (cs : List Value) : Prop :=
  ∃ fuel x, DataW.trod enc P w 0 (fun _ => true) true fuel t cs = some x ∧ ∀ n ∈ DataW.weights P t x.1, n ≤ 140737488351232

section
variable {H : Type} {enc : TypeId × Value → H} {P : Program} {w : World} {t e : TypeId} {v : Value} {cs : List Value}

theorem weights_all {P : Program} {e : TypeId} {n : Nat} : ∀ {ds : List (DataW H)} {j : Nat} {d : DataW H}, ds[j]? = some d → n ∈ DataW.weights P e d → n ∈ DataW.weightsAll P e ds
  | [], _, _, h, _ => by simp at h
  | d0 :: ds, 0, d, h, hn => by
    simp only [List.getElem?_cons_zero, Option.some.injEq] at h
    subst h
    simp only [DataW.weightsAll, List.mem_append]
    exact .inl hn
  | d0 :: ds, j + 1, d, h, hn => by
    simp only [List.getElem?_cons_succ] at h
    simp only [DataW.weightsAll, List.mem_append]
    exact .inr (weights_all h hn)

theorem sees_param {ts : List TypeId} {ds : List (DataW H)} {j fuel : Nat} {x : DataW H × List MemPlace} (h : DataW.trod enc P w 0 (fun _ => true) true fuel t cs = some x)
    (hsz : (DataW.weightsEach P ts ds).all (· ≤ reachBytes) = true) (hj : ts[j]? = some t) (hd : ds[j]? = some x.1) : Sees enc P w t cs :=
  ⟨fuel, x, h, fun n hn => by
    have := List.all_eq_true.1 hsz n (DataW.weights_mem_each hj hd n hn)
    have h2 : n ≤ reachBytes := of_decide_eq_true this
    unfold reachBytes at h2; omega⟩

theorem sees_int {k : IntKind} (ht : P.underlying t = some (.int k)) (h : Sees enc P w t [v]) : ∃ n, v = .int k n ∧ (Lit.int k n).wf = true := by
  obtain ⟨fuel, x, h, _⟩ := h
  obtain ⟨n, hn, rfl, wf⟩ := DataW.trod_int ht h
  simp at hn
  exact ⟨n, hn, wf⟩
theorem sees_bool (ht : P.underlying t = some .bool) (h : Sees enc P w t [v]) : ∃ b, v = .bool b := by
  obtain ⟨fuel, x, h, _⟩ := h
  obtain ⟨n, hn, rfl⟩ := DataW.trod_bool ht h
  simp at hn
  exact ⟨n, hn⟩

theorem sees_slice (ht : P.underlying t = some (.slice e)) (h : Sees enc P w t [v]) :
    ∃ A n c, v = .slice A n c ∧ n ≤ c ∧ c ≤ 9223372036854775807 ∧ c * P.bytesOf e ≤ 140737488351232 ∧ (0 < n → ∃ a, A = some a ∧ ∀ i, i < n → ∃ cs', w.cells? 0 (a.add (i * P.cellsOf e)) (P.cellsOf e) = some cs' ∧ Sees enc P w e cs') := by
  obtain ⟨fuel, x, h, hw⟩ := h
  rcases open_slice ht h with ⟨hcs, hx⟩ | ⟨a, len, cap, m, k, D, Pl, hcs, hb, hl, hm, hmm, hx, hi⟩
  · injection hcs with hcs _
    subst hcs
    exact ⟨_, _, _, rfl, by omega, by omega, by omega, fun h => absurd h (by omega)⟩
  · injection hcs with hcs _
    subst hcs
    rw [if_pos rfl] at hmm
    subst hmm
    subst hx
    have hw1 := hw ((((List.range len).map D).length + ((List.range (m - len)).map fun j => D (len + j)).length) * P.bytesOf e) (by simp [DataW.weights, ht])
    simp only [List.length_map, List.length_range] at hw1
    rw [show len + (m - len) = m from by omega] at hw1
    refine ⟨_, _, _, rfl, hl, by simpa [maxLen] using hm, hw1, fun hn => ⟨a, rfl, fun i hlt => ?_⟩⟩
    obtain ⟨cs', hc, htr⟩ := hi i (by omega)
    refine ⟨cs', hc, k, _, htr, fun n hn' => hw n ?_⟩
    simp only [DataW.weights, ht, List.mem_cons, List.mem_append]
    exact .inr (.inl (weights_all (j := i) (by simp [hlt]) hn'))

theorem sees_struct {fs : Array Field} (ht : P.underlying t = some (.struct fs)) (h : Sees enc P w t cs) :
    cs.length = P.cellsOf t ∧ ∀ (i : Nat) (f : Field), fs[i]? = some f → Sees enc P w f.type ((cs.drop f.offset).take (P.cellsOf f.type)) := by
  obtain ⟨fuel, x, h, hw⟩ := h
  obtain ⟨xs, n, _, rfl, hl, hxl, hf⟩ := DataW.trod_struct ht h
  refine ⟨hl, fun i f hi => ?_⟩
  have hil : i < fs.size := (Array.getElem?_eq_some_iff.1 hi).1
  have hx : xs[i]? = some (xs[i]'(by omega)) := List.getElem?_eq_getElem (by omega)
  refine ⟨n, _, (hf i f hi).trans hx, fun k hk => hw k ?_⟩
  simp only [DataW.weights, ht]
  exact DataW.weights_mem_each (j := i) (t := f.type) (d := (xs[i]'(by omega)).1) (by simp [hi]) (by simp [hx]) k hk

/-- A cell of a slice's element. -/
theorem cells_at {base i : Nat} {a : Addr} {k : Nat} {cs : List Value} (h : w.cells? base a k = some cs) (hi : i < k) : ∃ hl : i < cs.length, w.cell? (a.add i) = some cs[i] := by
  obtain ⟨_, hcl, hat⟩ := World.cells?_some h
  have hl : i < cs.length := by omega
  exact ⟨hl, by rw [hat i hi, List.getElem?_eq_getElem hl]⟩

theorem add_off (b off i : Nat) : (⟨b, off, none⟩ : Addr).add i = ⟨b, off + i, none⟩ := by
  unfold Addr.add; split
  · subst_vars; rfl
  · rfl

theorem sees_row (ht : P.underlying t = some (.slice e)) (hC : P.cellsOf e = 1) (p : Value → Prop) (hp : ∀ v, Sees enc P w e [v] → p v) (h : Sees enc P w t [v]) :
    ∃ A n c xs, v = .slice A n c ∧ Rd w A n xs ∧ (∀ u ∈ xs, p u) ∧ n ≤ c ∧ c ≤ 9223372036854775807 ∧ c * P.bytesOf e ≤ 140737488351232 := by
  obtain ⟨A, n, c, rfl, hnc, hc, hb, hel⟩ := sees_slice ht h
  rcases Nat.eq_zero_or_pos n with h0 | h0
  · subst h0
    exact ⟨A, 0, c, [], rfl, Rd.empty_ _ _, by simp, hnc, hc, hb⟩
  · obtain ⟨a, rfl, hi⟩ := hel h0
    have hcell : ∀ i, i < n → ∃ v, w.cell? (a.add i) = some v ∧ p v := by
      intro i hlt
      obtain ⟨cs', hc', hs⟩ := hi i hlt
      rw [hC, Nat.mul_one] at hc'
      obtain ⟨_, hcl, hat⟩ := World.cells?_some hc'
      obtain ⟨v, rfl⟩ : ∃ v, cs' = [v] := by
        match cs', hcl with
        | [v], _ => exact ⟨v, rfl⟩
      refine ⟨v, ?_, hp _ hs⟩
      have := hat 0 (by omega)
      have h0 : (a.add i).add 0 = a.add i := by simp [Addr.add]
      rw [h0] at this
      simpa using this
    have hex : ∀ j : Nat, j ≤ n → ∃ xs : List Value, xs.length = j ∧ (∀ u ∈ xs, p u) ∧ ∀ i u, xs[i]? = some u → w.cell? (a.add i) = some u := by
      intro j
      induction j with
      | zero => intro _; exact ⟨[], rfl, by simp, by simp⟩
      | succ j ih =>
        intro hj
        obtain ⟨xs, hl, hpx, hc⟩ := ih (by omega)
        obtain ⟨v, hv, hpv⟩ := hcell j (by omega)
        refine ⟨xs ++ [v], by simp [hl], ?_, ?_⟩
        · intro u hu
          rcases List.mem_append.1 hu with hu | hu
          · exact hpx u hu
          · simp at hu; subst hu; exact hpv
        · intro i u hu
          rcases Nat.lt_or_ge i xs.length with hlt | hge
          · rw [List.getElem?_append_left hlt] at hu; exact hc i u hu
          · rw [List.getElem?_append_right hge] at hu
            have : i = j := by
              rcases Nat.eq_zero_or_pos (i - xs.length) with h0 | h0
              · omega
              · rw [List.getElem?_eq_none (by simp; omega)] at hu; cases hu
            subst this
            rw [show i - xs.length = 0 from by omega] at hu
            simp at hu; subst hu; exact hv
    obtain ⟨xs, hxl, hpx, hcx⟩ := hex n (by omega)
    refine ⟨_, _, _, xs, rfl, ⟨hxl, fun hn => ?_⟩, hpx, hnc, hc, hb⟩
    obtain ⟨v, hv, _⟩ := hcell 0 (by omega)
    have hsp := World.cell?_spot hv
    obtain ⟨b, off, spot⟩ := a
    have hs : spot = none := by simpa [Addr.add] using hsp
    subst hs
    refine ⟨b, off, rfl, by have := World.block_lt_of_cell? w _ hv; simpa [Addr.add] using this, fun j u hu => ?_⟩
    have := hcx j u hu
    rwa [Addr.add_lit] at this

theorem sees_u8s (ht : P.underlying t = some (.slice e)) (hC : P.cellsOf e = 1) (he : P.underlying e = some (.int .u8)) (h : Sees enc P w t [v]) :
    ∃ (l : List UInt8) (A : Option Addr) (n c : Nat), v = .slice A n c ∧ Rd w A n (l.map cB) ∧ n ≤ c ∧ c ≤ 9223372036854775807 ∧ c * P.bytesOf e ≤ 140737488351232 := by
  obtain ⟨A, n, c, xs, h1, h2, h3, h4, h5, h6⟩ := sees_row ht hC IsU8 (fun v hv => by
    obtain ⟨n, rfl, wf⟩ := sees_int he hv
    have := bounds_u8 wf
    exact isU8_of this.1 this.2) h
  obtain ⟨l, rfl⟩ := all_u8 h3
  exact ⟨l, A, n, c, h1, h2, h4, h5, h6⟩
theorem sees_u16s (ht : P.underlying t = some (.slice e)) (hC : P.cellsOf e = 1) (he : P.underlying e = some (.int .u16)) (h : Sees enc P w t [v]) :
    ∃ (l : List UInt16) (A : Option Addr) (n c : Nat), v = .slice A n c ∧ Rd w A n (l.map cW) ∧ n ≤ c ∧ c ≤ 9223372036854775807 ∧ c * P.bytesOf e ≤ 140737488351232 := by
  obtain ⟨A, n, c, xs, h1, h2, h3, h4, h5, h6⟩ := sees_row ht hC IsU16 (fun v hv => by
    obtain ⟨n, rfl, wf⟩ := sees_int he hv
    have := bounds_u16 wf
    exact isU16_of this.1 this.2) h
  obtain ⟨l, rfl⟩ := all_u16 h3
  exact ⟨l, A, n, c, h1, h2, h4, h5, h6⟩
theorem sees_bos (ht : P.underlying t = some (.slice e)) (hC : P.cellsOf e = 1) (he : P.underlying e = some .bool) (h : Sees enc P w t [v]) :
    ∃ (l : List Bool) (A : Option Addr) (n c : Nat), v = .slice A n c ∧ Rd w A n (l.map cL) ∧ n ≤ c ∧ c ≤ 9223372036854775807 ∧ c * P.bytesOf e ≤ 140737488351232 := by
  obtain ⟨A, n, c, xs, h1, h2, h3, h4, h5, h6⟩ := sees_row ht hC IsBo (fun v hv => by
    obtain ⟨b, rfl⟩ := sees_bool he hv
    exact ⟨b, rfl⟩) h
  obtain ⟨l, rfl⟩ := all_bo h3
  exact ⟨l, A, n, c, h1, h2, h4, h5, h6⟩
end
end Go.Out
