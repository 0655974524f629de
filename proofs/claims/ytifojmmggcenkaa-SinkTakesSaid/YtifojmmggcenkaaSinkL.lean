/- Rows and what comes, as they are opened; what is kept while a sink takes. -/
import Derived.Test.YtifojmmggcenkaaSinkK
import Derived.Test.YtifojmmggcenkaaPacSees
namespace Go.Out
open Go Go.RowKit Go.ChangeShapes Go.WideShapes Go.Deep
set_option linter.unusedVariables false
theorem sees_list {H : Type} {enc : TypeId × Value → H} {P : Program} {w : World} {t e : TypeId} {v : Value} {α : Type} (x0 : α) (K : Kind α) (ht : P.underlying t = some (.slice e)) (hC : P.cellsOf e = K.k) (hk : 0 < K.k)
    (hel : ∀ cs, Sees enc P w e cs → ∃ x, K.R w cs x) (h : Sees enc P w t [v]) : ∃ (l : List α) (A : Option Addr) (n c : Nat), v = .slice A n c ∧ RdL K w A n l ∧ n ≤ c ∧ c ≤ 9223372036854775807 := by
  obtain ⟨A, n, c, rfl, hnc, hc, hb, hsl⟩ := sees_slice ht h
  rcases Nat.eq_zero_or_pos n with h0 | h0
  · subst h0
    exact ⟨[], A, 0, c, rfl, RdL.nil_ _ _ _, hnc, hc⟩
  · obtain ⟨a, rfl, hi⟩ := hsl h0
    rw [hC] at hi
    have hQ : ∀ i, i < n → ∃ p : α, ∃ cs, w.cells? 0 (a.add (i * K.k)) K.k = some cs ∧ K.R w cs p := fun i hlt => by
      obtain ⟨cs, h1, h2⟩ := hi i hlt
      obtain ⟨p, hp⟩ := hel cs h2
      exact ⟨p, cs, h1, hp⟩
    obtain ⟨f, hf⟩ : ∃ f : Nat → α, ∀ i, i < n → ∃ cs, w.cells? 0 (a.add (i * K.k)) K.k = some cs ∧ K.R w cs (f i) :=
      ⟨fun i => if h : i < n then Classical.choose (hQ i h) else x0, fun i hi => by
        simp only [dif_pos hi]
        exact Classical.choose_spec (hQ i hi)⟩
    have hcell : ∀ i, i < n → ∃ cs, cs.length = K.k ∧ (∀ j u, cs[j]? = some u → w.cell? ((a.add (i * K.k)).add j) = some u) ∧ K.R w cs (f i) := fun i hlt => by
      obtain ⟨cs, h1, h2⟩ := hf i hlt
      obtain ⟨_, hcl, hat⟩ := World.cells?_some h1
      refine ⟨cs, hcl, fun j u hu => ?_, h2⟩
      obtain ⟨hj, rfl⟩ := List.getElem?_eq_some_iff.1 hu
      rw [hat j (by omega), hu]
    obtain ⟨cs0, hl0, hc0, hR0⟩ := hcell 0 h0
    obtain ⟨v0, hv0⟩ : ∃ v0, w.cell? ((a.add (0 * K.k)).add 0) = some v0 := ⟨cs0[0]'(by omega), hc0 0 _ (List.getElem?_eq_getElem (by omega))⟩
    have hsp := World.cell?_spot hv0
    obtain ⟨b, off, spot⟩ := a
    have hs : spot = none := by simpa [Addr.add] using hsp
    subst hs
    refine ⟨(List.range n).map f, _, n, c, rfl, ⟨by simp, fun _ => ⟨b, off, rfl, by have := World.block_lt_of_cell? w _ hv0; simpa [Addr.add] using this, fun i x hx => ?_⟩⟩, hnc, hc⟩
    obtain ⟨hlt, rfl⟩ := List.getElem?_eq_some_iff.1 hx
    simp only [List.length_map, List.length_range] at hlt
    obtain ⟨cs, hl, hcj, hR⟩ := hcell i hlt
    refine ⟨cs, hl, fun j u hu => ?_, by simpa using hR⟩
    have := hcj j u hu
    rw [Addr.add_lit, add_off] at this
    rw [show off + (i * K.k + j) = off + i * K.k + j by omega]
    exact this
/-- What comes: a place in a list, or other bytes. -/
structure ComeD where
  epoch : Int
  seq : Int
  other : List UInt8
/-- The rows that a sink has are records. -/
def RowsOk (d : SinkD) : Prop := ∀ l ∈ d.rows, 1 ≤ l.length ∧ l.length ≤ 1024
theorem takeF_rows {d : SinkD} {b : List UInt8} (h : RowsOk d) : RowsOk (takeF d b).1 := by
  by_cases he : (getP b).2 = 0
  · have hP := getP_eta he
    have hk := (putP_getP he).2
    generalize (getP b).1 = P at hP hk
    rw [takeF_ok hP]
    unfold takeP
    split
    · rename_i h1
      split
      · intro l hl
        rcases List.mem_append.1 hl with hl | hl
        · exact h l hl
        · simp only [List.mem_singleton] at hl
          subst hl
          obtain ⟨-, -, -, h4, h5⟩ := kind_cases hk
          rw [h1] at h4 h5
          exact ⟨by simpa [leastF] using h4, by simpa [mostFP] using h5⟩
      · exact h
    · split
      · split <;> exact h
      · exact h
  · rw [takeF_no he]; exact h
theorem takeF_twice (d : SinkD) (b : List UInt8) : takeF (takeF d b).1 b = takeF d b := by
  by_cases he : (getP b).2 = 0
  · have hP := getP_eta he
    generalize (getP b).1 = P at hP
    rw [takeF_ok hP, takeF_ok hP]
    have e : takeP (takeP d P) P = takeP d P := by
      unfold takeP
      by_cases h1 : P.kind = 1
      · simp only [h1, if_true]
        by_cases h2 : P.seq = d.rows.length
        · simp only [h2, if_true]
          rw [if_neg (by simp; omega)]
        · rw [if_neg h2, if_neg h2]
      · simp only [h1, if_false]
        by_cases h4 : P.kind = 4
        · simp only [h4, if_true]
          by_cases h2 : P.id ∈ d.done.map (·.id)
          · rw [if_pos h2, if_pos h2]
          · rw [if_neg h2, if_pos (by simp)]
        · rw [if_neg h4, if_neg h4]
    rw [e]
  · rw [takeF_no he, takeF_no he]
theorem Own.only {w w' : World} {F : Nat → Prop} {base : Nat} {e : TypeId} {q : Value → Prop} {A : Option Addr} {n c : Nat} {xs : List Value} (h : Own w base e q A n c xs) (ho : Only F w w') (hF : ∀ g, blk A = some g → ¬ F g) : Own w' base e q A n c xs :=
  h.kept fun g hg => ho.block g (h.lt g hg).2 (hF g hg)
end Go.Out
namespace Go.Proofs.Ytifojmmggcenkaa
set_option linter.unusedVariables false
set_option linter.unusedSimpArgs false
set_option maxRecDepth 100000
set_option maxHeartbeats 1000000
open Go Go.RowKit Go.ChangeShapes Go.WideShapes Go.Deep Go.Out

theorem sees_row8 {H : Type} {enc : TypeId × Value → H} {w : World} {cs : List Value} (h : Sees enc Try.prog w 27 cs) : ∃ x : List UInt8, rowK.R w cs x := by
  have hl : cs.length = 1 := by
    obtain ⟨fuel, x, h, -⟩ := h
    rcases open_slice Try.underlying27 h with ⟨hcs, -⟩ | ⟨a, len, cap, m, k, D, Pl, hcs, -⟩
    · rw [hcs]; rfl
    · rw [hcs]; rfl
  match cs, hl with
  | [v], _ =>
    obtain ⟨l, A, n, c, rfl, hr, hc, hm, hb⟩ := sees_u8s Try.underlying27 (by kernel_rfl) Try.underlying5 h
    exact ⟨l, A, n, c, rfl, hr, hc, hm⟩
theorem sees_rows {H : Type} {enc : TypeId × Value → H} {w : World} {v : Value} (h : Sees enc Try.prog w 22 [v]) :
    ∃ (l : List (List UInt8)) (A : Option Addr) (n c : Nat), v = .slice A n c ∧ RdL rowK w A n l ∧ n ≤ c ∧ c ≤ 9223372036854775807 :=
  sees_list [] rowK Try.underlying22 (by kernel_rfl) (by decide) (fun cs hs => sees_row8 hs) h
section
variable {w w' : World} {F : Nat → Prop}
theorem RowsOw.only {base : Nat} {A : Option Addr} {c : Nat} {rows : List (List UInt8)} (h : RowsOw w base A c rows) (ho : Only F w w') (hF : ∀ k, F k → k < base) : RowsOw w' base A c rows := by
  obtain ⟨rs, h1, h2, h3⟩ := h
  exact ⟨rs, h1.only ho (fun g hg hf => absurd (hF g hf) (by have := (h1.lt g hg).1; omega)), fun i t l ht hl => (h2 i t l ht hl).only ho (fun g hg hf => absurd (hF g hf) (by have := ((h2 i t l ht hl).lt g hg).1; omega)), h3⟩
theorem ownsRow_only {base n : Nat} {v : Value} {xs : List Value} (h : w.ownsRow base 32 6 v n xs) (ho : Only F w w') (hF : ∀ k, F k → k < base) : w'.ownsRow base 32 6 v n xs := by
  refine ⟨h.1, ?_⟩
  rcases h.2 with h2 | ⟨g, cap, cur, rfl, hb, hg, r⟩
  · exact .inl h2
  · exact .inr ⟨g, cap, cur, rfl, hb, (ho.block g (lt_of_heap hg) (fun hf => absurd (hF g hf) (by omega))).trans hg, r⟩
end
theorem done_rd {w : World} {base M c : Nat} {A : Option Addr} {xs : List Value} {l : List PacD} (h : w.ownsRow base 32 6 (.slice A M c) M xs) (hi : ∀ w, Items doneK w xs l) (hM : l.length = M) : RdL doneK w A M l := by
  subst hM
  obtain ⟨A', c', e, -, -, hr, -⟩ := OwL.form (K := doneK) ⟨xs, h, hi w⟩
  injection e with e1 e2 e3
  subst e1
  exact hr
theorem rows_rd {w : World} {base N c : Nat} {A : Option Addr} {l : List (List UInt8)} (h : RowsOw w base A c l) (hN : l.length = N) : RdL rowK w A N l := by
  subst hN; exact h.rd
end Go.Proofs.Ytifojmmggcenkaa
