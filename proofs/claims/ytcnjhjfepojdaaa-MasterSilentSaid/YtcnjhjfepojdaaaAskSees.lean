/- How a request is opened that comes in. -/
import Derived.Test.YtcnjhjfepojdaaaSees
import Derived.Test.YtcnjhjfepojdaaaAsk2
namespace Go.Proofs.Ytcnjhjfepojdaaa
set_option linter.unusedVariables false
set_option linter.unusedSimpArgs false
set_option maxRecDepth 100000
open Go Go.RowKit Go.ChangeShapes Go.WideShapes Go.Deep Go.Out

section
variable {H : Type} {enc : TypeId × Value → H} {w : World}
theorem i64P_of {x : Int} (h : (Lit.int .i64 x).wf = true) : i64P x := by
  have := bounds_i64 h
  unfold i64P; omega
theorem sees_part {cs : List Value} (h : Sees enc Try.prog w 71 cs) : ∃ p : PartD, partK.R w cs p := by
  obtain ⟨hl, hf⟩ := sees_struct Try.underlying71 h
  rw [show Try.prog.cellsOf 71 = 3 from by kernel_rfl] at hl
  match cs, hl with
  | [v0, v1, v2], _ =>
    have h0 := hf 0 _ rfl; have h1 := hf 1 _ rfl; have h2 := hf 2 _ rfl
    obtain ⟨a0, rfl, wf0⟩ := sees_int Try.underlying3 h0
    obtain ⟨a1, rfl, wf1⟩ := sees_int Try.underlying3 h1
    obtain ⟨a2, rfl, wf2⟩ := sees_int Try.underlying3 h2
    exact ⟨⟨a0, a1, a2⟩, rfl, i64P_of wf0, i64P_of wf1, i64P_of wf2⟩
theorem sees_parts {v : Value} (h : Sees enc Try.prog w 24 [v]) :
    ∃ (l : List PartD) (A : Option Addr) (n c : Nat), v = .slice A n c ∧ RdL partK w A n l ∧ n ≤ c ∧ c ≤ 9223372036854775807 := by
  obtain ⟨A, n, c, rfl, hnc, hc, hb, hel⟩ := sees_slice Try.underlying24 h
  rcases Nat.eq_zero_or_pos n with h0 | h0
  · subst h0
    exact ⟨[], A, 0, c, rfl, RdL.nil_ _ _ _, hnc, hc⟩
  · obtain ⟨a, rfl, hi⟩ := hel h0
    rw [show Try.prog.cellsOf 71 = 3 from by kernel_rfl] at hi
    have hQ : ∀ i, i < n → ∃ p : PartD, ∃ cs, w.cells? 0 (a.add (i * 3)) 3 = some cs ∧ partK.R w cs p := fun i hlt => by
      obtain ⟨cs, h1, h2⟩ := hi i hlt
      obtain ⟨p, hp⟩ := sees_part h2
      exact ⟨p, cs, h1, hp⟩
    obtain ⟨f, hf⟩ : ∃ f : Nat → PartD, ∀ i, i < n → ∃ cs, w.cells? 0 (a.add (i * 3)) 3 = some cs ∧ partK.R w cs (f i) :=
      ⟨fun i => if h : i < n then Classical.choose (hQ i h) else ⟨0, 0, 0⟩, fun i hi => by
        simp only [dif_pos hi]
        exact Classical.choose_spec (hQ i hi)⟩
    have hcell : ∀ i, i < n → ∃ cs, cs.length = 3 ∧ (∀ j u, cs[j]? = some u → w.cell? ((a.add (i * 3)).add j) = some u) ∧ partK.R w cs (f i) := fun i hlt => by
      obtain ⟨cs, h1, h2⟩ := hf i hlt
      obtain ⟨_, hcl, hat⟩ := World.cells?_some h1
      refine ⟨cs, hcl, fun j u hu => ?_, h2⟩
      obtain ⟨hj, rfl⟩ := List.getElem?_eq_some_iff.1 hu
      rw [hat j (by omega), hu]
    obtain ⟨cs0, hl0, hc0, hR0⟩ := hcell 0 h0
    obtain ⟨v0, hv0⟩ : ∃ v0, w.cell? ((a.add (0 * 3)).add 0) = some v0 := ⟨cs0[0]'(by omega), hc0 0 _ (List.getElem?_eq_getElem (by omega))⟩
    have hsp := World.cell?_spot hv0
    obtain ⟨b, off, spot⟩ := a
    have hs : spot = none := by simpa [Addr.add] using hsp
    subst hs
    refine ⟨(List.range n).map f, _, n, c, rfl, ⟨by simp, fun _ => ⟨b, off, rfl, by have := World.block_lt_of_cell? w _ hv0; simpa [Addr.add] using this, fun i x hx => ?_⟩⟩, hnc, hc⟩
    obtain ⟨hlt, rfl⟩ := List.getElem?_eq_some_iff.1 hx
    simp only [List.length_map, List.length_range] at hlt
    obtain ⟨cs, hl, hcj, hR⟩ := hcell i hlt
    refine ⟨cs, hl, fun j u hu => ?_, by simpa using hR⟩
    have := hcj j u hu
    rw [Addr.add_lit, add_off] at this
    rw [show off + (i * partK.k + j) = off + i * 3 + j by show off + (i * 3 + j) = _; omega]
    exact this
theorem sees_ask {cs : Array Value} (h : Sees enc Try.prog w 26 cs.toList) :
    ∃ (a : AskD) (s : AskS), cs = #[.int .i64 a.code, .int .i64 a.addr, .int .i64 a.count, .slice s.A1 s.n1 s.c1, .slice s.A2 s.n2 s.c2, .slice s.A3 s.n3 s.c3] ∧ AskRd w a s := by
  obtain ⟨hl, hf⟩ := sees_struct Try.underlying26 h
  rw [show Try.prog.cellsOf 26 = 6 from by kernel_rfl] at hl
  obtain ⟨l⟩ := cs
  match l, hl with
  | [v0, v1, v2, v3, v4, v5], _ =>
    have h0 := hf 0 _ rfl; have h1 := hf 1 _ rfl; have h2 := hf 2 _ rfl; have h3 := hf 3 _ rfl; have h4 := hf 4 _ rfl; have h5 := hf 5 _ rfl
    obtain ⟨a0, rfl, wf0⟩ := sees_int Try.underlying3 h0
    obtain ⟨a1, rfl, wf1⟩ := sees_int Try.underlying3 h1
    obtain ⟨a2, rfl, wf2⟩ := sees_int Try.underlying3 h2
    obtain ⟨l1, A1, n1, c1, rfl, hr1, hc1, hm1, _⟩ := sees_bos Try.underlying22 (by kernel_rfl) Try.underlying4 h3
    obtain ⟨l2, A2, n2, c2, rfl, hr2, hc2, hm2, _⟩ := sees_u16s Try.underlying23 (by kernel_rfl) Try.underlying67 h4
    obtain ⟨l3, A3, n3, c3, rfl, hr3, hc3, hm3⟩ := sees_parts h5
    exact ⟨⟨a0, a1, a2, l1, l2, l3⟩, ⟨A1, n1, c1, A2, n2, c2, A3, n3, c3⟩, rfl, ⟨hr1, hr2, hr3, i64P_of wf0, i64P_of wf1, i64P_of wf2, ⟨hc1, hm1⟩, ⟨hc2, hm2⟩, ⟨hc3, hm3⟩⟩⟩
end
end Go.Proofs.Ytcnjhjfepojdaaa
