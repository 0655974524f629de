/- How the arguments of a law are opened: plain lemmas, no program in sight. -/
import Derived.Test.YtcnjhjfepojdaaaBase
import Derived.ProofKit
import Derived.ShutString
import Derived.ChangeOld
import Derived.SizedLaws
import Derived.Deep.Slices
namespace Go.Out
set_option linter.unusedVariables false
open Go Go.RowKit Go.ChangeShapes Go.WideShapes Go.Deep

section
variable {H : Type} {enc : TypeId × Value → H} {P : Program} {w : World}

theorem open_row {t e : TypeId} {fuel : Nat} {A : Option Addr} {n c : Nat} {x : DataW H × List MemPlace} (ht : P.underlying t = some (.slice e)) (hC : P.cellsOf e = 1)
    (h : DataW.trod enc P w 0 (fun _ => true) true fuel t [.slice A n c] = some x) (p : Value → Prop)
    (hp : ∀ fuel v y, DataW.trod enc P w 0 (fun _ => true) true fuel e [v] = some y → p v) :
    ∃ xs, Rd w A n xs ∧ (∀ u ∈ xs, p u) ∧ n ≤ c ∧ c ≤ 9223372036854775807 ∧ (c = 0 ∨ ∃ el sp, x.1 = .slice el sp ∧ el.length + sp.length = c) := by
  rcases open_slice ht h with ⟨hcs, hx⟩ | ⟨a, len, cap, m, k, D, Pl, hcs, hb, hl, hm, hmm, hx, hi⟩
  · injection hcs with hcs _
    injection hcs with h1 h2 h3
    subst h1; subst h2; subst h3
    exact ⟨[], Rd.nil_ _, by simp, Nat.le_refl _, by omega, .inl rfl⟩
  · injection hcs with hcs _
    injection hcs with h1 h2 h3
    subst h1; subst h2; subst h3
    rw [if_pos rfl] at hmm
    subst hmm
    have hcell : ∀ i, i < m → ∃ v, w.cell? (a.add i) = some v ∧ p v := by
      intro i hlt
      obtain ⟨cs', hc, htr⟩ := hi i hlt
      rw [hC, Nat.mul_one] at hc
      obtain ⟨_, hcl, hat⟩ := World.cells?_some hc
      obtain ⟨v, rfl⟩ : ∃ v, cs' = [v] := by
        match cs', hcl with
        | [v], _ => exact ⟨v, rfl⟩
      refine ⟨v, ?_, hp _ _ _ htr⟩
      have := hat 0 (by omega)
      have h0 : (a.add i).add 0 = a.add i := by simp [Addr.add]
      rw [h0] at this
      simpa using this
    have hex : ∀ j : Nat, j ≤ m → ∃ xs : List Value, xs.length = j ∧ (∀ u ∈ xs, p u) ∧ ∀ i u, xs[i]? = some u → w.cell? (a.add i) = some u := by
      intro j
      induction j with
      | zero => intro _; exact ⟨[], rfl, by simp, by simp⟩
      | succ j ih =>
        intro hj
        obtain ⟨xs, hl, hpx, hc⟩ := ih (by omega)
        obtain ⟨v, hv, hpv⟩ := hcell j (by omega)
        refine ⟨xs ++ [v], by simp [hl], ?_, ?_⟩
        · intro u hu
          rcases List.mem_append.1 hu with hu | hu
          · exact hpx u hu
          · simp at hu; subst hu; exact hpv
        · intro i u hu
          rcases Nat.lt_or_ge i xs.length with hlt | hge
          · rw [List.getElem?_append_left hlt] at hu; exact hc i u hu
          · rw [List.getElem?_append_right hge] at hu
            have : i = j := by
              rcases Nat.eq_zero_or_pos (i - xs.length) with h0 | h0
              · omega
              · rw [List.getElem?_eq_none (by simp; omega)] at hu; cases hu
            subst this
            rw [show i - xs.length = 0 from by omega] at hu
            simp at hu; subst hu; exact hv
    obtain ⟨xs, hxl, hpx, hcx⟩ := hex n (by omega)
    refine ⟨xs, ⟨hxl, fun hn => ?_⟩, hpx, hl, by simpa [maxLen] using hm, .inr ⟨_, _, by rw [hx], by simp; omega⟩⟩
    obtain ⟨v, hv, _⟩ := hcell 0 (by omega)
    have hsp := World.cell?_spot hv
    obtain ⟨b, off, spot⟩ := a
    have hs : spot = none := by simpa [Addr.add] using hsp
    subst hs
    refine ⟨b, off, rfl, by have := World.block_lt_of_cell? w _ hv; simpa [Addr.add] using this, fun j u hu => ?_⟩
    have := hcx j u hu
    rwa [Addr.add_lit] at this

theorem open_u8s {t e : TypeId} {fuel : Nat} {A : Option Addr} {n c : Nat} {x : DataW H × List MemPlace} (ht : P.underlying t = some (.slice e)) (hC : P.cellsOf e = 1) (he : P.underlying e = some (.int .u8))
    (h : DataW.trod enc P w 0 (fun _ => true) true fuel t [.slice A n c] = some x) :
    ∃ l : List UInt8, Rd w A n (l.map cB) ∧ n ≤ c ∧ c ≤ 9223372036854775807 ∧ (c = 0 ∨ ∃ el sp, x.1 = .slice el sp ∧ el.length + sp.length = c) := by
  obtain ⟨xs, h1, h2, h3⟩ := open_row ht hC h IsU8 fun fuel v y hv => by
    obtain ⟨n, hn, rfl, wf⟩ := DataW.trod_int he hv
    have := bounds_u8 wf
    simp at hn; subst hn
    exact isU8_of this.1 this.2
  obtain ⟨l, rfl⟩ := all_u8 h2
  exact ⟨l, h1, h3⟩

theorem open_u16s {t e : TypeId} {fuel : Nat} {A : Option Addr} {n c : Nat} {x : DataW H × List MemPlace} (ht : P.underlying t = some (.slice e)) (hC : P.cellsOf e = 1) (he : P.underlying e = some (.int .u16))
    (h : DataW.trod enc P w 0 (fun _ => true) true fuel t [.slice A n c] = some x) :
    ∃ l : List UInt16, Rd w A n (l.map cW) ∧ n ≤ c ∧ c ≤ 9223372036854775807 ∧ (c = 0 ∨ ∃ el sp, x.1 = .slice el sp ∧ el.length + sp.length = c) := by
  obtain ⟨xs, h1, h2, h3⟩ := open_row ht hC h IsU16 fun fuel v y hv => by
    obtain ⟨n, hn, rfl, wf⟩ := DataW.trod_int he hv
    have := bounds_u16 wf
    simp at hn; subst hn
    exact isU16_of this.1 this.2
  obtain ⟨l, rfl⟩ := all_u16 h2
  exact ⟨l, h1, h3⟩

theorem open_bos {t e : TypeId} {fuel : Nat} {A : Option Addr} {n c : Nat} {x : DataW H × List MemPlace} (ht : P.underlying t = some (.slice e)) (hC : P.cellsOf e = 1) (he : P.underlying e = some .bool)
    (h : DataW.trod enc P w 0 (fun _ => true) true fuel t [.slice A n c] = some x) :
    ∃ l : List Bool, Rd w A n (l.map cL) ∧ n ≤ c ∧ c ≤ 9223372036854775807 ∧ (c = 0 ∨ ∃ el sp, x.1 = .slice el sp ∧ el.length + sp.length = c) := by
  obtain ⟨xs, h1, h2, h3⟩ := open_row ht hC h IsBo fun fuel v y hv => by
    obtain ⟨n, hn, rfl⟩ := DataW.trod_bool he hv
    simp at hn; subst hn
    exact ⟨n, rfl⟩
  obtain ⟨l, rfl⟩ := all_bo h2
  exact ⟨l, h1, h3⟩

/-- The form's own reach, of a slice that was opened. -/
theorem reach_of {ts : List TypeId} {ds : List (DataW H)} {c bytes : Nat} {d : DataW H} (h : (DataW.weightsEach P ts ds).all (· ≤ reachBytes) = true) {j : Nat} {t e : TypeId} (hj : ts[j]? = some t) (hd : ds[j]? = some d) (hu : P.underlying t = some (.slice e)) (hb : P.bytesOf e = bytes)
    (hx : c = 0 ∨ ∃ el sp, d = .slice el sp ∧ el.length + sp.length = c) : c * bytes ≤ 140737488351232 := by
  rcases hx with rfl | ⟨el, sp, rfl, hl⟩
  · omega
  · have := sized_slice h hj hd hu
    rw [hl, hb] at this
    simpa [reachBytes] using this
end
end Go.Out
