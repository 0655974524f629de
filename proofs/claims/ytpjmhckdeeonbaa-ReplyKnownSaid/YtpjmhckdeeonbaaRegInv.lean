/- A region that draws its order, walked by what holds of the operations that have come up so far: a law of no one program. -/
import Derived.Test.YtpjmhckdeeonbaaBase
namespace Go.Out
set_option linter.unusedVariables false
open Go

theorem all_listed {md : Region.Mode} {ops : Array Oper} {listed : Array Bool} (hsz : listed.size = ops.size) (hord : ∀ (i : Nat) (o : Oper), ops[i]? = some o → ∀ e ∈ o.after, e.on < i) (hr : Region.ready md ops listed = []) :
    ∀ i, i < ops.size → listed.getD i false = true := by
  intro i
  induction i using Nat.strongRecOn with
  | ind i ih =>
    intro hi
    cases hl : listed.getD i false with
    | true => rfl
    | false =>
      have hm : i ∈ Region.ready md ops listed := by
        refine mem_ready.2 ⟨?_, ops[i], Array.getElem?_eq_getElem hi, fun e he _ => ?_⟩
        · have hlt : i < listed.size := by omega
          simp [hlt] at hl ⊢
          exact hl
        · have hlt := hord i _ (Array.getElem?_eq_getElem hi) e he
          exact ih e.on hlt (by omega)
      rw [hr] at hm
      cases hm

theorem wpAny_inv {P : Program} {md : Region.Mode} {ops : Array Oper} {Q : Exit → Act → World → Prop} (Inv : Array Bool → Act → World → Prop)
    (hord : ∀ (i : Nat) (o : Oper), ops[i]? = some o → ∀ e ∈ o.after, e.on < i)
    (hstep : ∀ (listed : Array Bool) (a : Act) (w : World) (i : Nat) (o : Oper), ops[i]? = some o → (∀ e ∈ o.after, Region.binds md e = true → listed.getD e.on false = true) → Inv listed a w →
      Region.wanted o (yielded ops a.tmps) = true ∧ o.wp P a w (fun a' w' => Inv (listed.setIfInBounds i true) a' w') Q)
    (hdone : ∀ listed a w, (∀ i, i < ops.size → listed.getD i false = true) → Inv listed a w → Q .normal a w) :
    ∀ (fuel : Nat) (listed : Array Bool) (a : Act) (w : World), listed.size = ops.size → ops.size ≤ fuel + listed.toList.count true → Inv listed a w → wpAny P md ops Q fuel listed a w := by
  intro fuel
  induction fuel with
  | zero =>
    intro listed a w hsz hc hI
    have hall : ∀ i, i < ops.size → listed.getD i false = true := by
      intro i hi
      have hle : listed.toList.count true ≤ listed.toList.length := List.count_le_length
      have hlen : listed.toList.length = ops.size := by simpa using hsz
      have heq : listed.toList.count true = listed.toList.length := by omega
      have hb := List.count_eq_length.1 heq
      have hlt : i < listed.size := by omega
      have := hb listed[i] (by rw [Array.mem_toList_iff]; exact Array.getElem_mem hlt)
      simp [hlt]
      exact this.symm
    have hr : Region.ready md ops listed = [] := by
      cases hr : Region.ready md ops listed with
      | nil => rfl
      | cons j rs =>
        have hm : j ∈ Region.ready md ops listed := by rw [hr]; exact List.mem_cons_self
        obtain ⟨h0, o, ho, -⟩ := mem_ready.1 hm
        have hj : j < ops.size := (Array.getElem?_eq_some_iff.1 ho).1
        have h1 := hall j hj
        have hlt : j < listed.size := by omega
        simp [hlt] at h0 h1
        rw [h0] at h1; cases h1
    exact ⟨hr, hdone listed a w hall hI⟩
  | succ fuel ih =>
    intro listed a w hsz hc hI
    refine ⟨fun hr => hdone listed a w (all_listed hsz hord hr) hI, fun i hi => ?_⟩
    obtain ⟨h0, o, ho, hall⟩ := mem_ready.1 hi
    obtain ⟨hw, hwp⟩ := hstep listed a w i o ho hall hI
    unfold wpOp
    simp only [ho, hw, if_true]
    refine .inl (Oper.wp_mono (fun a' w' h' => ih _ a' w' (by simpa using hsz) ?_ h') hwp)
    have hi2 : i < ops.size := (Array.getElem?_eq_some_iff.1 ho).1
    have hlt : i < listed.toList.length := by simp; omega
    have hf : listed.toList[i] = false := by
      have hlt2 : i < listed.size := by simpa using hlt
      simp [hlt2] at h0
      simpa using h0
    rw [Array.toList_setIfInBounds, List.count_set hlt, hf]
    have he : (if (false == true) = true then 1 else 0) = 0 := by simp
    have he2 : (if (true == true) = true then 1 else 0) = 1 := by simp
    rw [he, he2]
    omega

theorem wp_region_inv {P : Program} {ops : Array Oper} {Q : Exit → Act → World → Prop} {id : Nat} {a : Act} {w : World} (Inv : Array Bool → Act → World → Prop) (hm : P.follows .mixedOrders = true)
    (hord : ∀ (i : Nat) (o : Oper), ops[i]? = some o → ∀ e ∈ o.after, e.on < i)
    (h0 : Inv (Array.replicate ops.size false) a w.drew)
    (hstep : ∀ (listed : Array Bool) (a : Act) (w : World) (i : Nat) (o : Oper), ops[i]? = some o → (∀ e ∈ o.after, Region.binds .any e = true → listed.getD e.on false = true) → Inv listed a w →
      Region.wanted o (yielded ops a.tmps) = true ∧ o.wp P a w (fun a' w' => Inv (listed.setIfInBounds i true) a' w') Q)
    (hdone : ∀ listed a w, (∀ i, i < ops.size → listed.getD i false = true) → Inv listed a w → Q .normal a w) : (Code.region id ops true).wp P Q a w :=
  wp_region_any hm (wpAny_inv Inv hord hstep hdone _ _ _ _ (by simp) (by omega) h0)
end Go.Out
