/- Chapter 18's examples: the walk of MasterKnown. (genmaskn.py prints this.) -/
import Derived.Test.YtomcipkmohhpjaaGreatMasRn
import Derived.Test.YtomcipkmohhpjaaGreatMasSi
import Derived.Test.YtomcipkmohhpjaaGreatMasAn
import Derived.Test.YtomcipkmohhpjaaGreatMasDf
namespace Go.Out
open Go Go.RowKit
set_option linter.unusedVariables false
theorem all_listed {md : Region.Mode} {ops : Array Oper} {listed : Array Bool} (hsz : listed.size = ops.size) (hord : ∀ (i : Nat) (o : Oper), ops[i]? = some o → ∀ e ∈ o.after, e.on < i) (hr : Region.ready md ops listed = []) :
    ∀ i, i < ops.size → listed.getD i false = true := by
  intro i
  induction i using Nat.strongRecOn with
  | ind i ih =>
    intro hi
    cases hl : listed.getD i false with
    | true => rfl
    | false =>
      have hm : i ∈ Region.ready md ops listed := by
        refine mem_ready.2 ⟨?_, ops[i], Array.getElem?_eq_getElem hi, fun e he _ => ?_⟩
        · have hlt : i < listed.size := by omega
          simp [hlt] at hl ⊢
          exact hl
        · have hlt := hord i _ (Array.getElem?_eq_getElem hi) e he
          exact ih e.on hlt (by omega)
      rw [hr] at hm
      cases hm

theorem wpAny_inv {P : Program} {md : Region.Mode} {ops : Array Oper} {Q : Exit → Act → World → Prop} (Inv : Array Bool → Act → World → Prop)
    (hord : ∀ (i : Nat) (o : Oper), ops[i]? = some o → ∀ e ∈ o.after, e.on < i)
    (hstep : ∀ (listed : Array Bool) (a : Act) (w : World) (i : Nat) (o : Oper), ops[i]? = some o → (∀ e ∈ o.after, Region.binds md e = true → listed.getD e.on false = true) → Inv listed a w →
      Region.wanted o (yielded ops a.tmps) = true ∧ o.wp P a w (fun a' w' => Inv (listed.setIfInBounds i true) a' w') Q)
    (hdone : ∀ listed a w, (∀ i, i < ops.size → listed.getD i false = true) → Inv listed a w → Q .normal a w) :
    ∀ (fuel : Nat) (listed : Array Bool) (a : Act) (w : World), listed.size = ops.size → ops.size ≤ fuel + listed.toList.count true → Inv listed a w → wpAny P md ops Q fuel listed a w := by
  intro fuel
  induction fuel with
  | zero =>
    intro listed a w hsz hc hI
    have hall : ∀ i, i < ops.size → listed.getD i false = true := by
      intro i hi
      have hle : listed.toList.count true ≤ listed.toList.length := List.count_le_length
      have hlen : listed.toList.length = ops.size := by simpa using hsz
      have heq : listed.toList.count true = listed.toList.length := by omega
      have hb := List.count_eq_length.1 heq
      have hlt : i < listed.size := by omega
      have := hb listed[i] (by rw [Array.mem_toList_iff]; exact Array.getElem_mem hlt)
      simp [hlt]
      exact this.symm
    have hr : Region.ready md ops listed = [] := by
      cases hr : Region.ready md ops listed with
      | nil => rfl
      | cons j rs =>
        have hm : j ∈ Region.ready md ops listed := by rw [hr]; exact List.mem_cons_self
        obtain ⟨h0, o, ho, -⟩ := mem_ready.1 hm
        have hj : j < ops.size := (Array.getElem?_eq_some_iff.1 ho).1
        have h1 := hall j hj
        have hlt : j < listed.size := by omega
        simp [hlt] at h0 h1
        rw [h0] at h1; cases h1
    exact ⟨hr, hdone listed a w hall hI⟩
  | succ fuel ih =>
    intro listed a w hsz hc hI
    refine ⟨fun hr => hdone listed a w (all_listed hsz hord hr) hI, fun i hi => ?_⟩
    obtain ⟨h0, o, ho, hall⟩ := mem_ready.1 hi
    obtain ⟨hw, hwp⟩ := hstep listed a w i o ho hall hI
    unfold wpOp
    simp only [ho, hw, if_true]
    refine .inl (Oper.wp_mono (fun a' w' h' => ih _ a' w' (by simpa using hsz) ?_ h') hwp)
    have hi2 : i < ops.size := (Array.getElem?_eq_some_iff.1 ho).1
    have hlt : i < listed.toList.length := by simp; omega
    have hf : listed.toList[i] = false := by
      have hlt2 : i < listed.size := by simpa using hlt
      simp [hlt2] at h0
      simpa using h0
    rw [Array.toList_setIfInBounds, List.count_set hlt, hf]
    have he : (if (false == true) = true then 1 else 0) = 0 := by simp
    have he2 : (if (true == true) = true then 1 else 0) = 1 := by simp
    rw [he, he2]
    omega

theorem wp_region_inv {P : Program} {ops : Array Oper} {Q : Exit → Act → World → Prop} {id : Nat} {a : Act} {w : World} (Inv : Array Bool → Act → World → Prop) (hm : P.follows .mixedOrders = true)
    (hord : ∀ (i : Nat) (o : Oper), ops[i]? = some o → ∀ e ∈ o.after, e.on < i)
    (h0 : Inv (Array.replicate ops.size false) a w.drew)
    (hstep : ∀ (listed : Array Bool) (a : Act) (w : World) (i : Nat) (o : Oper), ops[i]? = some o → (∀ e ∈ o.after, Region.binds .any e = true → listed.getD e.on false = true) → Inv listed a w →
      Region.wanted o (yielded ops a.tmps) = true ∧ o.wp P a w (fun a' w' => Inv (listed.setIfInBounds i true) a' w') Q)
    (hdone : ∀ listed a w, (∀ i, i < ops.size → listed.getD i false = true) → Inv listed a w → Q .normal a w) : (Code.region id ops true).wp P Q a w :=
  wp_region_any hm (wpAny_inv Inv hord hstep hdone _ _ _ _ (by simp) (by omega) h0)
theorem lst_of_heap {α : Type} (K : Kind α) (W : World) (g n : Nat) (cur : Array Value) (t : TypeId) (hh : W.heap[g]? = some (.cells cur t (0, 0))) (hs : cur.size = n * K.k)
    (h : ∀ i, i < n → ∃ x, K.R W ((cur.toList.drop (i * K.k)).take K.k) x) : ∃ l, RdL K W (some ⟨g, 0, none⟩) n l := by
  have hex : ∀ m, m ≤ n → ∃ l : List α, l.length = m ∧ ∀ i x, l[i]? = some x → K.R W ((cur.toList.drop (i * K.k)).take K.k) x := by
    intro m
    induction m with
    | zero => intro _; exact ⟨[], rfl, by simp⟩
    | succ m ih =>
      intro hm
      obtain ⟨l, hl, hx⟩ := ih (by omega)
      obtain ⟨x, hxx⟩ := h m (by omega)
      refine ⟨l ++ [x], by simp [hl], fun i y hy => ?_⟩
      rcases Nat.lt_or_ge i l.length with hlt | hge
      · rw [List.getElem?_append_left hlt] at hy; exact hx i y hy
      · rw [List.getElem?_append_right hge] at hy
        rcases Nat.eq_zero_or_pos (i - l.length) with h0 | h0
        · rw [h0] at hy
          simp only [List.getElem?_cons_zero, Option.some.injEq] at hy
          subst hy
          rw [show i = m by omega]; exact hxx
        · rw [List.getElem?_eq_none (by simp; omega)] at hy; cases hy
  obtain ⟨l, hl, hx⟩ := hex n (Nat.le_refl _)
  refine ⟨l, hl, fun hn => ⟨g, 0, rfl, lt_of_heap hh, fun i x hi => ⟨_, ?_, ?_, hx i x hi⟩⟩⟩
  · have hlt := (List.getElem?_eq_some_iff.1 hi).1
    have hle : (i + 1) * K.k ≤ n * K.k := Nat.mul_le_mul_right _ (by omega)
    rw [Nat.succ_mul] at hle
    simp only [List.length_take, List.length_drop, Array.length_toList, hs]
    omega
  · intro j u hu
    rw [List.getElem?_take] at hu
    split at hu
    · rw [List.getElem?_drop, Array.getElem?_toList] at hu
      rw [cell_of_row _ _ _ _ _ _ hh, Nat.zero_add]; exact hu
    · cases hu
def nKn : List Int := [-9223372036854775808, -1, 0, 1, 2, 3, 5, 6, 247, 248, 1048575, 1048576, 1048577, 1099511627775, 1099511627776, 1099511627777, 9223372036854775807]
def zof (l : List Value) : Nat → Value := fun j => l.getD j undef
end Go.Out
namespace Go.Proofs.YtomcipkmohhpjaaGreat
set_option linter.unusedVariables false
set_option linter.unusedSimpArgs false
set_option maxRecDepth 100000
set_option maxHeartbeats 4000000
open Go Go.RowKit Go.Out

def kupd (u : Nat → Value) (d : Nat) (v : Value) : Nat → Value := fun j => if j = d then v else u j
theorem kupd_at (u : Nat → Value) (d : Nat) (v : Value) : kupd u d v d = v := by simp [kupd]
theorem kupd_ne (u : Nat → Value) {d j : Nat} (v : Value) (h : j ≠ d) : kupd u d v j = u j := by simp [kupd, h]
theorem kedge {o : Oper} {listed : Array Bool} (hall : ∀ e ∈ o.after, Region.binds .any e = true → listed.getD e.on false = true) (k : Nat) (hk : (o.after.any fun e => Region.binds .any e && e.on == k) = true) : listed.getD k false = true := by
  obtain ⟨e, he, hb⟩ := Array.any_eq_true'.1 hk
  simp only [Bool.and_eq_true, beq_iff_eq] at hb
  rw [← hb.2]
  exact hall e he hb.1
theorem kwp_val {P : Program} {o : Oper} {a : Act} {w w' : World} {K : Act → World → Prop} {Q : Exit → Act → World → Prop} {v : Value} {d : Nat} (hd : o.dst = some d) (hr : (execOp a.eval o).run P w = .ok (.value v) w') (h : K (a.put (some d) v) w') : o.wp P a w K Q := by
  unfold Oper.wp
  rw [hr]
  show K (a.put o.dst v) w'
  rw [hd]; exact h
theorem krun_v {P : Program} {s : Sem Value} {w w' : World} {x : Value} (h : s.run P w = .ok x w') : ((do pure (.value (← s)) : Sem Next)).run P w = .ok (.value x) w' := by
  simp [h]
theorem kord {ops : Array Oper} (h : ((List.range ops.size).all fun i => ((ops[i]?).map fun o => o.after.all fun e => decide (e.on < i)).getD true) = true) : ∀ (i : Nat) (o : Oper), ops[i]? = some o → ∀ e ∈ o.after, e.on < i := by
  intro i o ho e he
  have hi : i < ops.size := (Array.getElem?_eq_some_iff.1 ho).1
  have h1 := List.all_eq_true.1 h i (List.mem_range.2 hi)
  rw [ho] at h1
  simp only [Option.map_some, Option.getD_some] at h1
  have h2 := Array.all_eq_true_iff_forall_mem.1 h1 e he
  simpa using h2
theorem kin {o o' : Oper} (h : some o = some o') : o = o' := Option.some.inj h
theorem kwp_call {P : Program} {o : Oper} {a : Act} {w : World} {K : Act → World → Prop} {Q : Exit → Act → World → Prop} {f : FuncId} {args : Array Value} {v : Value} {d : Nat} (hd : o.dst = some d) (hr : (execOp a.eval o).run P w = .ok (.enter f args) w)
    (hc : Calls P f args w (fun e w' => e = .returned v ∧ Ext w w')) (h : ∀ w', Ext w w' → K (a.put (some d) v) w') : o.wp P a w K Q := by
  unfold Oper.wp
  rw [hr]
  rw [Oper.upon_enter]
  refine hc.mono ?_
  rintro e w' ⟨rfl, hx⟩
  rw [hd]
  exact h w' hx
theorem ask_nil (W : World) (c n : Int) (h : 0 ≤ c ∧ c ≤ 100 ∧ 0 ≤ n ∧ n ≤ 100) : AskRd W ⟨c, 0, n, [], [], []⟩ askS0 := ⟨Rd.nil_ _, Rd.nil_ _, RdL.nil_ _ _ _, by unfold i64P; simp only; omega, by unfold i64P; simp, by unfold i64P; simp only; omega, ⟨Nat.le_refl _, Nat.zero_le _⟩, ⟨Nat.le_refl _, Nat.zero_le _⟩, ⟨Nat.le_refl _, Nat.zero_le _⟩⟩
theorem rep_nil (W : World) (e : Int) (h : 0 ≤ e ∧ e ≤ 100) : RepRd W ⟨e, [], [], []⟩ repS0 := ⟨Rd.nil_ _, Rd.nil_ _, RdL.nil_ _ _ _, by unfold i64P; simp only; omega, ⟨Nat.le_refl _, Nat.zero_le _⟩, ⟨Nat.le_refl _, Nat.zero_le _⟩, ⟨Nat.le_refl _, Nat.zero_le _⟩⟩
theorem rep_word {W : World} {g : Nat} (h : Rd W (some ⟨g, 0, none⟩) 1 (([7] : List UInt16).map cW)) : RepRd W ⟨0, [], [7], []⟩ ⟨none, 0, 0, some ⟨g, 0, none⟩, 1, 1, none, 0, 0⟩ := ⟨Rd.nil_ _, h, RdL.nil_ _ _ _, by unfold i64P; simp, ⟨Nat.le_refl _, Nat.zero_le _⟩, ⟨Nat.le_refl _, by simp⟩, ⟨Nat.le_refl _, Nat.zero_le _⟩⟩

def kA (q a b : Nat) (z u : Nat → Value) : Act := ⟨#[z 0, .slice (some ⟨q, 0, none⟩) 17 17, .pointer (some ⟨q + 1, 0, none⟩), .pointer (some ⟨q + 3, 0, none⟩), .int .i64 (a : Int), .int .i64 (b : Int), u 6, z 7, z 8, z 9, z 10, z 11, z 12, z 13, z 14, z 15, z 16, z 17, z 18, z 19, z 20, z 21, z 22, u 23, u 24, u 25, u 26, u 27, u 28, u 29, u 30, u 31, u 32, u 33, u 34, u 35, u 36, u 37, u 38, u 39, u 40, u 41, u 42, u 43, u 44, u 45, u 46, u 47, u 48, u 49, u 50, u 51, u 52, u 53, u 54, u 55, u 56, u 57, u 58, u 59, u 60, u 61, u 62, u 63, u 64, u 65, u 66, u 67, u 68, u 69, u 70, u 71, z 72, z 73, z 74, z 75, z 76, z 77, z 78, z 79, z 80, z 81, z 82, z 83, z 84, z 85, z 86, z 87, z 88, z 89, z 90, z 91, z 92, z 93, z 94, z 95, z 96, z 97, z 98, z 99, z 100, z 101, z 102, z 103, z 104, z 105, z 106], []⟩
def rowA (q : Nat) (x y : Int) (g : Nat) : Array Value := #[.int .i64 2, .int .i64 x, .int .i64 0, .int .i64 0, .int .i64 0, .int .i64 0, .slice none 0 0, .slice none 0 0, .slice none 0 0, .int .i64 0, .slice none 0 0, .slice none 0 0, .slice none 0 0, .slice none 0 0, .int .i64 0, .int .i64 x, .int .i64 y, .int .i64 3, .int .i64 0, .int .i64 1, .slice none 0 0, .slice none 0 0, .slice none 0 0, .int .i64 0, .slice none 0 0, .slice none 0 0, .slice none 0 0, .slice none 0 0, .int .i64 0, .int .i64 y, .int .i64 1, .int .i64 3, .int .i64 0, .int .i64 1, .slice none 0 0, .slice none 0 0, .slice none 0 0, .int .i64 0, .slice none 0 0, .slice none 0 0, .slice none 0 0, .slice none 0 0, .int .i64 0, .int .i64 10, .int .i64 1, .int .i64 7, .int .i64 0, .int .i64 0, .slice none 0 0, .slice none 0 0, .slice none 0 0, .int .i64 0, .slice none 0 0, .slice none 0 0, .slice none 0 0, .slice none 0 0, .int .i64 0, .int .i64 10, .int .i64 1, .int .i64 3, .int .i64 0, .int .i64 1, .slice none 0 0, .slice none 0 0, .slice none 0 0, .int .i64 0, .slice none 0 0, .slice none 0 0, .slice none 0 0, .slice none 0 0, .int .i64 2, .int .i64 x, .int .i64 0, .int .i64 0, .int .i64 0, .int .i64 0, .slice none 0 0, .slice none 0 0, .slice none 0 0, .int .i64 0, .slice none 0 0, .slice none 0 0, .slice none 0 0, .slice none 0 0, .int .i64 2, .int .i64 y, .int .i64 0, .int .i64 0, .int .i64 0, .int .i64 0, .slice none 0 0, .slice none 0 0, .slice none 0 0, .int .i64 0, .slice none 0 0, .slice none 0 0, .slice none 0 0, .slice none 0 0, .int .i64 2, .int .i64 1099511627776, .int .i64 0, .int .i64 0, .int .i64 0, .int .i64 0, .slice none 0 0, .slice none 0 0, .slice none 0 0, .int .i64 0, .slice none 0 0, .slice none 0 0, .slice none 0 0, .slice none 0 0, .int .i64 3, .int .i64 0, .int .i64 0, .int .i64 0, .int .i64 0, .int .i64 0, .slice none 0 0, .slice none 0 0, .slice none 0 0, .int .i64 0, .slice none 0 0, .slice (some ⟨q + 2, 0, none⟩) 1 1, .slice none 0 0, .slice (some ⟨g, 0, none⟩) 1 1, .int .i64 3, .int .i64 0, .int .i64 0, .int .i64 0, .int .i64 0, .int .i64 0, .slice none 0 0, .slice none 0 0, .slice none 0 0, .int .i64 2, .slice none 0 0, .slice none 0 0, .slice none 0 0, .slice none 0 0, .int .i64 0, .int .i64 20, .int .i64 1, .int .i64 3, .int .i64 0, .int .i64 1, .slice none 0 0, .slice none 0 0, .slice none 0 0, .int .i64 0, .slice none 0 0, .slice none 0 0, .slice none 0 0, .slice none 0 0, .int .i64 3, .int .i64 0, .int .i64 0, .int .i64 0, .int .i64 0, .int .i64 0, .slice none 0 0, .slice none 0 0, .slice none 0 0, .int .i64 0, .slice none 0 0, .slice (some ⟨q + 2, 0, none⟩) 1 1, .slice none 0 0, .slice none 0 0, .int .i64 3, .int .i64 0, .int .i64 0, .int .i64 0, .int .i64 0, .int .i64 0, .slice none 0 0, .slice none 0 0, .slice none 0 0, .int .i64 0, .slice none 0 0, .slice (some ⟨q + 2, 0, none⟩) 1 1, .slice none 0 0, .slice none 0 0, .int .i64 1, .int .i64 0, .int .i64 0, .int .i64 0, .int .i64 0, .int .i64 0, .slice none 0 0, .slice none 0 0, .slice none 0 0, .int .i64 0, .slice none 0 0, .slice none 0 0, .slice none 0 0, .slice none 0 0]
def kADS (i : Nat) : Nat := if i = 49 then 6 else 23 + i
def IsU8g (w : World) (n : Nat) (l : List UInt8) (v : Value) : Prop := ∃ g : Nat, v = .slice (some ⟨g, 0, none⟩) n n ∧ Rd w (some ⟨g, 0, none⟩) n (l.map cB)
def IsOpg (q : Nat) (w : World) (v : Value) : Prop := ∃ g : Nat, v = .agg #[.int .i64 3, .int .i64 0, .int .i64 0, .int .i64 0, .int .i64 0, .int .i64 0, .slice none 0 0, .slice none 0 0, .slice none 0 0, .int .i64 0, .slice none 0 0, .slice (some ⟨q + 2, 0, none⟩) 1 1, .slice none 0 0, .slice (some ⟨g, 0, none⟩) 1 1] ∧ Rd w (some ⟨g, 0, none⟩) 1 (([3] : List UInt8).map cB)
def IsTab14 (w : World) (v : Value) : Prop := ∃ (g : Nat) (l : List Op18), v = .slice (some ⟨g, 0, none⟩) 14 14 ∧ RdL op18K w (some ⟨g, 0, none⟩) 14 l
def kAG (q a b : Nat) (x y : Int) (u : Nat → Value) (w : World) : Nat → Prop
  | 0 => u 23 = .slice (some ⟨q, 0, none⟩) 17 17
  | 1 => u 24 = .int .i64 (a : Int)
  | 2 => u 25 = .pointer (some ⟨q, a, none⟩)
  | 3 => u 26 = .int .i64 x
  | 4 => u 27 = .agg #[.int .i64 2, .int .i64 x, .int .i64 0, .int .i64 0, .int .i64 0, .int .i64 0, .slice none 0 0, .slice none 0 0, .slice none 0 0, .int .i64 0, .slice none 0 0, .slice none 0 0, .slice none 0 0, .slice none 0 0]
  | 5 => u 28 = .slice (some ⟨q, 0, none⟩) 17 17
  | 6 => u 29 = .int .i64 (a : Int)
  | 7 => u 30 = .pointer (some ⟨q, a, none⟩)
  | 8 => u 31 = .int .i64 x
  | 9 => u 32 = .slice (some ⟨q, 0, none⟩) 17 17
  | 10 => u 33 = .int .i64 (b : Int)
  | 11 => u 34 = .pointer (some ⟨q, b, none⟩)
  | 12 => u 35 = .int .i64 y
  | 13 => u 36 = .agg #[.int .i64 3, .int .i64 0, .int .i64 1, .slice none 0 0, .slice none 0 0, .slice none 0 0]
  | 14 => u 37 = .agg #[.int .i64 0, .int .i64 x, .int .i64 y, .int .i64 3, .int .i64 0, .int .i64 1, .slice none 0 0, .slice none 0 0, .slice none 0 0, .int .i64 0, .slice none 0 0, .slice none 0 0, .slice none 0 0, .slice none 0 0]
  | 15 => u 38 = .slice (some ⟨q, 0, none⟩) 17 17
  | 16 => u 39 = .int .i64 (b : Int)
  | 17 => u 40 = .pointer (some ⟨q, b, none⟩)
  | 18 => u 41 = .int .i64 y
  | 19 => u 42 = .agg #[.int .i64 3, .int .i64 0, .int .i64 1, .slice none 0 0, .slice none 0 0, .slice none 0 0]
  | 20 => u 43 = .agg #[.int .i64 0, .int .i64 y, .int .i64 1, .int .i64 3, .int .i64 0, .int .i64 1, .slice none 0 0, .slice none 0 0, .slice none 0 0, .int .i64 0, .slice none 0 0, .slice none 0 0, .slice none 0 0, .slice none 0 0]
  | 21 => u 44 = .agg #[.int .i64 7, .int .i64 0, .int .i64 0, .slice none 0 0, .slice none 0 0, .slice none 0 0]
  | 22 => u 45 = .agg #[.int .i64 0, .int .i64 10, .int .i64 1, .int .i64 7, .int .i64 0, .int .i64 0, .slice none 0 0, .slice none 0 0, .slice none 0 0, .int .i64 0, .slice none 0 0, .slice none 0 0, .slice none 0 0, .slice none 0 0]
  | 23 => u 46 = .agg #[.int .i64 3, .int .i64 0, .int .i64 1, .slice none 0 0, .slice none 0 0, .slice none 0 0]
  | 24 => u 47 = .agg #[.int .i64 0, .int .i64 10, .int .i64 1, .int .i64 3, .int .i64 0, .int .i64 1, .slice none 0 0, .slice none 0 0, .slice none 0 0, .int .i64 0, .slice none 0 0, .slice none 0 0, .slice none 0 0, .slice none 0 0]
  | 25 => u 48 = .slice (some ⟨q, 0, none⟩) 17 17
  | 26 => u 49 = .int .i64 (a : Int)
  | 27 => u 50 = .pointer (some ⟨q, a, none⟩)
  | 28 => u 51 = .int .i64 x
  | 29 => u 52 = .agg #[.int .i64 2, .int .i64 x, .int .i64 0, .int .i64 0, .int .i64 0, .int .i64 0, .slice none 0 0, .slice none 0 0, .slice none 0 0, .int .i64 0, .slice none 0 0, .slice none 0 0, .slice none 0 0, .slice none 0 0]
  | 30 => u 53 = .slice (some ⟨q, 0, none⟩) 17 17
  | 31 => u 54 = .int .i64 (b : Int)
  | 32 => u 55 = .pointer (some ⟨q, b, none⟩)
  | 33 => u 56 = .int .i64 y
  | 34 => u 57 = .agg #[.int .i64 2, .int .i64 y, .int .i64 0, .int .i64 0, .int .i64 0, .int .i64 0, .slice none 0 0, .slice none 0 0, .slice none 0 0, .int .i64 0, .slice none 0 0, .slice none 0 0, .slice none 0 0, .slice none 0 0]
  | 35 => u 58 = .agg #[.int .i64 2, .int .i64 1099511627776, .int .i64 0, .int .i64 0, .int .i64 0, .int .i64 0, .slice none 0 0, .slice none 0 0, .slice none 0 0, .int .i64 0, .slice none 0 0, .slice none 0 0, .slice none 0 0, .slice none 0 0]
  | 36 => u 59 = .agg #[.int .i64 0, .slice none 0 0, .slice (some ⟨q + 2, 0, none⟩) 1 1, .slice none 0 0]
  | 37 => IsU8g w 1 [3] (u 60)
  | 38 => IsOpg q w (u 61)
  | 39 => u 62 = .agg #[.int .i64 2, .slice none 0 0, .slice none 0 0, .slice none 0 0]
  | 40 => u 63 = .agg #[.int .i64 3, .int .i64 0, .int .i64 0, .int .i64 0, .int .i64 0, .int .i64 0, .slice none 0 0, .slice none 0 0, .slice none 0 0, .int .i64 2, .slice none 0 0, .slice none 0 0, .slice none 0 0, .slice none 0 0]
  | 41 => u 64 = .agg #[.int .i64 3, .int .i64 0, .int .i64 1, .slice none 0 0, .slice none 0 0, .slice none 0 0]
  | 42 => u 65 = .agg #[.int .i64 0, .int .i64 20, .int .i64 1, .int .i64 3, .int .i64 0, .int .i64 1, .slice none 0 0, .slice none 0 0, .slice none 0 0, .int .i64 0, .slice none 0 0, .slice none 0 0, .slice none 0 0, .slice none 0 0]
  | 43 => u 66 = .agg #[.int .i64 0, .slice none 0 0, .slice (some ⟨q + 2, 0, none⟩) 1 1, .slice none 0 0]
  | 44 => u 67 = .agg #[.int .i64 3, .int .i64 0, .int .i64 0, .int .i64 0, .int .i64 0, .int .i64 0, .slice none 0 0, .slice none 0 0, .slice none 0 0, .int .i64 0, .slice none 0 0, .slice (some ⟨q + 2, 0, none⟩) 1 1, .slice none 0 0, .slice none 0 0]
  | 45 => u 68 = .agg #[.int .i64 0, .slice none 0 0, .slice (some ⟨q + 2, 0, none⟩) 1 1, .slice none 0 0]
  | 46 => u 69 = .agg #[.int .i64 3, .int .i64 0, .int .i64 0, .int .i64 0, .int .i64 0, .int .i64 0, .slice none 0 0, .slice none 0 0, .slice none 0 0, .int .i64 0, .slice none 0 0, .slice (some ⟨q + 2, 0, none⟩) 1 1, .slice none 0 0, .slice none 0 0]
  | 47 => u 70 = .agg #[.int .i64 1, .int .i64 0, .int .i64 0, .int .i64 0, .int .i64 0, .int .i64 0, .slice none 0 0, .slice none 0 0, .slice none 0 0, .int .i64 0, .slice none 0 0, .slice none 0 0, .slice none 0 0, .slice none 0 0]
  | 48 => IsTab14 w (u 71)
  | 49 => IsTab14 w (u 6)
  | _ => True
theorem IsU8g.ext {w w' : World} {n : Nat} {l : List UInt8} {v : Value} (h : IsU8g w n l v) (hx : Ext w w') : IsU8g w' n l v := by obtain ⟨g, h1, h2⟩ := h; exact ⟨g, h1, h2.ext hx⟩
theorem IsOpg.ext {q : Nat} {w w' : World} {v : Value} (h : IsOpg q w v) (hx : Ext w w') : IsOpg q w' v := by obtain ⟨g, h1, h2⟩ := h; exact ⟨g, h1, h2.ext hx⟩
theorem IsTab14.ext {w w' : World} {v : Value} (h : IsTab14 w v) (hx : Ext w w') : IsTab14 w' v := by obtain ⟨g, l, h1, h2⟩ := h; exact ⟨g, l, h1, h2.ext hx⟩
theorem kAG_mono {q a b : Nat} {x y : Int} {u u' : Nat → Value} {w w' : World} {j : Nat} (hj : j < 50) (hu : u' (kADS j) = u (kADS j)) (hx : Ext w w') (h : kAG q a b x y u w j) : kAG q a b x y u' w' j := by
  match j, hj with
  | 0, _ => exact (show u' 23 = u 23 from hu).trans h
  | 1, _ => exact (show u' 24 = u 24 from hu).trans h
  | 2, _ => exact (show u' 25 = u 25 from hu).trans h
  | 3, _ => exact (show u' 26 = u 26 from hu).trans h
  | 4, _ => exact (show u' 27 = u 27 from hu).trans h
  | 5, _ => exact (show u' 28 = u 28 from hu).trans h
  | 6, _ => exact (show u' 29 = u 29 from hu).trans h
  | 7, _ => exact (show u' 30 = u 30 from hu).trans h
  | 8, _ => exact (show u' 31 = u 31 from hu).trans h
  | 9, _ => exact (show u' 32 = u 32 from hu).trans h
  | 10, _ => exact (show u' 33 = u 33 from hu).trans h
  | 11, _ => exact (show u' 34 = u 34 from hu).trans h
  | 12, _ => exact (show u' 35 = u 35 from hu).trans h
  | 13, _ => exact (show u' 36 = u 36 from hu).trans h
  | 14, _ => exact (show u' 37 = u 37 from hu).trans h
  | 15, _ => exact (show u' 38 = u 38 from hu).trans h
  | 16, _ => exact (show u' 39 = u 39 from hu).trans h
  | 17, _ => exact (show u' 40 = u 40 from hu).trans h
  | 18, _ => exact (show u' 41 = u 41 from hu).trans h
  | 19, _ => exact (show u' 42 = u 42 from hu).trans h
  | 20, _ => exact (show u' 43 = u 43 from hu).trans h
  | 21, _ => exact (show u' 44 = u 44 from hu).trans h
  | 22, _ => exact (show u' 45 = u 45 from hu).trans h
  | 23, _ => exact (show u' 46 = u 46 from hu).trans h
  | 24, _ => exact (show u' 47 = u 47 from hu).trans h
  | 25, _ => exact (show u' 48 = u 48 from hu).trans h
  | 26, _ => exact (show u' 49 = u 49 from hu).trans h
  | 27, _ => exact (show u' 50 = u 50 from hu).trans h
  | 28, _ => exact (show u' 51 = u 51 from hu).trans h
  | 29, _ => exact (show u' 52 = u 52 from hu).trans h
  | 30, _ => exact (show u' 53 = u 53 from hu).trans h
  | 31, _ => exact (show u' 54 = u 54 from hu).trans h
  | 32, _ => exact (show u' 55 = u 55 from hu).trans h
  | 33, _ => exact (show u' 56 = u 56 from hu).trans h
  | 34, _ => exact (show u' 57 = u 57 from hu).trans h
  | 35, _ => exact (show u' 58 = u 58 from hu).trans h
  | 36, _ => exact (show u' 59 = u 59 from hu).trans h
  | 37, _ => show IsU8g w' 1 [3] (u' 60); rw [show u' 60 = u 60 from hu]; exact IsU8g.ext h hx
  | 38, _ => show IsOpg q w' (u' 61); rw [show u' 61 = u 61 from hu]; exact IsOpg.ext h hx
  | 39, _ => exact (show u' 62 = u 62 from hu).trans h
  | 40, _ => exact (show u' 63 = u 63 from hu).trans h
  | 41, _ => exact (show u' 64 = u 64 from hu).trans h
  | 42, _ => exact (show u' 65 = u 65 from hu).trans h
  | 43, _ => exact (show u' 66 = u 66 from hu).trans h
  | 44, _ => exact (show u' 67 = u 67 from hu).trans h
  | 45, _ => exact (show u' 68 = u 68 from hu).trans h
  | 46, _ => exact (show u' 69 = u 69 from hu).trans h
  | 47, _ => exact (show u' 70 = u 70 from hu).trans h
  | 48, _ => show IsTab14 w' (u' 71); rw [show u' 71 = u 71 from hu]; exact IsTab14.ext h hx
  | 49, _ => show IsTab14 w' (u' 6); rw [show u' 6 = u 6 from hu]; exact IsTab14.ext h hx
  | n + 50, h => exact absurd h (by omega)
def kAInv (q a b : Nat) (x y : Int) (z : Nat → Value) (w0 : World) (listed : Array Bool) (t : Act) (w : World) : Prop := ∃ u, t = kA q a b z u ∧ Ext w0 w ∧ ∀ i, i < 50 → listed.getD i false = true → kAG q a b x y u w i
theorem kA_step {q a b : Nat} {x y : Int} {z : Nat → Value} {w0 w w' : World} {listed : Array Bool} {u : Nat → Value} {i : Nat} {v : Value} (hi : i < 50) (h0 : Ext w0 w) (hG : ∀ j, j < 50 → listed.getD j false = true → kAG q a b x y u w j) (hx : Ext w w') (h : kAG q a b x y (kupd u (kADS i) v) w' i) :
    kAInv q a b x y z w0 (listed.setIfInBounds i true) (kA q a b z (kupd u (kADS i) v)) w' := by
  refine ⟨_, rfl, h0.trans hx, fun j hj hl => ?_⟩
  by_cases hji : j = i
  · subst hji; exact h
  · rw [getD_set_ne false (Ne.symm hji)] at hl
    refine kAG_mono hj (kupd_ne _ _ ?_) hx (hG j hj hl)
    unfold kADS
    split <;> split <;> omega
theorem kA_val {q a b : Nat} {x y : Int} {P : Program} {o : Oper} {Q : Exit → Act → World → Prop} {z : Nat → Value} {w0 w w' : World} {listed : Array Bool} {u : Nat → Value} (i d : Nat) (v : Value) (hd : o.dst = some d) (hds : kADS i = d) (hrun : (execOp (kA q a b z u).eval o).run P w = .ok (.value v) w')
    (hput : (kA q a b z u).put (some d) v = kA q a b z (kupd u d v)) (hi : i < 50) (h0 : Ext w0 w) (hG : ∀ j, j < 50 → listed.getD j false = true → kAG q a b x y u w j) (hx : Ext w w') (hg : kAG q a b x y (kupd u d v) w' i) : o.wp P (kA q a b z u) w (fun a' w' => kAInv q a b x y z w0 (listed.setIfInBounds i true) a' w') Q := by
  subst hds
  refine kwp_val hd hrun ?_
  rw [hput]
  exact kA_step hi h0 hG hx hg
theorem kA_call {q a b : Nat} {x y : Int} {P : Program} {o : Oper} {Q : Exit → Act → World → Prop} {z : Nat → Value} {w0 w : World} {listed : Array Bool} {u : Nat → Value} {f : FuncId} {args : Array Value} (i d : Nat) (v : Value) (hd : o.dst = some d) (hds : kADS i = d) (hrun : (execOp (kA q a b z u).eval o).run P w = .ok (.enter f args) w)
    (hput : (kA q a b z u).put (some d) v = kA q a b z (kupd u d v)) (hi : i < 50) (h0 : Ext w0 w) (hG : ∀ j, j < 50 → listed.getD j false = true → kAG q a b x y u w j) (hc : Calls P f args w (fun e w' => e = .returned v ∧ Ext w w')) (hg : ∀ w', kAG q a b x y (kupd u d v) w' i) : o.wp P (kA q a b z u) w (fun a' w' => kAInv q a b x y z w0 (listed.setIfInBounds i true) a' w') Q := by
  subst hds
  refine kwp_call hd hrun hc fun w' hx => ?_
  rw [hput]
  exact kA_step hi h0 hG hx (hg w')
theorem none50 : ∀ i, i < 50 → (Array.replicate 50 false).getD i false = false := by decide

structure KnW (q : Nat) (w : World) : Prop where
  n : ∀ a, a < 17 → w.cell? ⟨q, a, none⟩ = some (.int .i64 (nKn.getD a 0))
  e : w.heap[q + 1]? = some (.cells #[.int .i64 2, .slice none 0 0, .slice none 0 0, .slice none 0 0] 40 (0, 0))
  s : Rd w (some ⟨q + 2, 0, none⟩) 1 (([7] : List UInt16).map cW)
  r : w.heap[q + 3]? = some (.cells #[.int .i64 0, .slice none 0 0, .slice (some ⟨q + 2, 0, none⟩) 1 1, .slice none 0 0] 40 (0, 0))
  l : q < w.heap.size
theorem KnW.ext {q : Nat} {w w' : World} (h : KnW q w) (hx : Ext w w') : KnW q w' := ⟨fun a ha => hx.cell h.l (h.n a ha), hx.block h.e, h.s.ext hx, hx.block h.r, Nat.lt_of_lt_of_le h.l hx.size⟩

def kC (q a b g : Nat) (z u : Nat → Value) : Act := ⟨#[z 0, .slice (some ⟨q, 0, none⟩) 17 17, .pointer (some ⟨q + 1, 0, none⟩), .pointer (some ⟨q + 3, 0, none⟩), .int .i64 (a : Int), .int .i64 (b : Int), .slice (some ⟨g, 0, none⟩) 14 14, z 7, z 8, z 9, z 10, z 11, z 12, z 13, z 14, z 15, z 16, z 17, z 18, z 19, z 20, z 21, z 22, z 23, z 24, z 25, z 26, z 27, z 28, z 29, z 30, z 31, z 32, z 33, z 34, z 35, z 36, z 37, z 38, z 39, z 40, z 41, z 42, z 43, z 44, z 45, z 46, z 47, z 48, z 49, z 50, z 51, z 52, z 53, z 54, z 55, z 56, z 57, z 58, z 59, z 60, z 61, z 62, z 63, z 64, z 65, z 66, z 67, z 68, z 69, z 70, z 71, u 72, u 73, u 74, u 75, u 76, u 77, u 78, u 79, u 80, u 81, u 82, u 83, u 84, u 85, u 86, u 87, z 88, z 89, z 90, z 91, z 92, z 93, z 94, z 95, z 96, z 97, z 98, z 99, z 100, z 101, z 102, z 103, z 104, z 105, z 106], []⟩
def kCDS (i : Nat) : Nat := 72 + i
def kCG (q a b g : Nat) (x y : Int) (u : Nat → Value) : Nat → Prop
  | 0 => u 72 = .slice (some ⟨g, 0, none⟩) 14 14
  | 1 => u 73 = .bool true
  | 2 => u 74 = .bool false
  | 3 => u 75 = .bool false
  | 4 => u 76 = .slice (some ⟨q, 0, none⟩) 17 17
  | 5 => u 77 = .int .i64 (a : Int)
  | 6 => u 78 = .pointer (some ⟨q, a, none⟩)
  | 7 => u 79 = .int .i64 x
  | 8 => u 80 = .slice (some ⟨q, 0, none⟩) 17 17
  | 9 => u 81 = .int .i64 (b : Int)
  | 10 => u 82 = .pointer (some ⟨q, b, none⟩)
  | 11 => u 83 = .int .i64 y
  | 12 => u 84 = .slice (some ⟨g, 0, none⟩) 14 14
  | 13 => u 85 = .bool true
  | 14 => u 86 = .bool false
  | 15 => u 87 = .bool false
  | _ => True
theorem kCG_mono {q a b g : Nat} {x y : Int} {u u' : Nat → Value} {j : Nat} (hj : j < 16) (hu : u' (kCDS j) = u (kCDS j)) (h : kCG q a b g x y u j) : kCG q a b g x y u' j := by
  match j, hj with
  | 0, _ => exact (show u' 72 = u 72 from hu).trans h
  | 1, _ => exact (show u' 73 = u 73 from hu).trans h
  | 2, _ => exact (show u' 74 = u 74 from hu).trans h
  | 3, _ => exact (show u' 75 = u 75 from hu).trans h
  | 4, _ => exact (show u' 76 = u 76 from hu).trans h
  | 5, _ => exact (show u' 77 = u 77 from hu).trans h
  | 6, _ => exact (show u' 78 = u 78 from hu).trans h
  | 7, _ => exact (show u' 79 = u 79 from hu).trans h
  | 8, _ => exact (show u' 80 = u 80 from hu).trans h
  | 9, _ => exact (show u' 81 = u 81 from hu).trans h
  | 10, _ => exact (show u' 82 = u 82 from hu).trans h
  | 11, _ => exact (show u' 83 = u 83 from hu).trans h
  | 12, _ => exact (show u' 84 = u 84 from hu).trans h
  | 13, _ => exact (show u' 85 = u 85 from hu).trans h
  | 14, _ => exact (show u' 86 = u 86 from hu).trans h
  | 15, _ => exact (show u' 87 = u 87 from hu).trans h
  | n + 16, h => exact absurd h (by omega)
def kCInv (q a b g : Nat) (x y : Int) (z : Nat → Value) (w0 : World) (listed : Array Bool) (t : Act) (w : World) : Prop := ∃ u, t = kC q a b g z u ∧ Ext w0 w ∧ ∀ i, i < 16 → listed.getD i false = true → kCG q a b g x y u i
theorem kC_step {q a b g : Nat} {x y : Int} {z : Nat → Value} {w0 w w' : World} {listed : Array Bool} {u : Nat → Value} {i : Nat} {v : Value} (hi : i < 16) (h0 : Ext w0 w) (hG : ∀ j, j < 16 → listed.getD j false = true → kCG q a b g x y u j) (hx : Ext w w') (h : kCG q a b g x y (kupd u (kCDS i) v) i) :
    kCInv q a b g x y z w0 (listed.setIfInBounds i true) (kC q a b g z (kupd u (kCDS i) v)) w' := by
  refine ⟨_, rfl, h0.trans hx, fun j hj hl => ?_⟩
  by_cases hji : j = i
  · subst hji; exact h
  · rw [getD_set_ne false (Ne.symm hji)] at hl
    refine kCG_mono hj (kupd_ne _ _ ?_) (hG j hj hl)
    unfold kCDS
    omega
theorem kC_val {q a b g : Nat} {x y : Int} {P : Program} {o : Oper} {Q : Exit → Act → World → Prop} {z : Nat → Value} {w0 w w' : World} {listed : Array Bool} {u : Nat → Value} (i d : Nat) (v : Value) (hd : o.dst = some d) (hds : kCDS i = d) (hrun : (execOp (kC q a b g z u).eval o).run P w = .ok (.value v) w')
    (hput : (kC q a b g z u).put (some d) v = kC q a b g z (kupd u d v)) (hi : i < 16) (h0 : Ext w0 w) (hG : ∀ j, j < 16 → listed.getD j false = true → kCG q a b g x y u j) (hx : Ext w w') (hg : kCG q a b g x y (kupd u d v) i) : o.wp P (kC q a b g z u) w (fun a' w' => kCInv q a b g x y z w0 (listed.setIfInBounds i true) a' w') Q := by
  subst hds
  refine kwp_val hd hrun ?_
  rw [hput]
  exact kC_step hi h0 hG hx hg
theorem kC_call {q a b g : Nat} {x y : Int} {P : Program} {o : Oper} {Q : Exit → Act → World → Prop} {z : Nat → Value} {w0 w : World} {listed : Array Bool} {u : Nat → Value} {f : FuncId} {args : Array Value} (i d : Nat) (v : Value) (hd : o.dst = some d) (hds : kCDS i = d) (hrun : (execOp (kC q a b g z u).eval o).run P w = .ok (.enter f args) w)
    (hput : (kC q a b g z u).put (some d) v = kC q a b g z (kupd u d v)) (hi : i < 16) (h0 : Ext w0 w) (hG : ∀ j, j < 16 → listed.getD j false = true → kCG q a b g x y u j) (hc : Calls P f args w (fun e w' => e = .returned v ∧ Ext w w')) (hg : World → kCG q a b g x y (kupd u d v) i) : o.wp P (kC q a b g z u) w (fun a' w' => kCInv q a b g x y z w0 (listed.setIfInBounds i true) a' w') Q := by
  subst hds
  refine kwp_call hd hrun hc fun w' hx => ?_
  rw [hput]
  exact kC_step hi h0 hG hx (hg w')
theorem none16 : ∀ i, i < 16 → (Array.replicate 16 false).getD i false = false := by decide
theorem nKn_wf : ∀ a, a < 17 → (Lit.int .i64 (nKn.getD a 0)).wf = true := by decide

def kB (q : Nat) (z u : Nat → Value) : Act := ⟨#[u 0, z 1, .pointer (some ⟨q + 1, 0, none⟩), .pointer (some ⟨q + 3, 0, none⟩), z 4, z 5, z 6, z 7, z 8, z 9, z 10, z 11, z 12, z 13, z 14, z 15, z 16, z 17, z 18, z 19, z 20, z 21, z 22, z 23, z 24, z 25, z 26, z 27, z 28, z 29, z 30, z 31, z 32, z 33, z 34, z 35, z 36, z 37, z 38, z 39, z 40, z 41, z 42, z 43, z 44, z 45, z 46, z 47, z 48, z 49, z 50, z 51, z 52, z 53, z 54, z 55, z 56, z 57, z 58, z 59, z 60, z 61, z 62, z 63, z 64, z 65, z 66, z 67, z 68, z 69, z 70, z 71, z 72, z 73, z 74, z 75, z 76, z 77, z 78, z 79, z 80, z 81, z 82, z 83, z 84, z 85, z 86, z 87, u 88, u 89, u 90, u 91, u 92, u 93, u 94, u 95, u 96, u 97, u 98, u 99, u 100, u 101, u 102, u 103, u 104, u 105, u 106], []⟩
def kBDS (i : Nat) : Nat := if i = 19 then 0 else 88 + i
def IsIntg (w : World) (v : Value) : Prop := ∃ g : Nat, v = .slice (some ⟨g, 0, none⟩) 6 6 ∧ RdL intK w (some ⟨g, 0, none⟩) 6 [2, 1, 1, 2, 9, 3]
def IsRowsg (w : World) (v : Value) : Prop := ∃ (g : Nat) (l : List (List UInt8)), v = .slice (some ⟨g, 0, none⟩) 2 2 ∧ RdL rowK w (some ⟨g, 0, none⟩) 2 l
theorem IsIntg.ext {w w' : World} {v : Value} (h : IsIntg w v) (hx : Ext w w') : IsIntg w' v := by obtain ⟨g, h1, h2⟩ := h; exact ⟨g, h1, h2.ext hx⟩
theorem IsRowsg.ext {w w' : World} {v : Value} (h : IsRowsg w v) (hx : Ext w w') : IsRowsg w' v := by obtain ⟨g, l, h1, h2⟩ := h; exact ⟨g, l, h1, h2.ext hx⟩
theorem ints_mk (w : World) : IsIntg (w.alloc (.cells #[.int .i64 2, .int .i64 1, .int .i64 1, .int .i64 2, .int .i64 9, .int .i64 3] 3)) (.slice (some ⟨w.heap.size, 0, none⟩) 6 6) := by
  refine ⟨_, rfl, rfl, fun _ => ⟨w.heap.size, 0, rfl, by simp, fun i x hi => ⟨[.int .i64 x], rfl, fun j v hv => ?_, rfl⟩⟩⟩
  rw [cell_of_row _ _ _ _ _ _ (heap_alloc_new w _)]
  match i, hi with
  | 0, hi => cases hi; match j, hv with | 0, hv => cases hv; rfl
  | 1, hi => cases hi; match j, hv with | 0, hv => cases hv; rfl
  | 2, hi => cases hi; match j, hv with | 0, hv => cases hv; rfl
  | 3, hi => cases hi; match j, hv with | 0, hv => cases hv; rfl
  | 4, hi => cases hi; match j, hv with | 0, hv => cases hv; rfl
  | 5, hi => cases hi; match j, hv with | 0, hv => cases hv; rfl
theorem rows_mk {w : World} {g0 g1 : Nat} (r0 : Rd w (some ⟨g0, 0, none⟩) 1 (([1] : List UInt8).map cB)) (r1 : Rd w (some ⟨g1, 0, none⟩) 4 (([2, 3, 4, 5] : List UInt8).map cB)) : IsRowsg (w.alloc (.cells #[.slice (some ⟨g0, 0, none⟩) 1 1, .slice (some ⟨g1, 0, none⟩) 4 4] 41)) (.slice (some ⟨w.heap.size, 0, none⟩) 2 2) := by
  obtain ⟨l, hl⟩ := lst_of_heap rowK _ _ 2 _ _ (heap_alloc_new w (.cells #[.slice (some ⟨g0, 0, none⟩) 1 1, .slice (some ⟨g1, 0, none⟩) 4 4] 41)) rfl (fun i hi => by
    match i, hi with
    | 0, _ => exact ⟨[1], _, 1, 1, rfl, r0.ext (Ext.alloc _ _), by omega, by omega⟩
    | 1, _ => exact ⟨[2, 3, 4, 5], _, 4, 4, rfl, r1.ext (Ext.alloc _ _), by omega, by omega⟩
    | n + 2, h => exact absurd h (by omega))
  exact ⟨_, l, rfl, hl⟩
def kBG (q : Nat) (u : Nat → Value) (w : World) : Nat → Prop
  | 0 => u 88 = .agg #[.int .i64 3, .int .i64 0, .int .i64 1, .slice none 0 0, .slice none 0 0, .slice none 0 0]
  | 1 => IsIntg w (u 89)
  | 2 => u 90 = .bool true
  | 3 => u 91 = .bool true
  | 4 => u 92 = .agg #[.int .i64 3, .int .i64 0, .int .i64 1, .slice none 0 0, .slice none 0 0, .slice none 0 0]
  | 5 => u 93 = .agg #[.int .i64 0, .slice none 0 0, .slice (some ⟨q + 2, 0, none⟩) 1 1, .slice none 0 0]
  | 6 => IsU8g w 1 [1] (u 94)
  | 7 => IsU8g w 4 [2, 3, 4, 5] (u 95)
  | 8 => IsRowsg w (u 96)
  | 9 => u 97 = .bool true
  | 10 => u 98 = .bool true
  | 11 => u 99 = .bool true
  | 12 => u 100 = .agg #[.int .i64 3, .int .i64 0, .int .i64 1, .slice none 0 0, .slice none 0 0, .slice none 0 0]
  | 13 => u 101 = .agg #[.int .i64 2, .slice none 0 0, .slice none 0 0, .slice none 0 0]
  | 14 => u 102 = .bool true
  | 15 => u 103 = .bool true
  | 16 => u 104 = .bool true
  | 17 => u 105 = .bool true
  | 18 => u 106 = .bool true
  | 19 => u 0 = .bool true
  | _ => True
theorem kBG_mono {q : Nat} {u u' : Nat → Value} {w w' : World} {j : Nat} (hj : j < 20) (hu : u' (kBDS j) = u (kBDS j)) (hx : Ext w w') (h : kBG q u w j) : kBG q u' w' j := by
  match j, hj with
  | 0, _ => exact (show u' 88 = u 88 from hu).trans h
  | 1, _ => show IsIntg w' (u' 89); rw [show u' 89 = u 89 from hu]; exact IsIntg.ext h hx
  | 2, _ => exact (show u' 90 = u 90 from hu).trans h
  | 3, _ => exact (show u' 91 = u 91 from hu).trans h
  | 4, _ => exact (show u' 92 = u 92 from hu).trans h
  | 5, _ => exact (show u' 93 = u 93 from hu).trans h
  | 6, _ => show IsU8g w' 1 [1] (u' 94); rw [show u' 94 = u 94 from hu]; exact IsU8g.ext h hx
  | 7, _ => show IsU8g w' 4 [2, 3, 4, 5] (u' 95); rw [show u' 95 = u 95 from hu]; exact IsU8g.ext h hx
  | 8, _ => show IsRowsg w' (u' 96); rw [show u' 96 = u 96 from hu]; exact IsRowsg.ext h hx
  | 9, _ => exact (show u' 97 = u 97 from hu).trans h
  | 10, _ => exact (show u' 98 = u 98 from hu).trans h
  | 11, _ => exact (show u' 99 = u 99 from hu).trans h
  | 12, _ => exact (show u' 100 = u 100 from hu).trans h
  | 13, _ => exact (show u' 101 = u 101 from hu).trans h
  | 14, _ => exact (show u' 102 = u 102 from hu).trans h
  | 15, _ => exact (show u' 103 = u 103 from hu).trans h
  | 16, _ => exact (show u' 104 = u 104 from hu).trans h
  | 17, _ => exact (show u' 105 = u 105 from hu).trans h
  | 18, _ => exact (show u' 106 = u 106 from hu).trans h
  | 19, _ => exact (show u' 0 = u 0 from hu).trans h
  | n + 20, h => exact absurd h (by omega)
def kBInv (q : Nat) (z : Nat → Value) (w0 : World) (listed : Array Bool) (t : Act) (w : World) : Prop := ∃ u, t = kB q z u ∧ Ext w0 w ∧ ∀ i, i < 20 → listed.getD i false = true → kBG q u w i
theorem kB_step {q : Nat} {z : Nat → Value} {w0 w w' : World} {listed : Array Bool} {u : Nat → Value} {i : Nat} {v : Value} (hi : i < 20) (h0 : Ext w0 w) (hG : ∀ j, j < 20 → listed.getD j false = true → kBG q u w j) (hx : Ext w w') (h : kBG q (kupd u (kBDS i) v) w' i) :
    kBInv q z w0 (listed.setIfInBounds i true) (kB q z (kupd u (kBDS i) v)) w' := by
  refine ⟨_, rfl, h0.trans hx, fun j hj hl => ?_⟩
  by_cases hji : j = i
  · subst hji; exact h
  · rw [getD_set_ne false (Ne.symm hji)] at hl
    refine kBG_mono hj (kupd_ne _ _ ?_) hx (hG j hj hl)
    unfold kBDS
    split <;> split <;> omega
theorem kB_val {q : Nat} {P : Program} {o : Oper} {Q : Exit → Act → World → Prop} {z : Nat → Value} {w0 w w' : World} {listed : Array Bool} {u : Nat → Value} (i d : Nat) (v : Value) (hd : o.dst = some d) (hds : kBDS i = d) (hrun : (execOp (kB q z u).eval o).run P w = .ok (.value v) w')
    (hput : (kB q z u).put (some d) v = kB q z (kupd u d v)) (hi : i < 20) (h0 : Ext w0 w) (hG : ∀ j, j < 20 → listed.getD j false = true → kBG q u w j) (hx : Ext w w') (hg : kBG q (kupd u d v) w' i) : o.wp P (kB q z u) w (fun a' w' => kBInv q z w0 (listed.setIfInBounds i true) a' w') Q := by
  subst hds
  refine kwp_val hd hrun ?_
  rw [hput]
  exact kB_step hi h0 hG hx hg
theorem kB_call {q : Nat} {P : Program} {o : Oper} {Q : Exit → Act → World → Prop} {z : Nat → Value} {w0 w : World} {listed : Array Bool} {u : Nat → Value} {f : FuncId} {args : Array Value} (i d : Nat) (v : Value) (hd : o.dst = some d) (hds : kBDS i = d) (hrun : (execOp (kB q z u).eval o).run P w = .ok (.enter f args) w)
    (hput : (kB q z u).put (some d) v = kB q z (kupd u d v)) (hi : i < 20) (h0 : Ext w0 w) (hG : ∀ j, j < 20 → listed.getD j false = true → kBG q u w j) (hc : Calls P f args w (fun e w' => e = .returned v ∧ Ext w w')) (hg : ∀ w', kBG q (kupd u d v) w' i) : o.wp P (kB q z u) w (fun a' w' => kBInv q z w0 (listed.setIfInBounds i true) a' w') Q := by
  subst hds
  refine kwp_call hd hrun hc fun w' hx => ?_
  rw [hput]
  exact kB_step hi h0 hG hx (hg w')
theorem none20 : ∀ i, i < 20 → (Array.replicate 20 false).getD i false = false := by decide
def zAct (t : Act) : Nat → Value := fun j => t.tmps.getD j undef
theorem kB_start {P : Program} {ops : Array Oper} {Q : Exit → Act → World → Prop} {id : Nat} {t : Act} {w w0 : World} {q : Nat} (hm : P.follows .mixedOrders = true)
    (hord : ∀ (i : Nat) (o : Oper), ops[i]? = some o → ∀ e ∈ o.after, e.on < i) (ht : t = kB q (zAct t) (zAct t)) (hx : Ext w0 w) (hsz : ops.size = 20)
    (hstep : ∀ (z : Nat → Value) (listed : Array Bool) (a : Act) (w : World) (i : Nat) (o : Oper), ops[i]? = some o → (∀ e ∈ o.after, Region.binds .any e = true → listed.getD e.on false = true) → kBInv q z w0 listed a w →
      Region.wanted o (yielded ops a.tmps) = true ∧ o.wp P a w (fun a' w' => kBInv q z w0 (listed.setIfInBounds i true) a' w') Q)
    (hdone : ∀ z listed a w, (∀ i, i < ops.size → listed.getD i false = true) → kBInv q z w0 listed a w → Q .normal a w) : (Code.region id ops true).wp P Q t w :=
  wp_region_inv (kBInv q (zAct t) w0) hm hord (by rw [hsz]; exact ⟨zAct t, ht, hx.trans (Ext.draw _), fun i hi hl => by rw [none20 i hi] at hl; cases hl⟩) (hstep _) (hdone _)

theorem lawKnown18 (w : World) : Calls Tryz.prog 4 #[] w (RetQ w true) := by
  go_enter Tryz.func4, Tryz.ntmps4
  go_wp2_with fail
  obtain ⟨V, hV⟩ : ∃ V, ((((w.alloc (.cells #[.int .i64 (-9223372036854775808), .int .i64 (-1), .int .i64 0, .int .i64 1, .int .i64 2, .int .i64 3, .int .i64 5, .int .i64 6, .int .i64 247, .int .i64 248, .int .i64 1048575, .int .i64 1048576, .int .i64 1048577, .int .i64 1099511627775, .int .i64 1099511627776, .int .i64 1099511627777, .int .i64 9223372036854775807] 3)).alloc (.cells #[.int .i64 2, .slice none 0 0, .slice none 0 0, .slice none 0 0] 40)).alloc (.cells #[.int .u16 7] 48)).alloc (.cells #[.int .i64 0, .slice none 0 0, .slice (some ⟨w.heap.size + 1 + 1, 0, none⟩) 1 1, .slice none 0 0] 40)) = V := ⟨_, rfl⟩
  rw [hV]
  obtain ⟨q, hq⟩ : ∃ q, w.heap.size = q := ⟨_, rfl⟩
  have HK : Hid (KnW q V) := by
    have X1 := Ext.alloc w (.cells #[.int .i64 (-9223372036854775808), .int .i64 (-1), .int .i64 0, .int .i64 1, .int .i64 2, .int .i64 3, .int .i64 5, .int .i64 6, .int .i64 247, .int .i64 248, .int .i64 1048575, .int .i64 1048576, .int .i64 1048577, .int .i64 1099511627775, .int .i64 1099511627776, .int .i64 1099511627777, .int .i64 9223372036854775807] 3)
    have X2 := Ext.alloc (w.alloc (.cells #[.int .i64 (-9223372036854775808), .int .i64 (-1), .int .i64 0, .int .i64 1, .int .i64 2, .int .i64 3, .int .i64 5, .int .i64 6, .int .i64 247, .int .i64 248, .int .i64 1048575, .int .i64 1048576, .int .i64 1048577, .int .i64 1099511627775, .int .i64 1099511627776, .int .i64 1099511627777, .int .i64 9223372036854775807] 3)) (.cells #[.int .i64 2, .slice none 0 0, .slice none 0 0, .slice none 0 0] 40)
    have X3 := Ext.alloc ((w.alloc (.cells #[.int .i64 (-9223372036854775808), .int .i64 (-1), .int .i64 0, .int .i64 1, .int .i64 2, .int .i64 3, .int .i64 5, .int .i64 6, .int .i64 247, .int .i64 248, .int .i64 1048575, .int .i64 1048576, .int .i64 1048577, .int .i64 1099511627775, .int .i64 1099511627776, .int .i64 1099511627777, .int .i64 9223372036854775807] 3)).alloc (.cells #[.int .i64 2, .slice none 0 0, .slice none 0 0, .slice none 0 0] 40)) (.cells #[.int .u16 7] 48)
    have X4 := Ext.alloc (((w.alloc (.cells #[.int .i64 (-9223372036854775808), .int .i64 (-1), .int .i64 0, .int .i64 1, .int .i64 2, .int .i64 3, .int .i64 5, .int .i64 6, .int .i64 247, .int .i64 248, .int .i64 1048575, .int .i64 1048576, .int .i64 1048577, .int .i64 1099511627775, .int .i64 1099511627776, .int .i64 1099511627777, .int .i64 9223372036854775807] 3)).alloc (.cells #[.int .i64 2, .slice none 0 0, .slice none 0 0, .slice none 0 0] 40)).alloc (.cells #[.int .u16 7] 48)) (.cells #[.int .i64 0, .slice none 0 0, .slice (some ⟨w.heap.size + 1 + 1, 0, none⟩) 1 1, .slice none 0 0] 40)
    have hn := X4.block (X3.block (X2.block (heap_alloc_new w (.cells #[.int .i64 (-9223372036854775808), .int .i64 (-1), .int .i64 0, .int .i64 1, .int .i64 2, .int .i64 3, .int .i64 5, .int .i64 6, .int .i64 247, .int .i64 248, .int .i64 1048575, .int .i64 1048576, .int .i64 1048577, .int .i64 1099511627775, .int .i64 1099511627776, .int .i64 1099511627777, .int .i64 9223372036854775807] 3))))
    rw [hV] at X4 hn
    subst hq
    refine ⟨fun a ha => ?_, ?_, ?_, ?_, lt_of_heap hn⟩
    · rw [cell_of_row _ _ _ _ _ _ hn]
      match a, ha with
      | 0, _ => rfl
      | 1, _ => rfl
      | 2, _ => rfl
      | 3, _ => rfl
      | 4, _ => rfl
      | 5, _ => rfl
      | 6, _ => rfl
      | 7, _ => rfl
      | 8, _ => rfl
      | 9, _ => rfl
      | 10, _ => rfl
      | 11, _ => rfl
      | 12, _ => rfl
      | 13, _ => rfl
      | 14, _ => rfl
      | 15, _ => rfl
      | 16, _ => rfl
      | n + 17, h => exact absurd h (by omega)
    · exact X4.block (X3.block (heap_at _ _ _ (by simp)))
    · exact (Rd.of_heap (ys := []) (heap_at _ _ _ (by simp)) rfl rfl : Rd _ (some ⟨w.heap.size + 2, 0, none⟩) 1 (([7] : List UInt16).map cW)).ext X4
    · rw [← hV]; exact heap_at _ _ _ (by simp)
  have XV : Hid (Ext w V) := hV ▸ (((Ext.alloc _ _).trans (Ext.alloc _ _)).trans (Ext.alloc _ _)).trans (Ext.alloc _ _)
  rw [hq]
  clear hV hq
  go_loopw [4, 5, 6] (fun i _ _ wr => ∃ a : Nat, a ≤ 17 ∧ i = .int .i64 (a : Int) ∧ Hid (Ext V wr)) (fun i _ _ _ => 17 - (intOf i).toNat)
  case atStart => exact ⟨0, by omega, rfl, Ext.refl _⟩
  case round =>
    obtain ⟨a, ha, rfl, X⟩ := hrel
    rcases Nat.lt_or_ge a 17 with hlt | hge
    · have i1 : (a : Int) < 17 := by omega
      go_wp2_with fail
      go_loopw [5, 6] (fun k _ wr => ∃ b : Nat, b ≤ 17 ∧ k = .int .i64 (b : Int) ∧ Hid (Ext V wr)) (fun k _ _ => 17 - (intOf k).toNat)
      case atStart => exact ⟨0, by omega, rfl, X⟩
      case round =>
        clear X
        obtain ⟨b, hb, rfl, X⟩ := hrel
        rcases Nat.lt_or_ge b 17 with hlt2 | hge2
        · have j1 : (b : Int) < 17 := by omega
          have ia0 : (0 : Int) ≤ (a : Int) := by omega
          have ib0 : (0 : Int) ≤ (b : Int) := by omega
          have ia1 := i1; have ib1 := j1
          go_wp2_with fail
          obtain ⟨x, hx⟩ : ∃ x, nKn.getD a 0 = x := ⟨_, rfl⟩
          obtain ⟨y, hy⟩ : ∃ y, nKn.getD b 0 = y := ⟨_, rfl⟩
          have KWr := HK.out.ext X.out
          obtain ⟨z, hz⟩ : ∃ z, z = zof [u0, undef, undef, undef, undef, undef, undef, .slice (some ⟨q, 0, none⟩) 17 17, .agg #[.int .i64 2, .slice none 0 0, .slice none 0 0, .slice none 0 0], .slice (some ⟨q + 2, 0, none⟩) 1 1, .agg #[.int .i64 0, .slice none 0 0, .slice (some ⟨q + 2, 0, none⟩) 1 1, .slice none 0 0], .int .i64 (a : Int), .slice (some ⟨q, 0, none⟩) 17 17, .int .i64 17, .bool true, u15, u16, .int .i64 (b : Int), .slice (some ⟨q, 0, none⟩) 17 17, .int .i64 17, .bool true, u21, u22, undef, undef, undef, undef, undef, undef, undef, undef, undef, undef, undef, undef, undef, undef, undef, undef, undef, undef, undef, undef, undef, undef, undef, undef, undef, undef, undef, undef, undef, undef, undef, undef, undef, undef, undef, undef, undef, undef, undef, undef, undef, undef, undef, undef, undef, undef, undef, undef, undef, u72, u73, u74, u75, u76, u77, u78, u79, u80, u81, u82, u83, u84, u85, u86, u87, undef, undef, undef, undef, undef, undef, undef, undef, undef, undef, undef, undef, undef, undef, undef, undef, undef, undef, undef] := ⟨_, rfl⟩
          have hI0 : kAInv q a b x y z V (Array.replicate 50 false) (kA q a b z (zof [undef, undef, undef, undef, undef, undef, u6, undef, undef, undef, undef, undef, undef, undef, undef, undef, undef, undef, undef, undef, undef, undef, undef, u23, u24, u25, u26, u27, u28, u29, u30, u31, u32, u33, u34, u35, u36, u37, u38, u39, u40, u41, u42, u43, u44, u45, u46, u47, u48, u49, u50, u51, u52, u53, u54, u55, u56, u57, u58, u59, u60, u61, u62, u63, u64, u65, u66, u67, u68, u69, u70, u71])) wr.drew := ⟨_, rfl, X.out.trans (Ext.draw _), fun i hi hl => by rw [none50 i hi] at hl; cases hl⟩
          rw [hz] at hI0
          refine wp_region_inv (kAInv q a b x y (zof [u0, undef, undef, undef, undef, undef, undef, .slice (some ⟨q, 0, none⟩) 17 17, .agg #[.int .i64 2, .slice none 0 0, .slice none 0 0, .slice none 0 0], .slice (some ⟨q + 2, 0, none⟩) 1 1, .agg #[.int .i64 0, .slice none 0 0, .slice (some ⟨q + 2, 0, none⟩) 1 1, .slice none 0 0], .int .i64 (a : Int), .slice (some ⟨q, 0, none⟩) 17 17, .int .i64 17, .bool true, u15, u16, .int .i64 (b : Int), .slice (some ⟨q, 0, none⟩) 17 17, .int .i64 17, .bool true, u21, u22, undef, undef, undef, undef, undef, undef, undef, undef, undef, undef, undef, undef, undef, undef, undef, undef, undef, undef, undef, undef, undef, undef, undef, undef, undef, undef, undef, undef, undef, undef, undef, undef, undef, undef, undef, undef, undef, undef, undef, undef, undef, undef, undef, undef, undef, undef, undef, undef, undef, u72, u73, u74, u75, u76, u77, u78, u79, u80, u81, u82, u83, u84, u85, u86, u87, undef, undef, undef, undef, undef, undef, undef, undef, undef, undef, undef, undef, undef, undef, undef, undef, undef, undef, undef]) V) (by kernel_rfl) (kord (by kernel_rfl)) hI0 ?step ?done
          all_goals rw [← hz]
          case step =>
            intro listed t w1 i o ho hall hI
            obtain ⟨u, rfl, hx0, hG⟩ := hI
            have hi : i < 50 := (Array.getElem?_eq_some_iff.1 ho).1
            have KW := HK.out.ext hx0
            obtain ⟨ce0, ce1, ce2, ce3⟩ := cells4 KW.e
            obtain ⟨cw0, cw1, cw2, cw3⟩ := cells4 KW.r
            have ca := KW.n a hlt
            have cb := KW.n b hlt2
            rw [hx] at ca
            rw [hy] at cb
            match i, hi with
            | 0, _ => obtain rfl := kin ho; exact ⟨rfl, kA_val (w' := w1) 0 23 (_) rfl rfl (by kernel_rfl) (by kernel_rfl) (by omega) hx0 hG (Ext.refl _) (kupd_at _ _ _)⟩
            | 1, _ => obtain rfl := kin ho; exact ⟨rfl, kA_val (w' := w1) 1 24 (_) rfl rfl (by kernel_rfl) (by kernel_rfl) (by omega) hx0 hG (Ext.refl _) (kupd_at _ _ _)⟩
            | 2, _ => obtain rfl := kin ho; have h0 : u 23 = _ := hG 0 (by omega) (kedge hall 0 (by kernel_rfl)); have h1 : u 24 = _ := hG 1 (by omega) (kedge hall 1 (by kernel_rfl)); exact ⟨rfl, kA_val (w' := w1) 2 25 (_) rfl rfl (by unfold kA; rw [h0, h1]; simp [execOp, Act.eval, go_sem, ia0, ia1]) (by kernel_rfl) (by omega) hx0 hG (Ext.refl _) (kupd_at _ _ _)⟩
            | 3, _ => obtain rfl := kin ho; have h0 : u 25 = _ := hG 2 (by omega) (kedge hall 2 (by kernel_rfl)); exact ⟨rfl, kA_val (w' := w1) 3 26 (_) rfl rfl (by unfold kA; rw [h0]; simp [execOp, Act.eval, go_sem, ca]) (by kernel_rfl) (by omega) hx0 hG (Ext.refl _) (kupd_at _ _ _)⟩
            | 4, _ => obtain rfl := kin ho; have h0 : u 26 = _ := hG 3 (by omega) (kedge hall 3 (by kernel_rfl)); exact ⟨rfl, kA_val (w' := w1) 4 27 (_) rfl rfl (by unfold kA; rw [h0]; kernel_rfl) (by kernel_rfl) (by omega) hx0 hG (Ext.refl _) (kupd_at _ _ _)⟩
            | 5, _ => obtain rfl := kin ho; exact ⟨rfl, kA_val (w' := w1) 5 28 (_) rfl rfl (by kernel_rfl) (by kernel_rfl) (by omega) hx0 hG (Ext.refl _) (kupd_at _ _ _)⟩
            | 6, _ => obtain rfl := kin ho; exact ⟨rfl, kA_val (w' := w1) 6 29 (_) rfl rfl (by kernel_rfl) (by kernel_rfl) (by omega) hx0 hG (Ext.refl _) (kupd_at _ _ _)⟩
            | 7, _ => obtain rfl := kin ho; have h0 : u 28 = _ := hG 5 (by omega) (kedge hall 5 (by kernel_rfl)); have h1 : u 29 = _ := hG 6 (by omega) (kedge hall 6 (by kernel_rfl)); exact ⟨rfl, kA_val (w' := w1) 7 30 (_) rfl rfl (by unfold kA; rw [h0, h1]; simp [execOp, Act.eval, go_sem, ia0, ia1]) (by kernel_rfl) (by omega) hx0 hG (Ext.refl _) (kupd_at _ _ _)⟩
            | 8, _ => obtain rfl := kin ho; have h0 : u 30 = _ := hG 7 (by omega) (kedge hall 7 (by kernel_rfl)); exact ⟨rfl, kA_val (w' := w1) 8 31 (_) rfl rfl (by unfold kA; rw [h0]; simp [execOp, Act.eval, go_sem, ca]) (by kernel_rfl) (by omega) hx0 hG (Ext.refl _) (kupd_at _ _ _)⟩
            | 9, _ => obtain rfl := kin ho; exact ⟨rfl, kA_val (w' := w1) 9 32 (_) rfl rfl (by kernel_rfl) (by kernel_rfl) (by omega) hx0 hG (Ext.refl _) (kupd_at _ _ _)⟩
            | 10, _ => obtain rfl := kin ho; exact ⟨rfl, kA_val (w' := w1) 10 33 (_) rfl rfl (by kernel_rfl) (by kernel_rfl) (by omega) hx0 hG (Ext.refl _) (kupd_at _ _ _)⟩
            | 11, _ => obtain rfl := kin ho; have h0 : u 32 = _ := hG 9 (by omega) (kedge hall 9 (by kernel_rfl)); have h1 : u 33 = _ := hG 10 (by omega) (kedge hall 10 (by kernel_rfl)); exact ⟨rfl, kA_val (w' := w1) 11 34 (_) rfl rfl (by unfold kA; rw [h0, h1]; simp [execOp, Act.eval, go_sem, ib0, ib1]) (by kernel_rfl) (by omega) hx0 hG (Ext.refl _) (kupd_at _ _ _)⟩
            | 12, _ => obtain rfl := kin ho; have h0 : u 34 = _ := hG 11 (by omega) (kedge hall 11 (by kernel_rfl)); exact ⟨rfl, kA_val (w' := w1) 12 35 (_) rfl rfl (by unfold kA; rw [h0]; simp [execOp, Act.eval, go_sem, cb]) (by kernel_rfl) (by omega) hx0 hG (Ext.refl _) (kupd_at _ _ _)⟩
            | 13, _ => obtain rfl := kin ho; exact ⟨rfl, kA_call 13 36 (.agg #[.int .i64 3, .int .i64 0, .int .i64 1, .slice none 0 0, .slice none 0 0, .slice none 0 0]) rfl rfl (by kernel_rfl) (by kernel_rfl) (by omega) hx0 hG (one_any _) (fun _ => kupd_at _ _ _)⟩
            | 14, _ => obtain rfl := kin ho; have h0 : u 31 = _ := hG 8 (by omega) (kedge hall 8 (by kernel_rfl)); have h1 : u 35 = _ := hG 12 (by omega) (kedge hall 12 (by kernel_rfl)); have h2 : u 36 = _ := hG 13 (by omega) (kedge hall 13 (by kernel_rfl)); exact ⟨rfl, kA_val (w' := w1) 14 37 (_) rfl rfl (by unfold kA; rw [h0, h1, h2]; kernel_rfl) (by kernel_rfl) (by omega) hx0 hG (Ext.refl _) (kupd_at _ _ _)⟩
            | 15, _ => obtain rfl := kin ho; exact ⟨rfl, kA_val (w' := w1) 15 38 (_) rfl rfl (by kernel_rfl) (by kernel_rfl) (by omega) hx0 hG (Ext.refl _) (kupd_at _ _ _)⟩
            | 16, _ => obtain rfl := kin ho; exact ⟨rfl, kA_val (w' := w1) 16 39 (_) rfl rfl (by kernel_rfl) (by kernel_rfl) (by omega) hx0 hG (Ext.refl _) (kupd_at _ _ _)⟩
            | 17, _ => obtain rfl := kin ho; have h0 : u 38 = _ := hG 15 (by omega) (kedge hall 15 (by kernel_rfl)); have h1 : u 39 = _ := hG 16 (by omega) (kedge hall 16 (by kernel_rfl)); exact ⟨rfl, kA_val (w' := w1) 17 40 (_) rfl rfl (by unfold kA; rw [h0, h1]; simp [execOp, Act.eval, go_sem, ib0, ib1]) (by kernel_rfl) (by omega) hx0 hG (Ext.refl _) (kupd_at _ _ _)⟩
            | 18, _ => obtain rfl := kin ho; have h0 : u 40 = _ := hG 17 (by omega) (kedge hall 17 (by kernel_rfl)); exact ⟨rfl, kA_val (w' := w1) 18 41 (_) rfl rfl (by unfold kA; rw [h0]; simp [execOp, Act.eval, go_sem, cb]) (by kernel_rfl) (by omega) hx0 hG (Ext.refl _) (kupd_at _ _ _)⟩
            | 19, _ => obtain rfl := kin ho; exact ⟨rfl, kA_call 19 42 (.agg #[.int .i64 3, .int .i64 0, .int .i64 1, .slice none 0 0, .slice none 0 0, .slice none 0 0]) rfl rfl (by kernel_rfl) (by kernel_rfl) (by omega) hx0 hG (one_any _) (fun _ => kupd_at _ _ _)⟩
            | 20, _ => obtain rfl := kin ho; have h0 : u 41 = _ := hG 18 (by omega) (kedge hall 18 (by kernel_rfl)); have h1 : u 42 = _ := hG 19 (by omega) (kedge hall 19 (by kernel_rfl)); exact ⟨rfl, kA_val (w' := w1) 20 43 (_) rfl rfl (by unfold kA; rw [h0, h1]; kernel_rfl) (by kernel_rfl) (by omega) hx0 hG (Ext.refl _) (kupd_at _ _ _)⟩
            | 21, _ => obtain rfl := kin ho; exact ⟨rfl, kA_val (w' := w1) 21 44 (_) rfl rfl (by kernel_rfl) (by kernel_rfl) (by omega) hx0 hG (Ext.refl _) (kupd_at _ _ _)⟩
            | 22, _ => obtain rfl := kin ho; have h0 : u 44 = _ := hG 21 (by omega) (kedge hall 21 (by kernel_rfl)); exact ⟨rfl, kA_val (w' := w1) 22 45 (_) rfl rfl (by unfold kA; rw [h0]; kernel_rfl) (by kernel_rfl) (by omega) hx0 hG (Ext.refl _) (kupd_at _ _ _)⟩
            | 23, _ => obtain rfl := kin ho; exact ⟨rfl, kA_call 23 46 (.agg #[.int .i64 3, .int .i64 0, .int .i64 1, .slice none 0 0, .slice none 0 0, .slice none 0 0]) rfl rfl (by kernel_rfl) (by kernel_rfl) (by omega) hx0 hG (one_any _) (fun _ => kupd_at _ _ _)⟩
            | 24, _ => obtain rfl := kin ho; have h0 : u 46 = _ := hG 23 (by omega) (kedge hall 23 (by kernel_rfl)); exact ⟨rfl, kA_val (w' := w1) 24 47 (_) rfl rfl (by unfold kA; rw [h0]; kernel_rfl) (by kernel_rfl) (by omega) hx0 hG (Ext.refl _) (kupd_at _ _ _)⟩
            | 25, _ => obtain rfl := kin ho; exact ⟨rfl, kA_val (w' := w1) 25 48 (_) rfl rfl (by kernel_rfl) (by kernel_rfl) (by omega) hx0 hG (Ext.refl _) (kupd_at _ _ _)⟩
            | 26, _ => obtain rfl := kin ho; exact ⟨rfl, kA_val (w' := w1) 26 49 (_) rfl rfl (by kernel_rfl) (by kernel_rfl) (by omega) hx0 hG (Ext.refl _) (kupd_at _ _ _)⟩
            | 27, _ => obtain rfl := kin ho; have h0 : u 48 = _ := hG 25 (by omega) (kedge hall 25 (by kernel_rfl)); have h1 : u 49 = _ := hG 26 (by omega) (kedge hall 26 (by kernel_rfl)); exact ⟨rfl, kA_val (w' := w1) 27 50 (_) rfl rfl (by unfold kA; rw [h0, h1]; simp [execOp, Act.eval, go_sem, ia0, ia1]) (by kernel_rfl) (by omega) hx0 hG (Ext.refl _) (kupd_at _ _ _)⟩
            | 28, _ => obtain rfl := kin ho; have h0 : u 50 = _ := hG 27 (by omega) (kedge hall 27 (by kernel_rfl)); exact ⟨rfl, kA_val (w' := w1) 28 51 (_) rfl rfl (by unfold kA; rw [h0]; simp [execOp, Act.eval, go_sem, ca]) (by kernel_rfl) (by omega) hx0 hG (Ext.refl _) (kupd_at _ _ _)⟩
            | 29, _ => obtain rfl := kin ho; have h0 : u 51 = _ := hG 28 (by omega) (kedge hall 28 (by kernel_rfl)); exact ⟨rfl, kA_val (w' := w1) 29 52 (_) rfl rfl (by unfold kA; rw [h0]; kernel_rfl) (by kernel_rfl) (by omega) hx0 hG (Ext.refl _) (kupd_at _ _ _)⟩
            | 30, _ => obtain rfl := kin ho; exact ⟨rfl, kA_val (w' := w1) 30 53 (_) rfl rfl (by kernel_rfl) (by kernel_rfl) (by omega) hx0 hG (Ext.refl _) (kupd_at _ _ _)⟩
            | 31, _ => obtain rfl := kin ho; exact ⟨rfl, kA_val (w' := w1) 31 54 (_) rfl rfl (by kernel_rfl) (by kernel_rfl) (by omega) hx0 hG (Ext.refl _) (kupd_at _ _ _)⟩
            | 32, _ => obtain rfl := kin ho; have h0 : u 53 = _ := hG 30 (by omega) (kedge hall 30 (by kernel_rfl)); have h1 : u 54 = _ := hG 31 (by omega) (kedge hall 31 (by kernel_rfl)); exact ⟨rfl, kA_val (w' := w1) 32 55 (_) rfl rfl (by unfold kA; rw [h0, h1]; simp [execOp, Act.eval, go_sem, ib0, ib1]) (by kernel_rfl) (by omega) hx0 hG (Ext.refl _) (kupd_at _ _ _)⟩
            | 33, _ => obtain rfl := kin ho; have h0 : u 55 = _ := hG 32 (by omega) (kedge hall 32 (by kernel_rfl)); exact ⟨rfl, kA_val (w' := w1) 33 56 (_) rfl rfl (by unfold kA; rw [h0]; simp [execOp, Act.eval, go_sem, cb]) (by kernel_rfl) (by omega) hx0 hG (Ext.refl _) (kupd_at _ _ _)⟩
            | 34, _ => obtain rfl := kin ho; have h0 : u 56 = _ := hG 33 (by omega) (kedge hall 33 (by kernel_rfl)); exact ⟨rfl, kA_val (w' := w1) 34 57 (_) rfl rfl (by unfold kA; rw [h0]; kernel_rfl) (by kernel_rfl) (by omega) hx0 hG (Ext.refl _) (kupd_at _ _ _)⟩
            | 35, _ => obtain rfl := kin ho; exact ⟨rfl, kA_val (w' := w1) 35 58 (_) rfl rfl (by kernel_rfl) (by kernel_rfl) (by omega) hx0 hG (Ext.refl _) (kupd_at _ _ _)⟩
            | 36, _ => obtain rfl := kin ho; exact ⟨rfl, kA_val (w' := w1) 36 59 (_) rfl rfl (by simp [execOp, kA, Act.eval, go_sem, cw0, cw1, cw2, cw3]) (by kernel_rfl) (by omega) hx0 hG (Ext.refl _) (kupd_at _ _ _)⟩
            | 37, _ => obtain rfl := kin ho; exact ⟨rfl, kA_val (w' := w1.alloc (.cells #[.int .u8 3] 5)) 37 60 (.slice (some ⟨w1.heap.size, 0, none⟩) 1 1) rfl rfl (by kernel_rfl) (by kernel_rfl) (by omega) hx0 hG (Ext.alloc _ _) (by show IsU8g _ _ _ (kupd _ _ _ _); rw [kupd_at]; exact ⟨_, rfl, Rd.of_heap (ys := []) (heap_alloc_new w1 _) rfl rfl⟩)⟩
            | 38, _ => obtain rfl := kin ho; have h0 : u 59 = _ := hG 36 (by omega) (kedge hall 36 (by kernel_rfl)); obtain ⟨g1, h1, r1⟩ : IsU8g w1 1 [3] (u 60) := hG 37 (by omega) (kedge hall 37 (by kernel_rfl)); exact ⟨rfl, kA_val (w' := w1) 38 61 (.agg #[.int .i64 3, .int .i64 0, .int .i64 0, .int .i64 0, .int .i64 0, .int .i64 0, .slice none 0 0, .slice none 0 0, .slice none 0 0, .int .i64 0, .slice none 0 0, .slice (some ⟨q + 2, 0, none⟩) 1 1, .slice none 0 0, .slice (some ⟨g1, 0, none⟩) 1 1]) rfl rfl (by unfold kA; rw [h0, h1]; kernel_rfl) (by kernel_rfl) (by omega) hx0 hG (Ext.refl _) (by show IsOpg _ _ (kupd _ _ _ _); rw [kupd_at]; exact ⟨g1, rfl, r1⟩)⟩
            | 39, _ => obtain rfl := kin ho; exact ⟨rfl, kA_val (w' := w1) 39 62 (_) rfl rfl (by simp [execOp, kA, Act.eval, go_sem, ce0, ce1, ce2, ce3]) (by kernel_rfl) (by omega) hx0 hG (Ext.refl _) (kupd_at _ _ _)⟩
            | 40, _ => obtain rfl := kin ho; have h0 : u 62 = _ := hG 39 (by omega) (kedge hall 39 (by kernel_rfl)); exact ⟨rfl, kA_val (w' := w1) 40 63 (_) rfl rfl (by unfold kA; rw [h0]; kernel_rfl) (by kernel_rfl) (by omega) hx0 hG (Ext.refl _) (kupd_at _ _ _)⟩
            | 41, _ => obtain rfl := kin ho; exact ⟨rfl, kA_call 41 64 (.agg #[.int .i64 3, .int .i64 0, .int .i64 1, .slice none 0 0, .slice none 0 0, .slice none 0 0]) rfl rfl (by kernel_rfl) (by kernel_rfl) (by omega) hx0 hG (one_any _) (fun _ => kupd_at _ _ _)⟩
            | 42, _ => obtain rfl := kin ho; have h0 : u 64 = _ := hG 41 (by omega) (kedge hall 41 (by kernel_rfl)); exact ⟨rfl, kA_val (w' := w1) 42 65 (_) rfl rfl (by unfold kA; rw [h0]; kernel_rfl) (by kernel_rfl) (by omega) hx0 hG (Ext.refl _) (kupd_at _ _ _)⟩
            | 43, _ => obtain rfl := kin ho; exact ⟨rfl, kA_val (w' := w1) 43 66 (_) rfl rfl (by simp [execOp, kA, Act.eval, go_sem, cw0, cw1, cw2, cw3]) (by kernel_rfl) (by omega) hx0 hG (Ext.refl _) (kupd_at _ _ _)⟩
            | 44, _ => obtain rfl := kin ho; have h0 : u 66 = _ := hG 43 (by omega) (kedge hall 43 (by kernel_rfl)); exact ⟨rfl, kA_val (w' := w1) 44 67 (_) rfl rfl (by unfold kA; rw [h0]; kernel_rfl) (by kernel_rfl) (by omega) hx0 hG (Ext.refl _) (kupd_at _ _ _)⟩
            | 45, _ => obtain rfl := kin ho; exact ⟨rfl, kA_val (w' := w1) 45 68 (_) rfl rfl (by simp [execOp, kA, Act.eval, go_sem, cw0, cw1, cw2, cw3]) (by kernel_rfl) (by omega) hx0 hG (Ext.refl _) (kupd_at _ _ _)⟩
            | 46, _ => obtain rfl := kin ho; have h0 : u 68 = _ := hG 45 (by omega) (kedge hall 45 (by kernel_rfl)); exact ⟨rfl, kA_val (w' := w1) 46 69 (_) rfl rfl (by unfold kA; rw [h0]; kernel_rfl) (by kernel_rfl) (by omega) hx0 hG (Ext.refl _) (kupd_at _ _ _)⟩
            | 47, _ => obtain rfl := kin ho; exact ⟨rfl, kA_val (w' := w1) 47 70 (_) rfl rfl (by kernel_rfl) (by kernel_rfl) (by omega) hx0 hG (Ext.refl _) (kupd_at _ _ _)⟩
            | 48, _ =>
              obtain rfl := kin ho
              have h0 : u 27 = _ := hG 4 (by omega) (kedge hall 4 (by kernel_rfl))
              have h1 : u 37 = _ := hG 14 (by omega) (kedge hall 14 (by kernel_rfl))
              have h2 : u 43 = _ := hG 20 (by omega) (kedge hall 20 (by kernel_rfl))
              have h3 : u 45 = _ := hG 22 (by omega) (kedge hall 22 (by kernel_rfl))
              have h4 : u 47 = _ := hG 24 (by omega) (kedge hall 24 (by kernel_rfl))
              have h5 : u 52 = _ := hG 29 (by omega) (kedge hall 29 (by kernel_rfl))
              have h6 : u 57 = _ := hG 34 (by omega) (kedge hall 34 (by kernel_rfl))
              have h7 : u 58 = _ := hG 35 (by omega) (kedge hall 35 (by kernel_rfl))
              obtain ⟨g8, h8, r8⟩ : IsOpg q w1 (u 61) := hG 38 (by omega) (kedge hall 38 (by kernel_rfl))
              have h9 : u 63 = _ := hG 40 (by omega) (kedge hall 40 (by kernel_rfl))
              have h10 : u 65 = _ := hG 42 (by omega) (kedge hall 42 (by kernel_rfl))
              have h11 : u 67 = _ := hG 44 (by omega) (kedge hall 44 (by kernel_rfl))
              have h12 : u 69 = _ := hG 46 (by omega) (kedge hall 46 (by kernel_rfl))
              have h13 : u 70 = _ := hG 47 (by omega) (kedge hall 47 (by kernel_rfl))
              have XW := Ext.alloc w1 (.cells (rowA q x y g8) 43)
              obtain ⟨l, hl⟩ := lst_of_heap op18K _ _ 14 _ _ (heap_alloc_new w1 (.cells (rowA q x y g8) 43)) rfl (fun i hi => by
                match i, hi with
                | 0, _ => exact ⟨⟨2, x, 0, ⟨0, 0, 0, [], [], []⟩, ⟨0, [], [], []⟩, []⟩, askS0, repS0, none, 0, 0, rfl, ask_nil _ 0 0 (by omega), rep_nil _ 0 (by omega), (Rd.nil_ _), by omega, by omega⟩
                | 1, _ => exact ⟨⟨0, x, y, ⟨3, 0, 1, [], [], []⟩, ⟨0, [], [], []⟩, []⟩, askS0, repS0, none, 0, 0, rfl, ask_nil _ 3 1 (by omega), rep_nil _ 0 (by omega), (Rd.nil_ _), by omega, by omega⟩
                | 2, _ => exact ⟨⟨0, y, 1, ⟨3, 0, 1, [], [], []⟩, ⟨0, [], [], []⟩, []⟩, askS0, repS0, none, 0, 0, rfl, ask_nil _ 3 1 (by omega), rep_nil _ 0 (by omega), (Rd.nil_ _), by omega, by omega⟩
                | 3, _ => exact ⟨⟨0, 10, 1, ⟨7, 0, 0, [], [], []⟩, ⟨0, [], [], []⟩, []⟩, askS0, repS0, none, 0, 0, rfl, ask_nil _ 7 0 (by omega), rep_nil _ 0 (by omega), (Rd.nil_ _), by omega, by omega⟩
                | 4, _ => exact ⟨⟨0, 10, 1, ⟨3, 0, 1, [], [], []⟩, ⟨0, [], [], []⟩, []⟩, askS0, repS0, none, 0, 0, rfl, ask_nil _ 3 1 (by omega), rep_nil _ 0 (by omega), (Rd.nil_ _), by omega, by omega⟩
                | 5, _ => exact ⟨⟨2, x, 0, ⟨0, 0, 0, [], [], []⟩, ⟨0, [], [], []⟩, []⟩, askS0, repS0, none, 0, 0, rfl, ask_nil _ 0 0 (by omega), rep_nil _ 0 (by omega), (Rd.nil_ _), by omega, by omega⟩
                | 6, _ => exact ⟨⟨2, y, 0, ⟨0, 0, 0, [], [], []⟩, ⟨0, [], [], []⟩, []⟩, askS0, repS0, none, 0, 0, rfl, ask_nil _ 0 0 (by omega), rep_nil _ 0 (by omega), (Rd.nil_ _), by omega, by omega⟩
                | 7, _ => exact ⟨⟨2, 1099511627776, 0, ⟨0, 0, 0, [], [], []⟩, ⟨0, [], [], []⟩, []⟩, askS0, repS0, none, 0, 0, rfl, ask_nil _ 0 0 (by omega), rep_nil _ 0 (by omega), (Rd.nil_ _), by omega, by omega⟩
                | 8, _ => exact ⟨⟨3, 0, 0, ⟨0, 0, 0, [], [], []⟩, ⟨0, [], [7], []⟩, [3]⟩, askS0, ⟨none, 0, 0, some ⟨q + 2, 0, none⟩, 1, 1, none, 0, 0⟩, (some ⟨g8, 0, none⟩), 1, 1, rfl, ask_nil _ 0 0 (by omega), rep_word (KW.s.ext XW), (r8.ext XW), by omega, by omega⟩
                | 9, _ => exact ⟨⟨3, 0, 0, ⟨0, 0, 0, [], [], []⟩, ⟨2, [], [], []⟩, []⟩, askS0, repS0, none, 0, 0, rfl, ask_nil _ 0 0 (by omega), rep_nil _ 2 (by omega), (Rd.nil_ _), by omega, by omega⟩
                | 10, _ => exact ⟨⟨0, 20, 1, ⟨3, 0, 1, [], [], []⟩, ⟨0, [], [], []⟩, []⟩, askS0, repS0, none, 0, 0, rfl, ask_nil _ 3 1 (by omega), rep_nil _ 0 (by omega), (Rd.nil_ _), by omega, by omega⟩
                | 11, _ => exact ⟨⟨3, 0, 0, ⟨0, 0, 0, [], [], []⟩, ⟨0, [], [7], []⟩, []⟩, askS0, ⟨none, 0, 0, some ⟨q + 2, 0, none⟩, 1, 1, none, 0, 0⟩, none, 0, 0, rfl, ask_nil _ 0 0 (by omega), rep_word (KW.s.ext XW), (Rd.nil_ _), by omega, by omega⟩
                | 12, _ => exact ⟨⟨3, 0, 0, ⟨0, 0, 0, [], [], []⟩, ⟨0, [], [7], []⟩, []⟩, askS0, ⟨none, 0, 0, some ⟨q + 2, 0, none⟩, 1, 1, none, 0, 0⟩, none, 0, 0, rfl, ask_nil _ 0 0 (by omega), rep_word (KW.s.ext XW), (Rd.nil_ _), by omega, by omega⟩
                | 13, _ => exact ⟨⟨1, 0, 0, ⟨0, 0, 0, [], [], []⟩, ⟨0, [], [], []⟩, []⟩, askS0, repS0, none, 0, 0, rfl, ask_nil _ 0 0 (by omega), rep_nil _ 0 (by omega), (Rd.nil_ _), by omega, by omega⟩
                | n + 14, h => exact absurd h (by omega))
              exact ⟨rfl, kA_val (w' := w1.alloc (.cells (rowA q x y g8) 43)) 48 71 (.slice (some ⟨w1.heap.size, 0, none⟩) 14 14) rfl rfl (by unfold kA; rw [h0, h1, h2, h3, h4, h5, h6, h7, h8, h9, h10, h11, h12, h13]; kernel_rfl) (by kernel_rfl) (by omega) hx0 hG (Ext.alloc _ _) (by show IsTab14 _ (kupd _ _ _ _); rw [kupd_at]; exact ⟨_, l, rfl, hl⟩)⟩
            | 49, _ => obtain rfl := kin ho; obtain ⟨g0, l0, h0, r0⟩ : IsTab14 w1 (u 71) := hG 48 (by omega) (kedge hall 48 (by kernel_rfl)); exact ⟨rfl, kA_val (w' := w1) 49 6 (.slice (some ⟨g0, 0, none⟩) 14 14) rfl rfl (by unfold kA; rw [h0]; kernel_rfl) (by kernel_rfl) (by omega) hx0 hG (Ext.refl _) (by show IsTab14 _ (kupd _ _ _ _); rw [kupd_at]; exact ⟨g0, l0, rfl, r0⟩)⟩
            | n + 50, h => exact absurd h (by omega)
          case done =>
            intro listed t w1 hall hI
            obtain ⟨u, rfl, hx0, hG⟩ := hI
            obtain ⟨g, l, h1, h2⟩ : IsTab14 w1 (u 6) := hG 49 (by omega) (hall 49 (show 49 < 50 by omega))
            clear hG hall hI0
            unfold kA
            rw [h1]
            clear h1
            have XL := Lib.hid hx0
            have HTL := Lib.hid (h2.ext (Ext.draw w1))
            have KWL := Lib.hid ((HK.out.ext hx0).ext (Ext.draw w1))
            have wx := nKn_wf a hlt
            have wy := nKn_wf b hlt2
            rw [hx] at wx
            rw [hy] at wy
            have HZ := Lib.hid hz
            clear h2 hx0 X KWr hz
            go_wp2_with fail
            obtain ⟨w2, hw2⟩ : ∃ w2, w1.drew = w2 := ⟨_, rfl⟩
            have XD : Hid (Ext w1 w2) := hw2 ▸ Lib.hid (Ext.draw w1)
            rw [hw2] at HTL KWL
            obtain ⟨z2, hz2⟩ : ∃ z2, z2 = zof [z 0, z 1, z 2, z 3, z 4, z 5, u 6, z 7, z 8, z 9, z 10, z 11, z 12, z 13, z 14, z 15, z 16, z 17, z 18, z 19, z 20, z 21, z 22, u 23, u 24, u 25, u 26, u 27, u 28, u 29, u 30, u 31, u 32, u 33, u 34, u 35, u 36, u 37, u 38, u 39, u 40, u 41, u 42, u 43, u 44, u 45, u 46, u 47, u 48, u 49, u 50, u 51, u 52, u 53, u 54, u 55, u 56, u 57, u 58, u 59, u 60, u 61, u 62, u 63, u 64, u 65, u 66, u 67, u 68, u 69, u 70, u 71, z 72, z 73, z 74, z 75, z 76, z 77, z 78, z 79, z 80, z 81, z 82, z 83, z 84, z 85, z 86, z 87, z 88, z 89, z 90, z 91, z 92, z 93, z 94, z 95, z 96, z 97, z 98, z 99, z 100, z 101, z 102, z 103, z 104, z 105, z 106] := ⟨_, rfl⟩
            have hI2 : kCInv q a b g x y z2 w2 (Array.replicate 16 false) (kC q a b g z2 (zof [undef, undef, undef, undef, undef, undef, undef, undef, undef, undef, undef, undef, undef, undef, undef, undef, undef, undef, undef, undef, undef, undef, undef, undef, undef, undef, undef, undef, undef, undef, undef, undef, undef, undef, undef, undef, undef, undef, undef, undef, undef, undef, undef, undef, undef, undef, undef, undef, undef, undef, undef, undef, undef, undef, undef, undef, undef, undef, undef, undef, undef, undef, undef, undef, undef, undef, undef, undef, undef, undef, undef, undef, z 72, z 73, z 74, z 75, z 76, z 77, z 78, z 79, z 80, z 81, z 82, z 83, z 84, z 85, z 86, z 87])) w1.drew := ⟨_, rfl, hw2 ▸ Ext.refl _, fun i hi hl => by rw [none16 i hi] at hl; cases hl⟩
            rw [hz2] at hI2
            refine wp_region_inv (kCInv q a b g x y (zof [z 0, z 1, z 2, z 3, z 4, z 5, u 6, z 7, z 8, z 9, z 10, z 11, z 12, z 13, z 14, z 15, z 16, z 17, z 18, z 19, z 20, z 21, z 22, u 23, u 24, u 25, u 26, u 27, u 28, u 29, u 30, u 31, u 32, u 33, u 34, u 35, u 36, u 37, u 38, u 39, u 40, u 41, u 42, u 43, u 44, u 45, u 46, u 47, u 48, u 49, u 50, u 51, u 52, u 53, u 54, u 55, u 56, u 57, u 58, u 59, u 60, u 61, u 62, u 63, u 64, u 65, u 66, u 67, u 68, u 69, u 70, u 71, z 72, z 73, z 74, z 75, z 76, z 77, z 78, z 79, z 80, z 81, z 82, z 83, z 84, z 85, z 86, z 87, z 88, z 89, z 90, z 91, z 92, z 93, z 94, z 95, z 96, z 97, z 98, z 99, z 100, z 101, z 102, z 103, z 104, z 105, z 106]) w2) (by kernel_rfl) (kord (by kernel_rfl)) hI2 ?step2 ?done2
            all_goals rw [← hz2]
            all_goals have HZ2 := Lib.hid hz2
            all_goals clear hI2 hw2 hz2
            case step2 =>
              clear XL XD w1 HZ HZ2
              intro listed t w1 i o ho hall hI
              obtain ⟨u, rfl, hx0, hG⟩ := hI
              have hi : i < 16 := (Array.getElem?_eq_some_iff.1 ho).1
              have HT := HTL.out.ext hx0
              have KW := KWL.out.ext hx0
              have ca := KW.n a hlt
              have cb := KW.n b hlt2
              rw [hx] at ca
              rw [hy] at cb
              match i, hi with
              | 0, _ => obtain rfl := kin ho; exact ⟨(by kernel_rfl), kC_val (w' := w1) 0 72 (_) rfl rfl (by kernel_rfl) (by kernel_rfl) (by omega) hx0 hG (Ext.refl _) (kupd_at _ _ _)⟩
              | 1, _ => obtain rfl := kin ho; have h0 : u 72 = _ := hG 0 (by omega) (kedge hall 0 (by kernel_rfl)); exact ⟨(by unfold kC; rw [h0]; kernel_rfl), kC_call (f := 3) (args := #[.int .i64 3, .int .i64 1, .slice (some ⟨g, 0, none⟩) 14 14]) 1 73 (.bool true) rfl rfl (by unfold kC; rw [h0]; kernel_rfl) (by kernel_rfl) (by omega) hx0 hG (lawRuns 3 1 l _ 14 14 w1 (by decide) (by decide) HT (by omega) (by omega)) (fun _ => kupd_at _ _ _)⟩
              | 2, _ => obtain rfl := kin ho; have h0 : u 73 = _ := hG 1 (by omega) (kedge hall 1 (by kernel_rfl)); exact ⟨(by unfold kC; rw [h0]; kernel_rfl), kC_val (w' := w1) 2 74 (_) rfl rfl (by unfold kC; rw [h0]; kernel_rfl) (by kernel_rfl) (by omega) hx0 hG (Ext.refl _) (kupd_at _ _ _)⟩
              | 3, _ => obtain rfl := kin ho; have h0 : u 74 = _ := hG 2 (by omega) (kedge hall 2 (by kernel_rfl)); exact ⟨(by unfold kC; rw [h0]; kernel_rfl), kC_val (w' := w1) 3 75 (_) rfl rfl (by unfold kC; rw [h0]; kernel_rfl) (by kernel_rfl) (by omega) hx0 hG (Ext.refl _) (kupd_at _ _ _)⟩
              | 4, _ => obtain rfl := kin ho; have h0 : u 75 = _ := hG 3 (by omega) (kedge hall 3 (by kernel_rfl)); exact ⟨(by unfold kC; rw [h0]; kernel_rfl), kC_val (w' := w1) 4 76 (_) rfl rfl (by unfold kC; rw [h0]; kernel_rfl) (by kernel_rfl) (by omega) hx0 hG (Ext.refl _) (kupd_at _ _ _)⟩
              | 5, _ => obtain rfl := kin ho; have h0 : u 75 = _ := hG 3 (by omega) (kedge hall 3 (by kernel_rfl)); exact ⟨(by unfold kC; rw [h0]; kernel_rfl), kC_val (w' := w1) 5 77 (_) rfl rfl (by unfold kC; rw [h0]; kernel_rfl) (by kernel_rfl) (by omega) hx0 hG (Ext.refl _) (kupd_at _ _ _)⟩
              | 6, _ => obtain rfl := kin ho; have h0 : u 76 = _ := hG 4 (by omega) (kedge hall 4 (by kernel_rfl)); have h1 : u 77 = _ := hG 5 (by omega) (kedge hall 5 (by kernel_rfl)); have h2 : u 75 = _ := hG 3 (by omega) (kedge hall 3 (by kernel_rfl)); exact ⟨(by unfold kC; rw [h0, h1, h2]; kernel_rfl), kC_val (w' := w1) 6 78 (_) rfl rfl (by unfold kC; rw [h0, h1, h2]; simp [execOp, Act.eval, go_sem, ia0, ia1]) (by kernel_rfl) (by omega) hx0 hG (Ext.refl _) (kupd_at _ _ _)⟩
              | 7, _ => obtain rfl := kin ho; have h0 : u 78 = _ := hG 6 (by omega) (kedge hall 6 (by kernel_rfl)); have h1 : u 75 = _ := hG 3 (by omega) (kedge hall 3 (by kernel_rfl)); exact ⟨(by unfold kC; rw [h0, h1]; kernel_rfl), kC_val (w' := w1) 7 79 (_) rfl rfl (by unfold kC; rw [h0, h1]; simp [execOp, Act.eval, go_sem, ca]) (by kernel_rfl) (by omega) hx0 hG (Ext.refl _) (kupd_at _ _ _)⟩
              | 8, _ => obtain rfl := kin ho; have h0 : u 75 = _ := hG 3 (by omega) (kedge hall 3 (by kernel_rfl)); exact ⟨(by unfold kC; rw [h0]; kernel_rfl), kC_val (w' := w1) 8 80 (_) rfl rfl (by unfold kC; rw [h0]; kernel_rfl) (by kernel_rfl) (by omega) hx0 hG (Ext.refl _) (kupd_at _ _ _)⟩
              | 9, _ => obtain rfl := kin ho; have h0 : u 75 = _ := hG 3 (by omega) (kedge hall 3 (by kernel_rfl)); exact ⟨(by unfold kC; rw [h0]; kernel_rfl), kC_val (w' := w1) 9 81 (_) rfl rfl (by unfold kC; rw [h0]; kernel_rfl) (by kernel_rfl) (by omega) hx0 hG (Ext.refl _) (kupd_at _ _ _)⟩
              | 10, _ => obtain rfl := kin ho; have h0 : u 80 = _ := hG 8 (by omega) (kedge hall 8 (by kernel_rfl)); have h1 : u 81 = _ := hG 9 (by omega) (kedge hall 9 (by kernel_rfl)); have h2 : u 75 = _ := hG 3 (by omega) (kedge hall 3 (by kernel_rfl)); exact ⟨(by unfold kC; rw [h0, h1, h2]; kernel_rfl), kC_val (w' := w1) 10 82 (_) rfl rfl (by unfold kC; rw [h0, h1, h2]; simp [execOp, Act.eval, go_sem, ib0, ib1]) (by kernel_rfl) (by omega) hx0 hG (Ext.refl _) (kupd_at _ _ _)⟩
              | 11, _ => obtain rfl := kin ho; have h0 : u 82 = _ := hG 10 (by omega) (kedge hall 10 (by kernel_rfl)); have h1 : u 75 = _ := hG 3 (by omega) (kedge hall 3 (by kernel_rfl)); exact ⟨(by unfold kC; rw [h0, h1]; kernel_rfl), kC_val (w' := w1) 11 83 (_) rfl rfl (by unfold kC; rw [h0, h1]; simp [execOp, Act.eval, go_sem, cb]) (by kernel_rfl) (by omega) hx0 hG (Ext.refl _) (kupd_at _ _ _)⟩
              | 12, _ => obtain rfl := kin ho; have h0 : u 75 = _ := hG 3 (by omega) (kedge hall 3 (by kernel_rfl)); exact ⟨(by unfold kC; rw [h0]; kernel_rfl), kC_val (w' := w1) 12 84 (_) rfl rfl (by unfold kC; rw [h0]; kernel_rfl) (by kernel_rfl) (by omega) hx0 hG (Ext.refl _) (kupd_at _ _ _)⟩
              | 13, _ => obtain rfl := kin ho; have h0 : u 79 = _ := hG 7 (by omega) (kedge hall 7 (by kernel_rfl)); have h1 : u 83 = _ := hG 11 (by omega) (kedge hall 11 (by kernel_rfl)); have h2 : u 84 = _ := hG 12 (by omega) (kedge hall 12 (by kernel_rfl)); have h3 : u 75 = _ := hG 3 (by omega) (kedge hall 3 (by kernel_rfl)); exact ⟨(by unfold kC; rw [h0, h1, h2, h3]; kernel_rfl), kC_call (f := 3) (args := #[.int .i64 x, .int .i64 y, .slice (some ⟨g, 0, none⟩) 14 14]) 13 85 (.bool true) rfl rfl (by unfold kC; rw [h0, h1, h2, h3]; kernel_rfl) (by kernel_rfl) (by omega) hx0 hG (lawRuns x y l _ 14 14 w1 wx wy HT (by omega) (by omega)) (fun _ => kupd_at _ _ _)⟩
              | 14, _ => obtain rfl := kin ho; have h0 : u 85 = _ := hG 13 (by omega) (kedge hall 13 (by kernel_rfl)); have h1 : u 75 = _ := hG 3 (by omega) (kedge hall 3 (by kernel_rfl)); exact ⟨(by unfold kC; rw [h0, h1]; kernel_rfl), kC_val (w' := w1) 14 86 (_) rfl rfl (by unfold kC; rw [h0, h1]; kernel_rfl) (by kernel_rfl) (by omega) hx0 hG (Ext.refl _) (kupd_at _ _ _)⟩
              | 15, _ => obtain rfl := kin ho; have h0 : u 75 = _ := hG 3 (by omega) (kedge hall 3 (by kernel_rfl)); have h1 : u 86 = _ := hG 14 (by omega) (kedge hall 14 (by kernel_rfl)); exact ⟨(by unfold kC; rw [h0, h1]; kernel_rfl), kC_val (w' := w1) 15 87 (_) rfl rfl (by unfold kC; rw [h0, h1]; kernel_rfl) (by kernel_rfl) (by omega) hx0 hG (Ext.refl _) (kupd_at _ _ _)⟩
              | n + 16, h => exact absurd h (by omega)
            case done2 =>
              intro listed t w3 hall hI
              obtain ⟨u2, rfl, hx0, hG⟩ := hI
              have h87 : u2 87 = .bool false := hG 15 (by omega) (hall 15 (show 15 < 16 by omega))
              have X3 := Lib.hid ((XL.out.trans XD.out).trans hx0)
              clear hG hall hx0
              have hfr : kC q a b g z2 u2 = ⟨#[u0, .slice (some ⟨q, 0, none⟩) 17 17, .pointer (some ⟨q + 1, 0, none⟩), .pointer (some ⟨q + 1 + 1 + 1, 0, none⟩), .int .i64 (a : Int), .int .i64 (b : Int), .slice (some ⟨g, 0, none⟩) 14 14, .slice (some ⟨q, 0, none⟩) 17 17, .agg #[.int .i64 2, .slice none 0 0, .slice none 0 0, .slice none 0 0], .slice (some ⟨q + 1 + 1, 0, none⟩) 1 1, .agg #[.int .i64 0, .slice none 0 0, .slice (some ⟨q + 1 + 1, 0, none⟩) 1 1, .slice none 0 0], .int .i64 (a : Int), .slice (some ⟨q, 0, none⟩) 17 17, .int .i64 17, .bool true, u15, u16, .int .i64 (b : Int), .slice (some ⟨q, 0, none⟩) 17 17, .int .i64 17, .bool true, u21, u22, u 23, u 24, u 25, u 26, u 27, u 28, u 29, u 30, u 31, u 32, u 33, u 34, u 35, u 36, u 37, u 38, u 39, u 40, u 41, u 42, u 43, u 44, u 45, u 46, u 47, u 48, u 49, u 50, u 51, u 52, u 53, u 54, u 55, u 56, u 57, u 58, u 59, u 60, u 61, u 62, u 63, u 64, u 65, u 66, u 67, u 68, u 69, u 70, u 71, u2 72, u2 73, u2 74, u2 75, u2 76, u2 77, u2 78, u2 79, u2 80, u2 81, u2 82, u2 83, u2 84, u2 85, u2 86, u2 87, undef, undef, undef, undef, undef, undef, undef, undef, undef, undef, undef, undef, undef, undef, undef, undef, undef, undef, undef], []⟩ := by rw [HZ2.out, HZ.out]; kernel_rfl
              rw [hfr, h87]
              clear h87 hfr HZ HZ2
              go_wp2_with fail
              go_roundw
              case rel => exact ⟨b + 1, by omega, by go_num, X3⟩
              case measure => simp [intOf]; omega
        · have j1 : ¬ (b : Int) < 17 := by omega
          go_wp2_with fail
          go_roundw
          case rel => exact ⟨a + 1, by omega, by go_num, X⟩
          case measure => simp [intOf]; omega
    · have i1 : ¬ (a : Int) < 17 := by omega
      go_wp2_with fail
      refine kB_start (q := q) (w0 := V) (by kernel_rfl) (kord (by kernel_rfl)) (by kernel_rfl) X.out (by kernel_rfl) ?step3 ?done3
      case step3 =>
        clear X
        intro z listed t w1 i o ho hall hI
        obtain ⟨u, rfl, hx0, hG⟩ := hI
        have hi : i < 20 := (Array.getElem?_eq_some_iff.1 ho).1
        have KW := HK.out.ext hx0
        obtain ⟨ce0, ce1, ce2, ce3⟩ := cells4 KW.e
        obtain ⟨cw0, cw1, cw2, cw3⟩ := cells4 KW.r
        match i, hi with
        | 0, _ => obtain rfl := kin ho; exact ⟨(by kernel_rfl), kB_call 0 88 (.agg #[.int .i64 3, .int .i64 0, .int .i64 1, .slice none 0 0, .slice none 0 0, .slice none 0 0]) rfl rfl (by kernel_rfl) (by kernel_rfl) (by omega) hx0 hG (one_any _) (fun _ => kupd_at _ _ _)⟩
        | 1, _ => obtain rfl := kin ho; exact ⟨(by kernel_rfl), kB_val (w' := w1.alloc (.cells #[.int .i64 2, .int .i64 1, .int .i64 1, .int .i64 2, .int .i64 9, .int .i64 3] 3)) 1 89 (.slice (some ⟨w1.heap.size, 0, none⟩) 6 6) rfl rfl (by kernel_rfl) (by kernel_rfl) (by omega) hx0 hG (Ext.alloc _ _) (by show IsIntg _ (kupd _ _ _ _); rw [kupd_at]; exact ints_mk w1)⟩
        | 2, _ => obtain rfl := kin ho; have h0 : u 88 = _ := hG 0 (by omega) (kedge hall 0 (by kernel_rfl)); obtain ⟨g1, h1, r1⟩ : IsIntg w1 (u 89) := hG 1 (by omega) (kedge hall 1 (by kernel_rfl)); exact ⟨(by unfold kB; rw [h0, h1]; kernel_rfl), kB_call (f := 12) (args := #[.int .i64 3, .int .i64 2, .int .i64 1, .agg #[.int .i64 3, .int .i64 0, .int .i64 1, .slice none 0 0, .slice none 0 0, .slice none 0 0], .slice (some ⟨g1, 0, none⟩) 6 6]) 2 90 (.bool true) rfl rfl (by unfold kB; rw [h0, h1]; kernel_rfl) (by kernel_rfl) (by omega) hx0 hG (lawSilent 3 2 1 ask1 askS0 _ _ 6 6 w1 (by decide) (by decide) (by decide) (ask1_rd w1) r1 (by omega) (by omega)) (fun _ => kupd_at _ _ _)⟩
        | 3, _ => obtain rfl := kin ho; have h0 : u 90 = _ := hG 2 (by omega) (kedge hall 2 (by kernel_rfl)); exact ⟨(by unfold kB; rw [h0]; kernel_rfl), kB_val (w' := w1) 3 91 (_) rfl rfl (by unfold kB; rw [h0]; kernel_rfl) (by kernel_rfl) (by omega) hx0 hG (Ext.refl _) (kupd_at _ _ _)⟩
        | 4, _ => obtain rfl := kin ho; have h0 : u 91 = _ := hG 3 (by omega) (kedge hall 3 (by kernel_rfl)); exact ⟨(by unfold kB; rw [h0]; kernel_rfl), kB_call 4 92 (.agg #[.int .i64 3, .int .i64 0, .int .i64 1, .slice none 0 0, .slice none 0 0, .slice none 0 0]) rfl rfl (by kernel_rfl) (by kernel_rfl) (by omega) hx0 hG (one_any _) (fun _ => kupd_at _ _ _)⟩
        | 5, _ => obtain rfl := kin ho; have h0 : u 91 = _ := hG 3 (by omega) (kedge hall 3 (by kernel_rfl)); exact ⟨(by unfold kB; rw [h0]; kernel_rfl), kB_val (w' := w1) 5 93 (_) rfl rfl (by simp [execOp, kB, Act.eval, go_sem, cw0, cw1, cw2, cw3]) (by kernel_rfl) (by omega) hx0 hG (Ext.refl _) (kupd_at _ _ _)⟩
        | 6, _ => obtain rfl := kin ho; have h0 : u 91 = _ := hG 3 (by omega) (kedge hall 3 (by kernel_rfl)); exact ⟨(by unfold kB; rw [h0]; kernel_rfl), kB_val (w' := w1.alloc (.cells #[.int .u8 1] 5)) 6 94 (.slice (some ⟨w1.heap.size, 0, none⟩) 1 1) rfl rfl (by unfold kB; rw [h0]; kernel_rfl) (by kernel_rfl) (by omega) hx0 hG (Ext.alloc _ _) (by show IsU8g _ _ _ (kupd _ _ _ _); rw [kupd_at]; exact ⟨_, rfl, Rd.of_heap (ys := []) (heap_alloc_new w1 _) rfl rfl⟩)⟩
        | 7, _ => obtain rfl := kin ho; have h0 : u 91 = _ := hG 3 (by omega) (kedge hall 3 (by kernel_rfl)); exact ⟨(by unfold kB; rw [h0]; kernel_rfl), kB_val (w' := w1.alloc (.cells #[.int .u8 2, .int .u8 3, .int .u8 4, .int .u8 5] 5)) 7 95 (.slice (some ⟨w1.heap.size, 0, none⟩) 4 4) rfl rfl (by unfold kB; rw [h0]; kernel_rfl) (by kernel_rfl) (by omega) hx0 hG (Ext.alloc _ _) (by show IsU8g _ _ _ (kupd _ _ _ _); rw [kupd_at]; exact ⟨_, rfl, Rd.of_heap (ys := []) (heap_alloc_new w1 _) rfl rfl⟩)⟩
        | 8, _ => obtain rfl := kin ho; obtain ⟨g0, h0, r0⟩ : IsU8g w1 1 [1] (u 94) := hG 6 (by omega) (kedge hall 6 (by kernel_rfl)); obtain ⟨g1, h1, r1⟩ : IsU8g w1 4 [2, 3, 4, 5] (u 95) := hG 7 (by omega) (kedge hall 7 (by kernel_rfl)); have h2 : u 91 = _ := hG 3 (by omega) (kedge hall 3 (by kernel_rfl)); exact ⟨(by unfold kB; rw [h0, h1, h2]; kernel_rfl), kB_val (w' := w1.alloc (.cells #[.slice (some ⟨g0, 0, none⟩) 1 1, .slice (some ⟨g1, 0, none⟩) 4 4] 41)) 8 96 (.slice (some ⟨w1.heap.size, 0, none⟩) 2 2) rfl rfl (by unfold kB; rw [h0, h1, h2]; kernel_rfl) (by kernel_rfl) (by omega) hx0 hG (Ext.alloc _ _) (by show IsRowsg _ (kupd _ _ _ _); rw [kupd_at]; exact rows_mk r0 r1)⟩
        | 9, _ => obtain rfl := kin ho; have h0 : u 92 = _ := hG 4 (by omega) (kedge hall 4 (by kernel_rfl)); have h1 : u 93 = _ := hG 5 (by omega) (kedge hall 5 (by kernel_rfl)); obtain ⟨g2, l2, h2, r2⟩ : IsRowsg w1 (u 96) := hG 8 (by omega) (kedge hall 8 (by kernel_rfl)); have h3 : u 91 = _ := hG 3 (by omega) (kedge hall 3 (by kernel_rfl)); exact ⟨(by unfold kB; rw [h0, h1, h2, h3]; kernel_rfl), kB_call (f := 13) (args := #[.int .i64 247, .agg #[.int .i64 3, .int .i64 0, .int .i64 1, .slice none 0 0, .slice none 0 0, .slice none 0 0], .agg #[.int .i64 0, .slice none 0 0, .slice (some ⟨q + 2, 0, none⟩) 1 1, .slice none 0 0], .slice (some ⟨g2, 0, none⟩) 2 2]) 9 97 (.bool true) rfl rfl (by unfold kB; rw [h0, h1, h2, h3]; kernel_rfl) (by kernel_rfl) (by omega) hx0 hG (lawAnswered 247 ask1 askS0 ⟨0, [], [7], []⟩ ⟨none, 0, 0, some ⟨q + 2, 0, none⟩, 1, 1, none, 0, 0⟩ l2 _ 2 2 w1 (by decide) (ask1_rd w1) (rep_word KW.s) r2 (by omega) (by omega)) (fun _ => kupd_at _ _ _)⟩
        | 10, _ => obtain rfl := kin ho; have h0 : u 91 = _ := hG 3 (by omega) (kedge hall 3 (by kernel_rfl)); have h1 : u 97 = _ := hG 9 (by omega) (kedge hall 9 (by kernel_rfl)); exact ⟨(by unfold kB; rw [h0, h1]; kernel_rfl), kB_val (w' := w1) 10 98 (_) rfl rfl (by unfold kB; rw [h0, h1]; kernel_rfl) (by kernel_rfl) (by omega) hx0 hG (Ext.refl _) (kupd_at _ _ _)⟩
        | 11, _ => obtain rfl := kin ho; have h0 : u 98 = _ := hG 10 (by omega) (kedge hall 10 (by kernel_rfl)); exact ⟨(by unfold kB; rw [h0]; kernel_rfl), kB_val (w' := w1) 11 99 (_) rfl rfl (by unfold kB; rw [h0]; kernel_rfl) (by kernel_rfl) (by omega) hx0 hG (Ext.refl _) (kupd_at _ _ _)⟩
        | 12, _ => obtain rfl := kin ho; have h0 : u 99 = _ := hG 11 (by omega) (kedge hall 11 (by kernel_rfl)); exact ⟨(by unfold kB; rw [h0]; kernel_rfl), kB_call 12 100 (.agg #[.int .i64 3, .int .i64 0, .int .i64 1, .slice none 0 0, .slice none 0 0, .slice none 0 0]) rfl rfl (by kernel_rfl) (by kernel_rfl) (by omega) hx0 hG (one_any _) (fun _ => kupd_at _ _ _)⟩
        | 13, _ => obtain rfl := kin ho; have h0 : u 99 = _ := hG 11 (by omega) (kedge hall 11 (by kernel_rfl)); exact ⟨(by unfold kB; rw [h0]; kernel_rfl), kB_val (w' := w1) 13 101 (_) rfl rfl (by simp [execOp, kB, Act.eval, go_sem, ce0, ce1, ce2, ce3]) (by kernel_rfl) (by omega) hx0 hG (Ext.refl _) (kupd_at _ _ _)⟩
        | 14, _ => obtain rfl := kin ho; have h0 : u 100 = _ := hG 12 (by omega) (kedge hall 12 (by kernel_rfl)); have h1 : u 101 = _ := hG 13 (by omega) (kedge hall 13 (by kernel_rfl)); have h2 : u 99 = _ := hG 11 (by omega) (kedge hall 11 (by kernel_rfl)); exact ⟨(by unfold kB; rw [h0, h1, h2]; kernel_rfl), kB_call (f := 14) (args := #[.int .i64 1, .agg #[.int .i64 3, .int .i64 0, .int .i64 1, .slice none 0 0, .slice none 0 0, .slice none 0 0], .agg #[.int .i64 2, .slice none 0 0, .slice none 0 0, .slice none 0 0], .int .i64 9]) 14 102 (.bool true) rfl rfl (by unfold kB; rw [h0, h1, h2]; kernel_rfl) (by kernel_rfl) (by omega) hx0 hG (lawDeaf 1 ask1 askS0 ⟨2, [], [], []⟩ repS0 9 w1 (by decide) (ask1_rd w1) (rep_nil w1 2 (by omega)) (by decide)) (fun _ => kupd_at _ _ _)⟩
        | 15, _ => obtain rfl := kin ho; have h0 : u 99 = _ := hG 11 (by omega) (kedge hall 11 (by kernel_rfl)); have h1 : u 102 = _ := hG 14 (by omega) (kedge hall 14 (by kernel_rfl)); exact ⟨(by unfold kB; rw [h0, h1]; kernel_rfl), kB_val (w' := w1) 15 103 (_) rfl rfl (by unfold kB; rw [h0, h1]; kernel_rfl) (by kernel_rfl) (by omega) hx0 hG (Ext.refl _) (kupd_at _ _ _)⟩
        | 16, _ => obtain rfl := kin ho; have h0 : u 103 = _ := hG 15 (by omega) (kedge hall 15 (by kernel_rfl)); exact ⟨(by unfold kB; rw [h0]; kernel_rfl), kB_val (w' := w1) 16 104 (_) rfl rfl (by unfold kB; rw [h0]; kernel_rfl) (by kernel_rfl) (by omega) hx0 hG (Ext.refl _) (kupd_at _ _ _)⟩
        | 17, _ => obtain rfl := kin ho; have h0 : u 104 = _ := hG 16 (by omega) (kedge hall 16 (by kernel_rfl)); exact ⟨(by unfold kB; rw [h0]; kernel_rfl), kB_call (f := 6) (args := #[]) 17 105 (.bool true) rfl rfl (by unfold kB; rw [h0]; kernel_rfl) (by kernel_rfl) (by omega) hx0 hG (works_any w1) (fun _ => kupd_at _ _ _)⟩
        | 18, _ => obtain rfl := kin ho; have h0 : u 104 = _ := hG 16 (by omega) (kedge hall 16 (by kernel_rfl)); have h1 : u 105 = _ := hG 17 (by omega) (kedge hall 17 (by kernel_rfl)); exact ⟨(by unfold kB; rw [h0, h1]; kernel_rfl), kB_val (w' := w1) 18 106 (_) rfl rfl (by unfold kB; rw [h0, h1]; kernel_rfl) (by kernel_rfl) (by omega) hx0 hG (Ext.refl _) (kupd_at _ _ _)⟩
        | 19, _ => obtain rfl := kin ho; have h0 : u 106 = _ := hG 18 (by omega) (kedge hall 18 (by kernel_rfl)); exact ⟨(by unfold kB; rw [h0]; kernel_rfl), kB_val (w' := w1) 19 0 (_) rfl rfl (by unfold kB; rw [h0]; kernel_rfl) (by kernel_rfl) (by omega) hx0 hG (Ext.refl _) (kupd_at _ _ _)⟩
        | n + 20, h => exact absurd h (by omega)
      case done3 =>
        intro z listed t w3 hall hI
        obtain ⟨u, rfl, hx0, hG⟩ := hI
        have h0 : u 0 = .bool true := hG 19 (by omega) (hall 19 (show 19 < 20 by omega))
        have X3 := Lib.hid (XV.out.trans hx0)
        clear hG hall hx0
        unfold kB
        rw [h0]
        clear h0
        go_wp2_with fail
        go_ret
        exact ⟨rfl, X3.out⟩

end Go.Proofs.YtomcipkmohhpjaaGreat
