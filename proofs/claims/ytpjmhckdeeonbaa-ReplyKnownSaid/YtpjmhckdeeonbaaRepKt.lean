/- The table of answers of ReplyKnown: its region draws its order, and makes memory in whatever order. (genrepkt.py prints this.) -/
import Derived.Test.YtpjmhckdeeonbaaRegInv
import Derived.Test.YtpjmhckdeeonbaaRepFo
namespace Go.Out
open Go Go.RowKit
set_option linter.unusedVariables false
/-- A block of items, each of which reads as something. -/
theorem lst_of_heap {α : Type} (K : Kind α) (W : World) (g n : Nat) (cur : Array Value) (t : TypeId) (hh : W.heap[g]? = some (.cells cur t (0, 0))) (hs : cur.size = n * K.k)
    (h : ∀ i, i < n → ∃ x, K.R W ((cur.toList.drop (i * K.k)).take K.k) x) : ∃ l, RdL K W (some ⟨g, 0, none⟩) n l := by
  have hex : ∀ m, m ≤ n → ∃ l : List α, l.length = m ∧ ∀ i x, l[i]? = some x → K.R W ((cur.toList.drop (i * K.k)).take K.k) x := by
    intro m
    induction m with
    | zero => intro _; exact ⟨[], rfl, by simp⟩
    | succ m ih =>
      intro hm
      obtain ⟨l, hl, hx⟩ := ih (by omega)
      obtain ⟨x, hxx⟩ := h m (by omega)
      refine ⟨l ++ [x], by simp [hl], fun i y hy => ?_⟩
      rcases Nat.lt_or_ge i l.length with hlt | hge
      · rw [List.getElem?_append_left hlt] at hy; exact hx i y hy
      · rw [List.getElem?_append_right hge] at hy
        rcases Nat.eq_zero_or_pos (i - l.length) with h0 | h0
        · rw [h0] at hy
          simp only [List.getElem?_cons_zero, Option.some.injEq] at hy
          subst hy
          rw [show i = m by omega]; exact hxx
        · rw [List.getElem?_eq_none (by simp; omega)] at hy; cases hy
  obtain ⟨l, hl, hx⟩ := hex n (Nat.le_refl _)
  refine ⟨l, hl, fun hn => ⟨g, 0, rfl, lt_of_heap hh, fun i x hi => ⟨_, ?_, ?_, hx i x hi⟩⟩⟩
  · have hlt := (List.getElem?_eq_some_iff.1 hi).1
    have hle : (i + 1) * K.k ≤ n * K.k := Nat.mul_le_mul_right _ (by omega)
    rw [Nat.succ_mul] at hle
    simp only [List.length_take, List.length_drop, Array.length_toList, hs]
    omega
  · intro j u hu
    rw [List.getElem?_take] at hu
    split at hu
    · rw [List.getElem?_drop, Array.getElem?_toList] at hu
      rw [cell_of_row _ _ _ _ _ _ hh, Nat.zero_add]; exact hu
    · cases hu
end Go.Out
namespace Go.Proofs.Ytpjmhckdeeonbaa
set_option linter.unusedVariables false
set_option linter.unusedSimpArgs false
set_option maxRecDepth 100000
set_option maxHeartbeats 2000000
open Go Go.RowKit Go.Out

/-- An answer, as its four cells. -/
def repC : Kind RepD := ⟨4, fun w cs r => ∃ s : RepS, cs = [.int .i64 r.exc, .slice s.A1 s.n1 s.c1, .slice s.A2 s.n2 s.c2, .slice s.A3 s.n3 s.c3] ∧ RepRd w r s, fun ⟨s, h1, h2⟩ hx => ⟨s, h1, h2.ext hx⟩⟩
def kFR (q bA oA : Nat) (u : Nat → Value) : Act := ⟨#[.bool false, .pointer (some ⟨q, 0, none⟩), .pointer (some ⟨q + 1, 0, none⟩), u 3, undef, undef, undef, undef, undef, undef, undef, .tuple #[.agg #[.int .i64 3, .int .i64 0, .int .i64 2, .slice none 0 0, .slice none 0 0, .slice none 0 0], .agg #[.int .i64 0, .slice none 0 0, .slice (some ⟨bA, oA, none⟩) 2 2, .slice none 0 0]], .tuple #[.agg #[.int .i64 3, .int .i64 0, .int .i64 2, .slice none 0 0, .slice none 0 0, .slice none 0 0], .agg #[.int .i64 0, .slice none 0 0, .slice (some ⟨bA, oA, none⟩) 2 2, .slice none 0 0]], .agg #[.int .i64 3, .int .i64 0, .int .i64 2, .slice none 0 0, .slice none 0 0, .slice none 0 0], .agg #[.int .i64 0, .slice none 0 0, .slice (some ⟨bA, oA, none⟩) 2 2, .slice none 0 0], u 15, u 16, u 17, u 18, u 19, u 20, u 21, u 22, u 23, u 24, u 25, u 26, u 27, u 28, u 29, u 30, u 31, u 32, u 33, u 34, u 35, u 36, u 37, u 38, u 39, u 40, u 41, u 42, u 43, u 44, u 45, u 46, u 47, u 48, u 49, u 50, u 51, u 52, undef, undef, undef, undef, undef, undef, undef, undef, undef, undef, undef, undef, undef, undef, undef, undef, undef, undef, undef, undef, undef, undef, undef, undef, undef, undef, undef, undef, undef, undef, undef, undef, undef, undef, undef, undef, undef, undef, undef, undef, undef, undef, undef, undef, undef, undef, undef, undef, undef, undef, undef, undef, undef, undef, undef, undef, undef, undef, undef, undef, undef, undef, undef, undef, undef, undef, undef, undef, undef, undef, undef, undef, undef, undef, undef, undef, undef, undef, undef, undef, undef, undef, undef, undef, undef, undef, undef, undef, undef, undef, undef, undef, undef, undef, undef, undef, undef, undef, undef, undef, undef, undef, undef, undef, undef, undef, undef, undef, undef, undef, undef, undef, undef, undef, undef, undef, undef, undef, undef, undef, undef, undef, undef, undef, undef, undef, undef, undef, undef, undef, undef, undef, undef, undef, undef, undef, undef, undef, undef, undef, undef, undef, undef, undef, undef, undef, undef, undef], []⟩
def kupd (u : Nat → Value) (d : Nat) (v : Value) : Nat → Value := fun j => if j = d then v else u j
theorem kupd_at (u : Nat → Value) (d : Nat) (v : Value) : kupd u d v d = v := by simp [kupd]
theorem kupd_ne (u : Nat → Value) {d j : Nat} (v : Value) (h : j ≠ d) : kupd u d v j = u j := by simp [kupd, h]
/-- The slot of an operation. -/
def kDS (i : Nat) : Nat := if i = 38 then 3 else 15 + i
def IsRep (w : World) (v : Value) : Prop := ∃ r s, v = repV r s ∧ RepRd w r s
def IsBoS (n : Nat) (w : World) (v : Value) : Prop := ∃ (g : Nat) (l : List Bool), v = .slice (some ⟨g, 0, none⟩) n n ∧ Rd w (some ⟨g, 0, none⟩) n (l.map cL)
def IsWoS (n : Nat) (w : World) (v : Value) : Prop := ∃ (g : Nat) (l : List UInt16), v = .slice (some ⟨g, 0, none⟩) n n ∧ Rd w (some ⟨g, 0, none⟩) n (l.map cW)
def IsFiS (n : Nat) (w : World) (v : Value) : Prop := ∃ (g : Nat) (l : List (List UInt16)), v = .slice (some ⟨g, 0, none⟩) n n ∧ RdL fileK w (some ⟨g, 0, none⟩) n l
def IsTab (w : World) (v : Value) : Prop := ∃ (g : Nat) (l : List RepD), v = .slice (some ⟨g, 0, none⟩) 16 16 ∧ g < w.heap.size ∧ RdL repC w (some ⟨g, 0, none⟩) 16 l
theorem IsRep.ext {w w' : World} {v : Value} (h : IsRep w v) (hx : Ext w w') : IsRep w' v := by obtain ⟨r, s, h1, h2⟩ := h; exact ⟨r, s, h1, h2.ext hx⟩
theorem IsBoS.ext {n : Nat} {w w' : World} {v : Value} (h : IsBoS n w v) (hx : Ext w w') : IsBoS n w' v := by obtain ⟨g, l, h1, h2⟩ := h; exact ⟨g, l, h1, h2.ext hx⟩
theorem IsWoS.ext {n : Nat} {w w' : World} {v : Value} (h : IsWoS n w v) (hx : Ext w w') : IsWoS n w' v := by obtain ⟨g, l, h1, h2⟩ := h; exact ⟨g, l, h1, h2.ext hx⟩
theorem IsFiS.ext {n : Nat} {w w' : World} {v : Value} (h : IsFiS n w v) (hx : Ext w w') : IsFiS n w' v := by obtain ⟨g, l, h1, h2⟩ := h; exact ⟨g, l, h1, h2.ext hx⟩
theorem IsTab.ext {w w' : World} {v : Value} (h : IsTab w v) (hx : Ext w w') : IsTab w' v := by obtain ⟨g, l, h1, h2, h3⟩ := h; exact ⟨g, l, h1, Nat.lt_of_lt_of_le h2 hx.size, h3.ext hx⟩
theorem rep_mk {w : World} {e : Int} {on : List Bool} {set : List UInt16} {fs : List (List UInt16)} {A1 A2 A3 : Option Addr} {n1 c1 n2 c2 n3 c3 : Nat} (h1 : Rd w A1 n1 (on.map cL)) (h2 : Rd w A2 n2 (set.map cW)) (h3 : RdL fileK w A3 n3 fs)
    (he : -1 ≤ e ∧ e ≤ 1000) (k1 : n1 ≤ c1 ∧ c1 ≤ 100) (k2 : n2 ≤ c2 ∧ c2 ≤ 100) (k3 : n3 ≤ c3 ∧ c3 ≤ 100) : IsRep w (.agg #[.int .i64 e, .slice A1 n1 c1, .slice A2 n2 c2, .slice A3 n3 c3]) :=
  ⟨⟨e, on, set, fs⟩, ⟨A1, n1, c1, A2, n2, c2, A3, n3, c3⟩, rfl, ⟨h1, h2, h3, by unfold i64P; simp only; omega, ⟨k1.1, by simp only; omega⟩, ⟨k2.1, by simp only; omega⟩, ⟨k3.1, by simp only; omega⟩⟩⟩
/-- What holds of an operation that has come up. -/
def kGG (q bA oA : Nat) (u : Nat → Value) (w : World) : Nat → Prop
  | 0 => IsRep w (u 15)
  | 1 => IsRep w (u 16)
  | 2 => IsRep w (u 17)
  | 3 => IsRep w (u 18)
  | 4 => IsRep w (u 19)
  | 5 => u 20 = .pointer (some ⟨q + 1, 2, none⟩)
  | 6 => u 21 = .slice (some ⟨bA, oA, none⟩) 2 2
  | 7 => IsRep w (u 22)
  | 8 => IsBoS 1 w (u 23)
  | 9 => IsRep w (u 24)
  | 10 => IsBoS 10 w (u 25)
  | 11 => IsRep w (u 26)
  | 12 => IsBoS 8 w (u 27)
  | 13 => IsRep w (u 28)
  | 14 => u 29 = .pointer (some ⟨q + 1, 2, none⟩)
  | 15 => u 30 = .slice (some ⟨bA, oA, none⟩) 2 2
  | 16 => u 31 = .slice (some ⟨bA, oA, none⟩) 1 2
  | 17 => IsRep w (u 32)
  | 18 => u 33 = .pointer (some ⟨q + 1, 2, none⟩)
  | 19 => u 34 = .slice (some ⟨bA, oA, none⟩) 2 2
  | 20 => IsBoS 1 w (u 35)
  | 21 => IsRep w (u 36)
  | 22 => IsWoS 1 w (u 37)
  | 23 => IsFiS 1 w (u 38)
  | 24 => IsRep w (u 39)
  | 25 => IsWoS 1 w (u 40)
  | 26 => IsWoS 2 w (u 41)
  | 27 => IsFiS 2 w (u 42)
  | 28 => IsRep w (u 43)
  | 29 => IsWoS 1 w (u 44)
  | 30 => IsWoS 1 w (u 45)
  | 31 => IsFiS 2 w (u 46)
  | 32 => IsRep w (u 47)
  | 33 => IsFiS 1 w (u 48)
  | 34 => IsRep w (u 49)
  | 35 => IsFiS 1 w (u 50)
  | 36 => IsRep w (u 51)
  | 37 => IsTab w (u 52)
  | 38 => IsTab w (u 3)
  | _ => True
theorem kGG_mono {q bA oA : Nat} {u u' : Nat → Value} {w w' : World} {i : Nat} (hi : i < 39) (hu : u' (kDS i) = u (kDS i)) (hx : Ext w w') (h : kGG q bA oA u w i) : kGG q bA oA u' w' i := by
  match i, hi with
  | 0, _ =>
    have hu2 : u' 15 = u 15 := hu
    have h2 : IsRep w (u 15) := h
    exact (show IsRep w' (u' 15) from by rw [hu2]; exact h2.ext hx)
  | 1, _ =>
    have hu2 : u' 16 = u 16 := hu
    have h2 : IsRep w (u 16) := h
    exact (show IsRep w' (u' 16) from by rw [hu2]; exact h2.ext hx)
  | 2, _ =>
    have hu2 : u' 17 = u 17 := hu
    have h2 : IsRep w (u 17) := h
    exact (show IsRep w' (u' 17) from by rw [hu2]; exact h2.ext hx)
  | 3, _ =>
    have hu2 : u' 18 = u 18 := hu
    have h2 : IsRep w (u 18) := h
    exact (show IsRep w' (u' 18) from by rw [hu2]; exact h2.ext hx)
  | 4, _ =>
    have hu2 : u' 19 = u 19 := hu
    have h2 : IsRep w (u 19) := h
    exact (show IsRep w' (u' 19) from by rw [hu2]; exact h2.ext hx)
  | 5, _ =>
    have hu2 : u' 20 = u 20 := hu
    exact hu2.trans h
  | 6, _ =>
    have hu2 : u' 21 = u 21 := hu
    exact hu2.trans h
  | 7, _ =>
    have hu2 : u' 22 = u 22 := hu
    have h2 : IsRep w (u 22) := h
    exact (show IsRep w' (u' 22) from by rw [hu2]; exact h2.ext hx)
  | 8, _ =>
    have hu2 : u' 23 = u 23 := hu
    have h2 : IsBoS 1 w (u 23) := h
    exact (show IsBoS 1 w' (u' 23) from by rw [hu2]; exact h2.ext hx)
  | 9, _ =>
    have hu2 : u' 24 = u 24 := hu
    have h2 : IsRep w (u 24) := h
    exact (show IsRep w' (u' 24) from by rw [hu2]; exact h2.ext hx)
  | 10, _ =>
    have hu2 : u' 25 = u 25 := hu
    have h2 : IsBoS 10 w (u 25) := h
    exact (show IsBoS 10 w' (u' 25) from by rw [hu2]; exact h2.ext hx)
  | 11, _ =>
    have hu2 : u' 26 = u 26 := hu
    have h2 : IsRep w (u 26) := h
    exact (show IsRep w' (u' 26) from by rw [hu2]; exact h2.ext hx)
  | 12, _ =>
    have hu2 : u' 27 = u 27 := hu
    have h2 : IsBoS 8 w (u 27) := h
    exact (show IsBoS 8 w' (u' 27) from by rw [hu2]; exact h2.ext hx)
  | 13, _ =>
    have hu2 : u' 28 = u 28 := hu
    have h2 : IsRep w (u 28) := h
    exact (show IsRep w' (u' 28) from by rw [hu2]; exact h2.ext hx)
  | 14, _ =>
    have hu2 : u' 29 = u 29 := hu
    exact hu2.trans h
  | 15, _ =>
    have hu2 : u' 30 = u 30 := hu
    exact hu2.trans h
  | 16, _ =>
    have hu2 : u' 31 = u 31 := hu
    exact hu2.trans h
  | 17, _ =>
    have hu2 : u' 32 = u 32 := hu
    have h2 : IsRep w (u 32) := h
    exact (show IsRep w' (u' 32) from by rw [hu2]; exact h2.ext hx)
  | 18, _ =>
    have hu2 : u' 33 = u 33 := hu
    exact hu2.trans h
  | 19, _ =>
    have hu2 : u' 34 = u 34 := hu
    exact hu2.trans h
  | 20, _ =>
    have hu2 : u' 35 = u 35 := hu
    have h2 : IsBoS 1 w (u 35) := h
    exact (show IsBoS 1 w' (u' 35) from by rw [hu2]; exact h2.ext hx)
  | 21, _ =>
    have hu2 : u' 36 = u 36 := hu
    have h2 : IsRep w (u 36) := h
    exact (show IsRep w' (u' 36) from by rw [hu2]; exact h2.ext hx)
  | 22, _ =>
    have hu2 : u' 37 = u 37 := hu
    have h2 : IsWoS 1 w (u 37) := h
    exact (show IsWoS 1 w' (u' 37) from by rw [hu2]; exact h2.ext hx)
  | 23, _ =>
    have hu2 : u' 38 = u 38 := hu
    have h2 : IsFiS 1 w (u 38) := h
    exact (show IsFiS 1 w' (u' 38) from by rw [hu2]; exact h2.ext hx)
  | 24, _ =>
    have hu2 : u' 39 = u 39 := hu
    have h2 : IsRep w (u 39) := h
    exact (show IsRep w' (u' 39) from by rw [hu2]; exact h2.ext hx)
  | 25, _ =>
    have hu2 : u' 40 = u 40 := hu
    have h2 : IsWoS 1 w (u 40) := h
    exact (show IsWoS 1 w' (u' 40) from by rw [hu2]; exact h2.ext hx)
  | 26, _ =>
    have hu2 : u' 41 = u 41 := hu
    have h2 : IsWoS 2 w (u 41) := h
    exact (show IsWoS 2 w' (u' 41) from by rw [hu2]; exact h2.ext hx)
  | 27, _ =>
    have hu2 : u' 42 = u 42 := hu
    have h2 : IsFiS 2 w (u 42) := h
    exact (show IsFiS 2 w' (u' 42) from by rw [hu2]; exact h2.ext hx)
  | 28, _ =>
    have hu2 : u' 43 = u 43 := hu
    have h2 : IsRep w (u 43) := h
    exact (show IsRep w' (u' 43) from by rw [hu2]; exact h2.ext hx)
  | 29, _ =>
    have hu2 : u' 44 = u 44 := hu
    have h2 : IsWoS 1 w (u 44) := h
    exact (show IsWoS 1 w' (u' 44) from by rw [hu2]; exact h2.ext hx)
  | 30, _ =>
    have hu2 : u' 45 = u 45 := hu
    have h2 : IsWoS 1 w (u 45) := h
    exact (show IsWoS 1 w' (u' 45) from by rw [hu2]; exact h2.ext hx)
  | 31, _ =>
    have hu2 : u' 46 = u 46 := hu
    have h2 : IsFiS 2 w (u 46) := h
    exact (show IsFiS 2 w' (u' 46) from by rw [hu2]; exact h2.ext hx)
  | 32, _ =>
    have hu2 : u' 47 = u 47 := hu
    have h2 : IsRep w (u 47) := h
    exact (show IsRep w' (u' 47) from by rw [hu2]; exact h2.ext hx)
  | 33, _ =>
    have hu2 : u' 48 = u 48 := hu
    have h2 : IsFiS 1 w (u 48) := h
    exact (show IsFiS 1 w' (u' 48) from by rw [hu2]; exact h2.ext hx)
  | 34, _ =>
    have hu2 : u' 49 = u 49 := hu
    have h2 : IsRep w (u 49) := h
    exact (show IsRep w' (u' 49) from by rw [hu2]; exact h2.ext hx)
  | 35, _ =>
    have hu2 : u' 50 = u 50 := hu
    have h2 : IsFiS 1 w (u 50) := h
    exact (show IsFiS 1 w' (u' 50) from by rw [hu2]; exact h2.ext hx)
  | 36, _ =>
    have hu2 : u' 51 = u 51 := hu
    have h2 : IsRep w (u 51) := h
    exact (show IsRep w' (u' 51) from by rw [hu2]; exact h2.ext hx)
  | 37, _ =>
    have hu2 : u' 52 = u 52 := hu
    have h2 : IsTab w (u 52) := h
    exact (show IsTab w' (u' 52) from by rw [hu2]; exact h2.ext hx)
  | 38, _ =>
    have hu2 : u' 3 = u 3 := hu
    have h2 : IsTab w (u 3) := h
    exact (show IsTab w' (u' 3) from by rw [hu2]; exact h2.ext hx)
  | n + 39, h => exact absurd h (by omega)
def kInv (q bA oA : Nat) (w0 : World) (listed : Array Bool) (a : Act) (w : World) : Prop := ∃ u, a = kFR q bA oA u ∧ Ext w0 w ∧ ∀ i, i < 39 → listed.getD i false = true → kGG q bA oA u w i
theorem kinv_step {q bA oA : Nat} {w0 w w' : World} {listed : Array Bool} {u : Nat → Value} {i : Nat} {v : Value} (hi : i < 39) (h0 : Ext w0 w) (hG : ∀ j, j < 39 → listed.getD j false = true → kGG q bA oA u w j) (hx : Ext w w') (h : kGG q bA oA (kupd u (kDS i) v) w' i) :
    kInv q bA oA w0 (listed.setIfInBounds i true) (kFR q bA oA (kupd u (kDS i) v)) w' := by
  refine ⟨_, rfl, h0.trans hx, fun j hj hl => ?_⟩
  by_cases hji : j = i
  · subst hji; exact h
  · rw [getD_set_ne false (Ne.symm hji)] at hl
    refine kGG_mono hj (kupd_ne _ _ ?_) hx (hG j hj hl)
    unfold kDS
    split <;> split <;> omega
theorem kedge {o : Oper} {listed : Array Bool} (hall : ∀ e ∈ o.after, Region.binds .any e = true → listed.getD e.on false = true) (k : Nat) (hk : (o.after.any fun e => Region.binds .any e && e.on == k) = true) : listed.getD k false = true := by
  obtain ⟨e, he, hb⟩ := Array.any_eq_true'.1 hk
  simp only [Bool.and_eq_true, beq_iff_eq] at hb
  rw [← hb.2]
  exact hall e he hb.1
theorem kwp_val {P : Program} {o : Oper} {a : Act} {w w' : World} {K : Act → World → Prop} {Q : Exit → Act → World → Prop} {v : Value} {d : Nat} (hd : o.dst = some d) (hr : (execOp a.eval o).run P w = .ok (.value v) w') (h : K (a.put (some d) v) w') : o.wp P a w K Q := by
  unfold Oper.wp
  rw [hr]
  show K (a.put o.dst v) w'
  rw [hd]; exact h
theorem krun_v {P : Program} {s : Sem Value} {w w' : World} {x : Value} (h : s.run P w = .ok x w') : ((do pure (.value (← s)) : Sem Next)).run P w = .ok (.value x) w' := by
  simp [h]
theorem kord {ops : Array Oper} (h : ((List.range ops.size).all fun i => ((ops[i]?).map fun o => o.after.all fun e => decide (e.on < i)).getD true) = true) : ∀ (i : Nat) (o : Oper), ops[i]? = some o → ∀ e ∈ o.after, e.on < i := by
  intro i o ho e he
  have hi : i < ops.size := (Array.getElem?_eq_some_iff.1 ho).1
  have h1 := List.all_eq_true.1 h i (List.mem_range.2 hi)
  rw [ho] at h1
  simp only [Option.map_some, Option.getD_some] at h1
  have h2 := Array.all_eq_true_iff_forall_mem.1 h1 e he
  simpa using h2
theorem fi_of {W : World} {g n : Nat} {cur : Array Value} {t : TypeId} (hh : W.heap[g]? = some (.cells cur t (0, 0))) (hs : cur.size = n) (h : ∀ i, i < n → ∃ (A : Option Addr) (k : Nat) (l : List UInt16), cur[i]? = some (.slice A k k) ∧ Rd W A k (l.map cW) ∧ k ≤ 100) : IsFiS n W (.slice (some ⟨g, 0, none⟩) n n) := by
  obtain ⟨l, hl⟩ := lst_of_heap fileK W g n cur t hh (by show _ = n * 1; omega) (fun i hi => by
    obtain ⟨A, k, l, h1, h2, h3⟩ := h i hi
    refine ⟨l, A, k, k, ?_, h2, Nat.le_refl _, by omega, by omega⟩
    show (cur.toList.drop (i * 1)).take 1 = _
    rw [Nat.mul_one]
    have h4 : cur.toList[i]? = some (.slice A k k) := by rw [Array.getElem?_toList]; exact h1
    obtain ⟨hlt, he⟩ := List.getElem?_eq_some_iff.1 h4
    rw [List.drop_eq_getElem_cons hlt, he]; rfl)
  exact ⟨g, l, rfl, hl⟩
def mkB (n : Nat) : Array Value := Array.replicate n (.bool false)
theorem rd_mkB (w : World) (n : Nat) : Rd (w.alloc (.cells (mkB n) 4)) (some ⟨w.heap.size, 0, none⟩) n ((List.replicate n false).map cL) :=
  Rd.of_heap (ys := []) (heap_alloc_new w _) (by unfold mkB; rw [Array.toList_replicate, List.map_replicate, List.append_nil]; rfl) (by simp)
theorem make_mkB (n : Nat) (h : n ≤ 3000) : ∀ W : World, (Instr.makeSlice 22 (.int .i64 (n : Int)) (.int .i64 (n : Int))).run Try.prog W = .ok (.slice (some ⟨W.heap.size, 0, none⟩) n n) (W.alloc (.cells (mkB n) 4)) :=
  fun W => run_make1 (P := Try.prog) 22 4 (.bool false) 1 Try.underlying22 info_bo rfl n (by omega) (by omega) W
/-- A request, as its six cells; a row of bytes, as its one. -/
def askC : Kind AskD := ⟨6, fun w cs a => ∃ s : AskS, cs = [.int .i64 a.code, .int .i64 a.addr, .int .i64 a.count, .slice s.A1 s.n1 s.c1, .slice s.A2 s.n2 s.c2, .slice s.A3 s.n3 s.c3] ∧ AskRd w a s, fun ⟨s, h1, h2⟩ hx => ⟨s, h1, h2.ext hx⟩⟩
def bytC : Kind (List UInt8) := ⟨1, fun w cs b => ∃ A n c, cs = [.slice A n c] ∧ Rd w A n (b.map cB) ∧ n ≤ c ∧ c ≤ 1000, fun ⟨A, n, c, h1, h2, h3⟩ hx => ⟨A, n, c, h1, h2.ext hx, h3⟩⟩
theorem askC_at {w : World} {g n k : Nat} {l : List AskD} (h : RdL askC w (some ⟨g, 0, none⟩) n l) (hk : k < n) : ∃ (a : AskD) (s : AskS), (w.cell? ⟨g, k * 6, none⟩ = some (.int .i64 a.code) ∧ w.cell? ⟨g, k * 6 + 1, none⟩ = some (.int .i64 a.addr) ∧ w.cell? ⟨g, k * 6 + 2, none⟩ = some (.int .i64 a.count) ∧
    w.cell? ⟨g, k * 6 + 3, none⟩ = some (.slice s.A1 s.n1 s.c1) ∧ w.cell? ⟨g, k * 6 + 4, none⟩ = some (.slice s.A2 s.n2 s.c2) ∧ w.cell? ⟨g, k * 6 + 5, none⟩ = some (.slice s.A3 s.n3 s.c3)) ∧ AskRd w a s ∧ g < w.heap.size := by
  obtain ⟨b, off, e, hb, hl, cs, -, hc, s, rfl, hr⟩ := h.at_ hk
  injection e with e
  injection e with e1 e2
  subst e1; subst e2
  have hq := fun j u (hu) => by have := hc j u hu; rw [Nat.zero_add] at this; exact this
  exact ⟨_, s, ⟨hq 0 _ rfl, hq 1 _ rfl, hq 2 _ rfl, hq 3 _ rfl, hq 4 _ rfl, hq 5 _ rfl⟩, hr, hb⟩
theorem repC_at {w : World} {g n k : Nat} {l : List RepD} (h : RdL repC w (some ⟨g, 0, none⟩) n l) (hk : k < n) : ∃ (r : RepD) (s : RepS), (w.cell? ⟨g, k * 4, none⟩ = some (.int .i64 r.exc) ∧ w.cell? ⟨g, k * 4 + 1, none⟩ = some (.slice s.A1 s.n1 s.c1) ∧ w.cell? ⟨g, k * 4 + 2, none⟩ = some (.slice s.A2 s.n2 s.c2) ∧
    w.cell? ⟨g, k * 4 + 3, none⟩ = some (.slice s.A3 s.n3 s.c3)) ∧ RepRd w r s ∧ g < w.heap.size := by
  obtain ⟨b, off, e, hb, hl, cs, -, hc, s, rfl, hr⟩ := h.at_ hk
  injection e with e
  injection e with e1 e2
  subst e1; subst e2
  have hq := fun j u (hu) => by have := hc j u hu; rw [Nat.zero_add] at this; exact this
  exact ⟨_, s, ⟨hq 0 _ rfl, hq 1 _ rfl, hq 2 _ rfl, hq 3 _ rfl⟩, hr, hb⟩
theorem bytC_at {w : World} {g n k : Nat} {l : List (List UInt8)} (h : RdL bytC w (some ⟨g, 0, none⟩) n l) (hk : k < n) : ∃ (b : List UInt8) (A : Option Addr) (N c : Nat), w.cell? ⟨g, k, none⟩ = some (.slice A N c) ∧ Rd w A N (b.map cB) ∧ N ≤ c ∧ c ≤ 1000 ∧ g < w.heap.size := by
  obtain ⟨b, off, e, hb, hl, cs, -, hc, A, N, c, rfl, hr, h1, h2⟩ := h.at_ hk
  injection e with e
  injection e with e1 e2
  subst e1; subst e2
  have hq := hc 0 _ rfl
  have e3 : 0 + (k * bytC.k + 0) = k := by show 0 + (k * 1 + 0) = k; omega
  rw [e3] at hq
  exact ⟨_, A, N, c, hq, hr, h1, h2, hb⟩
theorem wf_i64 {x : Int} (h : -9223372036854775808 ≤ x ∧ x ≤ 9223372036854775807) : (Lit.int .i64 x).wf = true := by
  have h2 := wrap64_wf x
  rwa [IntWalk.wrap64_in x h] at h2
theorem ask_mk {w : World} {c a n : Int} {on : List Bool} {set : List UInt16} {ps : List PartD} {A1 A2 A3 : Option Addr} {n1 n2 n3 : Nat} (h1 : Rd w A1 n1 (on.map cL)) (h2 : Rd w A2 n2 (set.map cW)) (h3 : RdL partK w A3 n3 ps)
    (hc : 0 ≤ c ∧ c ≤ 1000) (ha : 0 ≤ a ∧ a ≤ 1000) (hn : 0 ≤ n ∧ n ≤ 1000) (k1 : n1 ≤ 100) (k2 : n2 ≤ 100) (k3 : n3 ≤ 100) : ∃ x, askC.R w [.int .i64 c, .int .i64 a, .int .i64 n, .slice A1 n1 n1, .slice A2 n2 n2, .slice A3 n3 n3] x :=
  ⟨⟨c, a, n, on, set, ps⟩, ⟨A1, n1, n1, A2, n2, n2, A3, n3, n3⟩, rfl, ⟨h1, h2, h3, by unfold i64P; simp only; omega, by unfold i64P; simp only; omega, by unfold i64P; simp only; omega, ⟨Nat.le_refl _, by simp only; omega⟩, ⟨Nat.le_refl _, by simp only; omega⟩, ⟨Nat.le_refl _, by simp only; omega⟩⟩⟩
theorem ask_parts1 {W : World} {g : Nat} (hh : W.heap[g]? = some (.cells #[.int .i64 1, .int .i64 0, .int .i64 1] 85 (0, 0))) : ∃ x, askC.R W [.int .i64 20, .int .i64 0, .int .i64 0, .slice none 0 0, .slice none 0 0, .slice (some ⟨g, 0, none⟩) 1 1] x := by
  obtain ⟨ps, hps⟩ := lst_of_heap partK W g 1 _ _ hh rfl (fun i hi => by
    match i, hi with
    | 0, _ => exact ⟨⟨1, 0, 1⟩, rfl, by unfold i64P; simp, by unfold i64P; simp, by unfold i64P; simp⟩
    | n + 1, h => exact absurd h (by omega))
  exact ask_mk (on := []) (set := []) (Rd.nil_ _) (Rd.nil_ _) hps (by omega) (by omega) (by omega) (by omega) (by omega) (by omega)
theorem ask_parts2 {W : World} {g : Nat} (hh : W.heap[g]? = some (.cells #[.int .i64 1, .int .i64 0, .int .i64 1, .int .i64 2, .int .i64 3, .int .i64 2] 85 (0, 0))) : ∃ x, askC.R W [.int .i64 20, .int .i64 0, .int .i64 0, .slice none 0 0, .slice none 0 0, .slice (some ⟨g, 0, none⟩) 2 2] x := by
  obtain ⟨ps, hps⟩ := lst_of_heap partK W g 2 _ _ hh rfl (fun i hi => by
    match i, hi with
    | 0, _ => exact ⟨⟨1, 0, 1⟩, rfl, by unfold i64P; simp, by unfold i64P; simp, by unfold i64P; simp⟩
    | 1, _ => exact ⟨⟨2, 3, 2⟩, rfl, by unfold i64P; simp, by unfold i64P; simp, by unfold i64P; simp⟩
    | n + 2, h => exact absurd h (by omega))
  exact ask_mk (on := []) (set := []) (Rd.nil_ _) (Rd.nil_ _) hps (by omega) (by omega) (by omega) (by omega) (by omega) (by omega)
theorem asks_any (w : World) : Calls Try.prog 34 #[] w fun e w' => ∃ g, e = .returned (.slice (some ⟨g, 0, none⟩) 12 12) ∧ (∃ l, RdL askC w' (some ⟨g, 0, none⟩) 12 l) ∧ Ext w w' := by
  go_enter Try.func34, Try.ntmps34
  go_wp2_with fail
  go_ret
  refine ⟨_, rfl, lst_of_heap askC _ _ 12 _ _ (heap_at _ _ _ (by simp)) rfl fun i hi => ?_, by repeat' (first | with_reducible exact Ext.refl _ | with_reducible refine Ext.alloc' ?_ _)⟩
  match i, hi with
  | 0, _ => exact ask_mk (on := []) (set := []) (ps := []) (Rd.nil_ _) (Rd.nil_ _) (RdL.nil_ _ _ _) (by omega) (by omega) (by omega) (by omega) (by omega) (by omega)
  | 1, _ => exact ask_mk (on := []) (set := []) (ps := []) (Rd.nil_ _) (Rd.nil_ _) (RdL.nil_ _ _ _) (by omega) (by omega) (by omega) (by omega) (by omega) (by omega)
  | 2, _ => exact ask_mk (on := []) (set := []) (ps := []) (Rd.nil_ _) (Rd.nil_ _) (RdL.nil_ _ _ _) (by omega) (by omega) (by omega) (by omega) (by omega) (by omega)
  | 3, _ => exact ask_mk (on := []) (set := []) (ps := []) (Rd.nil_ _) (Rd.nil_ _) (RdL.nil_ _ _ _) (by omega) (by omega) (by omega) (by omega) (by omega) (by omega)
  | 4, _ => exact ask_mk (on := [true]) (set := []) (ps := []) (Rd.of_heap (ys := []) ((Ext.alloc _ _).block ((Ext.alloc _ _).block ((Ext.alloc _ _).block ((Ext.alloc _ _).block ((Ext.alloc _ _).block ((Ext.alloc _ _).block (heap_at _ _ _ (by simp)))))))) rfl rfl) (Rd.nil_ _) (RdL.nil_ _ _ _) (by omega) (by omega) (by omega) (by omega) (by omega) (by omega)
  | 5, _ => exact ask_mk (on := []) (set := [9]) (ps := []) (Rd.nil_ _) (Rd.of_heap (ys := []) ((Ext.alloc _ _).block ((Ext.alloc _ _).block ((Ext.alloc _ _).block ((Ext.alloc _ _).block ((Ext.alloc _ _).block (heap_at _ _ _ (by simp))))))) rfl rfl) (RdL.nil_ _ _ _) (by omega) (by omega) (by omega) (by omega) (by omega) (by omega)
  | 6, _ => exact ask_mk (on := [true, false, true]) (set := []) (ps := []) (Rd.of_heap (ys := []) ((Ext.alloc _ _).block ((Ext.alloc _ _).block ((Ext.alloc _ _).block ((Ext.alloc _ _).block (heap_at _ _ _ (by simp)))))) rfl rfl) (Rd.nil_ _) (RdL.nil_ _ _ _) (by omega) (by omega) (by omega) (by omega) (by omega) (by omega)
  | 7, _ => exact ask_mk (on := []) (set := [9, 9]) (ps := []) (Rd.nil_ _) (Rd.of_heap (ys := []) ((Ext.alloc _ _).block ((Ext.alloc _ _).block ((Ext.alloc _ _).block (heap_at _ _ _ (by simp))))) rfl rfl) (RdL.nil_ _ _ _) (by omega) (by omega) (by omega) (by omega) (by omega) (by omega)
  | 8, _ => exact ask_parts1 ((Ext.alloc _ _).block ((Ext.alloc _ _).block (heap_at _ _ _ (by simp))))
  | 9, _ => exact ask_parts2 ((Ext.alloc _ _).block (heap_at _ _ _ (by simp)))
  | 10, _ => exact ask_mk (on := []) (set := []) (ps := []) (Rd.nil_ _) (Rd.nil_ _) (RdL.nil_ _ _ _) (by omega) (by omega) (by omega) (by omega) (by omega) (by omega)
  | 11, _ => exact ask_mk (on := []) (set := []) (ps := []) (Rd.nil_ _) (Rd.nil_ _) (RdL.nil_ _ _ _) (by omega) (by omega) (by omega) (by omega) (by omega) (by omega)
  | n + 12, h => exact absurd h (by omega)
end Go.Proofs.Ytpjmhckdeeonbaa
