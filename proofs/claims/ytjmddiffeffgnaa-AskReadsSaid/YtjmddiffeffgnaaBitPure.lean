/- Bits and bytes, back and forth: plain definitions and laws; no program in sight. -/
import Derived.Test.YtjmddiffeffgnaaWordPure
namespace Go.Out
open Go Go.RowKit
set_option linter.unusedVariables false

def need (n : Nat) : Nat := (n + 7) / 8
/-- Bit i of a list, as a number. -/
def bt (l : List Bool) (i : Nat) : Nat := if l.getD i false then 1 else 0
def bByte (l : List Bool) (j : Nat) : Nat := bt l (8 * j) + 2 * bt l (8 * j + 1) + 4 * bt l (8 * j + 2) + 8 * bt l (8 * j + 3) + 16 * bt l (8 * j + 4) + 32 * bt l (8 * j + 5) + 64 * bt l (8 * j + 6) + 128 * bt l (8 * j + 7)
/-- The bytes that N bytes' room holds behind the bits l. -/
def bitsN (l : List Bool) (N : Nat) : List UInt8 := (List.range N).map fun j => UInt8.ofNat (bByte l j)
def bitsF (l : List Bool) : List UInt8 := bitsN l (need l.length)
/-- Bit i of bytes. -/
def ubit (b : List UInt8) (i : Nat) : Bool := decide ((b.getD (i / 8) 0).toNat / 2 ^ (i % 8) % 2 = 1)
/-- Is a bit set from n on? -/
def spare (b : List UInt8) (n : Nat) : Bool := (List.range (8 * b.length)).any fun i => decide (n ≤ i) && ubit b i
def unbitsF (b : List UInt8) (n : Int) : List Bool × Int :=
  if n < 0 then ([], 3) else if b.length ≠ need n.toNat then ([], 22) else if spare b n.toNat then ([], 4) else ((List.range n.toNat).map (ubit b), 0)

theorem bt_le (l : List Bool) (i : Nat) : bt l i ≤ 1 := by unfold bt; split <;> omega
theorem getD_take (l : List Bool) (k i : Nat) : (l.take k).getD i false = if i < k then l.getD i false else false := by
  rw [List.getD_eq_getElem?_getD, List.getD_eq_getElem?_getD, List.getElem?_take]; split <;> rfl
theorem bt_take (l : List Bool) (k i : Nat) (hk : k < l.length) : bt (l.take (k + 1)) i = bt (l.take k) i + (if i = k then bt l k else 0) := by
  unfold bt
  rw [getD_take, getD_take]
  rcases Nat.lt_trichotomy i k with h | h | h
  · rw [if_pos (show i < k + 1 by omega), if_pos h, if_neg (show ¬ i = k by omega)]; rfl
  · subst h; rw [if_pos (show i < i + 1 by omega), if_neg (show ¬ i < i by omega), if_pos (show i = i from rfl)]; simp
  · rw [if_neg (show ¬ i < k + 1 by omega), if_neg (show ¬ i < k by omega), if_neg (show ¬ i = k by omega), if_neg (by decide)]
theorem bt_past (l : List Bool) (k i : Nat) (h : k ≤ i) : bt (l.take k) i = 0 := by
  unfold bt
  rw [getD_take, if_neg (show ¬ i < k by omega), if_neg (by decide)]
theorem bByte_step (l : List Bool) (k j : Nat) (hk : k < l.length) : bByte (l.take (k + 1)) j = bByte (l.take k) j + (if j = k / 8 then bt l k * 2 ^ (k % 8) else 0) := by
  unfold bByte
  simp only [bt_take l k _ hk]
  generalize bt l k = B
  have hr : k % 8 < 8 := Nat.mod_lt _ (by omega)
  by_cases hj : j = k / 8
  · rw [if_pos hj]
    have hk8 : k = 8 * j + k % 8 := by omega
    generalize k % 8 = r at *
    subst hk8
    match r, hr with
    | 0, _ | 1, _ | 2, _ | 3, _ | 4, _ | 5, _ | 6, _ | 7, _ => simp <;> omega
  · rw [if_neg hj]
    have n0 : ¬ 8 * j = k := by omega
    have n1 : ¬ 8 * j + 1 = k := by omega
    have n2 : ¬ 8 * j + 2 = k := by omega
    have n3 : ¬ 8 * j + 3 = k := by omega
    have n4 : ¬ 8 * j + 4 = k := by omega
    have n5 : ¬ 8 * j + 5 = k := by omega
    have n6 : ¬ 8 * j + 6 = k := by omega
    have n7 : ¬ 8 * j + 7 = k := by omega
    simp only [if_neg n0, if_neg n1, if_neg n2, if_neg n3, if_neg n4, if_neg n5, if_neg n6, if_neg n7]
    omega
theorem bByte_lt (l : List Bool) (j : Nat) : bByte l j < 256 := by
  unfold bByte
  have := bt_le l (8 * j); have := bt_le l (8 * j + 1); have := bt_le l (8 * j + 2); have := bt_le l (8 * j + 3)
  have := bt_le l (8 * j + 4); have := bt_le l (8 * j + 5); have := bt_le l (8 * j + 6); have := bt_le l (8 * j + 7)
  omega
/-- Behind k bits, the byte that the next one goes to has nothing from that bit on. -/
theorem bByte_low (l : List Bool) (k : Nat) : bByte (l.take k) (k / 8) < 2 ^ (k % 8) := by
  have hr : k % 8 < 8 := Nat.mod_lt _ (by omega)
  have hk8 : k = 8 * (k / 8) + k % 8 := by omega
  have hp := fun i (h : k ≤ i) => bt_past l k i h
  have hb := fun i => bt_le (l.take k) i
  unfold bByte
  generalize hj : k / 8 = j at *
  have b0 := hb (8 * j); have b1 := hb (8 * j + 1); have b2 := hb (8 * j + 2); have b3 := hb (8 * j + 3); have b4 := hb (8 * j + 4); have b5 := hb (8 * j + 5); have b6 := hb (8 * j + 6)
  have p0 := hp (8 * j); have p1 := hp (8 * j + 1); have p2 := hp (8 * j + 2); have p3 := hp (8 * j + 3); have p4 := hp (8 * j + 4); have p5 := hp (8 * j + 5); have p6 := hp (8 * j + 6); have p7 := hp (8 * j + 7)
  generalize k % 8 = r at *
  match r, hr with
  | 0, _ | 1, _ | 2, _ | 3, _ | 4, _ | 5, _ | 6, _ | 7, _ => simp only [Nat.reducePow]; omega
theorem bitsN_get (l : List Bool) (N j : Nat) (h : j < N) : (bitsN l N)[j]? = some (UInt8.ofNat (bByte l j)) := by simp [bitsN, h]
theorem bitsN_length (l : List Bool) (N : Nat) : (bitsN l N).length = N := by simp [bitsN]
theorem bitsN_nil (N : Nat) : (bitsN [] N).map cB = List.replicate N (.int .u8 0) := by
  apply List.ext_getElem?
  intro i
  rcases Nat.lt_or_ge i N with h | h
  · rw [List.getElem?_map, bitsN_get _ _ _ h, List.getElem?_replicate, if_pos h]; rfl
  · rw [List.getElem?_eq_none (by simp [bitsN_length]; omega), List.getElem?_eq_none (by simp; omega)]
theorem bitsN_set (l : List Bool) (N k : Nat) (hk : k < l.length) (hN : k / 8 < N) (h : l[k] = true) : ((bitsN (l.take k) N).map cB).set (k / 8) (.int .u8 ((bByte (l.take k) (k / 8) + 2 ^ (k % 8) : Nat) : Int)) = (bitsN (l.take (k + 1)) N).map cB := by
  have hbt : bt l k = 1 := by unfold bt; simp [List.getD, hk, h]
  apply List.ext_getElem?
  intro i
  rcases Nat.lt_or_ge i N with hi | hi
  · rw [List.getElem?_map, bitsN_get _ _ _ hi, List.getElem?_set]
    have hs := bByte_step l k i hk
    by_cases hik : k / 8 = i
    · subst hik
      rw [if_pos rfl, if_pos (by simpa [bitsN_length] using hN)]
      rw [if_pos rfl, hbt, Nat.one_mul] at hs
      have hlt := bByte_lt (l.take (k + 1)) (k / 8)
      simp only [Option.map_some]
      congr 1
      unfold cB
      have e : (UInt8.ofNat (bByte (l.take (k + 1)) (k / 8))).toNat = bByte (l.take (k + 1)) (k / 8) % 256 := rfl
      rw [e, ← hs, Nat.mod_eq_of_lt hlt]
    · rw [if_neg hik, List.getElem?_map, bitsN_get _ _ _ hi]
      rw [if_neg (fun e => hik e.symm)] at hs
      simp only [Nat.add_zero] at hs
      rw [hs]
  · rw [List.getElem?_eq_none (by simp [bitsN_length]; omega), List.getElem?_eq_none (by simp [bitsN_length]; omega)]
theorem bitsN_skip (l : List Bool) (N k : Nat) (hk : k < l.length) (h : l[k] = false) : bitsN (l.take (k + 1)) N = bitsN (l.take k) N := by
  have hbt : bt l k = 0 := by unfold bt; simp [List.getD, hk, h]
  unfold bitsN
  apply List.map_congr_left
  intro j _
  rw [bByte_step l k j hk, hbt]
  simp
theorem bit_or (x r : Nat) (hx : x < 2 ^ r) (hr : r < 8) : bits .or .u8 (x : Int) ((2 ^ r : Nat) : Int) = ((x + 2 ^ r : Nat) : Int) := by
  have h2 : (2 : Nat) ^ r ≤ 2 ^ 7 := Nat.pow_le_pow_right (by omega) (by omega)
  rw [u8_or_nat _ _ (by omega) (by omega), Nat.or_comm, nat_join r _ _ (by simp) hx, Nat.add_comm]
theorem bit_or' (x r : Nat) (hx : x < 2 ^ r) (hr : r < 8) : bits .or .u8 (x : Int) (IntKind.u8.wrap ((2 : Int) ^ r)) = ((x + 2 ^ r : Nat) : Int) := by
  have h2 : (2 : Nat) ^ r ≤ 2 ^ 7 := Nat.pow_le_pow_right (by omega) (by omega)
  have e : IntKind.u8.wrap ((2 : Int) ^ r) = ((2 ^ r : Nat) : Int) := by rw [IntKind.wrap_u8', Int.natCast_pow]; have : ((2 : Nat) : Int) = 2 := rfl; rw [this, ← this, ← Int.natCast_pow]; omega
  rw [e, bit_or x r hx hr]
theorem bit_or'' (x r : Nat) (hx : x < 2 ^ r) (hr : r < 8) : bits .or .u8 (x : Int) ((2 : Int) ^ r % 256) = ((x + 2 ^ r : Nat) : Int) := by
  rw [← bit_or' x r hx hr, IntKind.wrap_u8']
theorem bit_add (x r : Nat) (hx : x < 2 ^ r) (hr : r < 8) : IntKind.u8.wrap ((x : Int) + ((2 ^ r : Nat) : Int) % 256) = ((x + 2 ^ r : Nat) : Int) := by
  have h2 : (2 : Nat) ^ r ≤ 2 ^ 7 := Nat.pow_le_pow_right (by omega) (by omega)
  rw [IntKind.wrap_u8']; omega
theorem bit_add' (x r : Nat) (hx : x < 2 ^ r) (hr : r < 8) : ((x : Int) + (2 : Int) ^ r) % 256 = ((x + 2 ^ r : Nat) : Int) := by
  have h2 : (2 : Nat) ^ r ≤ 2 ^ 7 := Nat.pow_le_pow_right (by omega) (by omega)
  have e : (2 : Int) ^ r = ((2 ^ r : Nat) : Int) := by simp
  rw [e]; omega
theorem pow_le_128 {r : Nat} (hr : r < 8) : (2 : Nat) ^ r ≤ 128 := Nat.pow_le_pow_right (n := 2) (by omega) (show r ≤ 7 by omega)
theorem ubit_shift (x r : Nat) (hx : x < 256) : bits .and .u8 ((x : Int) / 2 ^ r) 1 = ((x / 2 ^ r % 2 : Nat) : Int) := by
  have e : (x : Int) / 2 ^ r = ((x / 2 ^ r : Nat) : Int) := by simp
  have hd : x / 2 ^ r ≤ x := Nat.div_le_self _ _
  rw [e, show (1 : Int) = ((1 : Nat) : Int) from rfl, u8_and_nat _ _ (by omega) (by omega), nat_mask1]
/-- The spare bits are those of the last byte. -/
theorem spare_iff (b : List UInt8) (n : Nat) (hl : b.length = need n) : spare b n = true ↔ n % 8 ≠ 0 ∧ (b.getD (b.length - 1) 0).toNat / 2 ^ (n % 8) ≠ 0 := by
  unfold spare
  rw [List.any_eq_true]
  constructor
  · rintro ⟨i, hi, h⟩
    simp only [List.mem_range, Bool.and_eq_true, decide_eq_true_eq] at hi h
    obtain ⟨h1, h2⟩ := h
    unfold ubit at h2
    rw [decide_eq_true_eq] at h2
    unfold need at hl
    have e1 : i / 8 = b.length - 1 := by omega
    rw [e1] at h2
    refine ⟨by omega, fun h0 => ?_⟩
    have hr : n % 8 ≤ i % 8 := by omega
    have : (b.getD (b.length - 1) 0).toNat < 2 ^ (n % 8) := by
      rcases Nat.lt_or_ge (b.getD (b.length - 1) 0).toNat (2 ^ (n % 8)) with h | h
      · exact h
      · have := Nat.div_pos h (Nat.two_pow_pos _); omega
    have h3 : (2 : Nat) ^ (n % 8) ≤ 2 ^ (i % 8) := Nat.pow_le_pow_right (by omega) hr
    rw [Nat.div_eq_of_lt (by omega)] at h2
    omega
  · rintro ⟨h0, h1⟩
    have hex : ∃ j, n % 8 ≤ j ∧ j < 8 ∧ (b.getD (b.length - 1) 0).toNat / 2 ^ j % 2 = 1 := by
      have hx := (b.getD (b.length - 1) 0).toNat_lt
      generalize (b.getD (b.length - 1) 0).toNat = x at *
      have hr : n % 8 < 8 := Nat.mod_lt _ (by omega)
      generalize n % 8 = r at *
      by_cases c7 : x / 2 ^ 7 % 2 = 1
      · exact ⟨7, by omega, by omega, c7⟩
      by_cases c6 : r ≤ 6 ∧ x / 2 ^ 6 % 2 = 1
      · exact ⟨6, c6.1, by omega, c6.2⟩
      by_cases c5 : r ≤ 5 ∧ x / 2 ^ 5 % 2 = 1
      · exact ⟨5, c5.1, by omega, c5.2⟩
      by_cases c4 : r ≤ 4 ∧ x / 2 ^ 4 % 2 = 1
      · exact ⟨4, c4.1, by omega, c4.2⟩
      by_cases c3 : r ≤ 3 ∧ x / 2 ^ 3 % 2 = 1
      · exact ⟨3, c3.1, by omega, c3.2⟩
      by_cases c2 : r ≤ 2 ∧ x / 2 ^ 2 % 2 = 1
      · exact ⟨2, c2.1, by omega, c2.2⟩
      by_cases c1 : r ≤ 1 ∧ x / 2 ^ 1 % 2 = 1
      · exact ⟨1, c1.1, by omega, c1.2⟩
      exfalso
      simp only [Nat.reducePow] at c7 c6 c5 c4 c3 c2 c1
      match r, hr with
      | 0, _ => exact h0 rfl
      | 1, _ | 2, _ | 3, _ | 4, _ | 5, _ | 6, _ | 7, _ => simp only [Nat.reducePow] at h1; omega
    obtain ⟨j, hj1, hj2, hj3⟩ := hex
    unfold need at hl
    refine ⟨8 * (b.length - 1) + j, by simp; omega, ?_⟩
    simp only [Bool.and_eq_true, decide_eq_true_eq]
    refine ⟨by omega, ?_⟩
    unfold ubit
    rw [show (8 * (b.length - 1) + j) / 8 = b.length - 1 from by omega, show (8 * (b.length - 1) + j) % 8 = j from by omega]
    simpa using hj3
theorem bByte_zero (l : List Bool) (k j : Nat) (h : k ≤ 8 * j) : bByte (l.take k) j = 0 := by
  unfold bByte
  rw [bt_past l k _ (by omega), bt_past l k _ (by omega), bt_past l k _ (by omega), bt_past l k _ (by omega), bt_past l k _ (by omega), bt_past l k _ (by omega), bt_past l k _ (by omega), bt_past l k _ (by omega)]
theorem bitsN_grow (l : List Bool) (k N : Nat) (h : k ≤ 8 * N) : (bitsN (l.take k) (N + 1)).map cB = (bitsN (l.take k) N).map cB ++ [.int .u8 0] := by
  unfold bitsN
  rw [List.range_succ, List.map_append, List.map_append]
  simp [bByte_zero l k N h, cB]
theorem Own.set_ {w : World} {base : Nat} {e : TypeId} {p : Value → Prop} {g off n c i : Nat} {xs : List Value} {v : Value} (h : Own w base e p (some ⟨g, off, none⟩) n c xs) (hv : p v) :
    Own (w.setCell ⟨g, off + i, none⟩ v) base e p (some ⟨g, off, none⟩) n c (xs.set i v) := by
  obtain ⟨h1, h2, h3, h4⟩ := h
  rcases h4 with ⟨h4, _⟩ | ⟨g', off', cur, h4, hb, hh, hs, ht, hp⟩
  · cases h4
  · injection h4 with h4; injection h4 with h4 h5; subst h4; subst h5
    refine ⟨by simpa using h1, h2, h3, .inr ⟨g, off, cur.setIfInBounds (off + i) v, rfl, hb, heap_setCell_same _ _ _ _ _ _ hh, by simpa using hs, ?_, all_set hp hv⟩⟩
    rw [Array.toList_setIfInBounds, ← ht, List.drop_set, if_neg (by omega), Nat.add_sub_cancel_left, List.take_set]
theorem Own.at_ {w : World} {base : Nat} {e : TypeId} {p : Value → Prop} {A : Option Addr} {n c i : Nat} {xs : List Value} (h : Own w base e p A n c xs) (hi : i < n) :
    ∃ g off, A = some ⟨g, off, none⟩ ∧ base ≤ g ∧ w.cell? ⟨g, off + i, none⟩ = xs[i]? ∧ w.frozen? ⟨g, off + i, none⟩ = false := by
  obtain ⟨b, off, e1, hb, hc⟩ := h.rd.2 (by omega)
  subst e1
  have hl : i < xs.length := by have := h.1; omega
  refine ⟨b, off, rfl, (h.lt b rfl).1, by rw [List.getElem?_eq_getElem hl]; exact hc i _ (List.getElem?_eq_getElem hl), ?_⟩
  obtain ⟨_, _, _, h4⟩ := h
  rcases h4 with ⟨h4, _⟩ | ⟨g', off', cur, h4, _, hh, _⟩
  · cases h4
  · injection h4 with h4; injection h4 with h4 h5; subst h4; subst h5
    exact frozen_of_row _ _ _ _ _ hh
theorem bitsF_length (l : List Bool) : (bitsF l).length = need l.length := bitsN_length _ _
end Go.Out
