/- Plain definitions and laws of layer 2; no program in sight. -/
import Derived.Test.YtjmddiffeffgnaaBase
namespace Go.Out
open Go Go.RowKit
set_option linter.unusedVariables false

/-- A number of n bytes, the highest first. -/
def be (v : Nat) : Nat → List UInt8
  | 0 => []
  | n + 1 => UInt8.ofNat (v / 256 ^ n) :: be v n

theorem be_length (v n : Nat) : (be v n).length = n := by
  induction n with
  | zero => rfl
  | succ n ih => simp [be, ih]
theorem pow256 (k : Nat) : (2 : Nat) ^ (8 * k) = 256 ^ k := by rw [Nat.pow_mul]

theorem shr_cast (v k : Nat) : (v : Int) / 2 ^ (8 * k) = ((v / 256 ^ k : Nat) : Int) := by
  rw [← pow256]; simp

theorem fill_back {cur : Array Value} {xs ys : List Value} {z v : Value} {m n k : Nat} (h : cur.toList = (xs ++ List.replicate (n - k) z) ++ ys) (hx : xs.length = m) (hk : k < n) :
    (cur.setIfInBounds (m + n - 1 - k) v).toList = (xs ++ List.replicate (n - (k + 1)) z) ++ (v :: ys) := by
  have e1 : n - k = (n - (k + 1)) + 1 := by omega
  have e2 : m + n - 1 - k = (xs ++ List.replicate (n - (k + 1)) z).length := by simp [hx]; omega
  rw [Array.toList_setIfInBounds, h, e1, List.replicate_succ', e2]
  simp [List.append_assoc]

theorem be_cell (v k : Nat) : (.int .u8 ((v : Int) / 2 ^ (8 * k) % 256) : Value) = cB (UInt8.ofNat (v / 256 ^ k)) := by
  rw [shr_cast]; unfold cB; congr 1

/-- A call that hands back bytes of its own and an error's number. -/
def RetL (w : World) (t : TypeId) (l : List UInt8) (err : Int) (e : Ending) (w' : World) : Prop :=
  ∃ A n c, e = .returned (.tuple #[.slice A n c, .int .i64 err]) ∧ Own w' w.heap.size t IsU8 A n c (l.map cB) ∧ Below w.heap.size w w'

/-- pack.Put, as lists. -/
def putF (b : List UInt8) (v : Nat) (n : Int) : List UInt8 × Int := if 1 ≤ n ∧ n ≤ 8 ∧ v < 256 ^ n.toNat then (b ++ be v n.toNat, 0) else ([], 3)

/-- The number that bytes are, the highest first. -/
def num (l : List UInt8) : Nat := l.foldl (fun a x => a * 256 + x.toNat) 0

/-- pack.Get, as lists. -/
def getF (b : List UInt8) (at_ n : Int) : Nat × Int :=
  if n < 1 ∨ 8 < n then (0, 3) else if at_ < 0 ∨ (b.length : Int) < at_ + n then (0, 1) else (num ((b.drop at_.toNat).take n.toNat), 0)

theorem num_snoc (l : List UInt8) (x : UInt8) : num (l ++ [x]) = num l * 256 + x.toNat := by simp [num]

theorem num_lt (l : List UInt8) : num l < 256 ^ l.length := by
  suffices h : ∀ (l : List UInt8) (a k : Nat), a < 256 ^ k → l.foldl (fun a x => a * 256 + x.toNat) a < 256 ^ (k + l.length) by
    have := h l 0 0 (by simp); simpa [num] using this
  intro l
  induction l with
  | nil => intro a k h; simpa using h
  | cons x l ih =>
    intro a k h
    have hx : x.toNat < 256 := x.toNat_lt
    have := ih (a * 256 + x.toNat) (k + 1) (by rw [Nat.pow_succ]; omega)
    simp only [List.foldl_cons, List.length_cons]
    rw [show k + (l.length + 1) = k + 1 + l.length from by omega]
    exact this

theorem num_small {x k : Nat} (h : x < 256 ^ k) (hk : k ≤ 7) : x ≤ 72057594037927935 := by
  have := Nat.pow_le_pow_right (n := 256) (by omega) hk
  omega

theorem num_or {X : Nat} (x : UInt8) (h : X ≤ 72057594037927935) : bits .or .u64 ((X : Int) * 256) (IntKind.u64.wrap (x.toNat : Int)) = ((X * 256 + x.toNat : Nat) : Int) := by
  have hx : x.toNat < 256 := x.toNat_lt
  have e1 : IntKind.u64.wrap (x.toNat : Int) = ((x.toNat : Nat) : Int) := by rw [IntKind.wrap_u64]; omega
  have e2 : ((X : Int) * 256) = ((X * 256 : Nat) : Int) := by simp
  rw [e1, e2, u64_or_nat _ _ (by omega) (by omega), nat_join 8 _ _ (by omega) (by omega)]

theorem num_add {X : Nat} (x : UInt8) (h : X ≤ 72057594037927935) : IntKind.u64.wrap ((X : Int) * 256 + IntKind.u64.wrap (x.toNat : Int)) = ((X * 256 + x.toNat : Nat) : Int) := by
  have hx : x.toNat < 256 := x.toNat_lt
  rw [IntKind.wrap_u64, IntKind.wrap_u64]; omega

theorem u8_ofNat (X : Nat) : cB (UInt8.ofNat X) = .int .u8 ((X : Int) % 256) := by unfold cB; congr 1

theorem take_drop_succ {α : Type} (b : List α) (k at_ : Nat) (h : at_ + k < b.length) : (b.drop at_).take (k + 1) = (b.drop at_).take k ++ [b[at_ + k]] := by
  rw [List.take_succ_eq_append_getElem (by simp; omega)]; simp

theorem be_succ_out (v n : Nat) : be v (n + 1) = UInt8.ofNat (v / 256 ^ n) :: be v n := rfl

def fitsF (v : Nat) (n : Int) : Bool := decide (1 ≤ n ∧ n ≤ 8 ∧ v < 256 ^ n.toNat)
theorem fitsF_t {v n : Nat} (h1 : 1 ≤ n) (h8 : n ≤ 8) (h : v < 256 ^ n) : fitsF v n = true := by unfold fitsF; simp; omega
theorem fitsF_f {v n : Nat} (h : ¬ v < 256 ^ n) : fitsF v n = false := by unfold fitsF; simp; omega
theorem fitsF_f' {v : Nat} {n : Int} (h : ¬ (1 ≤ n ∧ n ≤ 8)) : fitsF v n = false := by unfold fitsF; rw [decide_eq_false_iff_not]; rintro ⟨h1, h2, _⟩; exact h ⟨h1, h2⟩
theorem fits_iff {v n : Nat} (h1 : 1 ≤ n) (h8 : n ≤ 8) : fitsF v n = true ↔ v < 256 ^ n := by unfold fitsF; simp; omega
theorem pow_pos256 (k : Nat) : 0 < 256 ^ k := Nat.pow_pos (by omega)
theorem div_zero_iff {v k : Nat} : v / 256 ^ k = 0 ↔ v < 256 ^ k := by
  have := pow_pos256 k
  rw [Nat.div_eq_zero_iff]; omega
theorem wrap_u64_div {X v : Nat} (h : X ≤ v) (hv : v < 2 ^ 64) : IntKind.u64.wrap ((X : Int) / 256) = ((X / 256 : Nat) : Int) := by rw [IntKind.wrap_u64]; omega

/-- What is in front of the last k bytes. -/
def beTop (v n k : Nat) : List UInt8 := (be v n).take (n - k)

theorem be_drop (v : Nat) : ∀ (n k : Nat), k ≤ n → (be v n).drop (n - k) = be v k := by
  intro n
  induction n with
  | zero => intro k hk; have : k = 0 := by omega
            subst this; rfl
  | succ n ih =>
    intro k hk
    rcases Nat.lt_or_ge n k with h | h
    · have : k = n + 1 := by omega
      subst this; simp
    · rw [show n + 1 - k = (n - k) + 1 from by omega, be, List.drop_succ_cons]; exact ih k h

theorem beTop_zero (v n : Nat) : beTop v n n = [] := by simp [beTop]
theorem beTop_all (v n : Nat) : beTop v n 0 = be v n := by simp [beTop, List.take_of_length_le, be_length]
theorem beTop_step (v n k : Nat) (h : k + 1 ≤ n) : beTop v n k = beTop v n (k + 1) ++ [UInt8.ofNat (v / 256 ^ k)] := by
  unfold beTop
  have hl := be_length v n
  have hlt : n - (k + 1) < (be v n).length := by omega
  rw [show n - k = (n - (k + 1)) + 1 from by omega, List.take_succ_eq_append_getElem hlt]
  congr 2
  have h1 := be_drop v n (k + 1) h
  rw [List.drop_eq_getElem_cons hlt, be] at h1
  exact (List.cons.inj h1).1

theorem num_be (v : Nat) : ∀ n : Nat, num (be v n) = v % 256 ^ n := by
  suffices h : ∀ (n a : Nat), (be v n).foldl (fun a x => a * 256 + x.toNat) a = a * 256 ^ n + v % 256 ^ n by
    intro n; have := h n 0; simpa [num] using this
  intro n
  induction n with
  | zero => intro a; simp [be, Nat.mod_one]
  | succ n ih =>
    intro a
    rw [be, List.foldl_cons, ih]
    have e1 : (UInt8.ofNat (v / 256 ^ n)).toNat = v / 256 ^ n % 256 := rfl
    rw [e1, Nat.pow_succ, Nat.mod_mul, Nat.add_mul, Nat.mul_assoc, Nat.mul_comm 256 (256 ^ n), Nat.mul_comm (v / 256 ^ n % 256)]
    omega

/-- The number's lowest bytes, by a mask. -/
theorem mask_low (v n : Nat) (h1 : 1 ≤ n) (h8 : n ≤ 7) (hv : v < 2 ^ 64) : bits .and .u64 (v : Int) (IntKind.u64.wrap (IntKind.u64.wrap (2 ^ (8 * n)) - 1)) = ((v % 256 ^ n : Nat) : Int) := by
  have hp : (256 : Nat) ^ n ≤ 256 ^ 7 := Nat.pow_le_pow_right (by omega) h8
  have hq := pow_pos256 n
  have e1 : ((2 : Int) ^ (8 * n)) = ((256 ^ n : Nat) : Int) := by rw [← pow256]; simp
  have e2 : IntKind.u64.wrap ((256 ^ n : Nat) : Int) = ((256 ^ n : Nat) : Int) := by rw [IntKind.wrap_u64]; omega
  have e3 : IntKind.u64.wrap (((256 ^ n : Nat) : Int) - 1) = ((256 ^ n - 1 : Nat) : Int) := by rw [IntKind.wrap_u64]; omega
  rw [e1, e2, e3, u64_and_nat _ _ (by omega) (by omega), ← pow256, Nat.and_two_pow_sub_one_eq_mod]

end Go.Out
