/- The check sums as plain functions on numbers, and their laws; no program in sight. -/
import Derived.Test.YtcnjhjfepojdaaaBase
import Derived.Test.YtcnjhjfepojdaaaBitBack
namespace Go.Out
open Go Go.RowKit
set_option linter.unusedVariables false

/-- One bit's step of a register. -/
def cstep (P r : Nat) : Nat := if r % 2 = 1 then (r / 2) ^^^ P else r / 2
def citer (P : Nat) : Nat → Nat → Nat
  | 0, r => r
  | k + 1, r => cstep P (citer P k r)
def cbyte (P r : Nat) (c : UInt8) : Nat := citer P 8 (r ^^^ c.toNat)
/-- What a register comes to with bytes. -/
def crc (P r : Nat) (l : List UInt8) : Nat := l.foldl (cbyte P) r

theorem crc_snoc (P r : Nat) (l : List UInt8) (c : UInt8) : crc P r (l ++ [c]) = cbyte P (crc P r l) c := by simp [crc]
theorem crc_append (P r : Nat) (a b : List UInt8) : crc P r (a ++ b) = crc P (crc P r a) b := by simp [crc]
theorem crc_take (P r : Nat) (l : List UInt8) (k : Nat) (h : k < l.length) : crc P r (l.take (k + 1)) = cbyte P (crc P r (l.take k)) l[k] := by
  rw [List.take_succ_eq_append_getElem h, crc_snoc]
theorem cstep_lt {P r W : Nat} (hP : P < 2 ^ W) (hr : r < 2 ^ W) : cstep P r < 2 ^ W := by
  have h2 : r / 2 < 2 ^ W := Nat.lt_of_le_of_lt (Nat.div_le_self _ _) hr
  unfold cstep
  split
  · exact Nat.xor_lt_two_pow h2 hP
  · exact h2
theorem citer_lt {P r W : Nat} (hP : P < 2 ^ W) (hr : r < 2 ^ W) : ∀ k, citer P k r < 2 ^ W
  | 0 => hr
  | k + 1 => cstep_lt hP (citer_lt hP hr k)
theorem byte_lt {W : Nat} (hW : 8 ≤ W) (c : UInt8) : c.toNat < 2 ^ W := Nat.lt_of_lt_of_le c.toNat_lt (Nat.pow_le_pow_right (by omega) hW)
theorem cbyte_lt {P r W : Nat} (hW : 8 ≤ W) (hP : P < 2 ^ W) (hr : r < 2 ^ W) (c : UInt8) : cbyte P r c < 2 ^ W :=
  citer_lt hP (Nat.xor_lt_two_pow hr (byte_lt hW c)) 8
theorem crc_lt {P W : Nat} (hW : 8 ≤ W) (hP : P < 2 ^ W) : ∀ (l : List UInt8) (r : Nat), r < 2 ^ W → crc P r l < 2 ^ W
  | [], r, hr => hr
  | c :: l, r, hr => crc_lt hW hP l (cbyte P r c) (cbyte_lt hW hP hr c)
/-- The two sums of a document's chapter. -/
def more16 (r : Nat) (l : List UInt8) : Nat := crc 40961 r l
def more32 (r : Nat) (l : List UInt8) : Nat := crc 3988292384 (r ^^^ 4294967295) l ^^^ 4294967295
theorem more16_lt {r : Nat} (hr : r < 65536) (l : List UInt8) : more16 r l < 65536 := crc_lt (W := 16) (by omega) (by omega) l r hr
theorem crc32_lt {r : Nat} (hr : r < 4294967296) (l : List UInt8) : crc 3988292384 r l < 4294967296 := crc_lt (W := 32) (by omega) (by omega) l r hr
theorem more32_lt {r : Nat} (hr : r < 4294967296) (l : List UInt8) : more32 r l < 4294967296 :=
  Nat.xor_lt_two_pow (n := 32) (crc32_lt (Nat.xor_lt_two_pow (n := 32) hr (by omega)) l) (by omega)
theorem not_u32 (r : Nat) (hr : r < 4294967296) : bits .xor .u32 IntKind.u32.max (r : Int) = ((r ^^^ 4294967295 : Nat) : Int) := by
  have e : IntKind.u32.max = ((4294967295 : Nat) : Int) := by decide
  rw [e, u32_xor_nat _ _ (by decide) hr, Nat.xor_comm]
end Go.Out

namespace Go.Out
open Go Go.RowKit
set_option linter.unusedVariables false

theorem xor_half (x y : Nat) : (x ^^^ y) / 2 = x / 2 ^^^ y / 2 := by
  have h := Nat.shiftRight_xor_distrib (a := x) (b := y) (i := 1)
  simpa [Nat.shiftRight_eq_div_pow] using h
theorem xor_swap (a b c d : Nat) : (a ^^^ b) ^^^ (c ^^^ d) = (a ^^^ c) ^^^ (b ^^^ d) := by
  rw [Nat.xor_assoc, Nat.xor_assoc]; congr 1
  rw [← Nat.xor_assoc, ← Nat.xor_assoc, Nat.xor_comm b c]
theorem xor_par (x y : Nat) : (x ^^^ y) % 2 = (x + y) % 2 := by
  have h := Nat.testBit_xor x y 0
  simp only [Nat.testBit_zero] at h
  have e : (x + y) % 2 = (x % 2 + y % 2) % 2 := by omega
  rw [e]
  rcases Nat.mod_two_eq_zero_or_one x with hx | hx <;> rcases Nat.mod_two_eq_zero_or_one y with hy | hy <;> rcases Nat.mod_two_eq_zero_or_one (x ^^^ y) with hz | hz <;> rw [hx, hy, hz] at h <;> rw [hx, hy, hz] <;> first | rfl | (revert h; decide)
theorem cstep_xor (P x y : Nat) : cstep P (x ^^^ y) = cstep P x ^^^ cstep P y := by
  unfold cstep
  have hm := xor_par x y
  rcases Nat.mod_two_eq_zero_or_one x with hx | hx <;> rcases Nat.mod_two_eq_zero_or_one y with hy | hy
  · rw [if_neg (by omega), if_neg (by omega), if_neg (by omega), xor_half]
  · rw [if_pos (by omega), if_neg (by omega), if_pos (by omega), xor_half, Nat.xor_assoc]
  · rw [if_pos (by omega), if_pos (by omega), if_neg (by omega), xor_half, Nat.xor_assoc, Nat.xor_assoc, Nat.xor_comm (y / 2)]
  · rw [if_neg (by omega), if_pos (by omega), if_pos (by omega), xor_half, xor_swap, Nat.xor_self, Nat.xor_zero]
theorem citer_xor (P : Nat) : ∀ (k x y : Nat), citer P k (x ^^^ y) = citer P k x ^^^ citer P k y
  | 0, _, _ => rfl
  | k + 1, x, y => by unfold citer; rw [citer_xor P k, cstep_xor]
/-- Two rows laid over one another. -/
def laid (a b : List UInt8) : List UInt8 := List.zipWith (fun x y => x ^^^ y) a b
theorem crc_laid (P : Nat) : ∀ (a b : List UInt8) (r s : Nat), a.length = b.length → crc P (r ^^^ s) (laid a b) = crc P r a ^^^ crc P s b
  | [], [], _, _, _ => rfl
  | [], _ :: _, _, _, h => by simp at h
  | _ :: _, [], _, _, h => by simp at h
  | x :: a, y :: b, r, s, h => by
    have e : cbyte P (r ^^^ s) (x ^^^ y) = cbyte P r x ^^^ cbyte P s y := by
      unfold cbyte
      rw [← citer_xor, UInt8.toNat_xor, xor_swap]
    show crc P (cbyte P (r ^^^ s) (x ^^^ y)) (laid a b) = crc P (cbyte P r x) a ^^^ crc P (cbyte P s y) b
    rw [e, crc_laid P a b _ _ (by simpa using h)]
theorem laid_zero (c : List UInt8) : laid c (List.replicate c.length 0) = c := by
  apply List.ext_getElem
  · simp [laid]
  · intro i h1 h2; simp [laid]
theorem laid_length (a b : List UInt8) (h : a.length = b.length) : (laid a b).length = a.length := by simp [laid, h]
theorem crc_three (P r : Nat) (a b : List UInt8) (h : a.length = b.length) : crc P r a ^^^ crc P r b ^^^ crc P r (laid a b) = crc P r (List.replicate a.length 0) := by
  have h1 := crc_laid P a b r r h
  have h2 := crc_laid P (laid a b) (List.replicate (laid a b).length 0) r r (by simp)
  rw [laid_zero] at h2
  rw [← h1, h2, laid_length a b h, Nat.xor_comm, ← Nat.xor_assoc, Nat.xor_self, Nat.zero_xor]
theorem more16_three (a b : List UInt8) (h : a.length = b.length) : more16 65535 a ^^^ more16 65535 b ^^^ more16 65535 (laid a b) = more16 65535 (List.replicate a.length 0) := crc_three _ _ a b h
theorem more32_three (a b : List UInt8) (h : a.length = b.length) : more32 0 a ^^^ more32 0 b ^^^ more32 0 (laid a b) = more32 0 (List.replicate a.length 0) := by
  unfold more32
  rw [← crc_three _ _ a b h]
  generalize crc 3988292384 (0 ^^^ 4294967295) a = x
  generalize crc 3988292384 (0 ^^^ 4294967295) b = y
  generalize crc 3988292384 (0 ^^^ 4294967295) (laid a b) = z
  generalize (4294967295 : Nat) = f
  rw [xor_swap x f y f, Nat.xor_self, Nat.xor_zero, Nat.xor_assoc, Nat.xor_assoc, Nat.xor_assoc]
theorem more16_append (r : Nat) (a b : List UInt8) : more16 (more16 r a) b = more16 r (a ++ b) := (crc_append _ _ a b).symm
theorem more32_append (r : Nat) (a b : List UInt8) : more32 (more32 r a) b = more32 r (a ++ b) := by
  unfold more32
  rw [crc_append, Nat.xor_assoc, Nat.xor_self, Nat.xor_zero]
end Go.Out

namespace Go.Out
open Go Go.RowKit
set_option linter.unusedVariables false

/-- The k lowest bytes of a number, the lowest first. -/
def le (k v : Nat) : List UInt8 := (List.range k).map fun i => UInt8.ofNat (v / 256 ^ i % 256)
theorem le_length (k v : Nat) : (le k v).length = k := by simp [le]
theorem le_succ (k v : Nat) : le (k + 1) v = le k v ++ [UInt8.ofNat (v / 256 ^ k % 256)] := by simp [le, List.range_succ]
theorem cB_of (X : Nat) : cB (UInt8.ofNat X) = .int .u8 ((X : Int) % 256) := by unfold cB; congr 1
theorem le_map_succ (b : List UInt8) (k v : Nat) : (b ++ le (k + 1) v).map cB = (b ++ le k v).map cB ++ [.int .u8 (((v / 256 ^ k : Nat) : Int) % 256)] := by
  rw [le_succ, ← List.append_assoc, List.map_append, List.map_singleton, cB_of]; simp
theorem le_two (v : Nat) (h : v < 65536) : (le 2 v).map cB = [.int .u8 ((v : Int) % 256), .int .u8 ((v : Int) / 256)] := by
  rw [show le 2 v = [UInt8.ofNat (v % 256), UInt8.ofNat (v / 256 % 256)] from by simp [le, List.range_succ], List.map_cons, List.map_cons, List.map_nil, cB_of, cB_of]
  rw [show ((v % 256 : Nat) : Int) % 256 = (v : Int) % 256 from by omega, show ((v / 256 % 256 : Nat) : Int) % 256 = (v : Int) / 256 from by omega]
theorem le_four (v : Nat) (h : v < 4294967296) : (le 4 v).map cB = [.int .u8 ((v : Int) % 256), .int .u8 ((v : Int) / 256 % 256), .int .u8 ((v : Int) / 65536 % 256), .int .u8 ((v : Int) / 16777216)] := by
  rw [show le 4 v = [UInt8.ofNat (v % 256), UInt8.ofNat (v / 256 % 256), UInt8.ofNat (v / 65536 % 256), UInt8.ofNat (v / 16777216 % 256)] from by simp [le, List.range_succ], List.map_cons, List.map_cons, List.map_cons, List.map_cons, List.map_nil, cB_of, cB_of, cB_of, cB_of]
  rw [show ((v % 256 : Nat) : Int) % 256 = (v : Int) % 256 from by omega, show ((v / 256 % 256 : Nat) : Int) % 256 = (v : Int) / 256 % 256 from by omega, show ((v / 65536 % 256 : Nat) : Int) % 256 = (v : Int) / 65536 % 256 from by omega, show ((v / 16777216 % 256 : Nat) : Int) % 256 = (v : Int) / 16777216 from by omega]
def sealF (k : Nat) (s : List UInt8 → Nat) (b : List UInt8) : List UInt8 := b ++ le k (s b)
def openR (q : Prop) [Decidable q] (L : List UInt8) : List UInt8 × Int := if q then (L, 0) else ([], 5)
theorem openR_t {q : Prop} [Decidable q] {L : List UInt8} (h : q) : openR q L = (L, 0) := if_pos h
theorem openR_f {q : Prop} [Decidable q] {L : List UInt8} (h : ¬ q) : openR q L = ([], 5) := if_neg h
def openF (k : Nat) (s : List UInt8 → Nat) (b : List UInt8) : List UInt8 × Int :=
  if b.length < k then ([], 1) else if sealF k s (b.take (b.length - k)) = b then (b.take (b.length - k), 0) else ([], 5)
theorem getElem_ofNat {x : UInt8} {v : Nat} : x = UInt8.ofNat (v % 256) ↔ x.toNat = v % 256 := by
  constructor
  · intro h; subst h; simp
  · intro h; apply UInt8.toNat.inj; simp [h]
theorem tail_two (b : List UInt8) (n v : Nat) (h : b.length = n + 2) : (b.take n ++ le 2 v = b) ↔ (b[n].toNat = v % 256 ∧ b[n + 1].toNat = v / 256 % 256) := by
  have hd : b.drop n = [b[n], b[n + 1]] := by
    apply List.ext_getElem
    · simp; omega
    · intro i h1 h2
      have : i < 2 := by simpa using h2
      match i, this with
      | 0, _ => simp
      | 1, _ => simp
  have e : b.take n ++ [b[n], b[n + 1]] = b := by rw [← hd]; exact List.take_append_drop n b
  have e2 : (b.take n ++ le 2 v = b) ↔ (b.take n ++ le 2 v = b.take n ++ [b[n], b[n + 1]]) := by rw [e]
  rw [e2, List.append_cancel_left_eq]
  simp only [le, List.range_succ, List.range_zero, List.nil_append, List.map_cons, List.map_nil, List.cons_append, Nat.pow_zero, Nat.div_one, Nat.pow_one, List.cons.injEq, and_true]
  rw [eq_comm, getElem_ofNat, @eq_comm _ _ b[n + 1], getElem_ofNat]
theorem tail_four (b : List UInt8) (n v : Nat) (h : b.length = n + 4) : (b.take n ++ le 4 v = b) ↔ (b[n].toNat = v % 256 ∧ b[n + 1].toNat = v / 256 % 256 ∧ b[n + 2].toNat = v / 65536 % 256 ∧ b[n + 3].toNat = v / 16777216 % 256) := by
  have hd : b.drop n = [b[n], b[n + 1], b[n + 2], b[n + 3]] := by
    apply List.ext_getElem
    · simp; omega
    · intro i h1 h2
      have : i < 4 := by simpa using h2
      match i, this with
      | 0, _ => simp
      | 1, _ => simp
      | 2, _ => simp
      | 3, _ => simp
  have e : b.take n ++ [b[n], b[n + 1], b[n + 2], b[n + 3]] = b := by rw [← hd]; exact List.take_append_drop n b
  have e2 : (b.take n ++ le 4 v = b) ↔ (b.take n ++ le 4 v = b.take n ++ [b[n], b[n + 1], b[n + 2], b[n + 3]]) := by rw [e]
  rw [e2, List.append_cancel_left_eq]
  simp only [le, List.range_succ, List.range_zero, List.nil_append, List.map_cons, List.map_nil, List.cons_append, Nat.pow_zero, Nat.div_one, Nat.pow_one, List.cons.injEq, and_true]
  rw [eq_comm, getElem_ofNat, @eq_comm _ _ b[n + 1], getElem_ofNat, @eq_comm _ _ b[n + 2], getElem_ofNat, @eq_comm _ _ b[n + 3], getElem_ofNat]
end Go.Out

namespace Go.Out
open Go Go.RowKit
set_option linter.unusedVariables false

/-- Bytes as one number, the first byte the lowest. -/
def val : List UInt8 → Nat
  | [] => 0
  | x :: l => x.toNat + 256 * val l
theorem val_lt : ∀ l : List UInt8, val l < 2 ^ (8 * l.length)
  | [] => by simp [val]
  | x :: l => by
    have h1 := val_lt l
    have h2 := x.toNat_lt
    have e : 2 ^ (8 * (x :: l).length) = 256 * 2 ^ (8 * l.length) := by rw [List.length_cons, Nat.mul_add, Nat.pow_add, Nat.mul_comm]
    rw [e]; unfold val; omega
theorem citer_add (P : Nat) : ∀ (j k r : Nat), citer P (j + k) r = citer P j (citer P k r)
  | 0, k, r => by rw [Nat.zero_add]; rfl
  | j + 1, k, r => by rw [show j + 1 + k = (j + k) + 1 from by omega]; unfold citer; rw [citer_add P j k r]
theorem cstep_even (P y : Nat) : cstep P (2 * y) = y := by
  unfold cstep; rw [if_neg (by omega)]; omega
theorem citer_up (P : Nat) : ∀ (k y : Nat), citer P k (2 ^ k * y) = y
  | 0, y => by simp [citer]
  | k + 1, y => by
    rw [citer_add P k 1, show citer P 1 (2 ^ (k + 1) * y) = cstep P (2 ^ (k + 1) * y) from rfl, show 2 ^ (k + 1) * y = 2 * (2 ^ k * y) from by rw [Nat.pow_succ]; simp only [Nat.mul_comm, Nat.mul_left_comm], cstep_even, citer_up P k y]
theorem citer_zero (P : Nat) : ∀ k, citer P k 0 = 0
  | 0 => rfl
  | k + 1 => by unfold citer; rw [citer_zero P k]; rfl
theorem add_xor (x V : Nat) (h : x < 256) : x + 256 * V = x ^^^ (2 ^ 8 * V) := by
  have h2 := Nat.two_pow_add_eq_or_of_lt (i := 8) (b := x) h V
  have h3 : x ^^^ (2 ^ 8 * V) = 2 ^ 8 * V ||| x := by
    apply Nat.eq_of_testBit_eq
    intro i
    rw [Nat.testBit_xor, Nat.testBit_or, Nat.testBit_two_pow_mul]
    rcases Nat.lt_or_ge i 8 with hi | hi
    · have : ¬ 8 ≤ i := by omega
      simp [this]
    · rw [Nat.testBit_lt_two_pow (Nat.lt_of_lt_of_le h (Nat.pow_le_pow_right (n := 2) (i := 8) (j := i) (by omega) hi))]
      simp
  rw [h3, ← h2]; omega
/-- What a register comes to with bytes, at one blow. -/
theorem crc_val (P : Nat) : ∀ (l : List UInt8) (r : Nat), crc P r l = citer P (8 * l.length) (r ^^^ val l)
  | [], r => by simp [crc, val, citer]
  | x :: l, r => by
    show crc P (cbyte P r x) l = _
    rw [crc_val P l, List.length_cons, show 8 * (l.length + 1) = 8 * l.length + 8 from by omega, citer_add]
    congr 1
    rw [show val (x :: l) = x.toNat + 256 * val l from rfl]
    unfold cbyte
    rw [add_xor _ _ x.toNat_lt, ← Nat.xor_assoc, citer_xor P 8 (r ^^^ x.toNat) (2 ^ 8 * val l), citer_up P 8]
theorem xor_zero {a b : Nat} (h : a ^^^ b = 0) : a = b := by
  have e : a ^^^ b ^^^ b = b := by rw [h, Nat.zero_xor]
  rwa [Nat.xor_assoc, Nat.xor_self, Nat.xor_zero] at e
/-- A register that is not nought does not come to nought (the highest bit of P is set). -/
theorem cstep_ne {P W r : Nat} (hP : 2 ^ W ≤ P) (hP2 : P < 2 ^ (W + 1)) (hr : r < 2 ^ (W + 1)) (h : r ≠ 0) : cstep P r ≠ 0 := by
  unfold cstep
  split
  · intro h0
    have h1 := xor_zero h0
    have h2 : r / 2 < 2 ^ W := by rw [Nat.pow_succ] at hr; omega
    omega
  · omega
theorem citer_ne {P W r : Nat} (hP : 2 ^ W ≤ P) (hP2 : P < 2 ^ (W + 1)) (hr : r < 2 ^ (W + 1)) (h : r ≠ 0) : ∀ k, citer P k r ≠ 0
  | 0 => h
  | k + 1 => cstep_ne hP hP2 (citer_lt hP2 hr k) (citer_ne hP hP2 hr h k)
theorem xor_ne {a b : Nat} (h : a ^^^ b ≠ 0) : a ≠ b := fun e => h (by rw [e, Nat.xor_self])
theorem crc_differ (P r : Nat) (a b : List UInt8) (h : a.length = b.length) : crc P r a ^^^ crc P r b = citer P (8 * b.length) (val a ^^^ val b) := by
  rw [crc_val, crc_val, h, ← citer_xor]
  congr 1
  rw [xor_swap, Nat.xor_self, Nat.zero_xor]
/-- Rows that differ within a window of W + 1 bits have other sums. -/
theorem crc_burst {P W : Nat} (hP : 2 ^ W ≤ P) (hP2 : P < 2 ^ (W + 1)) (r k D : Nat) (a b : List UInt8) (h : a.length = b.length) (hd : val a ^^^ val b = 2 ^ k * D) (hk : k ≤ 8 * b.length) (hD : D < 2 ^ (W + 1)) (h0 : D ≠ 0) : crc P r a ^^^ crc P r b ≠ 0 := by
  rw [crc_differ P r a b h, hd, show 8 * b.length = (8 * b.length - k) + k from by omega, citer_add, citer_up]
  exact citer_ne hP hP2 hD h0 _
end Go.Out

namespace Go.Out
open Go Go.RowKit
set_option linter.unusedVariables false

/-- One bit of a byte. -/
def bit8 (j : Nat) : UInt8 := UInt8.ofNat (2 ^ j)
/-- Bytes with bit k turned. -/
def flip (l : List UInt8) (k : Nat) : List UInt8 := l.set (k / 8) (l.getD (k / 8) 0 ^^^ bit8 (k % 8))
theorem flip_length (l : List UInt8) (k : Nat) : (flip l k).length = l.length := by simp [flip]
theorem pow_xor (n a b : Nat) : 2 ^ n * (a ^^^ b) = 2 ^ n * a ^^^ 2 ^ n * b := by
  apply Nat.eq_of_testBit_eq
  intro i
  rw [Nat.testBit_xor, Nat.testBit_two_pow_mul, Nat.testBit_two_pow_mul, Nat.testBit_two_pow_mul, Nat.testBit_xor]
  by_cases h : n ≤ i <;> simp [h]
theorem val_cons (x : UInt8) (l : List UInt8) : val (x :: l) = x.toNat ^^^ 2 ^ 8 * val l := add_xor _ _ x.toNat_lt
theorem val_flip : ∀ (l : List UInt8) (k : Nat), k / 8 < l.length → val (flip l k) = val l ^^^ 2 ^ k
  | [], k, h => by simp at h
  | x :: l, k, h => by
    rcases Nat.lt_or_ge k 8 with hk | hk
    · have e0 : k / 8 = 0 := by omega
      have e1 : k % 8 = k := by omega
      have e2 : (bit8 k).toNat = 2 ^ k := by
        unfold bit8
        have : 2 ^ k < 2 ^ 8 := Nat.pow_lt_pow_right (by omega) hk
        simp; omega
      unfold flip
      rw [e0, e1, List.set_cons_zero, val_cons, val_cons]
      show (x ^^^ bit8 k).toNat ^^^ _ = _
      rw [UInt8.toNat_xor, e2, Nat.xor_assoc, Nat.xor_assoc, Nat.xor_comm (2 ^ k)]
    · have e0 : k / 8 = (k - 8) / 8 + 1 := by omega
      have e1 : k % 8 = (k - 8) % 8 := by omega
      have ih := val_flip l (k - 8) (by rw [e0] at h; simpa using h)
      have e2 : flip (x :: l) k = x :: flip l (k - 8) := by
        unfold flip
        rw [e0, e1]; simp
      rw [e2, val_cons, val_cons, ih, pow_xor, ← Nat.pow_add, show 8 + (k - 8) = k from by omega, Nat.xor_assoc]
/-- The first i bits of a mask turned, from a place on; how many were. -/
def turn (l : List UInt8) (at_ M : Nat) : Nat → List UInt8 × Nat
  | 0 => (l, 0)
  | i + 1 => if M / 2 ^ i % 2 = 1 ∧ (at_ + i) / 8 < l.length then (flip (turn l at_ M i).1 (at_ + i), (turn l at_ M i).2 + 1) else turn l at_ M i
theorem turn_length (l : List UInt8) (at_ M : Nat) : ∀ i, (turn l at_ M i).1.length = l.length
  | 0 => rfl
  | i + 1 => by
    unfold turn
    split
    · rw [flip_length, turn_length l at_ M i]
    · exact turn_length l at_ M i
theorem turn_count (l : List UInt8) (at_ M : Nat) : ∀ i, (turn l at_ M i).2 ≤ i
  | 0 => Nat.le_refl _
  | i + 1 => by
    have h := turn_count l at_ M i
    unfold turn
    split
    · simp only; omega
    · omega
theorem xor_top (D i : Nat) (h : D < 2 ^ i) : D ^^^ 2 ^ i = D + 2 ^ i := by
  have h2 := Nat.two_pow_add_eq_or_of_lt h 1
  rw [Nat.mul_one] at h2
  rw [Nat.add_comm, h2]
  apply Nat.eq_of_testBit_eq
  intro j
  rw [Nat.testBit_xor, Nat.testBit_or, Nat.testBit_two_pow]
  by_cases hj : i = j
  · subst hj; rw [Nat.testBit_lt_two_pow h]; simp
  · simp [hj]
/-- What the turned bytes differ in: a window of the mask's width. -/
theorem turn_val (l : List UInt8) (at_ M W : Nat) (hM : M < 2 ^ W) : ∀ i, ∃ D, val (turn l at_ M i).1 ^^^ val l = 2 ^ at_ * D ∧ D < 2 ^ i ∧ D < 2 ^ W ∧ (D = 0 ↔ (turn l at_ M i).2 = 0) ∧ (D ≠ 0 → at_ ≤ 8 * l.length)
  | 0 => ⟨0, by simp [turn], by simp, Nat.two_pow_pos _, by simp [turn], by simp⟩
  | i + 1 => by
    obtain ⟨D, h1, h2, h3, h4, h5⟩ := turn_val l at_ M W hM i
    have hp : 2 ^ (i + 1) = 2 ^ i + 2 ^ i := by rw [Nat.pow_succ]; omega
    by_cases hc : M / 2 ^ i % 2 = 1 ∧ (at_ + i) / 8 < l.length
    · have e : turn l at_ M (i + 1) = (flip (turn l at_ M i).1 (at_ + i), (turn l at_ M i).2 + 1) := if_pos hc
      rw [e]
      have hiW : i < W := by
        rcases Nat.lt_or_ge i W with h | h
        · exact h
        · have : M / 2 ^ i = 0 := Nat.div_eq_of_lt (Nat.lt_of_lt_of_le hM (Nat.pow_le_pow_right (by omega) h))
          rw [this] at hc; simp at hc
      have hle : 2 ^ (i + 1) ≤ 2 ^ W := Nat.pow_le_pow_right (by omega) hiW
      have hpos := Nat.two_pow_pos i
      refine ⟨D ^^^ 2 ^ i, ?_, ?_, ?_, ?_, fun _ => by omega⟩
      · rw [val_flip _ _ (by rw [turn_length]; exact hc.2), Nat.xor_assoc, Nat.xor_comm (2 ^ (at_ + i)), ← Nat.xor_assoc, h1, pow_xor, ← Nat.pow_add]
      · rw [xor_top D i h2]; omega
      · rw [xor_top D i h2]; omega
      · rw [xor_top D i h2]; simp only; omega
    · have e : turn l at_ M (i + 1) = turn l at_ M i := if_neg hc
      rw [e]
      exact ⟨D, h1, by omega, h3, h4, h5⟩
theorem turn_same (l : List UInt8) (at_ M : Nat) : ∀ i, (turn l at_ M i).2 = 0 → (turn l at_ M i).1 = l
  | 0, _ => rfl
  | i + 1, h => by
    unfold turn at h ⊢
    split at h
    · simp at h
    · rename_i hc; rw [if_neg hc]; exact turn_same l at_ M i h
end Go.Out

namespace Go.Out
open Go Go.RowKit
set_option linter.unusedVariables false

theorem turn_burst {P W : Nat} (hP : 2 ^ W ≤ P) (hP2 : P < 2 ^ (W + 1)) (r : Nat) (l : List UInt8) (at_ M i : Nat) (hM : M < 2 ^ (W + 1)) (h : (turn l at_ M i).2 ≠ 0) : crc P r (turn l at_ M i).1 ≠ crc P r l := by
  obtain ⟨D, h1, h2, h3, h4, h5⟩ := turn_val l at_ M (W + 1) hM i
  have hD : D ≠ 0 := fun e => h (h4.1 e)
  exact xor_ne (crc_burst hP hP2 r at_ D _ _ (turn_length l at_ M i) h1 (h5 hD) h3 hD)
theorem seen16 (l : List UInt8) (at_ M i : Nat) (hM : M < 65536) (h : (turn l at_ M i).2 ≠ 0) : more16 65535 (turn l at_ M i).1 ≠ more16 65535 l :=
  turn_burst (W := 15) (by decide) (by decide) _ l at_ M i hM h
theorem seen32 (l : List UInt8) (at_ M i : Nat) (hM : M < 4294967296) (h : (turn l at_ M i).2 ≠ 0) : more32 0 (turn l at_ M i).1 ≠ more32 0 l := by
  intro e
  have h1 := turn_burst (P := 3988292384) (W := 31) (by decide) (by decide) (0 ^^^ 4294967295) l at_ M i hM h
  apply h1
  unfold more32 at e
  generalize crc 3988292384 (0 ^^^ 4294967295) (turn l at_ M i).1 = x at *
  generalize crc 3988292384 (0 ^^^ 4294967295) l = y at *
  have e2 : x ^^^ 4294967295 ^^^ 4294967295 = y ^^^ 4294967295 ^^^ 4294967295 := by rw [e]
  rwa [Nat.xor_assoc, Nat.xor_assoc, Nat.xor_self, Nat.xor_zero, Nat.xor_zero] at e2
theorem val_le2 (v : Nat) (h : v < 65536) : val (le 2 v) = v := by
  rw [show le 2 v = [UInt8.ofNat (v % 256), UInt8.ofNat (v / 256 % 256)] from by simp [le, List.range_succ]]
  simp [val]; omega
theorem val_le4 (v : Nat) (h : v < 4294967296) : val (le 4 v) = v := by
  rw [show le 4 v = [UInt8.ofNat (v % 256), UInt8.ofNat (v / 256 % 256), UInt8.ofNat (v / 65536 % 256), UInt8.ofNat (v / 16777216 % 256)] from by simp [le, List.range_succ]]
  simp [val]; omega
theorem residue16 (b : List UInt8) : crc 40961 65535 (sealF 2 (more16 65535) b) = 0 := by
  have h := more16_lt (r := 65535) (by decide) b
  unfold sealF
  rw [crc_append, crc_val, le_length]
  show citer 40961 (8 * 2) (more16 65535 b ^^^ val (le 2 (more16 65535 b))) = 0
  rw [val_le2 _ h, Nat.xor_self, citer_zero]
theorem residue32 (b : List UInt8) : crc 3988292384 (0 ^^^ 4294967295) (sealF 4 (more32 0) b) = citer 3988292384 32 4294967295 := by
  have h := more32_lt (r := 0) (by decide) b
  unfold sealF
  rw [crc_append, crc_val, le_length, val_le4 _ h]
  unfold more32
  rw [← Nat.xor_assoc, Nat.xor_self, Nat.zero_xor]
theorem open_seal (k : Nat) (s : List UInt8 → Nat) (b : List UInt8) : openF k s (sealF k s b) = (b, 0) := by
  have hl : (sealF k s b).length = b.length + k := by simp [sealF, le_length]
  have ht : (sealF k s b).take ((sealF k s b).length - k) = b := by rw [hl, Nat.add_sub_cancel]; simp [sealF]
  unfold openF
  rw [if_neg (by omega), ht, if_pos rfl]
theorem open_turned {P r K k : Nat} (s : List UInt8 → Nat) (hres : ∀ b, crc P r (sealF k s b) = K) (b t : List UInt8) (hl : t.length = (sealF k s b).length) (hne : crc P r t ≠ crc P r (sealF k s b)) : openF k s t = ([], 5) := by
  have hk : k ≤ t.length := by rw [hl]; simp [sealF, le_length]
  unfold openF
  rw [if_neg (by omega), if_neg]
  intro e
  apply hne
  rw [hres b, ← e]
  exact hres _
theorem open16_turned (b : List UInt8) (at_ M i : Nat) (hM : M < 65536) (h : (turn (sealF 2 (more16 65535) b) at_ M i).2 ≠ 0) : openF 2 (more16 65535) (turn (sealF 2 (more16 65535) b) at_ M i).1 = ([], 5) :=
  open_turned _ residue16 b _ (turn_length _ _ _ _) (turn_burst (P := 40961) (W := 15) (by decide) (by decide) 65535 _ at_ M i hM h)
theorem open32_turned (b : List UInt8) (at_ M i : Nat) (hM : M < 4294967296) (h : (turn (sealF 4 (more32 0) b) at_ M i).2 ≠ 0) : openF 4 (more32 0) (turn (sealF 4 (more32 0) b) at_ M i).1 = ([], 5) :=
  open_turned _ residue32 b _ (turn_length _ _ _ _) (turn_burst (P := 3988292384) (W := 31) (by decide) (by decide) (0 ^^^ 4294967295) _ at_ M i hM h)
theorem open_same (k : Nat) (s : List UInt8 → Nat) (b : List UInt8) (at_ M i : Nat) (h : (turn (sealF k s b) at_ M i).2 = 0) : openF k s (turn (sealF k s b) at_ M i).1 = (b, 0) := by
  rw [turn_same _ _ _ _ h, open_seal]
end Go.Out

namespace Go.Out
open Go Go.RowKit
set_option linter.unusedVariables false

/-- What is wrong with a PDU of so many bytes. -/
def szF (m : Nat) : Int := if m = 0 then 1 else if 253 < m then 2 else 0
def rtuF (u : UInt8) (b : List UInt8) : List UInt8 × Int :=
  if u.toNat < 1 ∨ 247 < u.toNat then ([], 24) else if szF b.length ≠ 0 then ([], szF b.length) else (sealF 2 (more16 65535) (u :: b), 0)
def lineF (o : List UInt8 × Int) : UInt8 × List UInt8 × Int :=
  if o.2 ≠ 0 then (0, [], o.2) else match o.1 with
    | [] => (0, [], 0)
    | x :: l => if x.toNat < 1 ∨ 247 < x.toNat then (0, [], 24) else (x, l, 0)
def openRtuF (b : List UInt8) : UInt8 × List UInt8 × Int :=
  if b.length < 4 then (0, [], 1) else if 256 < b.length then (0, [], 2) else lineF (openF 2 (more16 65535) b)
theorem openF_ok {k : Nat} {s : List UInt8 → Nat} {b : List UInt8} (h : (openF k s b).2 = 0) : (openF k s b).1 = b.take (b.length - k) := by
  unfold openF at h ⊢
  split at h
  · simp at h
  · split at h
    · simp [*]
    · simp at h
theorem rtuF_unit {u : UInt8} {b : List UInt8} (h : u.toNat < 1 ∨ 247 < u.toNat) : rtuF u b = ([], 24) := if_pos h
theorem rtuF_size {u : UInt8} {b : List UInt8} (h : ¬ (u.toNat < 1 ∨ 247 < u.toNat)) (hs : szF b.length ≠ 0) : rtuF u b = ([], szF b.length) := by unfold rtuF; rw [if_neg h, if_pos hs]
theorem rtuF_ok {u : UInt8} {b : List UInt8} (h : ¬ (u.toNat < 1 ∨ 247 < u.toNat)) (hs : szF b.length = 0) : rtuF u b = (sealF 2 (more16 65535) (u :: b), 0) := by unfold rtuF; rw [if_neg h, if_neg (by simp [hs])]
/-- All but the first of the call's own items. -/
theorem Own.tail {w : World} {base : Nat} {e : TypeId} {p : Value → Prop} {A : Option Addr} {n c : Nat} {xs : List Value} (h : Own w base e p A n c xs) (hn : 1 ≤ n) :
    Own w base e p (A.map (·.add 1)) (n - 1) (c - 1) (xs.drop 1) := by
  obtain ⟨h1, h2, h3, h4⟩ := h
  refine ⟨by simp [h1], by omega, by omega, ?_⟩
  rcases h4 with ⟨h5, h6⟩ | ⟨g, off, cur, h5, h6, h7, h8, h9, h10⟩
  · omega
  · refine .inr ⟨g, off + 1, cur, by subst h5; rfl, h6, h7, by omega, ?_, h10⟩
    rw [← h9, List.drop_take, List.drop_drop]
end Go.Out

namespace Go.Out
open Go Go.RowKit
set_option linter.unusedVariables false

/-- A frame on a stream: its number, its unit, its PDU. -/
structure TcpD where
  id : Nat
  unit : UInt8
  pdu : List UInt8
def tcp0 : TcpD := ⟨0, 0, []⟩

def headF (id n : Nat) (u : UInt8) : List UInt8 := [UInt8.ofNat (id / 256), UInt8.ofNat id, 0, 0, UInt8.ofNat (n / 256), UInt8.ofNat n, u]
def putTF (a : TcpD) : List UInt8 × Int :=
  if szF a.pdu.length ≠ 0 then ([], szF a.pdu.length) else (headF a.id (1 + a.pdu.length) a.unit ++ a.pdu, 0)
def getTF (b : List UInt8) : TcpD × Nat × Int :=
  if b.length < 7 then (tcp0, 0, 1)
  else if (b.getD 2 0).toNat ≠ 0 ∨ (b.getD 3 0).toNat ≠ 0 ∨ at2 b 4 < 2 ∨ 254 < at2 b 4 then (tcp0, 0, 4)
  else if b.length < 6 + at2 b 4 then (tcp0, 0, 1)
  else (⟨at2 b 0, b.getD 6 0, (b.drop 7).take (at2 b 4 - 1)⟩, 6 + at2 b 4, 0)
/-- All whole frames that bytes begin with; how many bytes they have; what is wrong behind them. (With fuel.) -/
def splitN : Nat → List UInt8 → List TcpD × Nat × Int
  | 0, _ => ([], 0, 0)
  | f + 1, b =>
    if (getTF b).2.2 = 1 then ([], 0, 0) else if (getTF b).2.2 ≠ 0 then ([], 0, (getTF b).2.2)
    else ((getTF b).1 :: (splitN f (b.drop (getTF b).2.1)).1, (getTF b).2.1 + (splitN f (b.drop (getTF b).2.1)).2.1, (splitN f (b.drop (getTF b).2.1)).2.2)
def splitF (b : List UInt8) : List TcpD × Nat × Int := splitN (b.length + 1) b

theorem getTF_ok {b : List UInt8} (h : (getTF b).2.2 = 0) : 8 ≤ (getTF b).2.1 ∧ (getTF b).2.1 ≤ b.length ∧ (getTF b).2.1 = 6 + at2 b 4 ∧ at2 b 4 ≤ 254 ∧ 7 ≤ b.length := by
  unfold getTF at h ⊢
  split at h
  · simp at h
  · rename_i h1
    rw [if_neg h1]
    split at h
    · simp at h
    · rename_i h2
      rw [if_neg h2]
      split at h
      · simp at h
      · rename_i h3
        rw [if_neg h3]
        exact ⟨by simp only; omega, by simp only; omega, rfl, by omega, by omega⟩
theorem getTF_err (b : List UInt8) : (getTF b).2.2 = 0 ∨ ((getTF b).1 = tcp0 ∧ (getTF b).2.1 = 0 ∧ ((getTF b).2.2 = 1 ∨ (getTF b).2.2 = 4)) := by
  unfold getTF
  split
  · simp
  · split
    · simp
    · split
      · simp
      · simp
theorem splitN_short {f : Nat} {b : List UInt8} (h : (getTF b).2.2 = 1) : splitN (f + 1) b = ([], 0, 0) := if_pos h
theorem splitN_bad {f : Nat} {b : List UInt8} (h : ¬ (getTF b).2.2 = 1) (h2 : ¬ (getTF b).2.2 = 0) : splitN (f + 1) b = ([], 0, (getTF b).2.2) := by
  show (if _ then _ else _) = _
  rw [if_neg h, if_pos h2]
theorem splitN_ok {f : Nat} {b : List UInt8} (h2 : (getTF b).2.2 = 0) : splitN (f + 1) b = ((getTF b).1 :: (splitN f (b.drop (getTF b).2.1)).1, (getTF b).2.1 + (splitN f (b.drop (getTF b).2.1)).2.1, (splitN f (b.drop (getTF b).2.1)).2.2) := by
  show (if _ then _ else _) = _
  rw [if_neg (by omega), if_neg (by simp [h2])]
/-- Enough fuel is as good as more. -/
theorem splitN_fuel : ∀ (f : Nat) (b : List UInt8), b.length < f → splitN f b = splitF b := by
  suffices h : ∀ (n f g : Nat) (b : List UInt8), b.length ≤ n → b.length < f → b.length < g → splitN f b = splitN g b from
    fun f b hb => h b.length f (b.length + 1) b (Nat.le_refl _) hb (by omega)
  intro n
  induction n with
  | zero =>
    intro f g b h1 h2 h3
    obtain ⟨f, rfl⟩ : ∃ k, f = k + 1 := ⟨f - 1, by omega⟩
    obtain ⟨g, rfl⟩ : ∃ k, g = k + 1 := ⟨g - 1, by omega⟩
    have hs : (getTF b).2.2 = 1 := by unfold getTF; rw [if_pos (by omega)]
    rw [splitN_short hs, splitN_short hs]
  | succ n ih =>
    intro f g b h1 h2 h3
    obtain ⟨f, rfl⟩ : ∃ k, f = k + 1 := ⟨f - 1, by omega⟩
    obtain ⟨g, rfl⟩ : ∃ k, g = k + 1 := ⟨g - 1, by omega⟩
    by_cases hs : (getTF b).2.2 = 1
    · rw [splitN_short hs, splitN_short hs]
    · by_cases h0 : (getTF b).2.2 = 0
      · have hk := getTF_ok h0
        rw [splitN_ok h0, splitN_ok h0, ih f g (b.drop (getTF b).2.1) (by simp; omega) (by simp; omega) (by simp; omega)]
      · rw [splitN_bad hs h0, splitN_bad hs h0]
theorem splitF_short {b : List UInt8} (h : (getTF b).2.2 = 1) : splitF b = ([], 0, 0) := splitN_short h
theorem splitF_bad {b : List UInt8} (h : ¬ (getTF b).2.2 = 1) (h2 : ¬ (getTF b).2.2 = 0) : splitF b = ([], 0, (getTF b).2.2) := splitN_bad h h2
theorem splitF_ok {b : List UInt8} (h2 : (getTF b).2.2 = 0) : splitF b = ((getTF b).1 :: (splitF (b.drop (getTF b).2.1)).1, (getTF b).2.1 + (splitF (b.drop (getTF b).2.1)).2.1, (splitF (b.drop (getTF b).2.1)).2.2) := by
  have hk := getTF_ok h2
  rw [show splitF b = splitN (b.length + 1) b from rfl, splitN_ok h2, splitN_fuel b.length _ (by simp; omega)]
theorem splitF_le : ∀ (n : Nat) (b : List UInt8), b.length ≤ n → (splitF b).2.1 ≤ b.length ∧ 8 * (splitF b).1.length ≤ (splitF b).2.1 ∧ ((splitF b).2.2 = 0 ∨ (splitF b).2.2 = 4) := by
  intro n
  induction n with
  | zero =>
    intro b h
    rw [splitF_short (by unfold getTF; rw [if_pos (by omega)])]; simp
  | succ n ih =>
    intro b h
    by_cases hs : (getTF b).2.2 = 1
    · rw [splitF_short hs]; simp
    · by_cases h0 : (getTF b).2.2 = 0
      · have hk := getTF_ok h0
        rw [splitF_ok h0]
        have := ih (b.drop (getTF b).2.1) (by simp; omega)
        simp only [List.length_drop, List.length_cons] at this ⊢
        omega
      · rw [splitF_bad hs h0]
        rcases getTF_err b with h | ⟨_, _, h | h⟩
        · exact absurd h h0
        · exact absurd h hs
        · simp [h]
/-- What the loop has done: from `at_` on, with the frames l. -/
def restF (l : List TcpD) (at_ : Nat) (r : List TcpD × Nat × Int) : List TcpD × Nat × Int := (l ++ r.1, at_ + r.2.1, r.2.2)
end Go.Out

namespace Go.Out
open Go Go.RowKit
set_option linter.unusedVariables false

theorem szF_zero {m : Nat} : szF m = 0 ↔ 1 ≤ m ∧ m ≤ 253 := by
  unfold szF
  split
  · simp; omega
  · split
    · simp; omega
    · simp; omega
/-- What is framed on a line is opened as it was. -/
theorem openRtu_rtu {u : UInt8} {b : List UInt8} (h : (rtuF u b).2 = 0) : openRtuF (rtuF u b).1 = (u, b, 0) ∧ (rtuF u b).1.length = 3 + b.length ∧ (rtuF u b).1 = sealF 2 (more16 65535) (u :: b) ∧ 1 ≤ u.toNat ∧ u.toNat ≤ 247 ∧ 1 ≤ b.length ∧ b.length ≤ 253 := by
  by_cases hu : u.toNat < 1 ∨ 247 < u.toNat
  · rw [rtuF_unit hu] at h; simp at h
  · by_cases hs : szF b.length = 0
    · rw [rtuF_ok hu hs]
      have hl : (sealF 2 (more16 65535) (u :: b)).length = 3 + b.length := by simp [sealF, le_length]; omega
      have hb := szF_zero.1 hs
      refine ⟨?_, hl, rfl, by omega, by omega, hb.1, hb.2⟩
      simp only
      unfold openRtuF
      rw [if_neg (by omega), if_neg (by omega), open_seal]
      unfold lineF
      rw [if_neg (by simp)]
      exact if_neg hu
    · rw [rtuF_size hu hs] at h; exact absurd h hs
theorem rtu_fits {u : UInt8} {b : List UInt8} : (rtuF u b).2 = 0 ↔ (1 ≤ u.toNat ∧ u.toNat ≤ 247) ∧ 1 ≤ b.length ∧ b.length ≤ 253 := by
  constructor
  · intro h; have := openRtu_rtu h; omega
  · intro h
    rw [rtuF_ok (by omega) (szF_zero.2 h.2)]
theorem openRtu_bad {s : List UInt8} (h1 : 4 ≤ s.length) (h2 : s.length ≤ 256) (h : openF 2 (more16 65535) s = ([], 5)) : openRtuF s = (0, [], 5) := by
  unfold openRtuF
  rw [if_neg (by omega), if_neg (by omega), h]; rfl
theorem put_fits {a : TcpD} : (putTF a).2 = 0 ↔ 1 ≤ a.pdu.length ∧ a.pdu.length ≤ 253 := by
  unfold putTF
  split
  · rename_i h
    simp only
    exact ⟨fun h2 => absurd h2 h, fun h2 => szF_zero.2 h2⟩
  · rename_i h
    simp only [true_iff]
    exact szF_zero.1 (Classical.not_not.1 h)
theorem headF_length (id n : Nat) (u : UInt8) : (headF id n u).length = 7 := rfl
/-- What is framed on a stream is opened as it was, whatever stands behind it. -/
theorem get_put {a : TcpD} (hid : a.id < 65536) (h : (putTF a).2 = 0) (more : List UInt8) : getTF ((putTF a).1 ++ more) = (a, 7 + a.pdu.length, 0) ∧ (putTF a).1.length = 7 + a.pdu.length := by
  have hp := put_fits.1 h
  have e : putTF a = (headF a.id (1 + a.pdu.length) a.unit ++ a.pdu, 0) := by
    unfold putTF; rw [if_neg (by rw [szF_zero.2 hp]; simp)]
  rw [e]
  refine ⟨?_, by simp [headF_length]⟩
  simp only
  have e4 : at2 (headF a.id (1 + a.pdu.length) a.unit ++ a.pdu ++ more) 4 = 1 + a.pdu.length := by
    show (UInt8.ofNat ((1 + a.pdu.length) / 256)).toNat * 256 + (UInt8.ofNat (1 + a.pdu.length)).toNat = _
    exact two_join _ (by omega)
  have e0 : at2 (headF a.id (1 + a.pdu.length) a.unit ++ a.pdu ++ more) 0 = a.id := two_join _ hid
  have hl : (headF a.id (1 + a.pdu.length) a.unit ++ a.pdu ++ more).length = 7 + a.pdu.length + more.length := by simp [headF_length]; omega
  unfold getTF
  rw [if_neg (by omega), e4, if_neg (by rintro (h | h | h | h); exact h rfl; exact h rfl; omega; omega), if_neg (by omega), e0]
  have hd : ((headF a.id (1 + a.pdu.length) a.unit ++ a.pdu ++ more).drop 7).take (1 + a.pdu.length - 1) = a.pdu := by
    rw [List.append_assoc, List.drop_append_of_le_length (by rw [headF_length]; omega), show (headF a.id (1 + a.pdu.length) a.unit).drop 7 = [] from rfl, List.nil_append, Nat.add_sub_cancel_left, List.take_append_of_le_length (by omega), List.take_of_length_le (by omega)]
  rw [hd]
  show ((⟨a.id, a.unit, a.pdu⟩ : TcpD), 6 + (1 + a.pdu.length), (0 : Int)) = _
  rw [show 6 + (1 + a.pdu.length) = 7 + a.pdu.length from by omega]
theorem getD_takeN {α : Type} (l : List α) (k i : Nat) (z : α) (h : i < k) : (l.take k).getD i z = l.getD i z := by
  rw [List.getD_eq_getElem?_getD, List.getD_eq_getElem?_getD, List.getElem?_take, if_pos h]
theorem at2_take (b : List UInt8) (k i : Nat) (h : i + 1 < k) : at2 (b.take k) i = at2 b i := by
  unfold at2; rw [getD_takeN _ _ _ _ (by omega), getD_takeN _ _ _ _ (by omega)]
/-- The first frame of a stream's beginning. -/
theorem get_take (b : List UInt8) (k : Nat) (hk : k ≤ b.length) :
    (getTF (b.take k)).2.2 = 1 ∨ ((getTF (b.take k)).2.2 = 4 ∧ (getTF b).2.2 = 4) ∨ ((getTF (b.take k)).2.2 = 0 ∧ getTF (b.take k) = getTF b ∧ (getTF b).2.1 ≤ k) := by
  have hl : (b.take k).length = k := by simp [hk]
  rcases Nat.lt_or_ge k 7 with h7 | h7
  · left; unfold getTF; rw [if_pos (by omega)]
  · have e4 := at2_take b k 4 (by omega)
    have e2 := getD_takeN b k 2 0 (by omega)
    have e3 := getD_takeN b k 3 0 (by omega)
    by_cases hf : (b.getD 2 0).toNat ≠ 0 ∨ (b.getD 3 0).toNat ≠ 0 ∨ at2 b 4 < 2 ∨ 254 < at2 b 4
    · right; left
      unfold getTF
      rw [if_neg (by omega), e2, e3, e4, if_pos hf, if_neg (by omega), if_pos hf]; simp
    · rcases Nat.lt_or_ge k (6 + at2 b 4) with h | h
      · left
        unfold getTF
        rw [if_neg (by omega), e2, e3, e4, if_neg hf, if_pos (by omega)]
      · right; right
        have e0 := at2_take b k 0 (by omega)
        have e6 := getD_takeN b k 6 0 (by omega)
        have ed : ((b.take k).drop 7).take (at2 b 4 - 1) = (b.drop 7).take (at2 b 4 - 1) := by
          rw [List.drop_take, List.take_take, Nat.min_eq_left (by omega)]
        have e : getTF (b.take k) = getTF b := by
          unfold getTF
          rw [if_neg (by omega), e2, e3, e4, if_neg hf, if_neg (by omega), e0, e6, ed, if_neg (by omega), if_neg hf, if_neg (by omega)]
        have e' : getTF b = (⟨at2 b 0, b.getD 6 0, (b.drop 7).take (at2 b 4 - 1)⟩, 6 + at2 b 4, 0) := by
          unfold getTF
          rw [if_neg (by omega), if_neg hf, if_neg (by omega)]
        exact ⟨by rw [e, e'], e, by rw [e']; exact h⟩
/-- A stream in two pieces. -/
theorem split_pieces : ∀ (n : Nat) (b : List UInt8), b.length ≤ n → ∀ k, k ≤ b.length →
    (splitF (b.take k)).2.1 ≤ k ∧ (splitF (b.take k)).2.1 ≤ (splitF b).2.1 ∧
    (((splitF (b.take k)).2.2 ≠ 0 ∧ splitF (b.take k) = splitF b) ∨
     ((splitF (b.take k)).2.2 = 0 ∧ splitF b = restF (splitF (b.take k)).1 (splitF (b.take k)).2.1 (splitF (b.drop (splitF (b.take k)).2.1)))) := by
  intro n
  induction n with
  | zero =>
    intro b hb k hk
    have hs : (getTF (b.take k)).2.2 = 1 := by unfold getTF; rw [if_pos (by simp; omega)]
    rw [splitF_short hs]
    exact ⟨Nat.zero_le _, Nat.zero_le _, .inr ⟨rfl, by simp [restF]⟩⟩
  | succ n ih =>
    intro b hb k hk
    rcases get_take b k hk with h | ⟨h, h4⟩ | ⟨h, he, hn⟩
    · rw [splitF_short h]
      exact ⟨Nat.zero_le _, Nat.zero_le _, .inr ⟨rfl, by simp [restF]⟩⟩
    · rw [splitF_bad (by omega) (by omega), splitF_bad (by omega) (by omega), h, h4]
      exact ⟨Nat.zero_le _, Nat.zero_le _, .inl ⟨by simp, rfl⟩⟩
    · have hb0 : (getTF b).2.2 = 0 := by rw [← he]; exact h
      have hk8 := getTF_ok hb0
      have ed : (b.take k).drop (getTF b).2.1 = (b.drop (getTF b).2.1).take (k - (getTF b).2.1) := by rw [List.drop_take]
      have hi := ih (b.drop (getTF b).2.1) (by simp; omega) (k - (getTF b).2.1) (by simp; omega)
      rw [splitF_ok h, splitF_ok hb0, he, ed]
      generalize splitF ((b.drop (getTF b).2.1).take (k - (getTF b).2.1)) = s at *
      generalize hS : splitF (b.drop (getTF b).2.1) = S at *
      obtain ⟨h1, h2, h3⟩ := hi
      refine ⟨by simp only; omega, by simp only; omega, ?_⟩
      rcases h3 with ⟨h3, h4⟩ | ⟨h3, h4⟩
      · exact .inl ⟨h3, by rw [h4]⟩
      · refine .inr ⟨h3, ?_⟩
        rw [List.drop_drop] at h4
        simp only
        rw [h4]
        simp [restF, Nat.add_assoc]
theorem take7 (b : List UInt8) (h : 7 ≤ b.length) : b.take 7 = [b.getD 0 0, b.getD 1 0, b.getD 2 0, b.getD 3 0, b.getD 4 0, b.getD 5 0, b.getD 6 0] := by
  match b, h with
  | x0 :: x1 :: x2 :: x3 :: x4 :: x5 :: x6 :: r, _ => rfl
/-- What is split is laid anew as just the bytes that went by. -/
theorem split_back : ∀ (n : Nat) (b : List UInt8), b.length ≤ n → (∀ x ∈ (splitF b).1, (putTF x).2 = 0 ∧ x.id < 65536) ∧ ((splitF b).1.flatMap fun x => (putTF x).1) = b.take (splitF b).2.1 := by
  intro n
  induction n with
  | zero =>
    intro b hb
    rw [splitF_short (by unfold getTF; rw [if_pos (by omega)])]; simp
  | succ n ih =>
    intro b hb
    by_cases hs : (getTF b).2.2 = 1
    · rw [splitF_short hs]; simp
    · by_cases h0 : (getTF b).2.2 = 0
      · have hk := getTF_ok h0
        rw [splitF_ok h0]
        have hi := ih (b.drop (getTF b).2.1) (by simp; omega)
        have e : getTF b = (⟨at2 b 0, b.getD 6 0, (b.drop 7).take (at2 b 4 - 1)⟩, 6 + at2 b 4, 0) ∧ (b.getD 2 0).toNat = 0 ∧ (b.getD 3 0).toNat = 0 ∧ 2 ≤ at2 b 4 := by
          have h1 := h0
          unfold getTF at h1 ⊢
          split at h1
          · simp at h1
          · rename_i a1
            split at h1
            · simp at h1
            · rename_i a2
              split at h1
              · simp at h1
              · rename_i a3
                rw [if_neg a1, if_neg a2, if_neg a3]
                exact ⟨rfl, by omega, by omega, by omega⟩
        obtain ⟨e, z2, z3, hn2⟩ := e
        have hlen : ((b.drop 7).take (at2 b 4 - 1)).length = at2 b 4 - 1 := by simp; omega
        have hput : putTF (getTF b).1 = (b.take (6 + at2 b 4), 0) := by
          rw [e]
          unfold putTF
          simp only
          rw [hlen, if_neg (by rw [szF_zero.2 (by omega)]; simp), show 1 + (at2 b 4 - 1) = at2 b 4 from by omega]
          have e0 : [UInt8.ofNat (at2 b 0 / 256), UInt8.ofNat (at2 b 0)] = [b.getD 0 0, b.getD 1 0] := two_split _ _
          have e4 : [UInt8.ofNat (at2 b 4 / 256), UInt8.ofNat (at2 b 4)] = [b.getD 4 0, b.getD 5 0] := two_split _ _
          have y2 : b.getD 2 0 = 0 := UInt8.toNat.inj z2
          have y3 : b.getD 3 0 = 0 := UInt8.toNat.inj z3
          simp only [List.cons.injEq, and_true] at e0 e4
          have eh : headF (at2 b 0) (at2 b 4) (b.getD 6 0) = b.take 7 := by
            unfold headF
            rw [e0.1, e0.2, e4.1, e4.2, take7 b (by omega), y2, y3]
          rw [eh]
          have := List.take_append_drop 7 (b.take (6 + at2 b 4))
          rw [List.take_take, Nat.min_eq_left (by omega), List.drop_take, show 6 + at2 b 4 - 7 = at2 b 4 - 1 from by omega] at this
          rw [this]
        refine ⟨?_, ?_⟩
        · intro x hx
          rcases List.mem_cons.1 hx with rfl | hx
          · exact ⟨by rw [hput], by rw [e]; exact at2_lt _ _⟩
          · exact hi.1 x hx
        · rw [List.flatMap_cons, hi.2, hput, hk.2.2.1]
          simp only
          exact List.take_add.symm
      · rw [splitF_bad hs h0]; simp
end Go.Out
