/- The check sums as plain functions on numbers, and their laws; no program in sight. -/
import Derived.Test.YtjmddiffeffgnaaBase
namespace Go.Out
open Go Go.RowKit
set_option linter.unusedVariables false

/-- One bit's step of a register. -/
def cstep (P r : Nat) : Nat := if r % 2 = 1 then (r / 2) ^^^ P else r / 2
def citer (P : Nat) : Nat → Nat → Nat
  | 0, r => r
  | k + 1, r => cstep P (citer P k r)
def cbyte (P r : Nat) (c : UInt8) : Nat := citer P 8 (r ^^^ c.toNat)
/-- What a register comes to with bytes. -/
def crc (P r : Nat) (l : List UInt8) : Nat := l.foldl (cbyte P) r

theorem crc_snoc (P r : Nat) (l : List UInt8) (c : UInt8) : crc P r (l ++ [c]) = cbyte P (crc P r l) c := by simp [crc]
theorem crc_append (P r : Nat) (a b : List UInt8) : crc P r (a ++ b) = crc P (crc P r a) b := by simp [crc]
theorem crc_take (P r : Nat) (l : List UInt8) (k : Nat) (h : k < l.length) : crc P r (l.take (k + 1)) = cbyte P (crc P r (l.take k)) l[k] := by
  rw [List.take_succ_eq_append_getElem h, crc_snoc]
theorem cstep_lt {P r W : Nat} (hP : P < 2 ^ W) (hr : r < 2 ^ W) : cstep P r < 2 ^ W := by
  have h2 : r / 2 < 2 ^ W := Nat.lt_of_le_of_lt (Nat.div_le_self _ _) hr
  unfold cstep
  split
  · exact Nat.xor_lt_two_pow h2 hP
  · exact h2
theorem citer_lt {P r W : Nat} (hP : P < 2 ^ W) (hr : r < 2 ^ W) : ∀ k, citer P k r < 2 ^ W
  | 0 => hr
  | k + 1 => cstep_lt hP (citer_lt hP hr k)
theorem byte_lt {W : Nat} (hW : 8 ≤ W) (c : UInt8) : c.toNat < 2 ^ W := Nat.lt_of_lt_of_le c.toNat_lt (Nat.pow_le_pow_right (by omega) hW)
theorem cbyte_lt {P r W : Nat} (hW : 8 ≤ W) (hP : P < 2 ^ W) (hr : r < 2 ^ W) (c : UInt8) : cbyte P r c < 2 ^ W :=
  citer_lt hP (Nat.xor_lt_two_pow hr (byte_lt hW c)) 8
theorem crc_lt {P W : Nat} (hW : 8 ≤ W) (hP : P < 2 ^ W) : ∀ (l : List UInt8) (r : Nat), r < 2 ^ W → crc P r l < 2 ^ W
  | [], r, hr => hr
  | c :: l, r, hr => crc_lt hW hP l (cbyte P r c) (cbyte_lt hW hP hr c)
/-- The two sums of a document's chapter. -/
def more16 (r : Nat) (l : List UInt8) : Nat := crc 40961 r l
def more32 (r : Nat) (l : List UInt8) : Nat := crc 3988292384 (r ^^^ 4294967295) l ^^^ 4294967295
theorem more16_lt {r : Nat} (hr : r < 65536) (l : List UInt8) : more16 r l < 65536 := crc_lt (W := 16) (by omega) (by omega) l r hr
theorem crc32_lt {r : Nat} (hr : r < 4294967296) (l : List UInt8) : crc 3988292384 r l < 4294967296 := crc_lt (W := 32) (by omega) (by omega) l r hr
theorem more32_lt {r : Nat} (hr : r < 4294967296) (l : List UInt8) : more32 r l < 4294967296 :=
  Nat.xor_lt_two_pow (n := 32) (crc32_lt (Nat.xor_lt_two_pow (n := 32) hr (by omega)) l) (by omega)
theorem not_u32 (r : Nat) (hr : r < 4294967296) : bits .xor .u32 IntKind.u32.max (r : Int) = ((r ^^^ 4294967295 : Nat) : Int) := by
  have e : IntKind.u32.max = ((4294967295 : Nat) : Int) := by decide
  rw [e, u32_xor_nat _ _ (by decide) hr, Nat.xor_comm]
end Go.Out

namespace Go.Out
open Go Go.RowKit
set_option linter.unusedVariables false

theorem xor_half (x y : Nat) : (x ^^^ y) / 2 = x / 2 ^^^ y / 2 := by
  have h := Nat.shiftRight_xor_distrib (a := x) (b := y) (i := 1)
  simpa [Nat.shiftRight_eq_div_pow] using h
theorem xor_swap (a b c d : Nat) : (a ^^^ b) ^^^ (c ^^^ d) = (a ^^^ c) ^^^ (b ^^^ d) := by
  rw [Nat.xor_assoc, Nat.xor_assoc]; congr 1
  rw [← Nat.xor_assoc, ← Nat.xor_assoc, Nat.xor_comm b c]
theorem xor_par (x y : Nat) : (x ^^^ y) % 2 = (x + y) % 2 := by
  have h := Nat.testBit_xor x y 0
  simp only [Nat.testBit_zero] at h
  have e : (x + y) % 2 = (x % 2 + y % 2) % 2 := by omega
  rw [e]
  rcases Nat.mod_two_eq_zero_or_one x with hx | hx <;> rcases Nat.mod_two_eq_zero_or_one y with hy | hy <;> rcases Nat.mod_two_eq_zero_or_one (x ^^^ y) with hz | hz <;> rw [hx, hy, hz] at h <;> rw [hx, hy, hz] <;> first | rfl | (revert h; decide)
theorem cstep_xor (P x y : Nat) : cstep P (x ^^^ y) = cstep P x ^^^ cstep P y := by
  unfold cstep
  have hm := xor_par x y
  rcases Nat.mod_two_eq_zero_or_one x with hx | hx <;> rcases Nat.mod_two_eq_zero_or_one y with hy | hy
  · rw [if_neg (by omega), if_neg (by omega), if_neg (by omega), xor_half]
  · rw [if_pos (by omega), if_neg (by omega), if_pos (by omega), xor_half, Nat.xor_assoc]
  · rw [if_pos (by omega), if_pos (by omega), if_neg (by omega), xor_half, Nat.xor_assoc, Nat.xor_assoc, Nat.xor_comm (y / 2)]
  · rw [if_neg (by omega), if_pos (by omega), if_pos (by omega), xor_half, xor_swap, Nat.xor_self, Nat.xor_zero]
theorem citer_xor (P : Nat) : ∀ (k x y : Nat), citer P k (x ^^^ y) = citer P k x ^^^ citer P k y
  | 0, _, _ => rfl
  | k + 1, x, y => by unfold citer; rw [citer_xor P k, cstep_xor]
/-- Two rows laid over one another. -/
def laid (a b : List UInt8) : List UInt8 := List.zipWith (fun x y => x ^^^ y) a b
theorem crc_laid (P : Nat) : ∀ (a b : List UInt8) (r s : Nat), a.length = b.length → crc P (r ^^^ s) (laid a b) = crc P r a ^^^ crc P s b
  | [], [], _, _, _ => rfl
  | [], _ :: _, _, _, h => by simp at h
  | _ :: _, [], _, _, h => by simp at h
  | x :: a, y :: b, r, s, h => by
    have e : cbyte P (r ^^^ s) (x ^^^ y) = cbyte P r x ^^^ cbyte P s y := by
      unfold cbyte
      rw [← citer_xor, UInt8.toNat_xor, xor_swap]
    show crc P (cbyte P (r ^^^ s) (x ^^^ y)) (laid a b) = crc P (cbyte P r x) a ^^^ crc P (cbyte P s y) b
    rw [e, crc_laid P a b _ _ (by simpa using h)]
theorem laid_zero (c : List UInt8) : laid c (List.replicate c.length 0) = c := by
  apply List.ext_getElem
  · simp [laid]
  · intro i h1 h2; simp [laid]
theorem laid_length (a b : List UInt8) (h : a.length = b.length) : (laid a b).length = a.length := by simp [laid, h]
theorem crc_three (P r : Nat) (a b : List UInt8) (h : a.length = b.length) : crc P r a ^^^ crc P r b ^^^ crc P r (laid a b) = crc P r (List.replicate a.length 0) := by
  have h1 := crc_laid P a b r r h
  have h2 := crc_laid P (laid a b) (List.replicate (laid a b).length 0) r r (by simp)
  rw [laid_zero] at h2
  rw [← h1, h2, laid_length a b h, Nat.xor_comm, ← Nat.xor_assoc, Nat.xor_self, Nat.zero_xor]
theorem more16_three (a b : List UInt8) (h : a.length = b.length) : more16 65535 a ^^^ more16 65535 b ^^^ more16 65535 (laid a b) = more16 65535 (List.replicate a.length 0) := crc_three _ _ a b h
theorem more32_three (a b : List UInt8) (h : a.length = b.length) : more32 0 a ^^^ more32 0 b ^^^ more32 0 (laid a b) = more32 0 (List.replicate a.length 0) := by
  unfold more32
  rw [← crc_three _ _ a b h]
  generalize crc 3988292384 (0 ^^^ 4294967295) a = x
  generalize crc 3988292384 (0 ^^^ 4294967295) b = y
  generalize crc 3988292384 (0 ^^^ 4294967295) (laid a b) = z
  generalize (4294967295 : Nat) = f
  rw [xor_swap x f y f, Nat.xor_self, Nat.xor_zero, Nat.xor_assoc, Nat.xor_assoc, Nat.xor_assoc]
theorem more16_append (r : Nat) (a b : List UInt8) : more16 (more16 r a) b = more16 r (a ++ b) := (crc_append _ _ a b).symm
theorem more32_append (r : Nat) (a b : List UInt8) : more32 (more32 r a) b = more32 r (a ++ b) := by
  unfold more32
  rw [crc_append, Nat.xor_assoc, Nat.xor_self, Nat.xor_zero]
end Go.Out

namespace Go.Out
open Go Go.RowKit
set_option linter.unusedVariables false

/-- The k lowest bytes of a number, the lowest first. -/
def le (k v : Nat) : List UInt8 := (List.range k).map fun i => UInt8.ofNat (v / 256 ^ i % 256)
theorem le_length (k v : Nat) : (le k v).length = k := by simp [le]
theorem le_succ (k v : Nat) : le (k + 1) v = le k v ++ [UInt8.ofNat (v / 256 ^ k % 256)] := by simp [le, List.range_succ]
theorem cB_of (X : Nat) : cB (UInt8.ofNat X) = .int .u8 ((X : Int) % 256) := by unfold cB; congr 1
theorem le_map_succ (b : List UInt8) (k v : Nat) : (b ++ le (k + 1) v).map cB = (b ++ le k v).map cB ++ [.int .u8 (((v / 256 ^ k : Nat) : Int) % 256)] := by
  rw [le_succ, ← List.append_assoc, List.map_append, List.map_singleton, cB_of]; simp
theorem le_two (v : Nat) (h : v < 65536) : (le 2 v).map cB = [.int .u8 ((v : Int) % 256), .int .u8 ((v : Int) / 256)] := by
  rw [show le 2 v = [UInt8.ofNat (v % 256), UInt8.ofNat (v / 256 % 256)] from by simp [le, List.range_succ], List.map_cons, List.map_cons, List.map_nil, cB_of, cB_of]
  rw [show ((v % 256 : Nat) : Int) % 256 = (v : Int) % 256 from by omega, show ((v / 256 % 256 : Nat) : Int) % 256 = (v : Int) / 256 from by omega]
theorem le_four (v : Nat) (h : v < 4294967296) : (le 4 v).map cB = [.int .u8 ((v : Int) % 256), .int .u8 ((v : Int) / 256 % 256), .int .u8 ((v : Int) / 65536 % 256), .int .u8 ((v : Int) / 16777216)] := by
  rw [show le 4 v = [UInt8.ofNat (v % 256), UInt8.ofNat (v / 256 % 256), UInt8.ofNat (v / 65536 % 256), UInt8.ofNat (v / 16777216 % 256)] from by simp [le, List.range_succ], List.map_cons, List.map_cons, List.map_cons, List.map_cons, List.map_nil, cB_of, cB_of, cB_of, cB_of]
  rw [show ((v % 256 : Nat) : Int) % 256 = (v : Int) % 256 from by omega, show ((v / 256 % 256 : Nat) : Int) % 256 = (v : Int) / 256 % 256 from by omega, show ((v / 65536 % 256 : Nat) : Int) % 256 = (v : Int) / 65536 % 256 from by omega, show ((v / 16777216 % 256 : Nat) : Int) % 256 = (v : Int) / 16777216 from by omega]
def sealF (k : Nat) (s : List UInt8 → Nat) (b : List UInt8) : List UInt8 := b ++ le k (s b)
def openR (q : Prop) [Decidable q] (L : List UInt8) : List UInt8 × Int := if q then (L, 0) else ([], 5)
theorem openR_t {q : Prop} [Decidable q] {L : List UInt8} (h : q) : openR q L = (L, 0) := if_pos h
theorem openR_f {q : Prop} [Decidable q] {L : List UInt8} (h : ¬ q) : openR q L = ([], 5) := if_neg h
def openF (k : Nat) (s : List UInt8 → Nat) (b : List UInt8) : List UInt8 × Int :=
  if b.length < k then ([], 1) else if sealF k s (b.take (b.length - k)) = b then (b.take (b.length - k), 0) else ([], 5)
theorem getElem_ofNat {x : UInt8} {v : Nat} : x = UInt8.ofNat (v % 256) ↔ x.toNat = v % 256 := by
  constructor
  · intro h; subst h; simp
  · intro h; apply UInt8.toNat.inj; simp [h]
theorem tail_two (b : List UInt8) (n v : Nat) (h : b.length = n + 2) : (b.take n ++ le 2 v = b) ↔ (b[n].toNat = v % 256 ∧ b[n + 1].toNat = v / 256 % 256) := by
  have hd : b.drop n = [b[n], b[n + 1]] := by
    apply List.ext_getElem
    · simp; omega
    · intro i h1 h2
      have : i < 2 := by simpa using h2
      match i, this with
      | 0, _ => simp
      | 1, _ => simp
  have e : b.take n ++ [b[n], b[n + 1]] = b := by rw [← hd]; exact List.take_append_drop n b
  have e2 : (b.take n ++ le 2 v = b) ↔ (b.take n ++ le 2 v = b.take n ++ [b[n], b[n + 1]]) := by rw [e]
  rw [e2, List.append_cancel_left_eq]
  simp only [le, List.range_succ, List.range_zero, List.nil_append, List.map_cons, List.map_nil, List.cons_append, Nat.pow_zero, Nat.div_one, Nat.pow_one, List.cons.injEq, and_true]
  rw [eq_comm, getElem_ofNat, @eq_comm _ _ b[n + 1], getElem_ofNat]
theorem tail_four (b : List UInt8) (n v : Nat) (h : b.length = n + 4) : (b.take n ++ le 4 v = b) ↔ (b[n].toNat = v % 256 ∧ b[n + 1].toNat = v / 256 % 256 ∧ b[n + 2].toNat = v / 65536 % 256 ∧ b[n + 3].toNat = v / 16777216 % 256) := by
  have hd : b.drop n = [b[n], b[n + 1], b[n + 2], b[n + 3]] := by
    apply List.ext_getElem
    · simp; omega
    · intro i h1 h2
      have : i < 4 := by simpa using h2
      match i, this with
      | 0, _ => simp
      | 1, _ => simp
      | 2, _ => simp
      | 3, _ => simp
  have e : b.take n ++ [b[n], b[n + 1], b[n + 2], b[n + 3]] = b := by rw [← hd]; exact List.take_append_drop n b
  have e2 : (b.take n ++ le 4 v = b) ↔ (b.take n ++ le 4 v = b.take n ++ [b[n], b[n + 1], b[n + 2], b[n + 3]]) := by rw [e]
  rw [e2, List.append_cancel_left_eq]
  simp only [le, List.range_succ, List.range_zero, List.nil_append, List.map_cons, List.map_nil, List.cons_append, Nat.pow_zero, Nat.div_one, Nat.pow_one, List.cons.injEq, and_true]
  rw [eq_comm, getElem_ofNat, @eq_comm _ _ b[n + 1], getElem_ofNat, @eq_comm _ _ b[n + 2], getElem_ofNat, @eq_comm _ _ b[n + 3], getElem_ofNat]
end Go.Out

namespace Go.Out
open Go Go.RowKit
set_option linter.unusedVariables false

/-- Bytes as one number, the first byte the lowest. -/
def val : List UInt8 → Nat
  | [] => 0
  | x :: l => x.toNat + 256 * val l
theorem val_lt : ∀ l : List UInt8, val l < 2 ^ (8 * l.length)
  | [] => by simp [val]
  | x :: l => by
    have h1 := val_lt l
    have h2 := x.toNat_lt
    have e : 2 ^ (8 * (x :: l).length) = 256 * 2 ^ (8 * l.length) := by rw [List.length_cons, Nat.mul_add, Nat.pow_add, Nat.mul_comm]
    rw [e]; unfold val; omega
theorem citer_add (P : Nat) : ∀ (j k r : Nat), citer P (j + k) r = citer P j (citer P k r)
  | 0, k, r => by rw [Nat.zero_add]; rfl
  | j + 1, k, r => by rw [show j + 1 + k = (j + k) + 1 from by omega]; unfold citer; rw [citer_add P j k r]
theorem cstep_even (P y : Nat) : cstep P (2 * y) = y := by
  unfold cstep; rw [if_neg (by omega)]; omega
theorem citer_up (P : Nat) : ∀ (k y : Nat), citer P k (2 ^ k * y) = y
  | 0, y => by simp [citer]
  | k + 1, y => by
    rw [citer_add P k 1, show citer P 1 (2 ^ (k + 1) * y) = cstep P (2 ^ (k + 1) * y) from rfl, show 2 ^ (k + 1) * y = 2 * (2 ^ k * y) from by rw [Nat.pow_succ]; simp only [Nat.mul_comm, Nat.mul_left_comm], cstep_even, citer_up P k y]
theorem citer_zero (P : Nat) : ∀ k, citer P k 0 = 0
  | 0 => rfl
  | k + 1 => by unfold citer; rw [citer_zero P k]; rfl
theorem add_xor (x V : Nat) (h : x < 256) : x + 256 * V = x ^^^ (2 ^ 8 * V) := by
  have h2 := Nat.two_pow_add_eq_or_of_lt (i := 8) (b := x) h V
  have h3 : x ^^^ (2 ^ 8 * V) = 2 ^ 8 * V ||| x := by
    apply Nat.eq_of_testBit_eq
    intro i
    rw [Nat.testBit_xor, Nat.testBit_or, Nat.testBit_two_pow_mul]
    rcases Nat.lt_or_ge i 8 with hi | hi
    · have : ¬ 8 ≤ i := by omega
      simp [this]
    · rw [Nat.testBit_lt_two_pow (Nat.lt_of_lt_of_le h (Nat.pow_le_pow_right (n := 2) (i := 8) (j := i) (by omega) hi))]
      simp
  rw [h3, ← h2]; omega
/-- What a register comes to with bytes, at one blow. -/
theorem crc_val (P : Nat) : ∀ (l : List UInt8) (r : Nat), crc P r l = citer P (8 * l.length) (r ^^^ val l)
  | [], r => by simp [crc, val, citer]
  | x :: l, r => by
    show crc P (cbyte P r x) l = _
    rw [crc_val P l, List.length_cons, show 8 * (l.length + 1) = 8 * l.length + 8 from by omega, citer_add]
    congr 1
    rw [show val (x :: l) = x.toNat + 256 * val l from rfl]
    unfold cbyte
    rw [add_xor _ _ x.toNat_lt, ← Nat.xor_assoc, citer_xor P 8 (r ^^^ x.toNat) (2 ^ 8 * val l), citer_up P 8]
theorem xor_zero {a b : Nat} (h : a ^^^ b = 0) : a = b := by
  have e : a ^^^ b ^^^ b = b := by rw [h, Nat.zero_xor]
  rwa [Nat.xor_assoc, Nat.xor_self, Nat.xor_zero] at e
/-- A register that is not nought does not come to nought (the highest bit of P is set). -/
theorem cstep_ne {P W r : Nat} (hP : 2 ^ W ≤ P) (hP2 : P < 2 ^ (W + 1)) (hr : r < 2 ^ (W + 1)) (h : r ≠ 0) : cstep P r ≠ 0 := by
  unfold cstep
  split
  · intro h0
    have h1 := xor_zero h0
    have h2 : r / 2 < 2 ^ W := by rw [Nat.pow_succ] at hr; omega
    omega
  · omega
theorem citer_ne {P W r : Nat} (hP : 2 ^ W ≤ P) (hP2 : P < 2 ^ (W + 1)) (hr : r < 2 ^ (W + 1)) (h : r ≠ 0) : ∀ k, citer P k r ≠ 0
  | 0 => h
  | k + 1 => cstep_ne hP hP2 (citer_lt hP2 hr k) (citer_ne hP hP2 hr h k)
theorem xor_ne {a b : Nat} (h : a ^^^ b ≠ 0) : a ≠ b := fun e => h (by rw [e, Nat.xor_self])
theorem crc_differ (P r : Nat) (a b : List UInt8) (h : a.length = b.length) : crc P r a ^^^ crc P r b = citer P (8 * b.length) (val a ^^^ val b) := by
  rw [crc_val, crc_val, h, ← citer_xor]
  congr 1
  rw [xor_swap, Nat.xor_self, Nat.zero_xor]
/-- Rows that differ within a window of W + 1 bits have other sums. -/
theorem crc_burst {P W : Nat} (hP : 2 ^ W ≤ P) (hP2 : P < 2 ^ (W + 1)) (r k D : Nat) (a b : List UInt8) (h : a.length = b.length) (hd : val a ^^^ val b = 2 ^ k * D) (hk : k ≤ 8 * b.length) (hD : D < 2 ^ (W + 1)) (h0 : D ≠ 0) : crc P r a ^^^ crc P r b ≠ 0 := by
  rw [crc_differ P r a b h, hd, show 8 * b.length = (8 * b.length - k) + k from by omega, citer_add, citer_up]
  exact citer_ne hP hP2 hD h0 _
end Go.Out

namespace Go.Out
open Go Go.RowKit
set_option linter.unusedVariables false

/-- One bit of a byte. -/
def bit8 (j : Nat) : UInt8 := UInt8.ofNat (2 ^ j)
/-- Bytes with bit k turned. -/
def flip (l : List UInt8) (k : Nat) : List UInt8 := l.set (k / 8) (l.getD (k / 8) 0 ^^^ bit8 (k % 8))
theorem flip_length (l : List UInt8) (k : Nat) : (flip l k).length = l.length := by simp [flip]
theorem pow_xor (n a b : Nat) : 2 ^ n * (a ^^^ b) = 2 ^ n * a ^^^ 2 ^ n * b := by
  apply Nat.eq_of_testBit_eq
  intro i
  rw [Nat.testBit_xor, Nat.testBit_two_pow_mul, Nat.testBit_two_pow_mul, Nat.testBit_two_pow_mul, Nat.testBit_xor]
  by_cases h : n ≤ i <;> simp [h]
theorem val_cons (x : UInt8) (l : List UInt8) : val (x :: l) = x.toNat ^^^ 2 ^ 8 * val l := add_xor _ _ x.toNat_lt
theorem val_flip : ∀ (l : List UInt8) (k : Nat), k / 8 < l.length → val (flip l k) = val l ^^^ 2 ^ k
  | [], k, h => by simp at h
  | x :: l, k, h => by
    rcases Nat.lt_or_ge k 8 with hk | hk
    · have e0 : k / 8 = 0 := by omega
      have e1 : k % 8 = k := by omega
      have e2 : (bit8 k).toNat = 2 ^ k := by
        unfold bit8
        have : 2 ^ k < 2 ^ 8 := Nat.pow_lt_pow_right (by omega) hk
        simp; omega
      unfold flip
      rw [e0, e1, List.set_cons_zero, val_cons, val_cons]
      show (x ^^^ bit8 k).toNat ^^^ _ = _
      rw [UInt8.toNat_xor, e2, Nat.xor_assoc, Nat.xor_assoc, Nat.xor_comm (2 ^ k)]
    · have e0 : k / 8 = (k - 8) / 8 + 1 := by omega
      have e1 : k % 8 = (k - 8) % 8 := by omega
      have ih := val_flip l (k - 8) (by rw [e0] at h; simpa using h)
      have e2 : flip (x :: l) k = x :: flip l (k - 8) := by
        unfold flip
        rw [e0, e1]; simp
      rw [e2, val_cons, val_cons, ih, pow_xor, ← Nat.pow_add, show 8 + (k - 8) = k from by omega, Nat.xor_assoc]
/-- The first i bits of a mask turned, from a place on; how many were. -/
def turn (l : List UInt8) (at_ M : Nat) : Nat → List UInt8 × Nat
  | 0 => (l, 0)
  | i + 1 => if M / 2 ^ i % 2 = 1 ∧ (at_ + i) / 8 < l.length then (flip (turn l at_ M i).1 (at_ + i), (turn l at_ M i).2 + 1) else turn l at_ M i
theorem turn_length (l : List UInt8) (at_ M : Nat) : ∀ i, (turn l at_ M i).1.length = l.length
  | 0 => rfl
  | i + 1 => by
    unfold turn
    split
    · rw [flip_length, turn_length l at_ M i]
    · exact turn_length l at_ M i
theorem turn_count (l : List UInt8) (at_ M : Nat) : ∀ i, (turn l at_ M i).2 ≤ i
  | 0 => Nat.le_refl _
  | i + 1 => by
    have h := turn_count l at_ M i
    unfold turn
    split
    · simp only; omega
    · omega
theorem xor_top (D i : Nat) (h : D < 2 ^ i) : D ^^^ 2 ^ i = D + 2 ^ i := by
  have h2 := Nat.two_pow_add_eq_or_of_lt h 1
  rw [Nat.mul_one] at h2
  rw [Nat.add_comm, h2]
  apply Nat.eq_of_testBit_eq
  intro j
  rw [Nat.testBit_xor, Nat.testBit_or, Nat.testBit_two_pow]
  by_cases hj : i = j
  · subst hj; rw [Nat.testBit_lt_two_pow h]; simp
  · simp [hj]
/-- What the turned bytes differ in: a window of the mask's width. -/
theorem turn_val (l : List UInt8) (at_ M W : Nat) (hM : M < 2 ^ W) : ∀ i, ∃ D, val (turn l at_ M i).1 ^^^ val l = 2 ^ at_ * D ∧ D < 2 ^ i ∧ D < 2 ^ W ∧ (D = 0 ↔ (turn l at_ M i).2 = 0) ∧ (D ≠ 0 → at_ ≤ 8 * l.length)
  | 0 => ⟨0, by simp [turn], by simp, Nat.two_pow_pos _, by simp [turn], by simp⟩
  | i + 1 => by
    obtain ⟨D, h1, h2, h3, h4, h5⟩ := turn_val l at_ M W hM i
    have hp : 2 ^ (i + 1) = 2 ^ i + 2 ^ i := by rw [Nat.pow_succ]; omega
    by_cases hc : M / 2 ^ i % 2 = 1 ∧ (at_ + i) / 8 < l.length
    · have e : turn l at_ M (i + 1) = (flip (turn l at_ M i).1 (at_ + i), (turn l at_ M i).2 + 1) := if_pos hc
      rw [e]
      have hiW : i < W := by
        rcases Nat.lt_or_ge i W with h | h
        · exact h
        · have : M / 2 ^ i = 0 := Nat.div_eq_of_lt (Nat.lt_of_lt_of_le hM (Nat.pow_le_pow_right (by omega) h))
          rw [this] at hc; simp at hc
      have hle : 2 ^ (i + 1) ≤ 2 ^ W := Nat.pow_le_pow_right (by omega) hiW
      have hpos := Nat.two_pow_pos i
      refine ⟨D ^^^ 2 ^ i, ?_, ?_, ?_, ?_, fun _ => by omega⟩
      · rw [val_flip _ _ (by rw [turn_length]; exact hc.2), Nat.xor_assoc, Nat.xor_comm (2 ^ (at_ + i)), ← Nat.xor_assoc, h1, pow_xor, ← Nat.pow_add]
      · rw [xor_top D i h2]; omega
      · rw [xor_top D i h2]; omega
      · rw [xor_top D i h2]; simp only; omega
    · have e : turn l at_ M (i + 1) = turn l at_ M i := if_neg hc
      rw [e]
      exact ⟨D, h1, by omega, h3, h4, h5⟩
theorem turn_same (l : List UInt8) (at_ M : Nat) : ∀ i, (turn l at_ M i).2 = 0 → (turn l at_ M i).1 = l
  | 0, _ => rfl
  | i + 1, h => by
    unfold turn at h ⊢
    split at h
    · simp at h
    · rename_i hc; rw [if_neg hc]; exact turn_same l at_ M i h
end Go.Out

namespace Go.Out
open Go Go.RowKit
set_option linter.unusedVariables false

theorem turn_burst {P W : Nat} (hP : 2 ^ W ≤ P) (hP2 : P < 2 ^ (W + 1)) (r : Nat) (l : List UInt8) (at_ M i : Nat) (hM : M < 2 ^ (W + 1)) (h : (turn l at_ M i).2 ≠ 0) : crc P r (turn l at_ M i).1 ≠ crc P r l := by
  obtain ⟨D, h1, h2, h3, h4, h5⟩ := turn_val l at_ M (W + 1) hM i
  have hD : D ≠ 0 := fun e => h (h4.1 e)
  exact xor_ne (crc_burst hP hP2 r at_ D _ _ (turn_length l at_ M i) h1 (h5 hD) h3 hD)
theorem seen16 (l : List UInt8) (at_ M i : Nat) (hM : M < 65536) (h : (turn l at_ M i).2 ≠ 0) : more16 65535 (turn l at_ M i).1 ≠ more16 65535 l :=
  turn_burst (W := 15) (by decide) (by decide) _ l at_ M i hM h
theorem seen32 (l : List UInt8) (at_ M i : Nat) (hM : M < 4294967296) (h : (turn l at_ M i).2 ≠ 0) : more32 0 (turn l at_ M i).1 ≠ more32 0 l := by
  intro e
  have h1 := turn_burst (P := 3988292384) (W := 31) (by decide) (by decide) (0 ^^^ 4294967295) l at_ M i hM h
  apply h1
  unfold more32 at e
  generalize crc 3988292384 (0 ^^^ 4294967295) (turn l at_ M i).1 = x at *
  generalize crc 3988292384 (0 ^^^ 4294967295) l = y at *
  have e2 : x ^^^ 4294967295 ^^^ 4294967295 = y ^^^ 4294967295 ^^^ 4294967295 := by rw [e]
  rwa [Nat.xor_assoc, Nat.xor_assoc, Nat.xor_self, Nat.xor_zero, Nat.xor_zero] at e2
theorem val_le2 (v : Nat) (h : v < 65536) : val (le 2 v) = v := by
  rw [show le 2 v = [UInt8.ofNat (v % 256), UInt8.ofNat (v / 256 % 256)] from by simp [le, List.range_succ]]
  simp [val]; omega
theorem val_le4 (v : Nat) (h : v < 4294967296) : val (le 4 v) = v := by
  rw [show le 4 v = [UInt8.ofNat (v % 256), UInt8.ofNat (v / 256 % 256), UInt8.ofNat (v / 65536 % 256), UInt8.ofNat (v / 16777216 % 256)] from by simp [le, List.range_succ]]
  simp [val]; omega
theorem residue16 (b : List UInt8) : crc 40961 65535 (sealF 2 (more16 65535) b) = 0 := by
  have h := more16_lt (r := 65535) (by decide) b
  unfold sealF
  rw [crc_append, crc_val, le_length]
  show citer 40961 (8 * 2) (more16 65535 b ^^^ val (le 2 (more16 65535 b))) = 0
  rw [val_le2 _ h, Nat.xor_self, citer_zero]
theorem residue32 (b : List UInt8) : crc 3988292384 (0 ^^^ 4294967295) (sealF 4 (more32 0) b) = citer 3988292384 32 4294967295 := by
  have h := more32_lt (r := 0) (by decide) b
  unfold sealF
  rw [crc_append, crc_val, le_length, val_le4 _ h]
  unfold more32
  rw [← Nat.xor_assoc, Nat.xor_self, Nat.zero_xor]
theorem open_seal (k : Nat) (s : List UInt8 → Nat) (b : List UInt8) : openF k s (sealF k s b) = (b, 0) := by
  have hl : (sealF k s b).length = b.length + k := by simp [sealF, le_length]
  have ht : (sealF k s b).take ((sealF k s b).length - k) = b := by rw [hl, Nat.add_sub_cancel]; simp [sealF]
  unfold openF
  rw [if_neg (by omega), ht, if_pos rfl]
theorem open_turned {P r K k : Nat} (s : List UInt8 → Nat) (hres : ∀ b, crc P r (sealF k s b) = K) (b t : List UInt8) (hl : t.length = (sealF k s b).length) (hne : crc P r t ≠ crc P r (sealF k s b)) : openF k s t = ([], 5) := by
  have hk : k ≤ t.length := by rw [hl]; simp [sealF, le_length]
  unfold openF
  rw [if_neg (by omega), if_neg]
  intro e
  apply hne
  rw [hres b, ← e]
  exact hres _
theorem open16_turned (b : List UInt8) (at_ M i : Nat) (hM : M < 65536) (h : (turn (sealF 2 (more16 65535) b) at_ M i).2 ≠ 0) : openF 2 (more16 65535) (turn (sealF 2 (more16 65535) b) at_ M i).1 = ([], 5) :=
  open_turned _ residue16 b _ (turn_length _ _ _ _) (turn_burst (P := 40961) (W := 15) (by decide) (by decide) 65535 _ at_ M i hM h)
theorem open32_turned (b : List UInt8) (at_ M i : Nat) (hM : M < 4294967296) (h : (turn (sealF 4 (more32 0) b) at_ M i).2 ≠ 0) : openF 4 (more32 0) (turn (sealF 4 (more32 0) b) at_ M i).1 = ([], 5) :=
  open_turned _ residue32 b _ (turn_length _ _ _ _) (turn_burst (P := 3988292384) (W := 31) (by decide) (by decide) (0 ^^^ 4294967295) _ at_ M i hM h)
theorem open_same (k : Nat) (s : List UInt8 → Nat) (b : List UInt8) (at_ M i : Nat) (h : (turn (sealF k s b) at_ M i).2 = 0) : openF k s (turn (sealF k s b) at_ M i).1 = (b, 0) := by
  rw [turn_same _ _ _ _ h, open_seal]
end Go.Out
