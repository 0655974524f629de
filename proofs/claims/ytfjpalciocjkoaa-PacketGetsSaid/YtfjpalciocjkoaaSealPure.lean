/- Seals: plain laws; no program in sight. -/
import Derived.Test.YtfjpalciocjkoaaCrcPure
namespace Go.Out
open Go Go.RowKit
set_option linter.unusedVariables false

/-- The k lowest bytes of a number, the lowest first. -/
def le (k v : Nat) : List UInt8 := (List.range k).map fun i => UInt8.ofNat (v / 256 ^ i % 256)
theorem le_length (k v : Nat) : (le k v).length = k := by simp [le]
theorem le_succ (k v : Nat) : le (k + 1) v = le k v ++ [UInt8.ofNat (v / 256 ^ k % 256)] := by simp [le, List.range_succ]
theorem cB_of (X : Nat) : cB (UInt8.ofNat X) = .int .u8 ((X : Int) % 256) := by unfold cB; congr 1
theorem le_map_succ (b : List UInt8) (k v : Nat) : (b ++ le (k + 1) v).map cB = (b ++ le k v).map cB ++ [.int .u8 (((v / 256 ^ k : Nat) : Int) % 256)] := by
  rw [le_succ, ← List.append_assoc, List.map_append, List.map_singleton, cB_of]; simp
theorem le_two (v : Nat) (h : v < 65536) : (le 2 v).map cB = [.int .u8 ((v : Int) % 256), .int .u8 ((v : Int) / 256)] := by
  rw [show le 2 v = [UInt8.ofNat (v % 256), UInt8.ofNat (v / 256 % 256)] from by simp [le, List.range_succ], List.map_cons, List.map_cons, List.map_nil, cB_of, cB_of]
  rw [show ((v % 256 : Nat) : Int) % 256 = (v : Int) % 256 from by omega, show ((v / 256 % 256 : Nat) : Int) % 256 = (v : Int) / 256 from by omega]
theorem le_four (v : Nat) (h : v < 4294967296) : (le 4 v).map cB = [.int .u8 ((v : Int) % 256), .int .u8 ((v : Int) / 256 % 256), .int .u8 ((v : Int) / 65536 % 256), .int .u8 ((v : Int) / 16777216)] := by
  rw [show le 4 v = [UInt8.ofNat (v % 256), UInt8.ofNat (v / 256 % 256), UInt8.ofNat (v / 65536 % 256), UInt8.ofNat (v / 16777216 % 256)] from by simp [le, List.range_succ], List.map_cons, List.map_cons, List.map_cons, List.map_cons, List.map_nil, cB_of, cB_of, cB_of, cB_of]
  rw [show ((v % 256 : Nat) : Int) % 256 = (v : Int) % 256 from by omega, show ((v / 256 % 256 : Nat) : Int) % 256 = (v : Int) / 256 % 256 from by omega, show ((v / 65536 % 256 : Nat) : Int) % 256 = (v : Int) / 65536 % 256 from by omega, show ((v / 16777216 % 256 : Nat) : Int) % 256 = (v : Int) / 16777216 from by omega]
def sealF (k : Nat) (s : List UInt8 → Nat) (b : List UInt8) : List UInt8 := b ++ le k (s b)
def openR (q : Prop) [Decidable q] (L : List UInt8) : List UInt8 × Int := if q then (L, 0) else ([], 5)
theorem openR_t {q : Prop} [Decidable q] {L : List UInt8} (h : q) : openR q L = (L, 0) := if_pos h
theorem openR_f {q : Prop} [Decidable q] {L : List UInt8} (h : ¬ q) : openR q L = ([], 5) := if_neg h
def openF (k : Nat) (s : List UInt8 → Nat) (b : List UInt8) : List UInt8 × Int :=
  if b.length < k then ([], 1) else if sealF k s (b.take (b.length - k)) = b then (b.take (b.length - k), 0) else ([], 5)
theorem getElem_ofNat {x : UInt8} {v : Nat} : x = UInt8.ofNat (v % 256) ↔ x.toNat = v % 256 := by
  constructor
  · intro h; subst h; simp
  · intro h; apply UInt8.toNat.inj; simp [h]
theorem tail_two (b : List UInt8) (n v : Nat) (h : b.length = n + 2) : (b.take n ++ le 2 v = b) ↔ (b[n].toNat = v % 256 ∧ b[n + 1].toNat = v / 256 % 256) := by
  have hd : b.drop n = [b[n], b[n + 1]] := by
    apply List.ext_getElem
    · simp; omega
    · intro i h1 h2
      have : i < 2 := by simpa using h2
      match i, this with
      | 0, _ => simp
      | 1, _ => simp
  have e : b.take n ++ [b[n], b[n + 1]] = b := by rw [← hd]; exact List.take_append_drop n b
  have e2 : (b.take n ++ le 2 v = b) ↔ (b.take n ++ le 2 v = b.take n ++ [b[n], b[n + 1]]) := by rw [e]
  rw [e2, List.append_cancel_left_eq]
  simp only [le, List.range_succ, List.range_zero, List.nil_append, List.map_cons, List.map_nil, List.cons_append, Nat.pow_zero, Nat.div_one, Nat.pow_one, List.cons.injEq, and_true]
  rw [eq_comm, getElem_ofNat, @eq_comm _ _ b[n + 1], getElem_ofNat]
theorem tail_four (b : List UInt8) (n v : Nat) (h : b.length = n + 4) : (b.take n ++ le 4 v = b) ↔ (b[n].toNat = v % 256 ∧ b[n + 1].toNat = v / 256 % 256 ∧ b[n + 2].toNat = v / 65536 % 256 ∧ b[n + 3].toNat = v / 16777216 % 256) := by
  have hd : b.drop n = [b[n], b[n + 1], b[n + 2], b[n + 3]] := by
    apply List.ext_getElem
    · simp; omega
    · intro i h1 h2
      have : i < 4 := by simpa using h2
      match i, this with
      | 0, _ => simp
      | 1, _ => simp
      | 2, _ => simp
      | 3, _ => simp
  have e : b.take n ++ [b[n], b[n + 1], b[n + 2], b[n + 3]] = b := by rw [← hd]; exact List.take_append_drop n b
  have e2 : (b.take n ++ le 4 v = b) ↔ (b.take n ++ le 4 v = b.take n ++ [b[n], b[n + 1], b[n + 2], b[n + 3]]) := by rw [e]
  rw [e2, List.append_cancel_left_eq]
  simp only [le, List.range_succ, List.range_zero, List.nil_append, List.map_cons, List.map_nil, List.cons_append, Nat.pow_zero, Nat.div_one, Nat.pow_one, List.cons.injEq, and_true]
  rw [eq_comm, getElem_ofNat, @eq_comm _ _ b[n + 1], getElem_ofNat, @eq_comm _ _ b[n + 2], getElem_ofNat, @eq_comm _ _ b[n + 3], getElem_ofNat]
end Go.Out
