/- Plain definitions and laws of layer 2; no program in sight. -/
import Derived.Test.YtcnjhjfepojdaaaBase
import Derived.StillTailTactics
import Derived.Deep.RegionLaw
namespace Go.Out
open Go Go.RowKit
set_option linter.unusedVariables false

/-- A number of n bytes, the highest first. -/
def be (v : Nat) : Nat → List UInt8
  | 0 => []
  | n + 1 => UInt8.ofNat (v / 256 ^ n) :: be v n

theorem be_length (v n : Nat) : (be v n).length = n := by
  induction n with
  | zero => rfl
  | succ n ih => simp [be, ih]
theorem pow256 (k : Nat) : (2 : Nat) ^ (8 * k) = 256 ^ k := by rw [Nat.pow_mul]

theorem shr_cast (v k : Nat) : (v : Int) / 2 ^ (8 * k) = ((v / 256 ^ k : Nat) : Int) := by
  rw [← pow256]; simp

theorem fill_back {cur : Array Value} {xs ys : List Value} {z v : Value} {m n k : Nat} (h : cur.toList = (xs ++ List.replicate (n - k) z) ++ ys) (hx : xs.length = m) (hk : k < n) :
    (cur.setIfInBounds (m + n - 1 - k) v).toList = (xs ++ List.replicate (n - (k + 1)) z) ++ (v :: ys) := by
  have e1 : n - k = (n - (k + 1)) + 1 := by omega
  have e2 : m + n - 1 - k = (xs ++ List.replicate (n - (k + 1)) z).length := by simp [hx]; omega
  rw [Array.toList_setIfInBounds, h, e1, List.replicate_succ', e2]
  simp [List.append_assoc]

theorem be_cell (v k : Nat) : (.int .u8 ((v : Int) / 2 ^ (8 * k) % 256) : Value) = cB (UInt8.ofNat (v / 256 ^ k)) := by
  rw [shr_cast]; unfold cB; congr 1

/-- A call that hands back bytes of its own and an error's number. -/
def RetL (w : World) (t : TypeId) (l : List UInt8) (err : Int) (e : Ending) (w' : World) : Prop :=
  ∃ A n c, e = .returned (.tuple #[.slice A n c, .int .i64 err]) ∧ Own w' w.heap.size t IsU8 A n c (l.map cB) ∧ Below w.heap.size w w'

/-- pack.Put, as lists. -/
def putF (b : List UInt8) (v : Nat) (n : Int) : List UInt8 × Int := if 1 ≤ n ∧ n ≤ 8 ∧ v < 256 ^ n.toNat then (b ++ be v n.toNat, 0) else ([], 3)

/-- The number that bytes are, the highest first. -/
def num (l : List UInt8) : Nat := l.foldl (fun a x => a * 256 + x.toNat) 0

/-- pack.Get, as lists. -/
def getF (b : List UInt8) (at_ n : Int) : Nat × Int :=
  if n < 1 ∨ 8 < n then (0, 3) else if at_ < 0 ∨ (b.length : Int) < at_ + n then (0, 1) else (num ((b.drop at_.toNat).take n.toNat), 0)

theorem num_snoc (l : List UInt8) (x : UInt8) : num (l ++ [x]) = num l * 256 + x.toNat := by simp [num]

theorem num_lt (l : List UInt8) : num l < 256 ^ l.length := by
  suffices h : ∀ (l : List UInt8) (a k : Nat), a < 256 ^ k → l.foldl (fun a x => a * 256 + x.toNat) a < 256 ^ (k + l.length) by
    have := h l 0 0 (by simp); simpa [num] using this
  intro l
  induction l with
  | nil => intro a k h; simpa using h
  | cons x l ih =>
    intro a k h
    have hx : x.toNat < 256 := x.toNat_lt
    have := ih (a * 256 + x.toNat) (k + 1) (by rw [Nat.pow_succ]; omega)
    simp only [List.foldl_cons, List.length_cons]
    rw [show k + (l.length + 1) = k + 1 + l.length from by omega]
    exact this

theorem num_small {x k : Nat} (h : x < 256 ^ k) (hk : k ≤ 7) : x ≤ 72057594037927935 := by
  have := Nat.pow_le_pow_right (n := 256) (by omega) hk
  omega

theorem num_or {X : Nat} (x : UInt8) (h : X ≤ 72057594037927935) : bits .or .u64 ((X : Int) * 256) (IntKind.u64.wrap (x.toNat : Int)) = ((X * 256 + x.toNat : Nat) : Int) := by
  have hx : x.toNat < 256 := x.toNat_lt
  have e1 : IntKind.u64.wrap (x.toNat : Int) = ((x.toNat : Nat) : Int) := by rw [IntKind.wrap_u64]; omega
  have e2 : ((X : Int) * 256) = ((X * 256 : Nat) : Int) := by simp
  rw [e1, e2, u64_or_nat _ _ (by omega) (by omega), nat_join 8 _ _ (by omega) (by omega)]

theorem num_add {X : Nat} (x : UInt8) (h : X ≤ 72057594037927935) : IntKind.u64.wrap ((X : Int) * 256 + IntKind.u64.wrap (x.toNat : Int)) = ((X * 256 + x.toNat : Nat) : Int) := by
  have hx : x.toNat < 256 := x.toNat_lt
  rw [IntKind.wrap_u64, IntKind.wrap_u64]; omega

theorem u8_ofNat (X : Nat) : cB (UInt8.ofNat X) = .int .u8 ((X : Int) % 256) := by unfold cB; congr 1

theorem take_drop_succ {α : Type} (b : List α) (k at_ : Nat) (h : at_ + k < b.length) : (b.drop at_).take (k + 1) = (b.drop at_).take k ++ [b[at_ + k]] := by
  rw [List.take_succ_eq_append_getElem (by simp; omega)]; simp

theorem be_succ_out (v n : Nat) : be v (n + 1) = UInt8.ofNat (v / 256 ^ n) :: be v n := rfl

def fitsF (v : Nat) (n : Int) : Bool := decide (1 ≤ n ∧ n ≤ 8 ∧ v < 256 ^ n.toNat)
theorem fitsF_t {v n : Nat} (h1 : 1 ≤ n) (h8 : n ≤ 8) (h : v < 256 ^ n) : fitsF v n = true := by unfold fitsF; simp; omega
theorem fitsF_f {v n : Nat} (h : ¬ v < 256 ^ n) : fitsF v n = false := by unfold fitsF; simp; omega
theorem fitsF_f' {v : Nat} {n : Int} (h : ¬ (1 ≤ n ∧ n ≤ 8)) : fitsF v n = false := by unfold fitsF; rw [decide_eq_false_iff_not]; rintro ⟨h1, h2, _⟩; exact h ⟨h1, h2⟩
theorem fits_iff {v n : Nat} (h1 : 1 ≤ n) (h8 : n ≤ 8) : fitsF v n = true ↔ v < 256 ^ n := by unfold fitsF; simp; omega
theorem pow_pos256 (k : Nat) : 0 < 256 ^ k := Nat.pow_pos (by omega)
theorem div_zero_iff {v k : Nat} : v / 256 ^ k = 0 ↔ v < 256 ^ k := by
  have := pow_pos256 k
  rw [Nat.div_eq_zero_iff]; omega
theorem wrap_u64_div {X v : Nat} (h : X ≤ v) (hv : v < 2 ^ 64) : IntKind.u64.wrap ((X : Int) / 256) = ((X / 256 : Nat) : Int) := by rw [IntKind.wrap_u64]; omega

/-- What is in front of the last k bytes. -/
def beTop (v n k : Nat) : List UInt8 := (be v n).take (n - k)

theorem be_drop (v : Nat) : ∀ (n k : Nat), k ≤ n → (be v n).drop (n - k) = be v k := by
  intro n
  induction n with
  | zero => intro k hk; have : k = 0 := by omega
            subst this; rfl
  | succ n ih =>
    intro k hk
    rcases Nat.lt_or_ge n k with h | h
    · have : k = n + 1 := by omega
      subst this; simp
    · rw [show n + 1 - k = (n - k) + 1 from by omega, be, List.drop_succ_cons]; exact ih k h

theorem beTop_zero (v n : Nat) : beTop v n n = [] := by simp [beTop]
theorem beTop_all (v n : Nat) : beTop v n 0 = be v n := by simp [beTop, List.take_of_length_le, be_length]
theorem beTop_step (v n k : Nat) (h : k + 1 ≤ n) : beTop v n k = beTop v n (k + 1) ++ [UInt8.ofNat (v / 256 ^ k)] := by
  unfold beTop
  have hl := be_length v n
  have hlt : n - (k + 1) < (be v n).length := by omega
  rw [show n - k = (n - (k + 1)) + 1 from by omega, List.take_succ_eq_append_getElem hlt]
  congr 2
  have h1 := be_drop v n (k + 1) h
  rw [List.drop_eq_getElem_cons hlt, be] at h1
  exact (List.cons.inj h1).1

theorem num_be (v : Nat) : ∀ n : Nat, num (be v n) = v % 256 ^ n := by
  suffices h : ∀ (n a : Nat), (be v n).foldl (fun a x => a * 256 + x.toNat) a = a * 256 ^ n + v % 256 ^ n by
    intro n; have := h n 0; simpa [num] using this
  intro n
  induction n with
  | zero => intro a; simp [be, Nat.mod_one]
  | succ n ih =>
    intro a
    rw [be, List.foldl_cons, ih]
    have e1 : (UInt8.ofNat (v / 256 ^ n)).toNat = v / 256 ^ n % 256 := rfl
    rw [e1, Nat.pow_succ, Nat.mod_mul, Nat.add_mul, Nat.mul_assoc, Nat.mul_comm 256 (256 ^ n), Nat.mul_comm (v / 256 ^ n % 256)]
    omega

/-- The number's lowest bytes, by a mask. -/
theorem mask_low (v n : Nat) (h1 : 1 ≤ n) (h8 : n ≤ 7) (hv : v < 2 ^ 64) : bits .and .u64 (v : Int) (IntKind.u64.wrap (IntKind.u64.wrap (2 ^ (8 * n)) - 1)) = ((v % 256 ^ n : Nat) : Int) := by
  have hp : (256 : Nat) ^ n ≤ 256 ^ 7 := Nat.pow_le_pow_right (by omega) h8
  have hq := pow_pos256 n
  have e1 : ((2 : Int) ^ (8 * n)) = ((256 ^ n : Nat) : Int) := by rw [← pow256]; simp
  have e2 : IntKind.u64.wrap ((256 ^ n : Nat) : Int) = ((256 ^ n : Nat) : Int) := by rw [IntKind.wrap_u64]; omega
  have e3 : IntKind.u64.wrap (((256 ^ n : Nat) : Int) - 1) = ((256 ^ n - 1 : Nat) : Int) := by rw [IntKind.wrap_u64]; omega
  rw [e1, e2, e3, u64_and_nat _ _ (by omega) (by omega), ← pow256, Nat.and_two_pow_sub_one_eq_mod]

end Go.Out

namespace Go.Out
open Go Go.RowKit
set_option linter.unusedVariables false

/-- Words as bytes. -/
def wb : List UInt16 → List UInt8
  | [] => []
  | w :: r => UInt8.ofNat (w.toNat / 256) :: UInt8.ofNat w.toNat :: wb r
/-- Bytes as words. -/
def bw : List UInt8 → List UInt16
  | a :: b :: r => UInt16.ofNat (a.toNat * 256 + b.toNat) :: bw r
  | _ => []
def wordsF (b : List UInt8) : List UInt16 × Int := if b.length % 2 = 1 then ([], 22) else (bw b, 0)

theorem wb_length (l : List UInt16) : (wb l).length = 2 * l.length := by
  induction l with
  | nil => rfl
  | cons w r ih => simp [wb, ih]; omega
theorem wb_append (a b : List UInt16) : wb (a ++ b) = wb a ++ wb b := by
  induction a with
  | nil => rfl
  | cons w r ih => simp [wb, ih]
theorem wb_snoc (l : List UInt16) (k : Nat) (h : k < l.length) : wb (l.take (k + 1)) = wb (l.take k) ++ [UInt8.ofNat (l[k].toNat / 256), UInt8.ofNat l[k].toNat] := by
  rw [List.take_succ_eq_append_getElem h, wb_append]; rfl
theorem bw_wb (l : List UInt16) : bw (wb l) = l := by
  induction l with
  | nil => rfl
  | cons w r ih =>
    simp only [wb, bw, ih]
    congr 1
    apply UInt16.toNat.inj
    have h1 : (UInt8.ofNat (w.toNat / 256)).toNat = w.toNat / 256 % 256 := rfl
    have h2 : (UInt8.ofNat w.toNat).toNat = w.toNat % 256 := rfl
    have h3 := w.toNat_lt
    have h4 : (UInt16.ofNat ((UInt8.ofNat (w.toNat / 256)).toNat * 256 + (UInt8.ofNat w.toNat).toNat)).toNat = ((UInt8.ofNat (w.toNat / 256)).toNat * 256 + (UInt8.ofNat w.toNat).toNat) % 65536 := rfl
    rw [h4, h1, h2]; omega
theorem bw_length : ∀ l : List UInt8, (bw l).length = l.length / 2
  | [] => rfl
  | [_] => by simp [bw]
  | a :: b :: r => by simp [bw, bw_length r]; omega
theorem wb_bw : ∀ l : List UInt8, l.length % 2 = 0 → wb (bw l) = l
  | [], _ => rfl
  | [_], h => by simp at h
  | a :: b :: r, h => by
    have ih := wb_bw r (by simp at h; omega)
    simp only [bw, wb, ih]
    have ha := a.toNat_lt
    have hb := b.toNat_lt
    have h4 : (UInt16.ofNat (a.toNat * 256 + b.toNat)).toNat = (a.toNat * 256 + b.toNat) % 65536 := rfl
    congr 1
    · apply UInt8.toNat.inj
      have h5 : (UInt8.ofNat ((UInt16.ofNat (a.toNat * 256 + b.toNat)).toNat / 256)).toNat = (UInt16.ofNat (a.toNat * 256 + b.toNat)).toNat / 256 % 256 := rfl
      rw [h5, h4]; omega
    · congr 1
      apply UInt8.toNat.inj
      have h5 : (UInt8.ofNat ((UInt16.ofNat (a.toNat * 256 + b.toNat)).toNat)).toNat = (UInt16.ofNat (a.toNat * 256 + b.toNat)).toNat % 256 := rfl
      rw [h5, h4]; omega
theorem bw_get : ∀ (l : List UInt8) (k : Nat) (h : 2 * k + 1 < l.length), (bw l)[k]? = some (UInt16.ofNat (l[2 * k].toNat * 256 + l[2 * k + 1].toNat))
  | [], k, h => by simp at h
  | [_], k, h => by simp at h
  | a :: b :: r, 0, h => by simp [bw]
  | a :: b :: r, k + 1, h => by
    have := bw_get r k (by simp at h; omega)
    simp only [bw, List.getElem?_cons_succ, this]
    rfl

theorem cB_cell (x : Int) (n : Nat) (h : x = ((n % 256 : Nat) : Int)) : (.int .u8 x : Value) = cB (UInt8.ofNat n) := by unfold cB; congr 1
theorem cW_cell (x : Int) (n : Nat) (h : x = ((n % 65536 : Nat) : Int)) : (.int .u16 x : Value) = cW (UInt16.ofNat n) := by unfold cW; congr 1
theorem Rd.two (w : World) (t : TypeId) (v u : Value) : Rd (w.alloc (.cells #[v, u] t)) (some ⟨w.heap.size, 0, none⟩) 2 [v, u] :=
  ⟨rfl, fun _ => ⟨_, 0, rfl, by simp, fun j x hu => by
    rw [cell_of_row _ _ _ _ _ _ (heap_alloc_new w _)]
    rcases j with _ | _ | j
    · simpa using hu
    · simpa using hu
    · simp at hu⟩⟩
theorem run_make0 {P : Program} (t e : TypeId) (z : Value) (bytes : Nat) (ht : P.underlying t = some (.slice e)) (hinfo : (P.info? e).map (fun i => (i.zero, i.size, i.bytes)) = some (some z, 1, bytes)) (hz1 : z.cells = #[z])
    (c : Nat) (hbytes : bytes * c ≤ 281474976710656) (h63 : c ≤ 9223372036854775807) (W : World) :
    (Instr.makeSlice t (.int .i64 0) (.int .i64 (c : Int))).run P W = .ok (.slice (some ⟨W.heap.size, 0, none⟩) 0 c) (W.alloc (.cells (Array.replicate c z) e)) := by
  obtain ⟨i, hi, hz, hs, hb⟩ := info_parts hinfo
  subst hb
  have h := run_make (P := P) W t e i z ht hi hz .i64 .i64 0 (c : Int) (by omega) (by omega) (by have := Int.ofNat_le.2 hbytes; simpa using this) (by omega)
  have e1 : madeCells #[z] c = Array.replicate c z := by apply Array.ext'; rw [toList_madeCells_one]; simp
  simpa [hs, hz1, e1] using h
theorem Own.made {w : World} {base : Nat} {e : TypeId} {p : Value → Prop} {z : Value} {c : Nat} (hb : base ≤ w.heap.size) (hc : c ≤ 9223372036854775807) (hz : p z) : Own (w.alloc (.cells (Array.replicate c z) e)) base e p (some ⟨w.heap.size, 0, none⟩) 0 c [] := by
  have h := Own.of_heap (w := w.alloc (.cells (Array.replicate c z) e)) (p := p) hb (heap_alloc_new w _) (off := 0) 0 c (by omega) (by simp) (by unfold maxLen; omega) (by intro u hu; simp at hu; rw [hu.2]; exact hz)
  simpa using h
theorem Rd.u16in {w wr : World} {A : Option Addr} {n : Nat} {l : List UInt16} (h : Rd w A n (l.map cW)) (hb : Below w.heap.size w wr) {k : Nat} (hk : k < n) :
    ∃ b off, A = some ⟨b, off, none⟩ ∧ b < w.heap.size ∧ ∃ hl : k < l.length, wr.cell? ⟨b, off + k, none⟩ = some (.int .u16 (l[k].toNat : Int)) := by
  obtain ⟨b, off, e, hlt, hl, hc⟩ := h.u16at hk
  exact ⟨b, off, e, hlt, hl, (hb.cell (p := ⟨b, off + k, none⟩) hlt).trans hc⟩
theorem Rd.u8in {w wr : World} {A : Option Addr} {n : Nat} {l : List UInt8} (h : Rd w A n (l.map cB)) (hb : Below w.heap.size w wr) {k : Nat} (hk : k < n) :
    ∃ b off, A = some ⟨b, off, none⟩ ∧ b < w.heap.size ∧ ∃ hl : k < l.length, wr.cell? ⟨b, off + k, none⟩ = some (.int .u8 (l[k].toNat : Int)) := by
  obtain ⟨b, off, e, hlt, hl, hc⟩ := h.u8at hk
  exact ⟨b, off, e, hlt, hl, (hb.cell (p := ⟨b, off + k, none⟩) hlt).trans hc⟩
/-- A cell below the call's own blocks, behind an append to one of these. -/
theorem cell_app {w w2 : World} {o : Obj} {base : Nat} {e : TypeId} {p : Value → Prop} {A : Option Addr} {n c b off : Nat} {xs : List Value} {v : Value} (hc : w.cell? ⟨b, off, none⟩ = some v) (hg : (w.alloc o).grownBy w2 (blk A)) (hown : Own w base e p A n c xs) (hlt : b < base) (hbase : base ≤ w.heap.size) :
    w2.cell? ⟨b, off, none⟩ = some v :=
  (World.cell?_of_block (a := ⟨b, off, none⟩) (hg.block b (by simp; omega) (fun e => by have := (hown.lt b e.symm).1; omega))).trans ((World.cell?_alloc_lt w o ⟨b, off, none⟩ (by simp; omega)).trans hc)
theorem word_or (x y : UInt8) : bits .or .u16 (IntKind.u16.wrap (IntKind.u16.wrap (x.toNat : Int) * 256)) (IntKind.u16.wrap (y.toNat : Int)) = (((x.toNat * 256 + y.toNat) % 65536 : Nat) : Int) := by
  have hx := x.toNat_lt
  have hy := y.toNat_lt
  have e1 : IntKind.u16.wrap (IntKind.u16.wrap (x.toNat : Int) * 256) = ((x.toNat * 256 : Nat) : Int) := by rw [IntKind.wrap_u16, IntKind.wrap_u16]; omega
  have e2 : IntKind.u16.wrap (y.toNat : Int) = ((y.toNat : Nat) : Int) := by rw [IntKind.wrap_u16]; omega
  rw [e1, e2, u16_or_nat _ _ (by omega) (by omega), nat_join 8 _ _ (by omega) (by omega)]
  omega
theorem word_add (x y : UInt8) : IntKind.u16.wrap (IntKind.u16.wrap (IntKind.u16.wrap (x.toNat : Int) * 256) + IntKind.u16.wrap (y.toNat : Int)) = (((x.toNat * 256 + y.toNat) % 65536 : Nat) : Int) := by
  have hx := x.toNat_lt
  have hy := y.toNat_lt
  rw [IntKind.wrap_u16, IntKind.wrap_u16, IntKind.wrap_u16, IntKind.wrap_u16]; omega
theorem bw_get' (l : List UInt8) (k : Nat) (h : 2 * k + 1 < l.length) : ((bw l).map cW)[k]? = some (.int .u16 (((l[2 * k].toNat * 256 + l[2 * k + 1].toNat) % 65536 : Nat) : Int)) := by
  rw [List.getElem?_map, bw_get l k h]; rfl
theorem bw_take (l : List UInt8) (k : Nat) (h : 2 * k + 1 < l.length) : ((bw l).take (k + 1)).map cW = ((bw l).take k).map cW ++ [.int .u16 (((l[2 * k].toNat * 256 + l[2 * k + 1].toNat) % 65536 : Nat) : Int)] := by
  have h1 := bw_get' l k h
  rw [List.getElem?_map] at h1
  have hk : k < (bw l).length := by rw [bw_length]; omega
  rw [map_take_succ cW _ _ hk]
  rw [List.getElem?_eq_getElem hk] at h1
  simp only [Option.map_some, Option.some.injEq] at h1
  rw [h1]
/-- A block filled with words, whole. -/
theorem Own.words {w : World} {base : Nat} {e : TypeId} {g : Nat} {cur : Array Value} {l : List UInt16} {n : Nat} (hb : base ≤ g) (hg : w.heap[g]? = some (.cells cur e (0, 0))) (hc : cur.toList = l.map cW) (hn : l.length = n) (hm : n ≤ maxLen) :
    Own w base e IsU16 (some ⟨g, 0, none⟩) n n (l.map cW) := by
  have hs : cur.size = n := by rw [← Array.length_toList, hc]; simpa using hn
  have h := Own.of_heap (p := IsU16) hb hg (off := 0) n n (Nat.le_refl _) (by omega) hm (by rw [hc]; exact isU16_map)
  rwa [List.drop_zero, hc, List.take_of_length_le (by simp; omega)] at h
/-- append onto a slice of the call's own, as one step of a region that draws. -/
theorem step_append_Own {P : Program} {ops : Array Oper} {o : Oper} {a : Act} {w : World} {K : Act → World → Prop} {Q : Exit → Act → World → Prop} {E : Prop} (hg : o.guard = none) (s x : Operand) (t : TypeId)
    (ho : o.op = .call { callee := .builtin .append, args := #[s, x], argTypes := #[t, t] })
    (p : Value → Prop) (base : Nat) (e : TypeId) (z : Value) (bytes : Nat) (ht : P.underlying t = some (.slice e))
    (hinfo : (P.info? e).map (fun i => (i.zero, i.size, i.bytes)) = some (some z, 1, bytes)) (hzc : z.cells = #[z]) (hpz : p z) (hp1 : ∀ u, p u → u.oneCell' = true)
    (A : Option Addr) (n c : Nat) (xs : List Value) (hs : a.eval s = .slice A n c) (hown : Own w base e p A n c xs)
    (A' : Option Addr) (m c' : Nat) (news : List Value) (hx : a.eval x = .slice A' m c') (hr : Rd w A' m news) (hnp : ∀ u ∈ news, p u) (hbytes : (n + m) * bytes ≤ 140737488355328) (h63 : n + m ≤ 9223372036854775807) (hbase : base ≤ w.heap.size)
    (h : ∀ A1 c1 w1, Own w1 base e p A1 (n + m) c1 (xs ++ news) → w.grownBy w1 (blk A) → (blk A1 = blk A ∨ blk A1 = some w.heap.size) → K (a.put o.dst (.slice A1 (n + m) c1)) w1) :
    if Region.wanted o (yielded ops a.tmps) = true then Oper.wp P o a w K Q else E := by
  have hw : Region.wanted o (yielded ops a.tmps) = true := by simp [Region.wanted, hg]
  rw [if_pos hw]
  exact wp_append_Own w s x t ho p base e z bytes ht hinfo hzc hpz hp1 A n c xs hs hown A' m c' news hx hr hnp hbytes h63 hbase h
end Go.Out

namespace Go.Out
open Go Go.RowKit
set_option linter.unusedVariables false

def need (n : Nat) : Nat := (n + 7) / 8
/-- Bit i of a list, as a number. -/
def bt (l : List Bool) (i : Nat) : Nat := if l.getD i false then 1 else 0
def bByte (l : List Bool) (j : Nat) : Nat := bt l (8 * j) + 2 * bt l (8 * j + 1) + 4 * bt l (8 * j + 2) + 8 * bt l (8 * j + 3) + 16 * bt l (8 * j + 4) + 32 * bt l (8 * j + 5) + 64 * bt l (8 * j + 6) + 128 * bt l (8 * j + 7)
/-- The bytes that N bytes' room holds behind the bits l. -/
def bitsN (l : List Bool) (N : Nat) : List UInt8 := (List.range N).map fun j => UInt8.ofNat (bByte l j)
def bitsF (l : List Bool) : List UInt8 := bitsN l (need l.length)
/-- Bit i of bytes. -/
def ubit (b : List UInt8) (i : Nat) : Bool := decide ((b.getD (i / 8) 0).toNat / 2 ^ (i % 8) % 2 = 1)
/-- Is a bit set from n on? -/
def spare (b : List UInt8) (n : Nat) : Bool := (List.range (8 * b.length)).any fun i => decide (n ≤ i) && ubit b i
def unbitsF (b : List UInt8) (n : Int) : List Bool × Int :=
  if n < 0 then ([], 3) else if b.length ≠ need n.toNat then ([], 22) else if spare b n.toNat then ([], 4) else ((List.range n.toNat).map (ubit b), 0)

theorem bt_le (l : List Bool) (i : Nat) : bt l i ≤ 1 := by unfold bt; split <;> omega
theorem getD_take (l : List Bool) (k i : Nat) : (l.take k).getD i false = if i < k then l.getD i false else false := by
  rw [List.getD_eq_getElem?_getD, List.getD_eq_getElem?_getD, List.getElem?_take]; split <;> rfl
theorem bt_take (l : List Bool) (k i : Nat) (hk : k < l.length) : bt (l.take (k + 1)) i = bt (l.take k) i + (if i = k then bt l k else 0) := by
  unfold bt
  rw [getD_take, getD_take]
  rcases Nat.lt_trichotomy i k with h | h | h
  · rw [if_pos (show i < k + 1 by omega), if_pos h, if_neg (show ¬ i = k by omega)]; rfl
  · subst h; rw [if_pos (show i < i + 1 by omega), if_neg (show ¬ i < i by omega), if_pos (show i = i from rfl)]; simp
  · rw [if_neg (show ¬ i < k + 1 by omega), if_neg (show ¬ i < k by omega), if_neg (show ¬ i = k by omega), if_neg (by decide)]
theorem bt_past (l : List Bool) (k i : Nat) (h : k ≤ i) : bt (l.take k) i = 0 := by
  unfold bt
  rw [getD_take, if_neg (show ¬ i < k by omega), if_neg (by decide)]
theorem bByte_step (l : List Bool) (k j : Nat) (hk : k < l.length) : bByte (l.take (k + 1)) j = bByte (l.take k) j + (if j = k / 8 then bt l k * 2 ^ (k % 8) else 0) := by
  unfold bByte
  simp only [bt_take l k _ hk]
  generalize bt l k = B
  have hr : k % 8 < 8 := Nat.mod_lt _ (by omega)
  by_cases hj : j = k / 8
  · rw [if_pos hj]
    have hk8 : k = 8 * j + k % 8 := by omega
    generalize k % 8 = r at *
    subst hk8
    match r, hr with
    | 0, _ | 1, _ | 2, _ | 3, _ | 4, _ | 5, _ | 6, _ | 7, _ => simp <;> omega
  · rw [if_neg hj]
    have n0 : ¬ 8 * j = k := by omega
    have n1 : ¬ 8 * j + 1 = k := by omega
    have n2 : ¬ 8 * j + 2 = k := by omega
    have n3 : ¬ 8 * j + 3 = k := by omega
    have n4 : ¬ 8 * j + 4 = k := by omega
    have n5 : ¬ 8 * j + 5 = k := by omega
    have n6 : ¬ 8 * j + 6 = k := by omega
    have n7 : ¬ 8 * j + 7 = k := by omega
    simp only [if_neg n0, if_neg n1, if_neg n2, if_neg n3, if_neg n4, if_neg n5, if_neg n6, if_neg n7]
    omega
theorem bByte_lt (l : List Bool) (j : Nat) : bByte l j < 256 := by
  unfold bByte
  have := bt_le l (8 * j); have := bt_le l (8 * j + 1); have := bt_le l (8 * j + 2); have := bt_le l (8 * j + 3)
  have := bt_le l (8 * j + 4); have := bt_le l (8 * j + 5); have := bt_le l (8 * j + 6); have := bt_le l (8 * j + 7)
  omega
/-- Behind k bits, the byte that the next one goes to has nothing from that bit on. -/
theorem bByte_low (l : List Bool) (k : Nat) : bByte (l.take k) (k / 8) < 2 ^ (k % 8) := by
  have hr : k % 8 < 8 := Nat.mod_lt _ (by omega)
  have hk8 : k = 8 * (k / 8) + k % 8 := by omega
  have hp := fun i (h : k ≤ i) => bt_past l k i h
  have hb := fun i => bt_le (l.take k) i
  unfold bByte
  generalize hj : k / 8 = j at *
  have b0 := hb (8 * j); have b1 := hb (8 * j + 1); have b2 := hb (8 * j + 2); have b3 := hb (8 * j + 3); have b4 := hb (8 * j + 4); have b5 := hb (8 * j + 5); have b6 := hb (8 * j + 6)
  have p0 := hp (8 * j); have p1 := hp (8 * j + 1); have p2 := hp (8 * j + 2); have p3 := hp (8 * j + 3); have p4 := hp (8 * j + 4); have p5 := hp (8 * j + 5); have p6 := hp (8 * j + 6); have p7 := hp (8 * j + 7)
  generalize k % 8 = r at *
  match r, hr with
  | 0, _ | 1, _ | 2, _ | 3, _ | 4, _ | 5, _ | 6, _ | 7, _ => simp only [Nat.reducePow]; omega
theorem bitsN_get (l : List Bool) (N j : Nat) (h : j < N) : (bitsN l N)[j]? = some (UInt8.ofNat (bByte l j)) := by simp [bitsN, h]
theorem bitsN_length (l : List Bool) (N : Nat) : (bitsN l N).length = N := by simp [bitsN]
theorem bitsN_nil (N : Nat) : (bitsN [] N).map cB = List.replicate N (.int .u8 0) := by
  apply List.ext_getElem?
  intro i
  rcases Nat.lt_or_ge i N with h | h
  · rw [List.getElem?_map, bitsN_get _ _ _ h, List.getElem?_replicate, if_pos h]; rfl
  · rw [List.getElem?_eq_none (by simp [bitsN_length]; omega), List.getElem?_eq_none (by simp; omega)]
theorem bitsN_set (l : List Bool) (N k : Nat) (hk : k < l.length) (hN : k / 8 < N) (h : l[k] = true) : ((bitsN (l.take k) N).map cB).set (k / 8) (.int .u8 ((bByte (l.take k) (k / 8) + 2 ^ (k % 8) : Nat) : Int)) = (bitsN (l.take (k + 1)) N).map cB := by
  have hbt : bt l k = 1 := by unfold bt; simp [List.getD, hk, h]
  apply List.ext_getElem?
  intro i
  rcases Nat.lt_or_ge i N with hi | hi
  · rw [List.getElem?_map, bitsN_get _ _ _ hi, List.getElem?_set]
    have hs := bByte_step l k i hk
    by_cases hik : k / 8 = i
    · subst hik
      rw [if_pos rfl, if_pos (by simpa [bitsN_length] using hN)]
      rw [if_pos rfl, hbt, Nat.one_mul] at hs
      have hlt := bByte_lt (l.take (k + 1)) (k / 8)
      simp only [Option.map_some]
      congr 1
      unfold cB
      have e : (UInt8.ofNat (bByte (l.take (k + 1)) (k / 8))).toNat = bByte (l.take (k + 1)) (k / 8) % 256 := rfl
      rw [e, ← hs, Nat.mod_eq_of_lt hlt]
    · rw [if_neg hik, List.getElem?_map, bitsN_get _ _ _ hi]
      rw [if_neg (fun e => hik e.symm)] at hs
      simp only [Nat.add_zero] at hs
      rw [hs]
  · rw [List.getElem?_eq_none (by simp [bitsN_length]; omega), List.getElem?_eq_none (by simp [bitsN_length]; omega)]
theorem bitsN_skip (l : List Bool) (N k : Nat) (hk : k < l.length) (h : l[k] = false) : bitsN (l.take (k + 1)) N = bitsN (l.take k) N := by
  have hbt : bt l k = 0 := by unfold bt; simp [List.getD, hk, h]
  unfold bitsN
  apply List.map_congr_left
  intro j _
  rw [bByte_step l k j hk, hbt]
  simp
theorem bit_or (x r : Nat) (hx : x < 2 ^ r) (hr : r < 8) : bits .or .u8 (x : Int) ((2 ^ r : Nat) : Int) = ((x + 2 ^ r : Nat) : Int) := by
  have h2 : (2 : Nat) ^ r ≤ 2 ^ 7 := Nat.pow_le_pow_right (by omega) (by omega)
  rw [u8_or_nat _ _ (by omega) (by omega), Nat.or_comm, nat_join r _ _ (by simp) hx, Nat.add_comm]
theorem bit_or' (x r : Nat) (hx : x < 2 ^ r) (hr : r < 8) : bits .or .u8 (x : Int) (IntKind.u8.wrap ((2 : Int) ^ r)) = ((x + 2 ^ r : Nat) : Int) := by
  have h2 : (2 : Nat) ^ r ≤ 2 ^ 7 := Nat.pow_le_pow_right (by omega) (by omega)
  have e : IntKind.u8.wrap ((2 : Int) ^ r) = ((2 ^ r : Nat) : Int) := by rw [IntKind.wrap_u8', Int.natCast_pow]; have : ((2 : Nat) : Int) = 2 := rfl; rw [this, ← this, ← Int.natCast_pow]; omega
  rw [e, bit_or x r hx hr]
theorem bit_or'' (x r : Nat) (hx : x < 2 ^ r) (hr : r < 8) : bits .or .u8 (x : Int) ((2 : Int) ^ r % 256) = ((x + 2 ^ r : Nat) : Int) := by
  rw [← bit_or' x r hx hr, IntKind.wrap_u8']
theorem bit_add (x r : Nat) (hx : x < 2 ^ r) (hr : r < 8) : IntKind.u8.wrap ((x : Int) + ((2 ^ r : Nat) : Int) % 256) = ((x + 2 ^ r : Nat) : Int) := by
  have h2 : (2 : Nat) ^ r ≤ 2 ^ 7 := Nat.pow_le_pow_right (by omega) (by omega)
  rw [IntKind.wrap_u8']; omega
theorem bit_add' (x r : Nat) (hx : x < 2 ^ r) (hr : r < 8) : ((x : Int) + (2 : Int) ^ r) % 256 = ((x + 2 ^ r : Nat) : Int) := by
  have h2 : (2 : Nat) ^ r ≤ 2 ^ 7 := Nat.pow_le_pow_right (by omega) (by omega)
  have e : (2 : Int) ^ r = ((2 ^ r : Nat) : Int) := by simp
  rw [e]; omega
theorem pow_le_128 {r : Nat} (hr : r < 8) : (2 : Nat) ^ r ≤ 128 := Nat.pow_le_pow_right (n := 2) (by omega) (show r ≤ 7 by omega)
theorem ubit_shift (x r : Nat) (hx : x < 256) : bits .and .u8 ((x : Int) / 2 ^ r) 1 = ((x / 2 ^ r % 2 : Nat) : Int) := by
  have e : (x : Int) / 2 ^ r = ((x / 2 ^ r : Nat) : Int) := by simp
  have hd : x / 2 ^ r ≤ x := Nat.div_le_self _ _
  rw [e, show (1 : Int) = ((1 : Nat) : Int) from rfl, u8_and_nat _ _ (by omega) (by omega), nat_mask1]
/-- The spare bits are those of the last byte. -/
theorem spare_iff (b : List UInt8) (n : Nat) (hl : b.length = need n) : spare b n = true ↔ n % 8 ≠ 0 ∧ (b.getD (b.length - 1) 0).toNat / 2 ^ (n % 8) ≠ 0 := by
  unfold spare
  rw [List.any_eq_true]
  constructor
  · rintro ⟨i, hi, h⟩
    simp only [List.mem_range, Bool.and_eq_true, decide_eq_true_eq] at hi h
    obtain ⟨h1, h2⟩ := h
    unfold ubit at h2
    rw [decide_eq_true_eq] at h2
    unfold need at hl
    have e1 : i / 8 = b.length - 1 := by omega
    rw [e1] at h2
    refine ⟨by omega, fun h0 => ?_⟩
    have hr : n % 8 ≤ i % 8 := by omega
    have : (b.getD (b.length - 1) 0).toNat < 2 ^ (n % 8) := by
      rcases Nat.lt_or_ge (b.getD (b.length - 1) 0).toNat (2 ^ (n % 8)) with h | h
      · exact h
      · have := Nat.div_pos h (Nat.two_pow_pos _); omega
    have h3 : (2 : Nat) ^ (n % 8) ≤ 2 ^ (i % 8) := Nat.pow_le_pow_right (by omega) hr
    rw [Nat.div_eq_of_lt (by omega)] at h2
    omega
  · rintro ⟨h0, h1⟩
    have hex : ∃ j, n % 8 ≤ j ∧ j < 8 ∧ (b.getD (b.length - 1) 0).toNat / 2 ^ j % 2 = 1 := by
      have hx := (b.getD (b.length - 1) 0).toNat_lt
      generalize (b.getD (b.length - 1) 0).toNat = x at *
      have hr : n % 8 < 8 := Nat.mod_lt _ (by omega)
      generalize n % 8 = r at *
      by_cases c7 : x / 2 ^ 7 % 2 = 1
      · exact ⟨7, by omega, by omega, c7⟩
      by_cases c6 : r ≤ 6 ∧ x / 2 ^ 6 % 2 = 1
      · exact ⟨6, c6.1, by omega, c6.2⟩
      by_cases c5 : r ≤ 5 ∧ x / 2 ^ 5 % 2 = 1
      · exact ⟨5, c5.1, by omega, c5.2⟩
      by_cases c4 : r ≤ 4 ∧ x / 2 ^ 4 % 2 = 1
      · exact ⟨4, c4.1, by omega, c4.2⟩
      by_cases c3 : r ≤ 3 ∧ x / 2 ^ 3 % 2 = 1
      · exact ⟨3, c3.1, by omega, c3.2⟩
      by_cases c2 : r ≤ 2 ∧ x / 2 ^ 2 % 2 = 1
      · exact ⟨2, c2.1, by omega, c2.2⟩
      by_cases c1 : r ≤ 1 ∧ x / 2 ^ 1 % 2 = 1
      · exact ⟨1, c1.1, by omega, c1.2⟩
      exfalso
      simp only [Nat.reducePow] at c7 c6 c5 c4 c3 c2 c1
      match r, hr with
      | 0, _ => exact h0 rfl
      | 1, _ | 2, _ | 3, _ | 4, _ | 5, _ | 6, _ | 7, _ => simp only [Nat.reducePow] at h1; omega
    obtain ⟨j, hj1, hj2, hj3⟩ := hex
    unfold need at hl
    refine ⟨8 * (b.length - 1) + j, by simp; omega, ?_⟩
    simp only [Bool.and_eq_true, decide_eq_true_eq]
    refine ⟨by omega, ?_⟩
    unfold ubit
    rw [show (8 * (b.length - 1) + j) / 8 = b.length - 1 from by omega, show (8 * (b.length - 1) + j) % 8 = j from by omega]
    simpa using hj3
theorem bByte_zero (l : List Bool) (k j : Nat) (h : k ≤ 8 * j) : bByte (l.take k) j = 0 := by
  unfold bByte
  rw [bt_past l k _ (by omega), bt_past l k _ (by omega), bt_past l k _ (by omega), bt_past l k _ (by omega), bt_past l k _ (by omega), bt_past l k _ (by omega), bt_past l k _ (by omega), bt_past l k _ (by omega)]
theorem bitsN_grow (l : List Bool) (k N : Nat) (h : k ≤ 8 * N) : (bitsN (l.take k) (N + 1)).map cB = (bitsN (l.take k) N).map cB ++ [.int .u8 0] := by
  unfold bitsN
  rw [List.range_succ, List.map_append, List.map_append]
  simp [bByte_zero l k N h, cB]
theorem Own.set_ {w : World} {base : Nat} {e : TypeId} {p : Value → Prop} {g off n c i : Nat} {xs : List Value} {v : Value} (h : Own w base e p (some ⟨g, off, none⟩) n c xs) (hv : p v) :
    Own (w.setCell ⟨g, off + i, none⟩ v) base e p (some ⟨g, off, none⟩) n c (xs.set i v) := by
  obtain ⟨h1, h2, h3, h4⟩ := h
  rcases h4 with ⟨h4, _⟩ | ⟨g', off', cur, h4, hb, hh, hs, ht, hp⟩
  · cases h4
  · injection h4 with h4; injection h4 with h4 h5; subst h4; subst h5
    refine ⟨by simpa using h1, h2, h3, .inr ⟨g, off, cur.setIfInBounds (off + i) v, rfl, hb, heap_setCell_same _ _ _ _ _ _ hh, by simpa using hs, ?_, all_set hp hv⟩⟩
    rw [Array.toList_setIfInBounds, ← ht, List.drop_set, if_neg (by omega), Nat.add_sub_cancel_left, List.take_set]
theorem Own.at_ {w : World} {base : Nat} {e : TypeId} {p : Value → Prop} {A : Option Addr} {n c i : Nat} {xs : List Value} (h : Own w base e p A n c xs) (hi : i < n) :
    ∃ g off, A = some ⟨g, off, none⟩ ∧ base ≤ g ∧ w.cell? ⟨g, off + i, none⟩ = xs[i]? ∧ w.frozen? ⟨g, off + i, none⟩ = false := by
  obtain ⟨b, off, e1, hb, hc⟩ := h.rd.2 (by omega)
  subst e1
  have hl : i < xs.length := by have := h.1; omega
  refine ⟨b, off, rfl, (h.lt b rfl).1, by rw [List.getElem?_eq_getElem hl]; exact hc i _ (List.getElem?_eq_getElem hl), ?_⟩
  obtain ⟨_, _, _, h4⟩ := h
  rcases h4 with ⟨h4, _⟩ | ⟨g', off', cur, h4, _, hh, _⟩
  · cases h4
  · injection h4 with h4; injection h4 with h4 h5; subst h4; subst h5
    exact frozen_of_row _ _ _ _ _ hh
theorem bitsF_length (l : List Bool) : (bitsF l).length = need l.length := bitsN_length _ _
end Go.Out

namespace Go.Out
open Go Go.RowKit
set_option linter.unusedVariables false

/-- The number in the two bytes at a place. -/
def at2 (b : List UInt8) (i : Nat) : Nat := (b.getD i 0).toNat * 256 + (b.getD (i + 1) 0).toNat
/-- A number in two bytes. -/
def two (v : Nat) : List UInt8 := [UInt8.ofNat (v / 256), UInt8.ofNat v]
theorem two_length (v : Nat) : (two v).length = 2 := rfl
theorem at2_lt (b : List UInt8) (i : Nat) : at2 b i < 65536 := by
  have h1 := (b.getD i 0).toNat_lt; have h2 := (b.getD (i + 1) 0).toNat_lt
  unfold at2; omega
theorem two_join (v : Nat) (h : v < 65536) : (UInt8.ofNat (v / 256)).toNat * 256 + (UInt8.ofNat v).toNat = v := by simp; omega
theorem two_split (x y : UInt8) : two (x.toNat * 256 + y.toNat) = [x, y] := by
  unfold two
  have h1 := y.toNat_lt
  have h2 := x.toNat_lt
  rw [show (x.toNat * 256 + y.toNat) / 256 = x.toNat from by omega]
  simp only [UInt8.ofNat_toNat, List.cons.injEq, true_and, and_true]
  apply UInt8.toNat.inj
  simp
end Go.Out

namespace Go.Out
open Go Go.RowKit
set_option linter.unusedVariables false

theorem bByte_bit (l : List Bool) (j r : Nat) (hr : r < 8) : bByte l j / 2 ^ r % 2 = bt l (8 * j + r) := by
  have b0 := bt_le l (8 * j); have b1 := bt_le l (8 * j + 1); have b2 := bt_le l (8 * j + 2); have b3 := bt_le l (8 * j + 3)
  have b4 := bt_le l (8 * j + 4); have b5 := bt_le l (8 * j + 5); have b6 := bt_le l (8 * j + 6); have b7 := bt_le l (8 * j + 7)
  unfold bByte
  match r, hr with
  | 0, _ | 1, _ | 2, _ | 3, _ | 4, _ | 5, _ | 6, _ | 7, _ => simp only [Nat.reducePow, Nat.add_zero]; omega

theorem ubit_bits (l : List Bool) (N i : Nat) (h : i < 8 * N) : ubit (bitsN l N) i = l.getD i false := by
  unfold ubit
  have h1 : (bitsN l N).getD (i / 8) 0 = UInt8.ofNat (bByte l (i / 8)) := by
    rw [List.getD_eq_getElem?_getD, bitsN_get _ _ _ (by omega)]; rfl
  rw [h1]
  have h2 : (UInt8.ofNat (bByte l (i / 8))).toNat = bByte l (i / 8) := by
    show bByte l (i / 8) % 256 = _
    exact Nat.mod_eq_of_lt (bByte_lt _ _)
  rw [h2, bByte_bit l (i / 8) (i % 8) (by omega), show 8 * (i / 8) + i % 8 = i from by omega]
  unfold bt
  cases l.getD i false <;> simp

theorem unbits_bits (l : List Bool) : unbitsF (bitsF l) l.length = (l, 0) := by
  have hl := bitsF_length l
  have hs : spare (bitsF l) l.length = false := by
    rw [← Bool.not_eq_true]
    intro hs
    unfold spare at hs
    rw [List.any_eq_true] at hs
    obtain ⟨i, hi, hh⟩ := hs
    simp only [List.mem_range, Bool.and_eq_true, decide_eq_true_eq] at hi hh
    rw [hl] at hi
    unfold bitsF at hh
    rw [ubit_bits l _ i hi, List.getD_eq_getElem?_getD, List.getElem?_eq_none hh.1] at hh
    exact absurd hh.2 (by decide)
  unfold unbitsF
  rw [if_neg (by omega), if_neg (by simpa using hl), if_neg (by simp [hs])]
  congr 1
  apply List.ext_getElem?
  intro i
  rcases Nat.lt_or_ge i l.length with h | h
  · simp only [Int.toNat_natCast, List.getElem?_map, List.getElem?_range h, Option.map_some]
    unfold bitsF
    rw [ubit_bits l _ i (by unfold need; omega), List.getD_eq_getElem?_getD, List.getElem?_eq_getElem h]; rfl
  · rw [List.getElem?_eq_none (by simpa using h), List.getElem?_eq_none h]

theorem byte_sum (x : Nat) (hx : x < 256) : x / 2 ^ 0 % 2 + 2 * (x / 2 ^ 1 % 2) + 4 * (x / 2 ^ 2 % 2) + 8 * (x / 2 ^ 3 % 2) + 16 * (x / 2 ^ 4 % 2) + 32 * (x / 2 ^ 5 % 2) + 64 * (x / 2 ^ 6 % 2) + 128 * (x / 2 ^ 7 % 2) = x := by
  simp only [Nat.reducePow]; omega

theorem bits_unbits (b : List UInt8) (n : Nat) (hl : b.length = need n) (hs : spare b n = false) : bitsF ((List.range n).map (ubit b)) = b := by
  apply List.ext_getElem?
  intro j
  have hlen : (bitsF ((List.range n).map (ubit b))).length = need n := by rw [bitsF_length]; simp
  rcases Nat.lt_or_ge j (need n) with h | h
  · have hj : j < b.length := by omega
    unfold bitsF
    rw [bitsN_get _ _ _ (by simpa using h), List.getElem?_eq_getElem hj]
    congr 1
    apply UInt8.toNat.inj
    have hx := b[j].toNat_lt
    have e1 : ∀ L : List Bool, (UInt8.ofNat (bByte L j)).toNat = bByte L j := fun L => Nat.mod_eq_of_lt (bByte_lt L j)
    rw [e1]
    have hbit : ∀ r, r < 8 → bt ((List.range n).map (ubit b)) (8 * j + r) = b[j].toNat / 2 ^ r % 2 := by
      intro r hr
      have hu : ubit b (8 * j + r) = decide (b[j].toNat / 2 ^ r % 2 = 1) := by
        unfold ubit
        rw [show (8 * j + r) / 8 = j from by omega, show (8 * j + r) % 8 = r from by omega, List.getD_eq_getElem?_getD, List.getElem?_eq_getElem hj]; rfl
      rcases Nat.lt_or_ge (8 * j + r) n with hn | hn
      · have hg : ((List.range n).map (ubit b)).getD (8 * j + r) false = decide (b[j].toNat / 2 ^ r % 2 = 1) := by
          rw [List.getD_eq_getElem?_getD, List.getElem?_map, List.getElem?_range hn, ← hu]; rfl
        unfold bt
        simp only [hg]
        by_cases hb : b[j].toNat / 2 ^ r % 2 = 1
        · simp [hb]
        · rw [if_neg (by simpa using hb)]; omega
      · have hg : ((List.range n).map (ubit b)).getD (8 * j + r) false = false := by
          rw [List.getD_eq_getElem?_getD, List.getElem?_eq_none (by simpa using hn)]; rfl
        have : ubit b (8 * j + r) = false := by
          rw [← Bool.not_eq_true]
          intro h1
          have : spare b n = true := by
            unfold spare
            rw [List.any_eq_true]
            exact ⟨8 * j + r, by simp; omega, by simp [hn, h1]⟩
          rw [hs] at this; cases this
        rw [hu, decide_eq_false_iff_not] at this
        unfold bt
        simp only [hg]
        simp only [Bool.false_eq_true, if_false]
        omega
    have hb0 := hbit 0 (by omega)
    rw [Nat.add_zero] at hb0
    unfold bByte
    rw [hb0, hbit 1 (by omega), hbit 2 (by omega), hbit 3 (by omega), hbit 4 (by omega), hbit 5 (by omega), hbit 6 (by omega), hbit 7 (by omega)]
    exact byte_sum _ hx
  · rw [List.getElem?_eq_none (by omega), List.getElem?_eq_none (by omega)]

theorem unbitsF_zero {b : List UInt8} {n : Int} (h : (unbitsF b n).2 = 0) : ((unbitsF b n).1.length : Int) = n ∧ bitsF (unbitsF b n).1 = b := by
  unfold unbitsF at h ⊢
  split at h
  · simp at h
  · split at h
    · simp at h
    · split at h
      · simp at h
      · rename_i h1 h2 h3
        rw [if_neg h1, if_neg h2, if_neg h3]
        exact ⟨by simp; omega, bits_unbits b _ (by simpa using h2) (by simpa using h3)⟩
theorem unbitsF_err {b : List UInt8} {n : Int} (h : (unbitsF b n).2 ≠ 0) : (unbitsF b n).1 = [] := by
  unfold unbitsF at h ⊢
  split
  · rfl
  · split
    · rfl
    · split
      · rfl
      · rename_i h1 h2 h3
        rw [if_neg h1, if_neg h2, if_neg h3] at h
        exact absurd rfl h
end Go.Out
