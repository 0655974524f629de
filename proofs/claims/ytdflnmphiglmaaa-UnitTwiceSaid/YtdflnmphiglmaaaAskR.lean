/- Contract of ask.parts: the parts of a file request. -/
import Derived.Test.YtdflnmphiglmaaaAskKit
import Derived.Test.YtdflnmphiglmaaaAskP
import Derived.Test.YtdflnmphiglmaaaIntRow
import Derived.Deep.RegionHeld3
namespace Go.Proofs.Ytdflnmphiglmaaa
set_option linter.unusedVariables false
set_option linter.unusedSimpArgs false
set_option maxRecDepth 100000
set_option maxHeartbeats 1000000
open Go Go.RowKit Go.Out

theorem ofInt64 (a : Nat) (h : a < 9223372036854775808) : (BitVec.ofInt 64 (a : Int)).toNat = a := by
  rw [BitVec.ofInt_natCast, BitVec.toNat_ofNat]; omega
theorem or_nat64 (a b : Nat) (ha : a < 9223372036854775808) (hb : b < 9223372036854775808) : bits .or .i64 (a : Int) (b : Int) = ((a ||| b : Nat) : Int) := by
  have h : a ||| b < 2 ^ 63 := Nat.or_lt_two_pow (by omega) (by omega)
  have e : bits .or .i64 (a : Int) (b : Int) = IntKind.i64.wrap ((BitVec.ofInt 64 (a : Int) ||| BitVec.ofInt 64 (b : Int)).toNat : Int) := rfl
  rw [e, BitVec.toNat_or, ofInt64 a ha, ofInt64 b hb, IntKind.wrap_i64]; omega
theorem or_i64 (x y : Nat) (hx : x < 256) (hy : y < 256) : bits .or .i64 ((x : Int) * 256) (y : Int) = ((x * 256 + y : Nat) : Int) := by
  have e : ((x : Int) * 256) = ((2 ^ 8 * x : Nat) : Int) := by omega
  rw [e, or_nat64 _ _ (by omega) (by omega), ← Nat.two_pow_add_eq_or_of_lt (i := 8) (b := y) (by omega) x, Nat.mul_comm]
theorem or_i64w (x y : Nat) (hx : x < 256) (hy : y < 256) : bits .or .i64 (IntKind.i64.wrap (IntKind.i64.wrap (x : Int) * 256)) (IntKind.i64.wrap (y : Int)) = ((x * 256 + y : Nat) : Int) := by
  rw [IntWalk.i64_in (x : Int) (by omega), IntWalk.i64_in (y : Int) (by omega), IntWalk.i64_in ((x : Int) * 256) (by omega)]
  exact or_i64 x y hx hy

def lenV : Value → Nat
  | .slice _ n _ => n
  | _ => 0
theorem partsOf_step {D : List UInt8} (h : 7 ≤ D.length) : partsOf D = if D.getD 0 0 = 6 then (partsOf (D.drop 7)).map (fun l => ⟨(at2 D 1 : Nat), (at2 D 3 : Nat), (at2 D 5 : Nat)⟩ :: l) else none := by
  match D, h with
  | t :: a :: b :: c :: d :: e :: f :: r, _ => simp [partsOf, at2]
theorem partsOf_nil {D : List UInt8} (h : D.length = 0) : partsOf D = some [] := by
  rw [List.length_eq_zero_iff.1 h]; rfl
theorem partsOf_few {D : List UInt8} (h : D.length < 7) (h0 : D.length ≠ 0) : partsOf D = none := by
  match D with
  | [] => simp at h0
  | [_] => rfl
  | [_, _] => rfl
  | [_, _, _] => rfl
  | [_, _, _, _] => rfl
  | [_, _, _, _, _] => rfl
  | [_, _, _, _, _, _] => rfl
  | _ :: _ :: _ :: _ :: _ :: _ :: _ :: _ => simp at h; omega
theorem info_part : (Try.prog.info? 65).map (fun i => (i.zero, i.size, i.bytes)) = some (some (.agg #[.int .i64 0, .int .i64 0, .int .i64 0]), 3, 24) := by kernel_rfl
theorem step_part {ops : Array Oper} {o : Oper} {a : Act} {w : World} {K : Act → World → Prop} {Q : Exit → Act → World → Prop} {E : Prop} (hgd : o.guard = none) (s x : Operand)
    (ho : o.op = .call { callee := .builtin .append, args := #[s, x], argTypes := #[25, 25] })
    {base n g : Nat} {v : Value} {xs : List Value} (hs : a.eval s = v) (hown : w.ownsRow base 65 3 v n xs) (hint : IntRow w v) {v0 v1 v2 : Int}
    (hx : a.eval x = .slice (some ⟨g, 0, none⟩) 1 1) (hh : w.heap[g]? = some (.cells #[.int .i64 v0, .int .i64 v1, .int .i64 v2] 65 (0, 0)))
    (hsz : n + 1 ≤ 4398046511104) (hbase : base ≤ w.heap.size)
    (h : ∀ v' w', w'.ownsRow base 65 3 v' (n + 1) (xs ++ [.int .i64 v0, .int .i64 v1, .int .i64 v2]) → IntRow w' v' → w.grownBy w' v.ownBlock → K (a.put o.dst v') w') :
    if Region.wanted o (yielded ops a.tmps) = true then Oper.wp Try.prog o a w K Q else E := by
  have hw : Region.wanted o (yielded ops a.tmps) = true := by simp [Region.wanted, hgd]
  rw [if_pos hw]
  obtain ⟨i0, hi, hz0, hz1, hz2⟩ := info_parts info_part
  exact wp_append_ints s x 25 ho base 65 i0 _ 3 24 Try.underlying25 hi hz0 hz1 hz2 rfl (by decide) (by intro u hu; simp [Value.cells] at hu; exact ⟨0, hu⟩) v n xs hs hown hint ⟨g, 0, none⟩ 1 1 [.int .i64 v0, .int .i64 v1, .int .i64 v2] hx rfl
    (fun j u hu => by rw [Addr.add_lit, cell_of_row _ _ _ _ _ _ hh, Nat.zero_add]; simpa using hu) (by intro u hu; simp at hu; rcases hu with rfl | rfl | rfl <;> rfl) (by intro u hu; simp at hu; rcases hu with rfl | rfl | rfl <;> exact ⟨_, rfl⟩) (by unfold maxLen; omega) (by omega) hbase (by omega) h

/-- A list of parts in memory of the call's own; all cells of its block are numbers. -/
def OwP (w : World) (base : Nat) (v : Value) (l : List PartD) : Prop := OwL partK w base 65 v l ∧ IntRow w v
theorem OwP.nil_ (w : World) (base : Nat) : OwP w base (.slice none 0 0) [] := ⟨OwL.nil_ _ _ _ _, IntRow.nil_ _⟩
theorem OwP.ext {w w' : World} {base : Nat} {v : Value} {l : List PartD} (h : OwP w base v l) (hx : Ext w w') : OwP w' base v l := ⟨h.1.ext hx, h.2.ext hx⟩
theorem OwP.mono {w : World} {base base' : Nat} {v : Value} {l : List PartD} (h : OwP w base v l) (hb : base' ≤ base) : OwP w base' v l := ⟨h.1.mono hb, h.2⟩
theorem OwP.form {w : World} {base : Nat} {v : Value} {l : List PartD} (h : OwP w base v l) : ∃ A c, v = .slice A l.length c ∧ l.length ≤ c ∧ c ≤ 9223372036854775807 ∧ RdL partK w A l.length l ∧ (∀ g, blk A = some g → base ≤ g ∧ g < w.heap.size) := h.1.form
/-- What ask.parts hands back. -/
def RetPs (w : World) (r : Option (List PartD)) (e : Ending) (w' : World) : Prop :=
  ∃ A n c, e = .returned (.tuple #[.slice A n c, .bool r.isSome]) ∧ (∀ l, r = some l → OwP w' w.heap.size (.slice A n c) l) ∧ Ext w w'

end Go.Proofs.Ytdflnmphiglmaaa
