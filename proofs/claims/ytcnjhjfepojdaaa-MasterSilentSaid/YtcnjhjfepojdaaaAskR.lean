/- Contract of ask.parts: the parts of a file request. -/
import Derived.Test.YtcnjhjfepojdaaaAskKit
import Derived.Test.YtcnjhjfepojdaaaAskP
import Derived.Test.YtcnjhjfepojdaaaIntRow
import Derived.Deep.RegionHeld3
namespace Go.Proofs.Ytcnjhjfepojdaaa
set_option linter.unusedVariables false
set_option linter.unusedSimpArgs false
set_option maxRecDepth 100000
set_option maxHeartbeats 1000000
open Go Go.RowKit Go.Out

theorem ofInt64 (a : Nat) (h : a < 9223372036854775808) : (BitVec.ofInt 64 (a : Int)).toNat = a := by
  rw [BitVec.ofInt_natCast, BitVec.toNat_ofNat]; omega
theorem or_nat64 (a b : Nat) (ha : a < 9223372036854775808) (hb : b < 9223372036854775808) : bits .or .i64 (a : Int) (b : Int) = ((a ||| b : Nat) : Int) := by
  have h : a ||| b < 2 ^ 63 := Nat.or_lt_two_pow (by omega) (by omega)
  have e : bits .or .i64 (a : Int) (b : Int) = IntKind.i64.wrap ((BitVec.ofInt 64 (a : Int) ||| BitVec.ofInt 64 (b : Int)).toNat : Int) := rfl
  rw [e, BitVec.toNat_or, ofInt64 a ha, ofInt64 b hb, IntKind.wrap_i64]; omega
theorem or_i64 (x y : Nat) (hx : x < 256) (hy : y < 256) : bits .or .i64 ((x : Int) * 256) (y : Int) = ((x * 256 + y : Nat) : Int) := by
  have e : ((x : Int) * 256) = ((2 ^ 8 * x : Nat) : Int) := by omega
  rw [e, or_nat64 _ _ (by omega) (by omega), ← Nat.two_pow_add_eq_or_of_lt (i := 8) (b := y) (by omega) x, Nat.mul_comm]
theorem or_i64w (x y : Nat) (hx : x < 256) (hy : y < 256) : bits .or .i64 (IntKind.i64.wrap (IntKind.i64.wrap (x : Int) * 256)) (IntKind.i64.wrap (y : Int)) = ((x * 256 + y : Nat) : Int) := by
  rw [IntWalk.i64_in (x : Int) (by omega), IntWalk.i64_in (y : Int) (by omega), IntWalk.i64_in ((x : Int) * 256) (by omega)]
  exact or_i64 x y hx hy

def lenV : Value → Nat
  | .slice _ n _ => n
  | _ => 0
theorem partsOf_step {D : List UInt8} (h : 7 ≤ D.length) : partsOf D = if D.getD 0 0 = 6 then (partsOf (D.drop 7)).map (fun l => ⟨(at2 D 1 : Nat), (at2 D 3 : Nat), (at2 D 5 : Nat)⟩ :: l) else none := by
  match D, h with
  | t :: a :: b :: c :: d :: e :: f :: r, _ => simp [partsOf, at2]
theorem partsOf_nil {D : List UInt8} (h : D.length = 0) : partsOf D = some [] := by
  rw [List.length_eq_zero_iff.1 h]; rfl
theorem partsOf_few {D : List UInt8} (h : D.length < 7) (h0 : D.length ≠ 0) : partsOf D = none := by
  match D with
  | [] => simp at h0
  | [_] => rfl
  | [_, _] => rfl
  | [_, _, _] => rfl
  | [_, _, _, _] => rfl
  | [_, _, _, _, _] => rfl
  | [_, _, _, _, _, _] => rfl
  | _ :: _ :: _ :: _ :: _ :: _ :: _ :: _ => simp at h; omega
theorem info_part : (Try.prog.info? 71).map (fun i => (i.zero, i.size, i.bytes)) = some (some (.agg #[.int .i64 0, .int .i64 0, .int .i64 0]), 3, 24) := by kernel_rfl
theorem step_part {ops : Array Oper} {o : Oper} {a : Act} {w : World} {K : Act → World → Prop} {Q : Exit → Act → World → Prop} {E : Prop} (hgd : o.guard = none) (s x : Operand)
    (ho : o.op = .call { callee := .builtin .append, args := #[s, x], argTypes := #[24, 24] })
    {base n g : Nat} {v : Value} {xs : List Value} (hs : a.eval s = v) (hown : w.ownsRow base 71 3 v n xs) (hint : IntRow w v) {v0 v1 v2 : Int}
    (hx : a.eval x = .slice (some ⟨g, 0, none⟩) 1 1) (hh : w.heap[g]? = some (.cells #[.int .i64 v0, .int .i64 v1, .int .i64 v2] 71 (0, 0)))
    (hsz : n + 1 ≤ 4398046511104) (hbase : base ≤ w.heap.size)
    (h : ∀ v' w', w'.ownsRow base 71 3 v' (n + 1) (xs ++ [.int .i64 v0, .int .i64 v1, .int .i64 v2]) → IntRow w' v' → w.grownBy w' v.ownBlock → K (a.put o.dst v') w') :
    if Region.wanted o (yielded ops a.tmps) = true then Oper.wp Try.prog o a w K Q else E := by
  have hw : Region.wanted o (yielded ops a.tmps) = true := by simp [Region.wanted, hgd]
  rw [if_pos hw]
  obtain ⟨i0, hi, hz0, hz1, hz2⟩ := info_parts info_part
  exact wp_append_ints s x 24 ho base 71 i0 _ 3 24 Try.underlying24 hi hz0 hz1 hz2 rfl (by decide) (by intro u hu; simp [Value.cells] at hu; exact ⟨0, hu⟩) v n xs hs hown hint ⟨g, 0, none⟩ 1 1 [.int .i64 v0, .int .i64 v1, .int .i64 v2] hx rfl
    (fun j u hu => by rw [Addr.add_lit, cell_of_row _ _ _ _ _ _ hh, Nat.zero_add]; simpa using hu) (by intro u hu; simp at hu; rcases hu with rfl | rfl | rfl <;> rfl) (by intro u hu; simp at hu; rcases hu with rfl | rfl | rfl <;> exact ⟨_, rfl⟩) (by unfold maxLen; omega) (by omega) hbase (by omega) h

/-- A list of parts in memory of the call's own; all cells of its block are numbers. -/
def OwP (w : World) (base : Nat) (v : Value) (l : List PartD) : Prop := OwL partK w base 71 v l ∧ IntRow w v
theorem OwP.nil_ (w : World) (base : Nat) : OwP w base (.slice none 0 0) [] := ⟨OwL.nil_ _ _ _ _, IntRow.nil_ _⟩
theorem OwP.ext {w w' : World} {base : Nat} {v : Value} {l : List PartD} (h : OwP w base v l) (hx : Ext w w') : OwP w' base v l := ⟨h.1.ext hx, h.2.ext hx⟩
theorem OwP.mono {w : World} {base base' : Nat} {v : Value} {l : List PartD} (h : OwP w base v l) (hb : base' ≤ base) : OwP w base' v l := ⟨h.1.mono hb, h.2⟩
theorem OwP.form {w : World} {base : Nat} {v : Value} {l : List PartD} (h : OwP w base v l) : ∃ A c, v = .slice A l.length c ∧ l.length ≤ c ∧ c ≤ 9223372036854775807 ∧ RdL partK w A l.length l ∧ (∀ g, blk A = some g → base ≤ g ∧ g < w.heap.size) := h.1.form
/-- What ask.parts hands back. -/
def RetPs (w : World) (r : Option (List PartD)) (e : Ending) (w' : World) : Prop :=
  ∃ A n c, e = .returned (.tuple #[.slice A n c, .bool r.isSome]) ∧ (∀ l, r = some l → OwP w' w.heap.size (.slice A n c) l) ∧ Ext w w'

theorem askParts_any (b : List UInt8) (A : Option Addr) (m c : Nat) (w : World) (hr : Rd w A m (b.map cB)) (hc : m ≤ c) (hc63 : c ≤ 9223372036854775807) (hm : m ≤ 4398046511104) :
    Calls Try.prog 41 #[.slice A m c] w (RetPs w (partsOf b)) := by
  have Hl := Lib.hid hr.length
  have Hr := Lib.hid hr; clear hr
  go_enter Try.func41, Try.ntmps41
  go_wp2_with fail
  go_step3
  go_wp2_with fail
  go_step3
  go_wp2_with fail
  go_loopw [0, 4] (fun v l wr => ∃ (D : List UInt8) (Ab : Option Addr) (mb cb k : Nat) (done : List PartD), v = .slice Ab mb cb ∧ mb ≤ cb ∧ cb ≤ 9223372036854775807 ∧ mb + k ≤ m ∧ done.length = k ∧ Hid (Rd w Ab mb (D.map cB)) ∧ Hid (OwP wr w.heap.size l done) ∧ Hid (partsOf b = (partsOf D).map (done ++ ·)) ∧ Ext w wr) (fun v _ _ => lenV v)
  case atStart => exact ⟨b, A, m, c, 0, [], rfl, hc, hc63, by omega, rfl, Hr, Lib.hid (OwP.nil_ _ _), by simp [Hid], Ext.refl _⟩
  case round =>
    obtain ⟨D, Ab, mb, cb, k, done, rfl, hcb, hcb63, hmk, hdone, HR, HO, HP, hx⟩ := hrel
    have hl := HR.out.length
    rcases Nat.lt_or_ge mb 7 with h7 | h7
    · obtain ⟨Al, cl, rfl, -⟩ := HO.out.form
      rcases Nat.eq_zero_or_pos mb with h0 | h0
      · subst h0
        have hp := HP.out
        rw [partsOf_nil (D := D) hl] at hp
        have Hp := Lib.hid hp
        clear hp hl
        go_wp2_with fail
        rw [Exit.noGoto_ret]
        go_ret2
        exact ⟨Al, _, cl, by rw [Hp.out]; rfl, fun l hl => by rw [Hp.out] at hl; simp at hl; subst hl; exact HO.out, hx⟩
      · have hp := HP.out
        rw [partsOf_few (D := D) (by omega) (by omega)] at hp
        have Hp := Lib.hid hp
        have hne : ((mb : Int) == 0) = false := by simp; omega
        clear hp hl
        go_wp2_with fail
        rw [Exit.noGoto_ret]
        go_ret2
        exact ⟨Al, _, cl, by rw [Hp.out]; rfl, fun l hl => by rw [Hp.out] at hl; simp at hl, hx⟩
    · have hp := HP.out
      rw [partsOf_step (D := D) (by omega)] at hp
      obtain ⟨bk, off, rfl, hbkw, hcellw⟩ := HR.out.u8all (by omega)
      have hcell := fun j hj => hx.cell hbkw (hcellw j hj)
      have hbk := Nat.lt_of_lt_of_le hbkw hx.size
      have HC1 := Lib.hid (hcellw 1 (by omega))
      have HC2 := Lib.hid (hcellw 2 (by omega))
      have HC3 := Lib.hid (hcellw 3 (by omega))
      have HC4 := Lib.hid (hcellw 4 (by omega))
      have HC5 := Lib.hid (hcellw 5 (by omega))
      have HC6 := Lib.hid (hcellw 6 (by omega))
      clear hcellw
      have e0 := hcell 0 (by omega); have e1 := hcell 1 (by omega); have e2 := hcell 2 (by omega); have e3 := hcell 3 (by omega); have e4 := hcell 4 (by omega); have e5 := hcell 5 (by omega); have e6 := hcell 6 (by omega)
      rw [Nat.add_zero] at e0
      have i0 : 0 < mb := by omega
      have i1 : (1 : Int) < (mb : Int) := by omega
      have i2 : (2 : Int) < (mb : Int) := by omega
      have i3 : (3 : Int) < (mb : Int) := by omega
      have i4 : (4 : Int) < (mb : Int) := by omega
      have i5 : (5 : Int) < (mb : Int) := by omega
      have i6 : (6 : Int) < (mb : Int) := by omega
      have b0 := (D.getD 0 0).toNat_lt; have b1 := (D.getD 1 0).toNat_lt; have b2 := (D.getD 2 0).toNat_lt; have b3 := (D.getD 3 0).toNat_lt; have b4 := (D.getD 4 0).toNat_lt; have b5 := (D.getD 5 0).toNat_lt; have b6 := (D.getD 6 0).toNat_lt
      by_cases h6 : D.getD 0 0 = 6
      · rw [if_pos h6] at hp
        rw [h6] at e0
        have hp2 : partsOf b = (partsOf (D.drop 7)).map ((done ++ [⟨(at2 D 1 : Nat), (at2 D 3 : Nat), (at2 D 5 : Nat)⟩]) ++ ·) := by rw [hp, Option.map_map]; congr 1; funext l; simp
        have n1 : at2 D 1 = (D.getD 1 0).toNat * 256 + (D.getD 2 0).toNat := rfl
        have n3 : at2 D 3 = (D.getD 3 0).toNat * 256 + (D.getD 4 0).toNat := rfl
        have n5 : at2 D 5 = (D.getD 5 0).toNat * 256 + (D.getD 6 0).toNat := rfl
        rw [n1, n3, n5] at hp2
        have q1 := or_i64w (D.getD 1 0).toNat (D.getD 2 0).toNat b1 b2
        have r1 := or_i64 (D.getD 1 0).toNat (D.getD 2 0).toNat b1 b2
        have q3 := or_i64w (D.getD 3 0).toNat (D.getD 4 0).toNat b3 b4
        have r3 := or_i64 (D.getD 3 0).toNat (D.getD 4 0).toNat b3 b4
        have q5 := or_i64w (D.getD 5 0).toNat (D.getD 6 0).toNat b5 b6
        have r5 := or_i64 (D.getD 5 0).toNat (D.getD 6 0).toNat b5 b6
        have hl7 : (D.drop 7).length = mb - 7 := by rw [List.length_drop, hl]
        have HRD := Lib.hid (HR.out.from8 (k := 7) h7 hcb)
        clear hp hl n1 n3 n5 hcell h6 b0
        generalize (D.getD 1 0).toNat = x1 at *
        generalize (D.getD 2 0).toNat = x2 at *
        generalize (D.getD 3 0).toNat = x3 at *
        generalize (D.getD 4 0).toNat = x4 at *
        generalize (D.getD 5 0).toNat = x5 at *
        generalize (D.getD 6 0).toNat = x6 at *
        obtain ⟨F, hF⟩ : ∃ F, x1 * 256 + x2 = F := ⟨_, rfl⟩
        obtain ⟨R, hR⟩ : ∃ R, x3 * 256 + x4 = R := ⟨_, rfl⟩
        obtain ⟨L, hL⟩ : ∃ L, x5 * 256 + x6 = L := ⟨_, rfl⟩
        rw [hF, hR, hL] at hp2
        rw [hF] at r1 q1; rw [hR] at r3 q3; rw [hL] at r5 q5
        have hF6 : F < 65536 := by omega
        have hR6 : R < 65536 := by omega
        have hL6 : L < 65536 := by omega
        clear hF hR hL b1 b2 b3 b4 b5 b6
        have Hp := Lib.hid hp2; have Hl7 := Lib.hid hl7; clear hp2 hl7
        obtain ⟨⟨xs, hrow, hit⟩, hint⟩ := HO.out
        have Hint := Lib.hid hint; clear hint
        have Hrow := Lib.hid hrow; have Hit := Lib.hid hit; clear hrow hit
        have hk7 : 7 ≤ mb := h7
        have hrel : ∀ (w3 : World) (v' : Value), w3.ownsRow w.heap.size 71 3 v' (done.length + 1) (xs ++ [.int .i64 (F : Int), .int .i64 (R : Int), .int .i64 (L : Int)]) → IntRow w3 v' → OwP w3 w.heap.size v' (done ++ [⟨(F : Nat), (R : Nat), (L : Nat)⟩]) := fun w3 v' h hi =>
          ⟨⟨_, by rw [List.length_append]; exact h, (Hit.out.mono (w' := w3) fun _ _ h => h).snoc ⟨rfl, by unfold i64P; simp; omega, by unfold i64P; simp; omega, by unfold i64P; simp; omega⟩ rfl⟩, hi⟩
        have Hrel := Lib.hid hrel
        have Hsz := Lib.hid (show done.length + 1 ≤ 4398046511104 by omega)
        clear hrel
        by_cases hc7 : cb = 7
        · subst hc7
          obtain rfl : mb = 7 := by omega
          rw [if_pos rfl] at HRD
          go_wp2_with fail
          go_region_held3 (fun w' => w'.cell? ⟨bk, off + 1, none⟩ = some (.int .u8 (x1 : Int)) ∧ w'.cell? ⟨bk, off + 2, none⟩ = some (.int .u8 (x2 : Int)) ∧ w'.cell? ⟨bk, off + 3, none⟩ = some (.int .u8 (x3 : Int)) ∧ w'.cell? ⟨bk, off + 4, none⟩ = some (.int .u8 (x4 : Int)) ∧ w'.cell? ⟨bk, off + 5, none⟩ = some (.int .u8 (x5 : Int)) ∧ w'.cell? ⟨bk, off + 6, none⟩ = some (.int .u8 (x6 : Int))) (go_keep) ((first
            | (refine step_part (base := w.heap.size) (xs := xs) rfl (.tmp 12) (.tmp 44) rfl rfl (ownsRow_ext Hrow.out (Ext.drew' (Ext.alloc _ _))) (Hint.out.ext (Ext.drew' (Ext.alloc _ _))) rfl (heap_alloc_new wr _) Hsz.out (hx.trans (Ext.drew' (Ext.alloc _ _))).size ?_
               intro v' w3 hrow hint hg
               have HL3 := Lib.hid (Hrel.out w3 v' hrow hint)
               have HX3 := Lib.hid ((hx.trans (Ext.drew' (Ext.alloc _ _))).grown' hg (fun g hg => (Hrow.out.lt g hg).1))
               have l1 : w3.cell? ⟨bk, off + 1, none⟩ = some (.int .u8 (x1 : Int)) := HX3.out.cell hbkw (HC1.out)
               have l2 : w3.cell? ⟨bk, off + 2, none⟩ = some (.int .u8 (x2 : Int)) := HX3.out.cell hbkw (HC2.out)
               have l3 : w3.cell? ⟨bk, off + 3, none⟩ = some (.int .u8 (x3 : Int)) := HX3.out.cell hbkw (HC3.out)
               have l4 : w3.cell? ⟨bk, off + 4, none⟩ = some (.int .u8 (x4 : Int)) := HX3.out.cell hbkw (HC4.out)
               have l5 : w3.cell? ⟨bk, off + 5, none⟩ = some (.int .u8 (x5 : Int)) := HX3.out.cell hbkw (HC5.out)
               have l6 : w3.cell? ⟨bk, off + 6, none⟩ = some (.int .u8 (x6 : Int)) := HX3.out.cell hbkw (HC6.out)
               clear hrow hint hg)))
          go_wp2_with fail
          go_roundw
          case rel => exact ⟨D.drop 7, _, _, _, k + 1, _, rfl, by omega, by omega, by omega, by simp; omega, HRD, HL3, Hp, HX3.out⟩
          case measure => simp [lenV]; try omega
        · rw [if_neg hc7] at HRD
          go_wp2_with fail
          go_region_held3 (fun w' => w'.cell? ⟨bk, off + 1, none⟩ = some (.int .u8 (x1 : Int)) ∧ w'.cell? ⟨bk, off + 2, none⟩ = some (.int .u8 (x2 : Int)) ∧ w'.cell? ⟨bk, off + 3, none⟩ = some (.int .u8 (x3 : Int)) ∧ w'.cell? ⟨bk, off + 4, none⟩ = some (.int .u8 (x4 : Int)) ∧ w'.cell? ⟨bk, off + 5, none⟩ = some (.int .u8 (x5 : Int)) ∧ w'.cell? ⟨bk, off + 6, none⟩ = some (.int .u8 (x6 : Int))) (go_keep) ((first
            | (refine step_part (base := w.heap.size) (xs := xs) rfl (.tmp 12) (.tmp 44) rfl rfl (ownsRow_ext Hrow.out (Ext.drew' (Ext.alloc _ _))) (Hint.out.ext (Ext.drew' (Ext.alloc _ _))) rfl (heap_alloc_new wr _) Hsz.out (hx.trans (Ext.drew' (Ext.alloc _ _))).size ?_
               intro v' w3 hrow hint hg
               have HL3 := Lib.hid (Hrel.out w3 v' hrow hint)
               have HX3 := Lib.hid ((hx.trans (Ext.drew' (Ext.alloc _ _))).grown' hg (fun g hg => (Hrow.out.lt g hg).1))
               have l1 : w3.cell? ⟨bk, off + 1, none⟩ = some (.int .u8 (x1 : Int)) := HX3.out.cell hbkw (HC1.out)
               have l2 : w3.cell? ⟨bk, off + 2, none⟩ = some (.int .u8 (x2 : Int)) := HX3.out.cell hbkw (HC2.out)
               have l3 : w3.cell? ⟨bk, off + 3, none⟩ = some (.int .u8 (x3 : Int)) := HX3.out.cell hbkw (HC3.out)
               have l4 : w3.cell? ⟨bk, off + 4, none⟩ = some (.int .u8 (x4 : Int)) := HX3.out.cell hbkw (HC4.out)
               have l5 : w3.cell? ⟨bk, off + 5, none⟩ = some (.int .u8 (x5 : Int)) := HX3.out.cell hbkw (HC5.out)
               have l6 : w3.cell? ⟨bk, off + 6, none⟩ = some (.int .u8 (x6 : Int)) := HX3.out.cell hbkw (HC6.out)
               clear hrow hint hg)))
          go_wp2_with fail
          go_roundw
          case rel => exact ⟨D.drop 7, _, _, _, k + 1, _, rfl, by omega, by omega, by omega, by simp; omega, HRD, HL3, Hp, HX3.out⟩
          case measure => simp [lenV]; try omega
      · rw [if_neg h6] at hp
        have Hp := Lib.hid hp
        have hne : (((D.getD 0 0).toNat : Int) == 6) = false := by
          simp only [beq_eq_false_iff_ne, ne_eq]
          intro e
          exact h6 (UInt8.toNat.inj (by show (D.getD 0 0).toNat = 6; omega))
        clear hp hl e1 e2 e3 e4 e5 e6 h6 hcell
        generalize (D.getD 0 0).toNat = x0 at *
        go_wp2_with fail
        rw [Exit.noGoto_ret]
        go_ret2
        exact ⟨none, 0, 0, by rw [Hp.out]; rfl, fun l hl => by rw [Hp.out] at hl; simp at hl, hx⟩
end Go.Proofs.Ytcnjhjfepojdaaa
