/- Contracts of the kit's functions on parts and requests: same, long. -/
import Derived.Test.YtomcipkmohhpjaaGreatG02
import Derived.Test.YtomcipkmohhpjaaGreatG03
import Derived.Test.YtomcipkmohhpjaaGreatG00
import Derived.Test.YtomcipkmohhpjaaGreatG01
import Derived.Deep.RegionHeld3
namespace Go.Proofs.YtomcipkmohhpjaaGreat
set_option linter.unusedVariables false
set_option linter.unusedSimpArgs false
set_option maxRecDepth 100000
set_option maxHeartbeats 2000000
open Go Go.RowKit Go.Out

theorem part_cells {w : World} {A : Option Addr} {n k : Nat} {l : List PartD} (h : RdL partK w A n l) (hk : k < n) :
    ∃ b off p, l[k]? = some p ∧ A = some ⟨b, off, none⟩ ∧ b < w.heap.size ∧ w.cell? ⟨b, off + k * 3, none⟩ = some (.int .i64 p.file) ∧ w.cell? ⟨b, off + k * 3 + 1, none⟩ = some (.int .i64 p.record) ∧ w.cell? ⟨b, off + k * 3 + 2, none⟩ = some (.int .i64 p.len) ∧ i64P p.file ∧ i64P p.record ∧ i64P p.len := by
  obtain ⟨b, off, rfl, hbk, hl', cs, -, hc, hR⟩ := h.at_ hk
  obtain ⟨rfl, -⟩ := id hR
  exact ⟨b, off, l[k], List.getElem?_eq_getElem hl', rfl, hbk, hc 0 _ rfl, hc 1 _ rfl, hc 2 _ rfl, hR.2.1, hR.2.2.1, hR.2.2.2⟩
theorem ask_cells_at {w : World} {code addr count : Int} {A1 A2 A3 : Option Addr} {n1 c1 n2 c2 n3 c3 g : Nat} (hg : g = w.heap.size) :
    ∀ W : World, Ext (w.alloc (.cells #[.int .i64 code, .int .i64 addr, .int .i64 count, .slice A1 n1 c1, .slice A2 n2 c2, .slice A3 n3 c3] 37)) W →
      W.cell? ⟨g, 0, none⟩ = some (.int .i64 code) ∧ W.cell? ⟨g, 1, none⟩ = some (.int .i64 addr) ∧ W.cell? ⟨g, 2, none⟩ = some (.int .i64 count) ∧
      W.cell? ⟨g, 3, none⟩ = some (.slice A1 n1 c1) ∧ W.cell? ⟨g, 4, none⟩ = some (.slice A2 n2 c2) ∧ W.cell? ⟨g, 5, none⟩ = some (.slice A3 n3 c3) := by
  subst hg
  exact ask_cells

theorem sameParts_eq (l : List PartD) (A B : Option Addr) (n ca cb : Nat) (w : World) (ha : RdL partK w A n l) (hb : RdL partK w B n l) (hn : n ≤ 4398046511104) :
    Calls Tryz.prog 94 #[.slice A n ca, .slice B n cb] w (RetQ w true) := by
  have Ha := Lib.hid ha; have Hb := Lib.hid hb; clear ha hb
  go_enter Tryz.func94, Tryz.ntmps94
  go_wp2_with fail
  go_loopw [5] (fun i wr => ∃ k : Nat, k ≤ n ∧ i = .int .i64 (k : Int) ∧ Ext w wr) (fun i _ => n - (intOf i).toNat)
  case atStart => exact ⟨0, Nat.zero_le _, rfl, Ext.refl _⟩
  case round =>
    obtain ⟨k, hk, rfl, hx⟩ := hrel
    by_cases hlt : k < n
    · obtain ⟨b1, o1, p, hp, rfl, -, e0, e1, e2, -⟩ := part_cells (Ha.out.ext hx) hlt
      obtain ⟨b2, o2, p2, hp2, rfl, -, f0, f1, f2, -⟩ := part_cells (Hb.out.ext hx) hlt
      obtain rfl : p = p2 := by rw [hp] at hp2; injection hp2
      clear hp hp2
      generalize p.file = F at *
      generalize p.record = R at *
      generalize p.len = L at *
      go_wp2_with fail
      go_quiet (fail)
      go_wp2_with fail
      go_roundw
      case rel => exact ⟨k + 1, by omega, by go_num, hx.drewN' _⟩
      case measure => simp [intOf]; omega
    · obtain rfl : k = n := by omega
      go_wp2_with fail
      go_ret
      exact ⟨rfl, hx⟩

theorem long_or (a b c : Nat) : (decide ((70000 : Int) < a) || decide ((70000 : Int) < b) || decide ((70000 : Int) < c)) = decide (70000 < a ∨ 70000 < b ∨ 70000 < c) := by
  simp only [Bool.decide_or, Bool.or_assoc]
  congr 1
  · exact decide_eq_decide.2 (by omega)
  · congr 1 <;> exact decide_eq_decide.2 (by omega)
theorem longAsk_any (a : AskD) (s : AskS) (w : World) : Calls Tryz.prog 15 #[askV a s] w (RetQ w (decide (70000 < s.n1 ∨ 70000 < s.n2 ∨ 70000 < s.n3))) := by
  obtain ⟨code, addr, count, on, set, parts⟩ := a
  obtain ⟨A1, n1, c1, A2, n2, c2, A3, n3, c3⟩ := s
  simp only [askV]
  go_enter Tryz.func15, Tryz.ntmps15
  go_wp2_with fail
  all_goals
    go_ret
    exact ⟨by first | exact ret_bool (long_or _ _ _) | exact ret_bool (by simp; omega), Ext.alloc _ _⟩
end Go.Proofs.YtomcipkmohhpjaaGreat

namespace Go.Proofs.YtomcipkmohhpjaaGreat
set_option linter.unusedVariables false
set_option linter.unusedSimpArgs false
set_option maxRecDepth 100000
set_option maxHeartbeats 1000000
open Go Go.RowKit Go.Out

theorem ofInt64 (a : Nat) (h : a < 9223372036854775808) : (BitVec.ofInt 64 (a : Int)).toNat = a := by
  rw [BitVec.ofInt_natCast, BitVec.toNat_ofNat]; omega
theorem or_nat64 (a b : Nat) (ha : a < 9223372036854775808) (hb : b < 9223372036854775808) : bits .or .i64 (a : Int) (b : Int) = ((a ||| b : Nat) : Int) := by
  have h : a ||| b < 2 ^ 63 := Nat.or_lt_two_pow (by omega) (by omega)
  have e : bits .or .i64 (a : Int) (b : Int) = IntKind.i64.wrap ((BitVec.ofInt 64 (a : Int) ||| BitVec.ofInt 64 (b : Int)).toNat : Int) := rfl
  rw [e, BitVec.toNat_or, ofInt64 a ha, ofInt64 b hb, IntKind.wrap_i64]; omega
theorem or_i64 (x y : Nat) (hx : x < 256) (hy : y < 256) : bits .or .i64 ((x : Int) * 256) (y : Int) = ((x * 256 + y : Nat) : Int) := by
  have e : ((x : Int) * 256) = ((2 ^ 8 * x : Nat) : Int) := by omega
  rw [e, or_nat64 _ _ (by omega) (by omega), ← Nat.two_pow_add_eq_or_of_lt (i := 8) (b := y) (by omega) x, Nat.mul_comm]
theorem or_i64w (x y : Nat) (hx : x < 256) (hy : y < 256) : bits .or .i64 (IntKind.i64.wrap (IntKind.i64.wrap (x : Int) * 256)) (IntKind.i64.wrap (y : Int)) = ((x * 256 + y : Nat) : Int) := by
  rw [IntWalk.i64_in (x : Int) (by omega), IntWalk.i64_in (y : Int) (by omega), IntWalk.i64_in ((x : Int) * 256) (by omega)]
  exact or_i64 x y hx hy

def lenV : Value → Nat
  | .slice _ n _ => n
  | _ => 0
theorem partsOf_step {D : List UInt8} (h : 7 ≤ D.length) : partsOf D = if D.getD 0 0 = 6 then (partsOf (D.drop 7)).map (fun l => ⟨(at2 D 1 : Nat), (at2 D 3 : Nat), (at2 D 5 : Nat)⟩ :: l) else none := by
  match D, h with
  | t :: a :: b :: c :: d :: e :: f :: r, _ => simp [partsOf, at2]
theorem partsOf_nil {D : List UInt8} (h : D.length = 0) : partsOf D = some [] := by
  rw [List.length_eq_zero_iff.1 h]; rfl
theorem partsOf_few {D : List UInt8} (h : D.length < 7) (h0 : D.length ≠ 0) : partsOf D = none := by
  match D with
  | [] => simp at h0
  | [_] => rfl
  | [_, _] => rfl
  | [_, _, _] => rfl
  | [_, _, _, _] => rfl
  | [_, _, _, _, _] => rfl
  | [_, _, _, _, _, _] => rfl
  | _ :: _ :: _ :: _ :: _ :: _ :: _ :: _ => simp at h; omega
theorem info_part : (Tryz.prog.info? 107).map (fun i => (i.zero, i.size, i.bytes)) = some (some (.agg #[.int .i64 0, .int .i64 0, .int .i64 0]), 3, 24) := by kernel_rfl
theorem step_part {ops : Array Oper} {o : Oper} {a : Act} {w : World} {K : Act → World → Prop} {Q : Exit → Act → World → Prop} {E : Prop} (hgd : o.guard = none) (s x : Operand)
    (ho : o.op = .call { callee := .builtin .append, args := #[s, x], argTypes := #[35, 35] })
    {base n g : Nat} {v : Value} {xs : List Value} (hs : a.eval s = v) (hown : w.ownsRow base 107 3 v n xs) (hint : IntRow w v) {v0 v1 v2 : Int}
    (hx : a.eval x = .slice (some ⟨g, 0, none⟩) 1 1) (hh : w.heap[g]? = some (.cells #[.int .i64 v0, .int .i64 v1, .int .i64 v2] 107 (0, 0)))
    (hsz : n + 1 ≤ 4398046511104) (hbase : base ≤ w.heap.size)
    (h : ∀ v' w', w'.ownsRow base 107 3 v' (n + 1) (xs ++ [.int .i64 v0, .int .i64 v1, .int .i64 v2]) → IntRow w' v' → w.grownBy w' v.ownBlock → K (a.put o.dst v') w') :
    if Region.wanted o (yielded ops a.tmps) = true then Oper.wp Tryz.prog o a w K Q else E := by
  have hw : Region.wanted o (yielded ops a.tmps) = true := by simp [Region.wanted, hgd]
  rw [if_pos hw]
  obtain ⟨i0, hi, hz0, hz1, hz2⟩ := info_parts info_part
  exact wp_append_ints s x 35 ho base 107 i0 _ 3 24 Tryz.underlying35 hi hz0 hz1 hz2 rfl (by decide) (by intro u hu; simp [Value.cells] at hu; exact ⟨0, hu⟩) v n xs hs hown hint ⟨g, 0, none⟩ 1 1 [.int .i64 v0, .int .i64 v1, .int .i64 v2] hx rfl
    (fun j u hu => by rw [Addr.add_lit, cell_of_row _ _ _ _ _ _ hh, Nat.zero_add]; simpa using hu) (by intro u hu; simp at hu; rcases hu with rfl | rfl | rfl <;> rfl) (by intro u hu; simp at hu; rcases hu with rfl | rfl | rfl <;> exact ⟨_, rfl⟩) (by unfold maxLen; omega) (by omega) hbase (by omega) h

/-- A list of parts in memory of the call's own; all cells of its block are numbers. -/
def OwP (w : World) (base : Nat) (v : Value) (l : List PartD) : Prop := OwL partK w base 107 v l ∧ IntRow w v
theorem OwP.nil_ (w : World) (base : Nat) : OwP w base (.slice none 0 0) [] := ⟨OwL.nil_ _ _ _ _, IntRow.nil_ _⟩
theorem OwP.ext {w w' : World} {base : Nat} {v : Value} {l : List PartD} (h : OwP w base v l) (hx : Ext w w') : OwP w' base v l := ⟨h.1.ext hx, h.2.ext hx⟩
theorem OwP.mono {w : World} {base base' : Nat} {v : Value} {l : List PartD} (h : OwP w base v l) (hb : base' ≤ base) : OwP w base' v l := ⟨h.1.mono hb, h.2⟩
theorem OwP.form {w : World} {base : Nat} {v : Value} {l : List PartD} (h : OwP w base v l) : ∃ A c, v = .slice A l.length c ∧ l.length ≤ c ∧ c ≤ 9223372036854775807 ∧ RdL partK w A l.length l ∧ (∀ g, blk A = some g → base ≤ g ∧ g < w.heap.size) := h.1.form
/-- What ask.parts hands back. -/
def RetPs (w : World) (r : Option (List PartD)) (e : Ending) (w' : World) : Prop :=
  ∃ A n c, e = .returned (.tuple #[.slice A n c, .bool r.isSome]) ∧ (∀ l, r = some l → OwP w' w.heap.size (.slice A n c) l) ∧ Ext w w'

theorem askParts_any (b : List UInt8) (A : Option Addr) (m c : Nat) (w : World) (hr : Rd w A m (b.map cB)) (hc : m ≤ c) (hc63 : c ≤ 9223372036854775807) (hm : m ≤ 4398046511104) :
    Calls Tryz.prog 109 #[.slice A m c] w (RetPs w (partsOf b)) := by
  have Hl := Lib.hid hr.length
  have Hr := Lib.hid hr; clear hr
  go_enter Tryz.func109, Tryz.ntmps109
  go_wp2_with fail
  go_step3
  go_wp2_with fail
  go_step3
  go_wp2_with fail
  go_loopw [0, 4] (fun v l wr => ∃ (D : List UInt8) (Ab : Option Addr) (mb cb k : Nat) (done : List PartD), v = .slice Ab mb cb ∧ mb ≤ cb ∧ cb ≤ 9223372036854775807 ∧ mb + k ≤ m ∧ done.length = k ∧ Hid (Rd w Ab mb (D.map cB)) ∧ Hid (OwP wr w.heap.size l done) ∧ Hid (partsOf b = (partsOf D).map (done ++ ·)) ∧ Ext w wr) (fun v _ _ => lenV v)
  case atStart => exact ⟨b, A, m, c, 0, [], rfl, hc, hc63, by omega, rfl, Hr, Lib.hid (OwP.nil_ _ _), by simp [Hid], Ext.refl _⟩
  case round =>
    obtain ⟨D, Ab, mb, cb, k, done, rfl, hcb, hcb63, hmk, hdone, HR, HO, HP, hx⟩ := hrel
    have hl := HR.out.length
    rcases Nat.lt_or_ge mb 7 with h7 | h7
    · obtain ⟨Al, cl, rfl, -⟩ := HO.out.form
      rcases Nat.eq_zero_or_pos mb with h0 | h0
      · subst h0
        have hp := HP.out
        rw [partsOf_nil (D := D) hl] at hp
        have Hp := Lib.hid hp
        clear hp hl
        go_wp2_with fail
        rw [Exit.noGoto_ret]
        go_ret2
        exact ⟨Al, _, cl, by rw [Hp.out]; rfl, fun l hl => by rw [Hp.out] at hl; simp at hl; subst hl; exact HO.out, hx⟩
      · have hp := HP.out
        rw [partsOf_few (D := D) (by omega) (by omega)] at hp
        have Hp := Lib.hid hp
        have hne : ((mb : Int) == 0) = false := by simp; omega
        clear hp hl
        go_wp2_with fail
        rw [Exit.noGoto_ret]
        go_ret2
        exact ⟨Al, _, cl, by rw [Hp.out]; rfl, fun l hl => by rw [Hp.out] at hl; simp at hl, hx⟩
    · have hp := HP.out
      rw [partsOf_step (D := D) (by omega)] at hp
      obtain ⟨bk, off, rfl, hbkw, hcellw⟩ := HR.out.u8all (by omega)
      have hcell := fun j hj => hx.cell hbkw (hcellw j hj)
      have hbk := Nat.lt_of_lt_of_le hbkw hx.size
      have HC1 := Lib.hid (hcellw 1 (by omega))
      have HC2 := Lib.hid (hcellw 2 (by omega))
      have HC3 := Lib.hid (hcellw 3 (by omega))
      have HC4 := Lib.hid (hcellw 4 (by omega))
      have HC5 := Lib.hid (hcellw 5 (by omega))
      have HC6 := Lib.hid (hcellw 6 (by omega))
      clear hcellw
      have e0 := hcell 0 (by omega); have e1 := hcell 1 (by omega); have e2 := hcell 2 (by omega); have e3 := hcell 3 (by omega); have e4 := hcell 4 (by omega); have e5 := hcell 5 (by omega); have e6 := hcell 6 (by omega)
      rw [Nat.add_zero] at e0
      have i0 : 0 < mb := by omega
      have i1 : (1 : Int) < (mb : Int) := by omega
      have i2 : (2 : Int) < (mb : Int) := by omega
      have i3 : (3 : Int) < (mb : Int) := by omega
      have i4 : (4 : Int) < (mb : Int) := by omega
      have i5 : (5 : Int) < (mb : Int) := by omega
      have i6 : (6 : Int) < (mb : Int) := by omega
      have b0 := (D.getD 0 0).toNat_lt; have b1 := (D.getD 1 0).toNat_lt; have b2 := (D.getD 2 0).toNat_lt; have b3 := (D.getD 3 0).toNat_lt; have b4 := (D.getD 4 0).toNat_lt; have b5 := (D.getD 5 0).toNat_lt; have b6 := (D.getD 6 0).toNat_lt
      by_cases h6 : D.getD 0 0 = 6
      · rw [if_pos h6] at hp
        rw [h6] at e0
        have hp2 : partsOf b = (partsOf (D.drop 7)).map ((done ++ [⟨(at2 D 1 : Nat), (at2 D 3 : Nat), (at2 D 5 : Nat)⟩]) ++ ·) := by rw [hp, Option.map_map]; congr 1; funext l; simp
        have n1 : at2 D 1 = (D.getD 1 0).toNat * 256 + (D.getD 2 0).toNat := rfl
        have n3 : at2 D 3 = (D.getD 3 0).toNat * 256 + (D.getD 4 0).toNat := rfl
        have n5 : at2 D 5 = (D.getD 5 0).toNat * 256 + (D.getD 6 0).toNat := rfl
        rw [n1, n3, n5] at hp2
        have q1 := or_i64w (D.getD 1 0).toNat (D.getD 2 0).toNat b1 b2
        have r1 := or_i64 (D.getD 1 0).toNat (D.getD 2 0).toNat b1 b2
        have q3 := or_i64w (D.getD 3 0).toNat (D.getD 4 0).toNat b3 b4
        have r3 := or_i64 (D.getD 3 0).toNat (D.getD 4 0).toNat b3 b4
        have q5 := or_i64w (D.getD 5 0).toNat (D.getD 6 0).toNat b5 b6
        have r5 := or_i64 (D.getD 5 0).toNat (D.getD 6 0).toNat b5 b6
        have hl7 : (D.drop 7).length = mb - 7 := by rw [List.length_drop, hl]
        have HRD := Lib.hid (HR.out.from8 (k := 7) h7 hcb)
        clear hp hl n1 n3 n5 hcell h6 b0
        generalize (D.getD 1 0).toNat = x1 at *
        generalize (D.getD 2 0).toNat = x2 at *
        generalize (D.getD 3 0).toNat = x3 at *
        generalize (D.getD 4 0).toNat = x4 at *
        generalize (D.getD 5 0).toNat = x5 at *
        generalize (D.getD 6 0).toNat = x6 at *
        obtain ⟨F, hF⟩ : ∃ F, x1 * 256 + x2 = F := ⟨_, rfl⟩
        obtain ⟨R, hR⟩ : ∃ R, x3 * 256 + x4 = R := ⟨_, rfl⟩
        obtain ⟨L, hL⟩ : ∃ L, x5 * 256 + x6 = L := ⟨_, rfl⟩
        rw [hF, hR, hL] at hp2
        rw [hF] at r1 q1; rw [hR] at r3 q3; rw [hL] at r5 q5
        have hF6 : F < 65536 := by omega
        have hR6 : R < 65536 := by omega
        have hL6 : L < 65536 := by omega
        clear hF hR hL b1 b2 b3 b4 b5 b6
        have Hp := Lib.hid hp2; have Hl7 := Lib.hid hl7; clear hp2 hl7
        obtain ⟨⟨xs, hrow, hit⟩, hint⟩ := HO.out
        have Hint := Lib.hid hint; clear hint
        have Hrow := Lib.hid hrow; have Hit := Lib.hid hit; clear hrow hit
        have hk7 : 7 ≤ mb := h7
        have hrel : ∀ (w3 : World) (v' : Value), w3.ownsRow w.heap.size 107 3 v' (done.length + 1) (xs ++ [.int .i64 (F : Int), .int .i64 (R : Int), .int .i64 (L : Int)]) → IntRow w3 v' → OwP w3 w.heap.size v' (done ++ [⟨(F : Nat), (R : Nat), (L : Nat)⟩]) := fun w3 v' h hi =>
          ⟨⟨_, by rw [List.length_append]; exact h, (Hit.out.mono (w' := w3) fun _ _ h => h).snoc ⟨rfl, by unfold i64P; simp; omega, by unfold i64P; simp; omega, by unfold i64P; simp; omega⟩ rfl⟩, hi⟩
        have Hrel := Lib.hid hrel
        have Hsz := Lib.hid (show done.length + 1 ≤ 4398046511104 by omega)
        clear hrel
        by_cases hc7 : cb = 7
        · subst hc7
          obtain rfl : mb = 7 := by omega
          rw [if_pos rfl] at HRD
          go_wp2_with fail
          go_region_held3 (fun w' => w'.cell? ⟨bk, off + 1, none⟩ = some (.int .u8 (x1 : Int)) ∧ w'.cell? ⟨bk, off + 2, none⟩ = some (.int .u8 (x2 : Int)) ∧ w'.cell? ⟨bk, off + 3, none⟩ = some (.int .u8 (x3 : Int)) ∧ w'.cell? ⟨bk, off + 4, none⟩ = some (.int .u8 (x4 : Int)) ∧ w'.cell? ⟨bk, off + 5, none⟩ = some (.int .u8 (x5 : Int)) ∧ w'.cell? ⟨bk, off + 6, none⟩ = some (.int .u8 (x6 : Int))) (go_keep) ((first
            | (refine step_part (base := w.heap.size) (xs := xs) rfl (.tmp 12) (.tmp 44) rfl rfl (ownsRow_ext Hrow.out (Ext.drew' (Ext.alloc _ _))) (Hint.out.ext (Ext.drew' (Ext.alloc _ _))) rfl (heap_alloc_new wr _) Hsz.out (hx.trans (Ext.drew' (Ext.alloc _ _))).size ?_
               intro v' w3 hrow hint hg
               have HL3 := Lib.hid (Hrel.out w3 v' hrow hint)
               have HX3 := Lib.hid ((hx.trans (Ext.drew' (Ext.alloc _ _))).grown' hg (fun g hg => (Hrow.out.lt g hg).1))
               have l1 : w3.cell? ⟨bk, off + 1, none⟩ = some (.int .u8 (x1 : Int)) := HX3.out.cell hbkw (HC1.out)
               have l2 : w3.cell? ⟨bk, off + 2, none⟩ = some (.int .u8 (x2 : Int)) := HX3.out.cell hbkw (HC2.out)
               have l3 : w3.cell? ⟨bk, off + 3, none⟩ = some (.int .u8 (x3 : Int)) := HX3.out.cell hbkw (HC3.out)
               have l4 : w3.cell? ⟨bk, off + 4, none⟩ = some (.int .u8 (x4 : Int)) := HX3.out.cell hbkw (HC4.out)
               have l5 : w3.cell? ⟨bk, off + 5, none⟩ = some (.int .u8 (x5 : Int)) := HX3.out.cell hbkw (HC5.out)
               have l6 : w3.cell? ⟨bk, off + 6, none⟩ = some (.int .u8 (x6 : Int)) := HX3.out.cell hbkw (HC6.out)
               clear hrow hint hg)))
          go_wp2_with fail
          go_roundw
          case rel => exact ⟨D.drop 7, _, _, _, k + 1, _, rfl, by omega, by omega, by omega, by simp; omega, HRD, HL3, Hp, HX3.out⟩
          case measure => simp [lenV]; try omega
        · rw [if_neg hc7] at HRD
          go_wp2_with fail
          go_region_held3 (fun w' => w'.cell? ⟨bk, off + 1, none⟩ = some (.int .u8 (x1 : Int)) ∧ w'.cell? ⟨bk, off + 2, none⟩ = some (.int .u8 (x2 : Int)) ∧ w'.cell? ⟨bk, off + 3, none⟩ = some (.int .u8 (x3 : Int)) ∧ w'.cell? ⟨bk, off + 4, none⟩ = some (.int .u8 (x4 : Int)) ∧ w'.cell? ⟨bk, off + 5, none⟩ = some (.int .u8 (x5 : Int)) ∧ w'.cell? ⟨bk, off + 6, none⟩ = some (.int .u8 (x6 : Int))) (go_keep) ((first
            | (refine step_part (base := w.heap.size) (xs := xs) rfl (.tmp 12) (.tmp 44) rfl rfl (ownsRow_ext Hrow.out (Ext.drew' (Ext.alloc _ _))) (Hint.out.ext (Ext.drew' (Ext.alloc _ _))) rfl (heap_alloc_new wr _) Hsz.out (hx.trans (Ext.drew' (Ext.alloc _ _))).size ?_
               intro v' w3 hrow hint hg
               have HL3 := Lib.hid (Hrel.out w3 v' hrow hint)
               have HX3 := Lib.hid ((hx.trans (Ext.drew' (Ext.alloc _ _))).grown' hg (fun g hg => (Hrow.out.lt g hg).1))
               have l1 : w3.cell? ⟨bk, off + 1, none⟩ = some (.int .u8 (x1 : Int)) := HX3.out.cell hbkw (HC1.out)
               have l2 : w3.cell? ⟨bk, off + 2, none⟩ = some (.int .u8 (x2 : Int)) := HX3.out.cell hbkw (HC2.out)
               have l3 : w3.cell? ⟨bk, off + 3, none⟩ = some (.int .u8 (x3 : Int)) := HX3.out.cell hbkw (HC3.out)
               have l4 : w3.cell? ⟨bk, off + 4, none⟩ = some (.int .u8 (x4 : Int)) := HX3.out.cell hbkw (HC4.out)
               have l5 : w3.cell? ⟨bk, off + 5, none⟩ = some (.int .u8 (x5 : Int)) := HX3.out.cell hbkw (HC5.out)
               have l6 : w3.cell? ⟨bk, off + 6, none⟩ = some (.int .u8 (x6 : Int)) := HX3.out.cell hbkw (HC6.out)
               clear hrow hint hg)))
          go_wp2_with fail
          go_roundw
          case rel => exact ⟨D.drop 7, _, _, _, k + 1, _, rfl, by omega, by omega, by omega, by simp; omega, HRD, HL3, Hp, HX3.out⟩
          case measure => simp [lenV]; try omega
      · rw [if_neg h6] at hp
        have Hp := Lib.hid hp
        have hne : (((D.getD 0 0).toNat : Int) == 6) = false := by
          simp only [beq_eq_false_iff_ne, ne_eq]
          intro e
          exact h6 (UInt8.toNat.inj (by show (D.getD 0 0).toNat = 6; omega))
        clear hp hl e1 e2 e3 e4 e5 e6 h6 hcell
        generalize (D.getD 0 0).toNat = x0 at *
        go_wp2_with fail
        rw [Exit.noGoto_ret]
        go_ret2
        exact ⟨none, 0, 0, by rw [Hp.out]; rfl, fun l hl => by rw [Hp.out] at hl; simp at hl, hx⟩
end Go.Proofs.YtomcipkmohhpjaaGreat

namespace Go.Proofs.YtomcipkmohhpjaaGreat
set_option linter.unusedVariables false
open Go Go.RowKit Go.Out

theorem copy_u8 {ops : Array Oper} {rest : List Oper} {o : Oper} {a : Act} {Q : Exit → Act → World → Prop} (w : World) (hgd : o.guard = none) (d s : Operand)
    (ho : o.op = .call { callee := .builtin .copy, args := #[d, s], argTypes := #[41, 41] })
    {g off dLen dCap sLen sCap : Nat} {A : Option Addr} {cur : Array Value} {cs : List UInt8} {t : TypeId} (hd : a.eval d = .slice (some ⟨g, off, none⟩) dLen dCap) (hs : a.eval s = .slice A sLen sCap)
    (hg : w.heap[g]? = some (.cells cur t (0, 0))) (hr : Rd w A sLen (cs.map cB)) (hle : sLen ≤ dLen) (hfit : off + sLen ≤ cur.size)
    (h : ∀ w', w'.heap[g]? = some (.cells (cur.toList.take off ++ cs.map cB ++ cur.toList.drop (off + sLen)).toArray t (0, 0)) → w.grownBy w' (some g) → wpList Tryz.prog ops Q rest (a.put o.dst (.int .i64 (sLen : Int))) w') :
    wpList Tryz.prog ops Q (o :: rest) a w :=
  wpList_copy_Rd w hgd d s _ _ ho 5 Tryz.underlying41 (by kernel_rfl) hd hs hg hr hle hfit (fun v hv => isU8_one (isU8_map v hv)) h

end Go.Proofs.YtomcipkmohhpjaaGreat

namespace Go.Proofs.YtomcipkmohhpjaaGreat
set_option linter.unusedVariables false
open Go Go.RowKit Go.Out

end Go.Proofs.YtomcipkmohhpjaaGreat

namespace Go.Proofs.YtomcipkmohhpjaaGreat
set_option linter.unusedVariables false
set_option maxRecDepth 100000
open Go Go.RowKit Go.Out

theorem need_any (n : Nat) (w : World) (hn : n ≤ 9223372036854775807) : Calls Tryz.prog 107 #[.int .i64 n] w fun e w' => e = .returned (.int .i64 (need n : Nat)) ∧ w = w' := by
  rcases Nat.eq_zero_or_pos (n % 8) with h | h
  · have ht : ((n : Int) % 8 == 0) = true := by simp; omega
    have H := Lib.hid h; clear h
    go_enter Tryz.func107, Tryz.ntmps107
    go_wp2_with fail
    go_ret
    exact ⟨ret_int (by have := H.out; unfold need; omega), rfl⟩
  · have ht : ((n : Int) % 8 == 0) = false := by simp; omega
    have H := Lib.hid h; clear h
    go_enter Tryz.func107, Tryz.ntmps107
    go_wp2_with fail
    go_ret
    exact ⟨ret_int (by have := H.out; unfold need; omega), rfl⟩

theorem refNeed_any (n : Nat) (w : World) (hn : n ≤ 9223372036854775807) : Calls Tryz.prog 121 #[.int .i64 n] w fun e w' => e = .returned (.int .i64 (need n : Nat)) ∧ w = w' := by
  rcases Nat.eq_zero_or_pos (n % 8) with h | h
  · have ht : ¬ (0 : Int) < (n : Int) % 8 := by omega
    have H := Lib.hid h; clear h
    go_enter Tryz.func121, Tryz.ntmps121
    go_wp2_with fail
    go_ret
    exact ⟨ret_int (by have := H.out; unfold need; omega), rfl⟩
  · have ht : (0 : Int) < (n : Int) % 8 := by omega
    have H := Lib.hid h; clear h
    go_enter Tryz.func121, Tryz.ntmps121
    go_wp2_with fail
    go_ret
    exact ⟨ret_int (by have := H.out; unfold need; omega), rfl⟩

theorem bits_any (l : List Bool) (A : Option Addr) (m c : Nat) (w : World) (hr : Rd w A m (l.map cL)) (hm : m ≤ 140737488355328) :
    Calls Tryz.prog 73 #[.slice A m c] w (RetOwn w 5 IsU8 (need m) ((bitsF l).map cB)) := by
  have Hr := Lib.hid hr; clear hr
  have hN : need m ≤ 140737488355328 := by unfold need; omega
  have hmk : ∀ W : World, (Instr.makeSlice 41 (.int .i64 ((need m : Nat) : Int)) (.int .i64 ((need m : Nat) : Int))).run Tryz.prog W = .ok (.slice (some ⟨W.heap.size, 0, none⟩) (need m) (need m)) (W.alloc (.cells (Array.replicate (need m) (.int .u8 0)) 5)) :=
    fun W => run_make1 (P := Tryz.prog) 41 5 (.int .u8 0) 1 Tryz.underlying41 info_u8 rfl (need m) (by omega) (by omega) W
  go_enter Tryz.func73, Tryz.ntmps73
  go_wp2_with fail
  refine (need_any m _ (by omega)).mono ?_
  rintro e w1 ⟨rfl, rfl⟩
  have HN : Hid (need m = (m + 7) / 8) := by unfold Hid need; rfl
  generalize need m = N at *
  go_wp2_with fail
  go_loopw [12] (fun i wr => ∃ (k : Nat) (cur : Array Value), k ≤ m ∧ i = .int .i64 k ∧ wr.heap[w.heap.size]? = some (.cells cur 5 (0, 0)) ∧ Hid (cur.toList = (bitsN (l.take k) N).map cB) ∧ Hid (cur.size = N) ∧ Below w.heap.size w wr) (fun i _ => m - (intOf i).toNat)
  case atStart => exact ⟨0, _, Nat.zero_le _, rfl, heap_alloc_new w _, by unfold Hid; rw [List.take_zero, bitsN_nil]; simp, by simp [Hid], (Below.refl _ _).alloc (Nat.le_refl _) _⟩
  case round =>
    obtain ⟨k, cur, hk, rfl, hh, hcur, Hcs, hbel⟩ := hrel
    by_cases hlt : k < m
    · obtain ⟨b1, o1, rfl, hb1, hl1, hc1⟩ := Hr.out.boat hlt
      have hcw : wr.cell? ⟨b1, o1 + k, none⟩ = some (.bool l[k]) := (hbel.cell (p := ⟨b1, o1 + k, none⟩) hb1).trans hc1
      clear hc1
      have hkN : k / 8 < N := by have := HN.out; omega
      cases hlk : l[k]
      · rw [hlk] at hcw
        have Hlk := Lib.hid hlk; have Hh := Lib.hid hh; clear hlk hh
        go_wp2_with fail
        go_roundw
        case rel => exact ⟨k + 1, cur, by omega, by go_num, Hh.out, by unfold Hid; rw [bitsN_skip l N k hl1 Hlk.out]; exact hcur.out, Hcs, hbel⟩
        case measure => simp [intOf]; omega
      · rw [hlk] at hcw
        obtain ⟨old, hce, hold⟩ : ∃ old, wr.cell? ⟨w.heap.size, k / 8, none⟩ = some old ∧ old = cB (UInt8.ofNat (bByte (l.take k) (k / 8))) := by
          refine ⟨_, ?_, rfl⟩
          rw [cell_of_row _ _ _ _ _ _ hh, ← Array.getElem?_toList, hcur.out, List.getElem?_map, bitsN_get _ _ _ hkN]; rfl
        have hfz := frozen_of_row wr w.heap.size (k / 8) cur _ hh
        have hlow := bByte_low l k
        rw [show cB (UInt8.ofNat (bByte (l.take k) (k / 8))) = .int .u8 ((bByte (l.take k) (k / 8) : Nat) : Int) from by rw [u8_ofNat]; congr 1; have := bByte_lt (l.take k) (k / 8); omega] at hold
        generalize hX : bByte (l.take k) (k / 8) = X at *
        subst hold
        have Hlow := Lib.hid hlow; have HX := Lib.hid hX; have Hlk := Lib.hid hlk; have Hh := Lib.hid hh; clear hlow hX hlk hh
        go_wp2_with fail
        have e1 : IntKind.i64.wrap ((k : Int) / 8) = (k : Int) / 8 := IntWalk.i64_in _ (by omega)
        have e2 : 0 ≤ (k : Int) / 8 := by omega
        have e3 : (k : Int) / 8 < (N : Int) := by omega
        have e4 : ((k : Int) / 8).toNat = k / 8 := by omega
        have e5 : (k : Int).tmod 8 = (k : Int) % 8 := Int.tmod_eq_emod_of_nonneg (by omega)
        have e6 : 0 ≤ (k : Int) % 8 := by omega
        have e7 : ((k : Int) % 8).toNat = k % 8 := by omega
        go_still_tail 10, (by kernel_rfl)
        clear e1 e2 e3 e4 e5 e6 e7
        go_wp2_with fail
        go_roundw
        case rel => exact ⟨k + 1, _, by omega, by go_num, heap_setCell_same _ _ _ _ _ _ Hh.out, by unfold Hid; rw [Array.toList_setIfInBounds, hcur.out, bit_or'' X (k % 8) Hlow.out (by omega), ← HX.out]; exact bitsN_set l N k hl1 hkN Hlk.out, by have := Hcs.out; simp [Hid]; omega, (hbel.setCell (Nat.le_refl _) _).drew⟩
        case measure => simp [intOf]; omega
    · obtain rfl : k = m := by omega
      have Hh := Lib.hid hh; clear hh
      rw [List.take_of_length_le (by have := Hr.out.length; omega)] at hcur
      go_wp2_with fail
      go_ret
      have hN : N = need l.length := by rw [Hr.out.length]; exact HN.out
      exact ⟨_, _, rfl, Own.bytes (Nat.le_refl _) Hh.out (by rw [hcur.out, hN]; rfl) (by rw [bitsF_length, hN]) (by unfold maxLen; omega), hbel⟩

theorem weight_any (n : Nat) (w : World) (hn : n ≤ 8) : Calls Tryz.prog 97 #[.int .i64 n] w fun e w' => e = .returned (.int .i64 ((2 ^ n : Nat) : Int)) ∧ w = w' := by
  go_enter Tryz.func97, Tryz.ntmps97
  go_wp2_with fail
  go_loop [3, 4] (fun v i => ∃ k : Nat, k ≤ n ∧ i = .int .i64 k ∧ v = .int .i64 ((2 ^ k : Nat) : Int)) (fun _ i => n - (intOf i).toNat)
  case atStart => exact ⟨0, by omega, rfl, rfl⟩
  case round =>
    obtain ⟨k, hk, rfl, rfl⟩ := hrel
    have h2 : (2 : Nat) ^ k ≤ 2 ^ 8 := Nat.pow_le_pow_right (by omega) (by omega)
    generalize hX : (2 : Nat) ^ k = X at *
    have HX := Lib.hid hX; clear hX
    by_cases hlt : k < n
    · go_wp2_with fail
      go_round
      case rel => exact ⟨k + 1, by omega, by go_num, by rw [Nat.pow_succ, HX.out]; go_num⟩
      case measure => simp [intOf]; omega
    · obtain rfl : k = n := by omega
      go_wp2_with fail
      go_ret
      exact ⟨ret_int (by rw [← HX.out]; simp), rfl⟩

theorem refBits_any (l : List Bool) (A : Option Addr) (m c : Nat) (w : World) (hr : Rd w A m (l.map cL)) (hm : m ≤ 140737488355328) :
    Calls Tryz.prog 60 #[.slice A m c] w (RetOwn w 5 IsU8 (need m) ((bitsF l).map cB)) := by
  have Hr := Lib.hid hr; clear hr
  go_enter Tryz.func60, Tryz.ntmps60
  go_wp2_with fail
  go_loopw [3, 4] (fun v i wr => ∃ (k c : Nat) (A : Option Addr), k ≤ m ∧ i = .int .i64 k ∧ v = .slice A (need k) c ∧ Own wr w.heap.size 5 IsU8 A (need k) c ((bitsN (l.take k) (need k)).map cB) ∧ Below w.heap.size w wr) (fun _ i _ => m - (intOf i).toNat)
  case atStart => exact ⟨0, 0, none, Nat.zero_le _, rfl, rfl, Own.nil_ _ _ _ _, Below.refl _ _⟩
  case round =>
    obtain ⟨k, c1, A1, hk, rfl, rfl, hown, hbel⟩ := hrel
    have hbs := hbel.size
    by_cases hlt : k < m
    · obtain ⟨b1, o1, rfl, hb1, hl1, hc1⟩ := Hr.out.boat hlt
      have hcw : wr.cell? ⟨b1, o1 + k, none⟩ = some (.bool l[k]) := (hbel.cell (p := ⟨b1, o1 + k, none⟩) hb1).trans hc1
      clear hc1
      have hres : ∀ (X r : Nat), X < 2 ^ r → r < 8 → IntKind.u8.wrap ((X : Int) + ((2 ^ r : Nat) : Int) % 256) = ((X + 2 ^ r : Nat) : Int) := fun X r h1 h2 => bit_add X r h1 h2
      have Hres := Lib.hid hres; clear hres
      cases hlk : l[k]
      all_goals
        rw [hlk] at hcw
        have Hlk := Lib.hid hlk; clear hlk
      · rcases Nat.eq_zero_or_pos (k % 8) with h8 | h8
        · have ht : ((k : Int) % 8 == 0) = true := by simp; omega
          have H8 := Lib.hid h8; clear h8
          go_wp2_with (at_builtin; refine app_u8 _ rfl (.tmp 14) (.tmp 15) rfl rfl (hown.alloc _) rfl (Rd.one _ _ _) (by intro u hu; simp at hu; subst hu; exact ⟨0, rfl⟩) (by unfold need; omega) (by simp; omega) ?_; intro A2 c2 w2 hown2 hg2 hb2; have hc2 := cell_app hcw hg2 hown hb1 hbs; have hz2 := hg2.size; have hbel2 := below_app hbel hbs hg2 (fun g hg => (hown.lt g hg).1))
          go_roundw
          case rel => exact ⟨k + 1, c2, A2, by omega, by go_num, by rw [show need (k + 1) = need k + 1 from by have := H8.out; unfold need; omega], by rw [show need (k + 1) = need k + 1 from by have := H8.out; unfold need; omega, bitsN_skip l _ k hl1 Hlk.out, bitsN_grow l k _ (by unfold need; omega)]; exact hown2, hbel2⟩
          case measure => simp [intOf]; omega
        · have ht : ((k : Int) % 8 == 0) = false := by simp; omega
          have H8 := Lib.hid h8; clear h8
          go_wp2_with fail
          go_roundw
          case rel => exact ⟨k + 1, c1, A1, by omega, by go_num, by rw [show need (k + 1) = need k from by have := H8.out; unfold need; omega], by rw [show need (k + 1) = need k from by have := H8.out; unfold need; omega, bitsN_skip l _ k hl1 Hlk.out]; exact hown, hbel⟩
          case measure => simp [intOf]; omega
      · have hz1 : True := trivial
        rcases Nat.eq_zero_or_pos (k % 8) with h8 | h8
        · have ht : ((k : Int) % 8 == 0) = true := by simp; omega
          have hnk : need (k + 1) = need k + 1 := by unfold need; omega
          have Hnk := Lib.hid hnk; clear hnk h8
          have hkN : k / 8 < need k + 1 := by unfold need; omega
          go_wp2_with (at_builtin; refine app_u8 _ rfl (.tmp 14) (.tmp 15) rfl rfl (hown.alloc _) rfl (Rd.one _ _ _) (by intro u hu; simp at hu; subst hu; exact ⟨0, rfl⟩) (by unfold need; omega) (by simp; omega) ?_; intro A2 c2 w2 hown2 hg2 hb2; have hc2 := cell_app hcw hg2 hown hb1 hbs; have hz2 := hg2.size; have hbel2 := below_app hbel hbs hg2 (fun g hg => (hown.lt g hg).1))
          rw [← bitsN_grow l k _ (by unfold need; omega)] at hown2
          obtain ⟨g, off, rfl, hgb, hcx, hfx⟩ := hown2.at_ hkN
          rw [List.getElem?_map, bitsN_get _ _ _ hkN] at hcx
          have hlow := bByte_low l k
          have hx256 := bByte_lt (l.take k) (k / 8)
          generalize hX : bByte (l.take k) (k / 8) = X at *
          have hcx2 : w2.cell? ⟨g, off + k / 8, none⟩ = some (.int .u8 (X : Int)) := by rw [hcx, Option.map_some, u8_ofNat]; congr 2; omega
          have Hlow := Lib.hid hlow; have HX := Lib.hid hX; have Hown2 := Lib.hid hown2; clear hlow hX hown2 hcx
          have e1 : IntKind.i64.wrap ((k : Int) / 8) = (k : Int) / 8 := IntWalk.i64_in _ (by omega)
          have e2 : 0 ≤ (k : Int) / 8 := by omega
          have e3 : (k : Int) / 8 < ((need k + 1 : Nat) : Int) := by omega
          have e3' : (k : Int) / 8 < (need k : Int) + 1 := by omega
          have e4 : ((k : Int) / 8).toNat = k / 8 := by omega
          have e5 : (k : Int).tmod 8 = (k : Int) % 8 := Int.tmod_eq_emod_of_nonneg (by omega)
          have e6 : 0 ≤ (k : Int) % 8 := by omega
          have e7 : ((k : Int) % 8).toNat = k % 8 := by omega
          have hwt : ∀ W : World, Calls Tryz.prog 97 #[.int .i64 ((k : Int) % 8)] W fun e w' => e = .returned (.int .i64 ((2 ^ (k % 8) : Nat) : Int)) ∧ w' = W := fun W => by
            have h := weight_any (k % 8) W (by omega)
            rw [show (((k % 8 : Nat) : Int)) = (k : Int) % 8 from by omega] at h
            exact h.mono fun _ _ ⟨h1, h2⟩ => ⟨h1, h2.symm⟩
          have Hwt := Lib.hid hwt; clear hwt
          go_wp2_with fail
          go_still_tail 14, (by kernel_rfl)
          still_call (Hwt.out _)
          repeat still_step
          try refine wpStill_nil ?_
          clear e1 e2 e3 e3' e4 e5 e6 e7
          go_wp2_with fail
          go_roundw
          case rel => exact ⟨k + 1, c2, _, by omega, by go_num, by rw [Hnk.out], by have hp := pow_le_128 (show k % 8 < 8 by omega); have h2 := Hlow.out; rw [Hnk.out, bit_add' X (k % 8) h2 (by omega)]; have hs := bitsN_set l (need k + 1) k hl1 hkN Hlk.out; rw [HX.out] at hs; rw [← hs]; exact Own.set_ Hown2.out (isU8_of (by omega) (by omega)), (hbel2.setCell hgb _).drew⟩
          case measure => simp [intOf]; omega
        · have ht : ((k : Int) % 8 == 0) = false := by simp; omega
          have hnk : need (k + 1) = need k := by unfold need; omega
          have Hnk := Lib.hid hnk; clear hnk
          have hkN : k / 8 < need k := by unfold need; omega
          clear h8
          have hown2 := hown; clear hown
          obtain ⟨g, off, rfl, hgb, hcx, hfx⟩ := hown2.at_ hkN
          rw [List.getElem?_map, bitsN_get _ _ _ hkN] at hcx
          have hlow := bByte_low l k
          have hx256 := bByte_lt (l.take k) (k / 8)
          generalize hX : bByte (l.take k) (k / 8) = X at *
          have hcx2 : wr.cell? ⟨g, off + k / 8, none⟩ = some (.int .u8 (X : Int)) := by rw [hcx, Option.map_some, u8_ofNat]; congr 2; omega
          have Hlow := Lib.hid hlow; have HX := Lib.hid hX; have Hown2 := Lib.hid hown2; clear hlow hX hown2 hcx
          have e1 : IntKind.i64.wrap ((k : Int) / 8) = (k : Int) / 8 := IntWalk.i64_in _ (by omega)
          have e2 : 0 ≤ (k : Int) / 8 := by omega
          have e3 : (k : Int) / 8 < ((need k : Nat) : Int) := by omega
          have e3' : (k : Int) / 8 < (need k : Int) + 1 := by omega
          have e4 : ((k : Int) / 8).toNat = k / 8 := by omega
          have e5 : (k : Int).tmod 8 = (k : Int) % 8 := Int.tmod_eq_emod_of_nonneg (by omega)
          have e6 : 0 ≤ (k : Int) % 8 := by omega
          have e7 : ((k : Int) % 8).toNat = k % 8 := by omega
          have hwt : ∀ W : World, Calls Tryz.prog 97 #[.int .i64 ((k : Int) % 8)] W fun e w' => e = .returned (.int .i64 ((2 ^ (k % 8) : Nat) : Int)) ∧ w' = W := fun W => by
            have h := weight_any (k % 8) W (by omega)
            rw [show (((k % 8 : Nat) : Int)) = (k : Int) % 8 from by omega] at h
            exact h.mono fun _ _ ⟨h1, h2⟩ => ⟨h1, h2.symm⟩
          have Hwt := Lib.hid hwt; clear hwt
          go_wp2_with fail
          go_still_tail 14, (by kernel_rfl)
          still_call (Hwt.out _)
          repeat still_step
          try refine wpStill_nil ?_
          clear e1 e2 e3 e3' e4 e5 e6 e7
          go_wp2_with fail
          go_roundw
          case rel => exact ⟨k + 1, c1, _, by omega, by go_num, by rw [Hnk.out], by have hp := pow_le_128 (show k % 8 < 8 by omega); have h2 := Hlow.out; rw [Hnk.out, bit_add' X (k % 8) h2 (by omega)]; have hs := bitsN_set l (need k) k hl1 hkN Hlk.out; rw [HX.out] at hs; rw [← hs]; exact Own.set_ Hown2.out (isU8_of (by omega) (by omega)), (hbel.setCell hgb _).drew⟩
          case measure => simp [intOf]; omega
    · obtain rfl : k = m := by omega
      rw [List.take_of_length_le (by have := Hr.out.length; omega)] at hown
      go_wp2_with fail
      go_ret
      exact ⟨_, _, rfl, by unfold bitsF; rw [Hr.out.length]; exact hown, hbel⟩
end Go.Proofs.YtomcipkmohhpjaaGreat

namespace Go.Proofs.YtomcipkmohhpjaaGreat
set_option linter.unusedVariables false
set_option maxRecDepth 100000
open Go Go.RowKit Go.Out

theorem unbits_neg (A : Option Addr) (m c : Nat) (n : Int) (w : World) (h : n < 0) :
    Calls Tryz.prog 110 #[.slice A m c, .int .i64 n] w fun e w' => e = .returned (.tuple #[.slice none 0 0, .int .i64 3]) ∧ Below w.heap.size w w' := by
  go_enter Tryz.func110, Tryz.ntmps110
  go_wp2_with fail
  go_ret2
  exact ⟨rfl, Below.refl _ _⟩
theorem unbits_count (A : Option Addr) (m c n : Nat) (w : World) (hn : n ≤ 9223372036854775807) (h : m ≠ need n) :
    Calls Tryz.prog 110 #[.slice A m c, .int .i64 n] w fun e w' => e = .returned (.tuple #[.slice none 0 0, .int .i64 22]) ∧ Below w.heap.size w w' := by
  have ht : ((m : Int) != ((need n : Nat) : Int)) = true := by simp; omega
  clear h
  go_enter Tryz.func110, Tryz.ntmps110
  go_wp2_with fail
  refine (need_any n _ hn).mono ?_
  rintro e w1 ⟨rfl, rfl⟩
  go_wp2_with fail
  go_ret2
  exact ⟨rfl, Below.refl _ _⟩
theorem unbits_form (b : List UInt8) (A : Option Addr) (c n : Nat) (w : World) (hr : Rd w A (need n) (b.map cB)) (hn : n ≤ 9223372036854775800) (h : spare b n = true) :
    Calls Tryz.prog 110 #[.slice A (need n) c, .int .i64 n] w fun e w' => e = .returned (.tuple #[.slice none 0 0, .int .i64 4]) ∧ Below w.heap.size w w' := by
  obtain ⟨h1, h2⟩ := (spare_iff b n hr.length).1 h
  have hN1 : 1 ≤ need n := by unfold need; omega
  obtain ⟨b1, o1, rfl, hb1, hl1, hc1⟩ := hr.u8at (k := need n - 1) (by omega)
  have e1 : b.getD (b.length - 1) 0 = b[need n - 1] := by rw [List.getD_eq_getElem?_getD, hr.length, List.getElem?_eq_getElem hl1]; rfl
  rw [e1] at h2
  have ht0 : (((need n : Nat) : Int) != ((need n : Nat) : Int)) = false := by simp
  have ht1 : ((n : Int) % 8 != 0) = true := by simp; omega
  have ht2 : ((b[need n - 1].toNat : Int) / 2 ^ (n % 8) != 0) = true := by rw [bne_iff_ne]; intro h; apply h2; have e : ((b[need n - 1].toNat : Int) / 2 ^ (n % 8)) = ((b[need n - 1].toNat / 2 ^ (n % 8) : Nat) : Int) := by simp
                                                                           rw [e] at h; exact_mod_cast h
  have hNn : need n ≤ 9223372036854775807 := by unfold need; omega
  clear h h1 h2 e1 hr
  go_enter Tryz.func110, Tryz.ntmps110
  go_wp2_with fail
  refine (need_any n _ (by omega)).mono ?_
  rintro e w1 ⟨rfl, rfl⟩
  generalize need n = N at *
  go_wp2_with fail
  go_ret2
  exact ⟨rfl, Below.refl _ _⟩

theorem range_take_map {α : Type} (f : Nat → α) (n k : Nat) (h : k < n) : ((List.range n).map f)[k]? = some (f k) := by simp [h]

/-- A block filled with bools, whole. -/
theorem Own.bools {w : World} {base : Nat} {e : TypeId} {g : Nat} {cur : Array Value} {l : List Bool} {n : Nat} (hb : base ≤ g) (hg : w.heap[g]? = some (.cells cur e (0, 0))) (hc : cur.toList = l.map cL) (hn : l.length = n) (hm : n ≤ maxLen) :
    Own w base e IsBo (some ⟨g, 0, none⟩) n n (l.map cL) := by
  have hs : cur.size = n := by rw [← Array.length_toList, hc]; simpa using hn
  have h := Own.of_heap (p := IsBo) hb hg (off := 0) n n (Nat.le_refl _) (by omega) hm (by rw [hc]; exact isBo_map)
  rwa [List.drop_zero, hc, List.take_of_length_le (by simp; omega)] at h

theorem unbits_ok (b : List UInt8) (A : Option Addr) (c n : Nat) (w : World) (hr : Rd w A (need n) (b.map cB)) (hn : n ≤ 140737488355328) (h : spare b n = false) :
    Calls Tryz.prog 110 #[.slice A (need n) c, .int .i64 n] w fun e w' => ∃ A' c', e = .returned (.tuple #[.slice A' n c', .int .i64 0]) ∧ Own w' w.heap.size 4 IsBo A' n c' (((List.range n).map (ubit b)).map cL) ∧ Below w.heap.size w w' := by
  have Hr := Lib.hid hr; clear hr
  have hl := Hr.out.length
  have ht0 : (((need n : Nat) : Int) != ((need n : Nat) : Int)) = false := by simp
  have hmk : ∀ W : World, (Instr.makeSlice 33 (.int .i64 (n : Int)) (.int .i64 (n : Int))).run Tryz.prog W = .ok (.slice (some ⟨W.heap.size, 0, none⟩) n n) (W.alloc (.cells (Array.replicate n (.bool false)) 4)) :=
    fun W => run_make1 (P := Tryz.prog) 33 4 (.bool false) 1 Tryz.underlying33 info_bo rfl n (by omega) (by omega) W
  have HN : Hid (need n = (n + 7) / 8) := rfl
  have hlast : (((n : Int) % 8 != 0) = false) ∨ ((((n : Int) % 8 != 0) = true) ∧ 1 ≤ need n ∧ ∃ b1 o1, A = some ⟨b1, o1, none⟩ ∧ ∃ x : Nat, w.cell? ⟨b1, o1 + (need n - 1), none⟩ = some (.int .u8 (x : Int)) ∧ ((x : Int) / 2 ^ (n % 8) != 0) = false) := by
    rcases Nat.eq_zero_or_pos (n % 8) with h0 | h0
    · left; simp; omega
    · right
      have hN1 : 1 ≤ need n := by unfold need; omega
      obtain ⟨b1, o1, e0, hb1, hl1, hc1⟩ := Hr.out.u8at (k := need n - 1) (by omega)
      refine ⟨by simp; omega, hN1, b1, o1, e0, _, hc1, ?_⟩
      have e1 : b.getD (b.length - 1) 0 = b[need n - 1] := by rw [List.getD_eq_getElem?_getD, hl, List.getElem?_eq_getElem hl1]; rfl
      have h2 : ¬ (n % 8 ≠ 0 ∧ (b.getD (b.length - 1) 0).toNat / 2 ^ (n % 8) ≠ 0) := fun hh => by rw [(spare_iff b n hl).2 hh] at h; cases h
      rw [e1] at h2
      have h3 : b[need n - 1].toNat / 2 ^ (n % 8) = 0 := by
        rcases Nat.eq_zero_or_pos (b[need n - 1].toNat / 2 ^ (n % 8)) with h4 | h4
        · exact h4
        · exact absurd ⟨by omega, by omega⟩ h2
      have e : ((b[need n - 1].toNat : Int) / 2 ^ (n % 8)) = ((b[need n - 1].toNat / 2 ^ (n % 8) : Nat) : Int) := by simp
      rw [e, h3]; rfl
  have hNle : need n ≤ 140737488355328 := by unfold need; omega
  have Hl := Lib.hid hl; clear hl h
  generalize need n = N at *
  have hprep : True := trivial
  rcases hlast with hz | ⟨hz, hN1, b1, o1, rfl, x, hcx, hsx⟩
  all_goals
    go_enter Tryz.func110, Tryz.ntmps110
    go_wp2_with fail
    refine (need_any n _ (by omega)).mono ?_
    rintro e w1 ⟨rfl, rfl⟩
    rw [show need n = N from HN.out.symm]
    go_wp2_with fail
    go_loopw [33] (fun i wr => ∃ (k : Nat) (cur : Array Value), k ≤ n ∧ i = .int .i64 k ∧ wr.heap[w.heap.size]? = some (.cells cur 4 (0, 0)) ∧ Hid (cur.toList = (((List.range n).map (ubit b)).map cL).take k ++ List.replicate (n - k) (Value.bool false)) ∧ Hid (cur.size = n) ∧ Below w.heap.size w wr) (fun i _ => n - (intOf i).toNat)
    case atStart => exact ⟨0, _, Nat.zero_le _, rfl, heap_alloc_new w _, by simp [Hid], by simp [Hid], (Below.refl _ _).alloc (Nat.le_refl _) _⟩
    case round =>
      obtain ⟨k, cur, hk, rfl, hh, hcur, Hcs, hbel⟩ := hrel
      by_cases hlt : k < n
      · have hkN : k / 8 < N := by have := HN.out; omega
        obtain ⟨b2, o2, e2, hb2, hl2, hc2⟩ := Hr.out.u8in hbel hkN
        first | (injection e2 with e2; injection e2 with e2 e3; subst e2; subst e3) | (subst e2)
        obtain ⟨old, hce⟩ := heap_cell (k := k) hh (by have := Hcs.out; omega)
        have hfz := frozen_of_row wr w.heap.size k cur _ hh
        have hbit : (bits .and .u8 ((b[k / 8].toNat : Int) / 2 ^ (k % 8)) 1 == 1) = ubit b k := by
          rw [ubit_shift _ _ b[k / 8].toNat_lt]
          unfold ubit
          rw [List.getD_eq_getElem?_getD, List.getElem?_eq_getElem hl2]
          simp only [Option.getD_some]
          rw [Bool.eq_iff_iff, beq_iff_eq, decide_eq_true_eq]; omega
        have Hbit := Lib.hid hbit; have Hh := Lib.hid hh; clear hh hbit
        generalize b[k / 8].toNat = X at *
        have hk8 : ((k : Int) / 8) < (N : Int) := by omega
        go_wp2_with fail
        go_roundw
        case rel => exact ⟨k + 1, _, by omega, by go_num, heap_setCell_same _ _ _ _ _ _ Hh.out, fill_step hcur (by simp) (by rw [List.getElem?_map, range_take_map _ _ _ hlt, ← Hbit.out]; rfl), by have := Hcs.out; simp [Hid]; omega, hbel.setCell (Nat.le_refl _) _⟩
        case measure => simp [intOf]; omega
      · obtain rfl : k = n := by omega
        have Hh := Lib.hid hh; clear hh
        go_wp2_with fail
        go_ret2
        exact ⟨_, _, rfl, Go.Proofs.YtomcipkmohhpjaaGreat.Own.bools (Nat.le_refl _) Hh.out (by rw [hcur.out, Nat.sub_self, List.replicate_zero, List.append_nil, List.take_of_length_le (by simp)]) (by simp) (by unfold maxLen; omega), hbel⟩

/-- A call that hands back bools of its own and an error's number. -/
def RetB (w : World) (t : TypeId) (l : List Bool) (err : Int) (e : Ending) (w' : World) : Prop :=
  ∃ A n c, e = .returned (.tuple #[.slice A n c, .int .i64 err]) ∧ Own w' w.heap.size t IsBo A n c (l.map cL) ∧ Below w.heap.size w w'

theorem unbits_mid (b : List UInt8) (n : Nat) (h : b.length = need n) : unbitsF b n = if spare b n then ([], 4) else ((List.range n).map (ubit b), 0) := by
  unfold unbitsF
  rw [if_neg (by omega), if_neg (by simpa using h)]; rfl

theorem unbits_mid_any (b : List UInt8) (A : Option Addr) (c n : Nat) (w : World) (hr : Rd w A (need n) (b.map cB)) (hn : n ≤ 140737488355300) :
    Calls Tryz.prog 110 #[.slice A (need n) c, .int .i64 n] w (RetB w 4 (unbitsF b n).1 (unbitsF b n).2) := by
  rw [unbits_mid b n hr.length]
  cases h : spare b n
  · refine (unbits_ok b A c n w hr (by omega) h).mono ?_
    rintro e w' ⟨A', c', rfl, ho, hb⟩
    exact ⟨_, _, _, rfl, ho, hb⟩
  · refine (unbits_form b A c n w hr (by omega) h).mono ?_
    rintro e w' ⟨rfl, hb⟩
    exact ⟨_, _, _, rfl, Own.nil_ _ _ _ _, hb⟩

theorem unbits_any (b : List UInt8) (A : Option Addr) (m c : Nat) (n : Int) (w : World) (hr : Rd w A m (b.map cB)) (hm : m ≤ 17000000000) (hn : n ≤ 9223372036854775807) :
    Calls Tryz.prog 110 #[.slice A m c, .int .i64 n] w (RetB w 4 (unbitsF b n).1 (unbitsF b n).2) := by
  rcases Int.lt_or_le n 0 with h | h
  · unfold unbitsF; rw [if_pos h]
    exact (unbits_neg A m c n w h).mono fun e w' ⟨he, hb⟩ => ⟨_, _, _, he, Own.nil_ _ _ _ _, hb⟩
  · obtain ⟨n, rfl⟩ := Int.eq_ofNat_of_zero_le h
    by_cases hmn : m = need n
    · subst hmn
      exact unbits_mid_any b A c n w hr (by unfold need at hm; omega)
    · unfold unbitsF; rw [if_neg (by omega), if_pos (by rw [hr.length]; simpa using hmn)]
      exact (unbits_count A m c n w (by omega) hmn).mono fun e w' ⟨he, hb⟩ => ⟨_, _, _, he, Own.nil_ _ _ _ _, hb⟩

end Go.Proofs.YtomcipkmohhpjaaGreat

namespace Go.Proofs.YtomcipkmohhpjaaGreat
set_option linter.unusedVariables false
set_option maxRecDepth 100000
open Go Go.RowKit Go.Out

theorem step_u16 {ops : Array Oper} {o : Oper} {a : Act} {w : World} {K : Act → World → Prop} {Q : Exit → Act → World → Prop} {E : Prop} (hgd : o.guard = none) (s x : Operand)
    (ho : o.op = .call { callee := .builtin .append, args := #[s, x], argTypes := #[34, 34] })
    {base : Nat} {A : Option Addr} {n c : Nat} {xs : List Value} (hs : a.eval s = .slice A n c) (hown : Own w base 48 IsU16 A n c xs)
    {A' : Option Addr} {m c' : Nat} {news : List Value} (hx : a.eval x = .slice A' m c') (hr : Rd w A' m news) (hnp : ∀ u ∈ news, IsU16 u) (hsz : n + m ≤ 70368744177664) (hbase : base ≤ w.heap.size)
    (h : ∀ A1 c1 w1, Own w1 base 48 IsU16 A1 (n + m) c1 (xs ++ news) → w.grownBy w1 (blk A) → (blk A1 = blk A ∨ blk A1 = some w.heap.size) → K (a.put o.dst (.slice A1 (n + m) c1)) w1) :
    if Region.wanted o (yielded ops a.tmps) = true then Oper.wp Tryz.prog o a w K Q else E :=
  step_append_Own hgd s x _ ho IsU16 base _ (.int .u16 0) 2 Tryz.underlying34 info_u16 rfl ⟨0, rfl⟩ (fun _ => isU16_one) A n c xs hs hown A' m c' news hx hr hnp (by omega) (by omega) hbase h

theorem bytes_any (l : List UInt16) (A : Option Addr) (m c : Nat) (w : World) (hr : Rd w A m (l.map cW)) (hm : m ≤ 70368744177664) :
    Calls Tryz.prog 74 #[.slice A m c] w (RetOwn w 5 IsU8 (2 * m) ((wb l).map cB)) := by
  have Hr := Lib.hid hr; clear hr
  have hmk : ∀ W : World, (Instr.makeSlice 41 (.int .i64 0) (.int .i64 (2 * (m : Int)))).run Tryz.prog W = .ok (.slice (some ⟨W.heap.size, 0, none⟩) 0 (2 * m)) (W.alloc (.cells (Array.replicate (2 * m) (.int .u8 0)) 5)) :=
    fun W => by have := run_make0 (P := Tryz.prog) 41 5 (.int .u8 0) 1 Tryz.underlying41 info_u8 rfl (2 * m) (by omega) (by omega) W; simpa using this
  go_enter Tryz.func74, Tryz.ntmps74
  go_wp2_with fail
  go_loopw [3, 12] (fun v i wr => ∃ (k c : Nat) (A : Option Addr), k ≤ m ∧ i = .int .i64 k ∧ v = .slice A (2 * k) c ∧ Own wr w.heap.size 5 IsU8 A (2 * k) c ((wb (l.take k)).map cB) ∧ Below w.heap.size w wr) (fun _ i _ => m - (intOf i).toNat)
  case atStart => exact ⟨0, 2 * m, _, Nat.zero_le _, rfl, rfl, Own.made (Nat.le_refl _) (by omega) ⟨0, rfl⟩, (Below.refl _ _).alloc (Nat.le_refl _) _⟩
  case round =>
    obtain ⟨k, c1, A1, hk, rfl, rfl, hown, hbel⟩ := hrel
    by_cases hlt : k < m
    · obtain ⟨b1, o1, rfl, -, hl1, hc1⟩ := ((Hr.out).below hbel).u16at hlt
      have hbs := hbel.size
      go_wp2_with (at_builtin; refine app_u8 _ rfl (.tmp 16) (.tmp 22) rfl rfl (hown.alloc _) rfl (Rd.two _ _ _ _) (by intro u hu; simp at hu; rcases hu with rfl | rfl <;> exact isU8_of (by omega) (by omega)) (by omega) (by simp; omega) ?_; intro A2 c2 w2 hown2 hg2 hb2)
      go_roundw
      case rel => exact ⟨k + 1, c2, A2, by omega, by go_num, by rw [show 2 * (k + 1) = 2 * k + 2 from by omega], by rw [wb_snoc _ _ hl1, List.map_append, show 2 * (k + 1) = 2 * k + 2 from by omega, List.map_cons, List.map_cons, List.map_nil, u8_ofNat, u8_ofNat]; simpa using hown2, below_app hbel hbs hg2 (fun g hg => (hown.lt g hg).1)⟩
      case measure => simp [intOf]; omega
    · obtain rfl : k = m := by omega
      go_wp2
      go_ret
      exact ⟨_, _, rfl, by rw [List.take_of_length_le (by have := Hr.out.length; omega)] at hown; exact hown, hbel⟩

theorem refBytes_any (l : List UInt16) (A : Option Addr) (m c : Nat) (w : World) (hr : Rd w A m (l.map cW)) (hm : m ≤ 70368744177664) :
    Calls Tryz.prog 62 #[.slice A m c] w (RetOwn w 5 IsU8 (2 * m) ((wb l).map cB)) := by
  have Hr := Lib.hid hr; clear hr
  go_enter Tryz.func62, Tryz.ntmps62
  go_wp2_with fail
  go_loopw [3, 4] (fun v i wr => ∃ (k c : Nat) (A : Option Addr), k ≤ m ∧ i = .int .i64 k ∧ v = .slice A (2 * k) c ∧ Own wr w.heap.size 5 IsU8 A (2 * k) c ((wb (l.take k)).map cB) ∧ Below w.heap.size w wr) (fun _ i _ => m - (intOf i).toNat)
  case atStart => exact ⟨0, 0, none, Nat.zero_le _, rfl, rfl, Own.nil_ _ _ _ _, Below.refl _ _⟩
  case round =>
    obtain ⟨k, c1, A1, hk, rfl, rfl, hown, hbel⟩ := hrel
    by_cases hlt : k < m
    · obtain ⟨b1, o1, rfl, hb1, hl1, hc1⟩ := Hr.out.u16in hbel hlt
      have hbs := hbel.size
      go_wp2_with (first | (at_builtin; refine app_u8 _ rfl (.tmp 11) (.tmp 18) rfl rfl (hown.alloc _) rfl (Rd.one _ _ _) (by intro u hu; simp at hu; subst hu; exact isU8_of (by omega) (by omega)) (by omega) (by simp; omega) ?_; intro A2 c2 w2 hown2 hg2 hb2; have hc2 := cell_app hc1 hg2 hown hb1 hbs; have hz2 := hg2.size; have hbel2 := below_app hbel hbs hg2 (fun g hg => (hown.lt g hg).1)) | (at_builtin; refine app_u8 _ rfl (.tmp 20) (.tmp 27) rfl rfl (hown2.alloc _) rfl (Rd.one _ _ _) (by intro u hu; simp at hu; subst hu; exact isU8_of (by omega) (by omega)) (by omega) (by simp at hz2 ⊢; omega) ?_; intro A3 c3 w3 hown3 hg3 hb3))
      go_roundw
      case rel => exact ⟨k + 1, c3, A3, by omega, by go_num, by rw [show 2 * (k + 1) = 2 * k + 1 + 1 from by omega], by have hw := l[k].toNat_lt; rw [show 2 * (k + 1) = 2 * k + 1 + 1 from by omega, wb_snoc _ _ hl1, List.map_append]; rw [cB_cell _ (l[k].toNat / 256) (by rw [IntKind.wrap_u16]; omega), cB_cell _ l[k].toNat (by omega), List.append_assoc] at hown3; exact hown3, below_app hbel2 (by simp at hz2; omega) hg3 (fun g hg => (hown2.lt g hg).1)⟩
      case measure => simp [intOf]; omega
    · obtain rfl : k = m := by omega
      go_wp2
      go_ret
      exact ⟨_, _, rfl, by rw [List.take_of_length_le (by have := Hr.out.length; omega)] at hown; exact hown, hbel⟩

theorem words_ok (b : List UInt8) (A : Option Addr) (m c : Nat) (w : World) (hr : Rd w A m (b.map cB)) (hm : m ≤ 140737488355328) (he : m % 2 = 0) :
    Calls Tryz.prog 111 #[.slice A m c] w fun e w' => ∃ A' c', e = .returned (.tuple #[.slice A' (m / 2) c', .int .i64 0]) ∧ Own w' w.heap.size 48 IsU16 A' (m / 2) c' ((bw b).map cW) ∧ Below w.heap.size w w' := by
  have Hr := Lib.hid hr; clear hr
  have hmk : ∀ W : World, (Instr.makeSlice 34 (.int .i64 ((m : Int) / 2)) (.int .i64 ((m : Int) / 2))).run Tryz.prog W = .ok (.slice (some ⟨W.heap.size, 0, none⟩) (m / 2) (m / 2)) (W.alloc (.cells (Array.replicate (m / 2) (.int .u16 0)) 48)) :=
    fun W => by have := run_make1 (P := Tryz.prog) 34 48 (.int .u16 0) 2 Tryz.underlying34 info_u16 rfl (m / 2) (by omega) (by omega) W; simpa using this
  have ht : ((m : Int) % 2 != 0) = false := by simp; omega
  go_enter Tryz.func111, Tryz.ntmps111
  go_wp2_with fail
  have Hm := Lib.hid he; clear he
  go_loopw [16] (fun i wr => ∃ (k : Nat) (cur : Array Value), k ≤ m / 2 ∧ i = .int .i64 k ∧ wr.heap[w.heap.size]? = some (.cells cur 48 (0, 0)) ∧ Hid (cur.toList = ((bw b).map cW).take k ++ List.replicate (m / 2 - k) (Value.int .u16 0)) ∧ Hid (cur.size = m / 2) ∧ Below w.heap.size w wr) (fun i _ => m / 2 - (intOf i).toNat)
  case atStart => exact ⟨0, _, Nat.zero_le _, rfl, heap_alloc_new w _, by simp [Hid], by simp [Hid], (Below.refl _ _).alloc (Nat.le_refl _) _⟩
  case round =>
    obtain ⟨k, cur, hk, rfl, hh, hcur, Hcs, hbel⟩ := hrel
    by_cases hlt : k < m / 2
    · obtain ⟨b1, o1, rfl, hb1, hl1, hc1⟩ := Hr.out.u8in hbel (k := 2 * k) (by omega)
      obtain ⟨_, _, e2, _, hl2, hc2⟩ := Hr.out.u8in hbel (k := 2 * k + 1) (by omega)
      injection e2 with e2; injection e2 with e2 e3; subst e2; subst e3
      obtain ⟨old, hce⟩ := heap_cell (k := k) hh (by have := Hcs.out; omega)
      have hfz := frozen_of_row wr w.heap.size k cur _ hh
      have Hh := Lib.hid hh; clear hh
      go_wp2_with fail
      have e1 : IntKind.i64.wrap (2 * (k : Int)) = 2 * (k : Int) := IntWalk.i64_in _ (by omega)
      have e2 : IntKind.i64.wrap (2 * (k : Int) + 1) = 2 * (k : Int) + 1 := IntWalk.i64_in _ (by omega)
      have e3 : 0 ≤ 2 * (k : Int) := by omega
      have e4 : 2 * (k : Int) < (m : Int) := by omega
      have e5 : (2 * (k : Int)).toNat = 2 * k := by omega
      have e6 : 0 ≤ 2 * (k : Int) + 1 := by omega
      have e7 : 2 * (k : Int) + 1 < (m : Int) := by omega
      have e8 : (2 * (k : Int) + 1).toNat = 2 * k + 1 := by omega
      have e9 : k < m / 2 := hlt
      go_still_tail 18, (by kernel_rfl)
      clear e1 e2 e3 e4 e5 e6 e7 e8
      go_wp2
      go_roundw
      case rel => exact ⟨k + 1, _, by omega, by go_num, heap_setCell_same _ _ _ _ _ _ Hh.out, fill_step hcur (by simp [bw_length, Hr.out.length]) (by rw [bw_get' b k hl2, word_or]), by have := Hcs.out; simp [Hid]; omega, (hbel.setCell (Nat.le_refl _) _).drew⟩
      case measure => simp [intOf]; omega
    · obtain rfl : k = m / 2 := by omega
      have Hh := Lib.hid hh; clear hh
      go_wp2_with fail
      go_ret2
      have hl : (bw b).length = m / 2 := by rw [bw_length, Hr.out.length]
      exact ⟨_, _, rfl, Own.words (Nat.le_refl _) Hh.out (by rw [hcur.out, Nat.sub_self, List.replicate_zero, List.append_nil, List.take_of_length_le (by simp [hl])]) hl (by unfold maxLen; omega), hbel⟩

theorem words_no (A : Option Addr) (m c : Nat) (w : World) (he : m % 2 = 1) :
    Calls Tryz.prog 111 #[.slice A m c] w fun e w' => e = .returned (.tuple #[.slice none 0 0, .int .i64 22]) ∧ Below w.heap.size w w' := by
  have ht : ((m : Int) % 2 != 0) = true := by simp; omega
  clear he
  go_enter Tryz.func111, Tryz.ntmps111
  go_wp2_with fail
  go_ret2
  exact ⟨rfl, Below.refl _ _⟩

theorem refWords_no (A : Option Addr) (m c : Nat) (w : World) (he : m % 2 = 1) :
    Calls Tryz.prog 122 #[.slice A m c] w fun e w' => e = .returned (.tuple #[.slice none 0 0, .int .i64 22]) ∧ Below w.heap.size w w' := by
  have ht : ((m : Int) % 2 == 1) = true := by simp; omega
  clear he
  go_enter Tryz.func122, Tryz.ntmps122
  go_wp2_with fail
  go_ret2
  exact ⟨rfl, Below.refl _ _⟩

theorem refWords_ok (b : List UInt8) (A : Option Addr) (m c : Nat) (w : World) (hr : Rd w A m (b.map cB)) (hm : m ≤ 140737488355328) (he : m % 2 = 0) :
    Calls Tryz.prog 122 #[.slice A m c] w fun e w' => ∃ A' c', e = .returned (.tuple #[.slice A' (m / 2) c', .int .i64 0]) ∧ Own w' w.heap.size 48 IsU16 A' (m / 2) c' ((bw b).map cW) ∧ Below w.heap.size w w' := by
  have Hr := Lib.hid hr; clear hr
  have ht : ((m : Int) % 2 == 1) = false := by simp; omega
  have Hm := Lib.hid he; clear he
  go_enter Tryz.func122, Tryz.ntmps122
  go_wp2_with fail
  go_loopw [4, 5] (fun v i wr => ∃ (k c : Nat) (A : Option Addr), k ≤ m / 2 ∧ i = .int .i64 (2 * (k : Int)) ∧ v = .slice A k c ∧ Own wr w.heap.size 48 IsU16 A k c (((bw b).take k).map cW) ∧ Below w.heap.size w wr) (fun _ i _ => m + 1 - (intOf i).toNat)
  case atStart => exact ⟨0, 0, none, Nat.zero_le _, rfl, rfl, Own.nil_ _ _ _ _, Below.refl _ _⟩
  case round =>
    obtain ⟨k, c1, A1, hk, rfl, rfl, hown, hbel⟩ := hrel
    have hl : (bw b).length = m / 2 := by rw [bw_length, Hr.out.length]
    have Hl := Lib.hid hl; clear hl
    by_cases hlt : k < m / 2
    · obtain ⟨b1, o1, rfl, hb1, hl1, hc1⟩ := Hr.out.u8in hbel (k := 2 * k) (by omega)
      obtain ⟨_, _, e2, _, hl2, hc2⟩ := Hr.out.u8in hbel (k := 2 * k + 1) (by omega)
      injection e2 with e2; injection e2 with e2 e3; subst e2; subst e3
      have hbs := hbel.size
      have e0 : 2 * (k : Int) + 1 < (m : Int) := by omega
      go_wp2_with fail
      have e2 : IntKind.i64.wrap (2 * (k : Int) + 1) = 2 * (k : Int) + 1 := IntWalk.i64_in _ (by omega)
      have e3 : 0 ≤ 2 * (k : Int) := by omega
      have e4 : 2 * (k : Int) < (m : Int) := by omega
      have e5 : (2 * (k : Int)).toNat = 2 * k := by omega
      have e6 : 0 ≤ 2 * (k : Int) + 1 := by omega
      have e8 : (2 * (k : Int) + 1).toNat = 2 * k + 1 := by omega
      have Hown := Lib.hid hown; clear hown
      go_region_law (refine step_u16 rfl (.tmp 17) (.tmp 31) rfl rfl ((Hown.out.drew).alloc _) rfl (Rd.one _ _ _) (by intro u hu; simp at hu; subst hu; rw [word_add]; exact isU16_of (by omega) (by omega)) (by omega) (by simp; omega) ?_; intro A2 c2 w2 hown2 hg2 hb2)
      all_goals clear e2 e3 e4 e5 e6 e8
      all_goals
        go_wp2_with fail
        go_roundw
        case rel => exact ⟨k + 1, c2, A2, by omega, by go_num, rfl, by rw [bw_take b k hl2]; rw [word_add] at hown2; exact hown2, below_app hbel.drew hbs hg2 (fun g hg => (Hown.out.lt g hg).1)⟩
        case measure => simp [intOf]; omega
    · have e0 : ¬ 2 * (k : Int) + 1 < (m : Int) := by have := Hm.out; omega
      obtain rfl : k = m / 2 := by omega
      rw [List.take_of_length_le (by rw [Hl.out]; exact Nat.le_refl _)] at hown
      go_wp2_with fail
      go_ret2
      exact ⟨_, _, rfl, hown, hbel⟩

/-- A call that hands back words of its own and an error's number. -/
def RetW (w : World) (t : TypeId) (l : List UInt16) (err : Int) (e : Ending) (w' : World) : Prop :=
  ∃ A n c, e = .returned (.tuple #[.slice A n c, .int .i64 err]) ∧ Own w' w.heap.size t IsU16 A n c (l.map cW) ∧ Below w.heap.size w w'

theorem words_any (b : List UInt8) (A : Option Addr) (m c : Nat) (w : World) (hr : Rd w A m (b.map cB)) (hm : m ≤ 140737488355328) :
    Calls Tryz.prog 111 #[.slice A m c] w (RetW w 48 (wordsF b).1 (wordsF b).2) := by
  have hl := hr.length
  rcases Nat.mod_two_eq_zero_or_one m with h | h
  · unfold wordsF; rw [if_neg (by omega)]
    refine (words_ok b A m c w hr hm h).mono ?_
    rintro e w' ⟨A', c', rfl, ho, hb⟩
    exact ⟨_, _, _, rfl, ho, hb⟩
  · unfold wordsF; rw [if_pos (by omega)]
    refine (words_no A m c w h).mono ?_
    rintro e w' ⟨rfl, hb⟩
    exact ⟨_, _, _, rfl, Own.nil_ _ _ _ _, hb⟩

theorem refWords_any (b : List UInt8) (A : Option Addr) (m c : Nat) (w : World) (hr : Rd w A m (b.map cB)) (hm : m ≤ 140737488355328) :
    Calls Tryz.prog 122 #[.slice A m c] w (RetW w 48 (wordsF b).1 (wordsF b).2) := by
  have hl := hr.length
  rcases Nat.mod_two_eq_zero_or_one m with h | h
  · unfold wordsF; rw [if_neg (by omega)]
    refine (refWords_ok b A m c w hr hm h).mono ?_
    rintro e w' ⟨A', c', rfl, ho, hb⟩
    exact ⟨_, _, _, rfl, ho, hb⟩
  · unfold wordsF; rw [if_pos (by omega)]
    refine (refWords_no A m c w h).mono ?_
    rintro e w' ⟨rfl, hb⟩
    exact ⟨_, _, _, rfl, Own.nil_ _ _ _ _, hb⟩
end Go.Proofs.YtomcipkmohhpjaaGreat
