/- Contracts of the requests: numbers of two bytes; how many bytes a PDU has. -/
import Derived.Test.YtcnjhjfepojdaaaAsk9
namespace Go.Proofs.Ytcnjhjfepojdaaa
set_option linter.unusedVariables false
set_option linter.unusedSimpArgs false
set_option maxRecDepth 100000
set_option maxHeartbeats 2000000
open Go Go.RowKit Go.Out

/-- A call that hands back a number and leaves the world. -/
def RetN (w : World) (k : Int) (e : Ending) (w' : World) : Prop := e = .returned (.int .i64 k) ∧ w = w'
theorem RetN.of {w w' : World} {k k' : Int} (h : k = k') (hx : w = w') : RetN w k (.returned (.int .i64 k')) w' := ⟨by rw [h], hx⟩
theorem sized_pdu (b : List UInt8) (A : Option Addr) (m c : Nat) (w : World) (hr : Rd w A m (b.map cB)) (h0 : m ≠ 0) (hm : m ≤ 9223372036854775807) (hp : codeP (b0 b : Nat)) :
    Calls Try.prog 32 #[.slice A m c] w (RetN w (sizedF b)) := by
  have hl := hr.length
  obtain ⟨bk, off, rfl, hbk, hcell⟩ := hr.u8all (by omega)
  have c0 := hcell 0 (by omega)
  rw [Nat.add_zero] at c0
  have hc := codeP_cases hp
  obtain ⟨K, hK⟩ : ∃ K, sizedF b = K := ⟨_, rfl⟩
  have hb0 : (b.getD 0 0).toNat = b0 b := rfl
  rw [hb0] at c0
  have e5 : b0 b ≤ 6 → sizeF b = 5 := sizeF_of5
  have e2 : b0 b = 20 → 2 ≤ m → sizeF b = 2 + (b.getD 1 0).toNat := fun h h2 => sizeF_of20 h (by omega)
  have e6 : b0 b = 15 ∨ b0 b = 16 → 6 ≤ m → sizeF b = 6 + (b.getD 5 0).toNat := fun h h2 => sizeF_of6 h (by omega)
  have e20 : b0 b = 20 → m < 2 → sizeF b = 0 := fun h h2 => by unfold sizeF; rw [if_neg (by omega), if_pos h, if_neg (by omega)]
  have e60 : b0 b = 15 ∨ b0 b = 16 → m < 6 → sizeF b = 0 := fun h h2 => by unfold sizeF; rw [if_neg (by omega), if_neg (by omega), if_neg (by omega)]
  have hd1 : sizeF b = 0 → K = 1 := fun h => by rw [← hK]; unfold sizedF; rw [if_pos h]
  have hd2 : sizeF b ≠ 0 → m < sizeF b → K = 1 := fun h h2 => by rw [← hK]; unfold sizedF; rw [if_neg h, if_pos (by omega)]
  have hd3 : sizeF b ≠ 0 → ¬ m < sizeF b → sizeF b < m → K = 2 := fun h h2 h3 => by rw [← hK]; unfold sizedF; rw [if_neg h, if_neg (by omega), if_pos (by omega)]
  have hd4 : sizeF b ≠ 0 → sizeF b = m → K = 0 := fun h h2 => by rw [← hK]; exact sizedF_zero.2 ⟨h, by omega⟩
  rw [hK]
  clear hK hp hl
  generalize sizeF b = S at *
  generalize b0 b = x at *
  have H1 := Lib.hid hd1; have H2 := Lib.hid hd2; have H3 := Lib.hid hd3; have H4 := Lib.hid hd4; clear hd1 hd2 hd3 hd4
  have E5 := Lib.hid e5; have E2 := Lib.hid e2; have E6 := Lib.hid e6; have E20 := Lib.hid e20; have E60 := Lib.hid e60; clear e5 e2 e6 e20 e60
  rcases Nat.lt_or_ge x 7 with h7 | h7
  · obtain rfl : S = 5 := E5.out (by omega)
    have x20 : ¬ x = 20 := by omega
    have x15 : ¬ 15 ≤ x := by omega
    clear E5 E2 E6 E20 E60
    go_enter Try.func32, Try.ntmps32
    go_wp2_with fail
    all_goals
      go_ret
      first
        | exact RetN.of (H2.out (by omega) (by omega)) rfl
        | exact RetN.of (H3.out (by omega) (by omega) (by omega)) rfl
        | exact RetN.of (H4.out (by omega) (by omega)) rfl
  · by_cases x20 : x = 20
    · subst x20
      rcases Nat.lt_or_ge m 2 with hm2 | hm2
      · obtain rfl : S = 0 := E20.out rfl hm2
        go_enter Try.func32, Try.ntmps32
        go_wp2_with fail
        go_ret
        exact RetN.of (H1.out (by first | rfl | trivial)) rfl
      · have hS := E2.out rfl hm2
        have c1 := hcell 1 (by omega)
        have y8 := (b.getD 1 0).toNat_lt
        generalize (b.getD 1 0).toNat = y at *
        subst hS
        have hi1 : (1 : Int) < (m : Int) := by omega
        clear E5 E2 E6 E20 E60
        go_enter Try.func32, Try.ntmps32
        go_wp2_with fail
        all_goals
          go_ret
          first
            | exact RetN.of (H2.out (by omega) (by omega)) rfl
            | exact RetN.of (H3.out (by omega) (by omega) (by omega)) rfl
            | exact RetN.of (H4.out (by omega) (by omega)) rfl
    · have hx : x = 15 ∨ x = 16 := by omega
      rcases Nat.lt_or_ge m 6 with hm2 | hm2
      · obtain rfl : S = 0 := E60.out hx hm2
        rcases hx with rfl | rfl
        all_goals
          go_enter Try.func32, Try.ntmps32
          go_wp2_with fail
          go_ret
          exact RetN.of (H1.out (by first | rfl | trivial)) rfl
      · have hS := E6.out hx hm2
        have c5 := hcell 5 (by omega)
        have y8 := (b.getD 5 0).toNat_lt
        generalize (b.getD 5 0).toNat = y at *
        subst hS
        have hi1 : (5 : Int) < (m : Int) := by omega
        clear E5 E2 E6 E20 E60
        rcases hx with rfl | rfl
        all_goals
          go_enter Try.func32, Try.ntmps32
          go_wp2_with fail
          all_goals
            go_ret
            first
              | exact RetN.of (H2.out (by omega) (by omega)) rfl
              | exact RetN.of (H3.out (by omega) (by omega) (by omega)) rfl
              | exact RetN.of (H4.out (by omega) (by omega)) rfl
/-- The reference says -1 where it can't be told yet. -/
def lenF (b : List UInt8) : Int := if sizeF b = 0 then -1 else sizeF b
end Go.Proofs.Ytcnjhjfepojdaaa

namespace Go.Proofs.Ytcnjhjfepojdaaa
set_option linter.unusedVariables false
set_option linter.unusedSimpArgs false
set_option maxRecDepth 100000
set_option maxHeartbeats 2000000
open Go Go.RowKit Go.Out

end Go.Proofs.Ytcnjhjfepojdaaa

namespace Go.Proofs.Ytcnjhjfepojdaaa
set_option linter.unusedVariables false
set_option linter.unusedSimpArgs false
set_option maxRecDepth 100000
set_option maxHeartbeats 2000000
open Go Go.RowKit Go.Out

/-- A row A of the call's own has become A' (the same block, or a new one); nothing else has turned. -/
def Grow (w w' : World) (A A' : Option Addr) : Prop := w.grownBy w' (blk A) ∧ (blk A' = blk A ∨ ∀ g, blk A' = some g → w.heap.size ≤ g)
theorem Grow.trans {w w1 w2 : World} {A A1 A2 : Option Addr} (h : Grow w w1 A A1) (h2 : Grow w1 w2 A1 A2) : Grow w w2 A A2 := by
  obtain ⟨g, r⟩ := h
  obtain ⟨g2, r2⟩ := h2
  refine ⟨⟨g2.os.trans g.os, g2.tape.trans g.tape, g2.output.trans g.output, Nat.le_trans g.size g2.size, fun k hk hne => ?_⟩, ?_⟩
  · refine (g2.block k (Nat.lt_of_lt_of_le hk g.size) fun e => ?_).trans (g.block k hk hne)
    rcases r with r | r
    · exact hne (e.trans r)
    · have := r k e.symm; omega
  · rcases r2 with r2 | r2
    · rcases r with r | r
      · exact .inl (r2.trans r)
      · exact .inr fun k hk => r k (r2 ▸ hk)
    · exact .inr fun k hk => Nat.le_trans g.size (r2 k hk)
theorem Grow.of_alloc {w w' : World} {o : Obj} {A A' : Option Addr} (hg : (w.alloc o).grownBy w' (blk A)) (hb : blk A' = blk A ∨ blk A' = some (w.alloc o).heap.size) : Grow w w' A A' := by
  have hx := Ext.alloc w o
  refine ⟨⟨hg.os.trans hx.below.os, hg.tape.trans hx.below.tape, hg.output.trans hx.below.output, Nat.le_trans hx.size hg.size, fun k hk hne => ?_⟩, ?_⟩
  · exact (hg.block k (Nat.lt_of_lt_of_le hk hx.size) hne).trans (hx.below.block k hk)
  · rcases hb with hb | hb
    · exact .inl hb
    · exact .inr fun k hk => by rw [hb] at hk; injection hk with hk; have := hx.size; omega
/-- What a call hands back that puts bytes behind a row of its caller's. -/
def RetP (w : World) (base : Nat) (A : Option Addr) (xs : List UInt8) (e : Ending) (w' : World) : Prop :=
  ∃ A' c', e = .returned (.slice A' xs.length c') ∧ Own w' base 5 IsU8 A' xs.length c' (xs.map cB) ∧ Grow w w' A A'

end Go.Proofs.Ytcnjhjfepojdaaa

namespace Go.Proofs.Ytcnjhjfepojdaaa
set_option linter.unusedVariables false
set_option linter.unusedSimpArgs false
set_option maxRecDepth 100000
set_option maxHeartbeats 2000000
open Go Go.RowKit Go.Out

theorem Grow.refl (w : World) (A : Option Addr) : Grow w w A A := ⟨⟨rfl, rfl, rfl, Nat.le_refl _, fun _ _ _ => rfl⟩, .inl rfl⟩
theorem two_lit (v : Nat) (hv : v < 65536) : (#[.int .u8 ((v : Int) / 256), .int .u8 ((v : Int) % 256)] : Array Value).toList = (two v).map cB ++ [] := by
  unfold two
  simp only [List.map_cons, List.map_nil, u8_ofNat, List.append_nil]
  have : ((v / 256 : Nat) : Int) % 256 = (v : Int) / 256 := by omega
  rw [this]
theorem two_any (xs : List UInt8) (vs : List Nat) (n K : Nat) (hv : ∀ v ∈ vs, v < 65536) (hK : vs.length = K) (A L : Option Addr) (c cl base : Nat) (w : World) (ho : Own w base 5 IsU8 A n c (xs.map cB)) (hbase : base ≤ w.heap.size) (hn : n ≤ 140737488300000) (hK2 : K ≤ 10)
    (hr : Rd w L K (vs.map (fun (v : Nat) => (Value.int .i64 (v : Int))))) (hL : ∀ g, blk L = some g → blk A ≠ some g) :
    Calls Try.prog 28 #[.slice A n c, .slice L K cl] w (RetP w base A (xs ++ vs.flatMap two)) := by
  have hlen : ∀ k, k ≤ K → (xs ++ (vs.take k).flatMap two).length = n + 2 * k := by
    intro k
    have := ho.len
    induction k with
    | zero => intro _; simp at this ⊢; omega
    | succ k ih =>
      intro hk
      have h1 := ih (by omega)
      rw [List.take_succ_eq_append_getElem (by omega), List.flatMap_append]
      simp [two] at h1 ⊢; omega
  have Hlen := Lib.hid hlen; have Ho := Lib.hid ho; have Hr := Lib.hid hr; have HL := Lib.hid hL; have Hv := Lib.hid hv; clear hlen ho hr hL hv
  have Hbase := Lib.hid hbase; clear hbase
  go_enter Try.func28, Try.ntmps28
  go_wp2_with fail
  go_loopw [0, 9] (fun b i wr => ∃ (k : Nat) (A1 : Option Addr) (c1 : Nat), k ≤ K ∧ b = .slice A1 (n + 2 * k) c1 ∧ i = .int .i64 (k : Int) ∧ Hid (Own wr base 5 IsU8 A1 (n + 2 * k) c1 ((xs ++ (vs.take k).flatMap two).map cB)) ∧ Hid (Grow w wr A A1)) (fun _ i _ => K - (intOf i).toNat)
  case atStart => exact ⟨0, A, c, Nat.zero_le _, rfl, rfl, by simpa [Hid] using Ho.out, Lib.hid (Grow.refl _ _)⟩
  case round =>
    obtain ⟨k, A1, c1, hk, rfl, rfl, HO, HG⟩ := hrel
    rcases Nat.lt_or_ge k K with hlt | hge
    · have hkl : k < vs.length := by omega
      obtain ⟨bk, off, hA, hbk, hl, hcell⟩ := Hr.out.at_ hlt
      subst hA
      rw [List.getElem_map] at hcell
      have hcw : wr.cell? ⟨bk, off + k, none⟩ = some (.int .i64 (vs[k] : Int)) := (World.cell?_of_block (w := w) (HG.out.1.block bk hbk (fun e => HL.out bk rfl e.symm))).trans hcell
      have hv := Hv.out vs[k] (List.getElem_mem hkl)
      have Hst := Lib.hid (show (vs.take (k + 1)).flatMap two = (vs.take k).flatMap two ++ two vs[k] by rw [List.take_succ_eq_append_getElem hkl, List.flatMap_append]; simp)
      clear hcell hl
      generalize vs[k] = v at *
      have Hlit := Lib.hid (two_lit v hv)
      go_wp2_with (at_builtin; go_must (refine app_u8 _ rfl (.tmp 13) (.tmp 19) rfl rfl (HO.out.ext (Ext.alloc _ _)) rfl (Rd.of_heap (ys := []) (heap_alloc_new wr _) Hlit.out (by simp [two])) isU8_map (by omega) (Nat.le_trans (Nat.le_trans Hbase.out HG.out.1.size) (Ext.alloc _ _).size) ?_); intro A2 c2 w2 hown2 hg2 hb2; have HO2 := Lib.hid hown2; have HG2 := Lib.hid (Grow.of_alloc hg2 hb2); clear hown2 hg2 hb2)
      go_roundw
      case rel => exact ⟨k + 1, A2, c2, by omega, rfl, by go_num, by have h := HO2.out; rw [← List.map_append, List.append_assoc, ← Hst.out] at h; exact h, Lib.hid (HG.out.trans HG2.out)⟩
      case measure => simp [intOf]; omega
    · obtain rfl : k = K := by omega
      go_wp2_with fail
      go_ret
      have hl := Hlen.out k (Nat.le_refl _)
      have ht : vs.take k = vs := List.take_of_length_le (by omega)
      have ho := HO.out
      rw [ht] at hl ho
      exact ⟨A1, c1, by rw [hl]; rfl, by rw [hl]; exact ho, HG.out⟩
end Go.Proofs.Ytcnjhjfepojdaaa
