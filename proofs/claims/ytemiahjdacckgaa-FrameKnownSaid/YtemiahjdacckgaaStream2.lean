/- Contracts of the frames on a stream: Get, and the reference's. -/
import Derived.Test.YtemiahjdacckgaaStream
import Derived.Test.YtemiahjdacckgaaExt
import Derived.Deep.RegionHeld3
namespace Go.Proofs.Ytemiahjdacckgaa
set_option linter.unusedVariables false
open Go Go.RowKit Go.Out

/-- A call that hands back a frame on a stream, a number and an error's number. -/
def RetG (w : World) (t : TypeId) (r : TcpD × Nat × Int) (e : Ending) (w' : World) : Prop :=
  ∃ A n c, e = .returned (.tuple #[.agg #[.int .u16 (r.1.id : Int), .int .u8 (r.1.unit.toNat : Int), .slice A n c], .int .i64 (r.2.1 : Int), .int .i64 r.2.2]) ∧ Own w' w.heap.size t IsU8 A n c (r.1.pdu.map cB) ∧ Below w.heap.size w w'

theorem ofInt64 (a : Nat) (h : a < 9223372036854775808) : (BitVec.ofInt 64 (a : Int)).toNat = a := by
  rw [BitVec.ofInt_natCast, BitVec.toNat_ofNat]; omega
theorem or_nat64 (a b : Nat) (ha : a < 9223372036854775808) (hb : b < 9223372036854775808) : bits .or .i64 (a : Int) (b : Int) = ((a ||| b : Nat) : Int) := by
  have h : a ||| b < 2 ^ 63 := Nat.or_lt_two_pow (by omega) (by omega)
  have e : bits .or .i64 (a : Int) (b : Int) = IntKind.i64.wrap ((BitVec.ofInt 64 (a : Int) ||| BitVec.ofInt 64 (b : Int)).toNat : Int) := rfl
  rw [e, BitVec.toNat_or, ofInt64 a ha, ofInt64 b hb, IntKind.wrap_i64]; omega
theorem or_i64 (x y : Nat) (hx : x < 256) (hy : y < 256) : bits .or .i64 ((x : Int) * 256) (y : Int) = ((x * 256 + y : Nat) : Int) := by
  have e : ((x : Int) * 256) = ((2 ^ 8 * x : Nat) : Int) := by omega
  rw [e, or_nat64 _ _ (by omega) (by omega), ← Nat.two_pow_add_eq_or_of_lt (i := 8) (b := y) (by omega) x, Nat.mul_comm]
theorem or_u16 (x y : Nat) (hx : x < 256) (hy : y < 256) : bits .or .u16 ((x : Int) * 256) (y : Int) = ((x * 256 + y : Nat) : Int) := by
  have e : ((x : Int) * 256) = ((2 ^ 8 * x : Nat) : Int) := by omega
  rw [e, u16_or_nat _ _ (by omega) (by omega), ← Nat.two_pow_add_eq_or_of_lt (i := 8) (b := y) (by omega) x, Nat.mul_comm]
theorem or_u16' (x y : Nat) (hx : x < 256) (hy : y < 256) : bits .or .u16 (IntKind.u16.wrap (IntKind.u16.wrap (x : Int) * 256)) (IntKind.u16.wrap (y : Int)) = ((x * 256 + y : Nat) : Int) := by
  have e1 : IntKind.u16.wrap (x : Int) = x := by simp [IntKind.wrap, IntKind.signed, IntKind.bits]; omega
  have e2 : IntKind.u16.wrap (y : Int) = y := by simp [IntKind.wrap, IntKind.signed, IntKind.bits]; omega
  have e3 : IntKind.u16.wrap ((x : Int) * 256) = (x : Int) * 256 := by simp [IntKind.wrap, IntKind.signed, IntKind.bits]; omega
  rw [e1, e2, e3]; exact or_u16 x y hx hy
theorem getTF_form {b : List UInt8} (h7 : ¬ b.length < 7) (h : (b.getD 2 0).toNat ≠ 0 ∨ (b.getD 3 0).toNat ≠ 0 ∨ at2 b 4 < 2 ∨ 254 < at2 b 4) : getTF b = (tcp0, 0, 4) := by
  unfold getTF; rw [if_neg h7, if_pos h]
theorem getTF_more {b : List UInt8} (h7 : ¬ b.length < 7) (h : ¬ ((b.getD 2 0).toNat ≠ 0 ∨ (b.getD 3 0).toNat ≠ 0 ∨ at2 b 4 < 2 ∨ 254 < at2 b 4)) (hl : b.length < 6 + at2 b 4) : getTF b = (tcp0, 0, 1) := by
  unfold getTF; rw [if_neg h7, if_neg h, if_pos hl]
theorem getTF_all {b : List UInt8} (h7 : ¬ b.length < 7) (h : ¬ ((b.getD 2 0).toNat ≠ 0 ∨ (b.getD 3 0).toNat ≠ 0 ∨ at2 b 4 < 2 ∨ 254 < at2 b 4)) (hl : ¬ b.length < 6 + at2 b 4) : getTF b = (⟨at2 b 0, b.getD 6 0, (b.drop 7).take (at2 b 4 - 1)⟩, 6 + at2 b 4, 0) := by
  unfold getTF; rw [if_neg h7, if_neg h, if_neg hl]

set_option maxHeartbeats 2000000 in
theorem tcpGet_any (b : List UInt8) (A : Option Addr) (m c : Nat) (w : World) (hr : Rd w A m (b.map cB)) (hc : m ≤ c) (hm : m ≤ 140737488355200) :
    Calls Try.prog 31 #[.slice A m c] w (RetG w 5 (getTF b)) := by
  have hl := hr.length
  have Hr := Lib.hid hr; clear hr
  rcases Nat.lt_or_ge m 7 with h7 | h7
  · rw [show getTF b = (tcp0, 0, 1) from if_pos (by omega)]
    clear hl
    go_enter Try.func31, Try.ntmps31
    go_wp2_with fail
    exact bodyPost_ret (v := .tuple #[.agg #[.int .u16 0, .int .u8 0, .slice none 0 0], .int .i64 0, .int .i64 1]) (by simp [results, Try.results31, go_sem]) rfl ⟨_, _, _, rfl, Own.nil_ _ _ _ _, Ext.below (Ext.alloc _ _)⟩
  · obtain ⟨bk, off, rfl, hbk, hcell⟩ := Hr.out.u8all (by omega)
    have hcw : ∀ j, j < m → (w.alloc (.cells #[.int .u16 0, .int .u8 0, .slice none 0 0] 34)).cell? ⟨bk, off + j, none⟩ = some (.int .u8 ((b.getD j 0).toNat : Int)) := fun j hj => (Ext.alloc _ _).cell hbk (hcell j hj)
    have c2 := hcw 2 (by omega); have c3 := hcw 3 (by omega); have c4 := hcw 4 (by omega); have c5 := hcw 5 (by omega)
    have hb4 := (b.getD 4 0).toNat_lt; have hb5 := (b.getD 5 0).toNat_lt; have hb2 := (b.getD 2 0).toNat_lt; have hb3 := (b.getD 3 0).toNat_lt
    have hf1 := @getTF_form b; have hf2 := @getTF_more b; have hf3 := @getTF_all b
    have hn : at2 b 4 = (b.getD 4 0).toNat * 256 + (b.getD 5 0).toNat := rfl
    rw [hn, hl] at hf1 hf2 hf3
    clear hn
    generalize (b.getD 2 0).toNat = x2 at *; generalize (b.getD 3 0).toNat = x3 at *; generalize (b.getD 4 0).toNat = x4 at *; generalize (b.getD 5 0).toNat = x5 at *
    have Hf1 := Lib.hid hf1; have Hf2 := Lib.hid hf2; have Hf3 := Lib.hid hf3; clear hf1 hf2 hf3
    have hor := or_i64 x4 x5 (by omega) (by omega)
    have hor2 : bits .or .u8 (x2 : Int) (x3 : Int) = ((x2 ||| x3 : Nat) : Int) := u8_or_nat _ _ (by omega) (by omega)
    obtain ⟨N, hN⟩ : ∃ N, x4 * 256 + x5 = N := ⟨_, rfl⟩
    rw [hN] at hor
    have HN := Lib.hid hN; clear hN
    have hi4 : (4 : Int) < (m : Int) := by omega
    have hi5 : (5 : Int) < (m : Int) := by omega
    have hi2 : (2 : Int) < (m : Int) := by omega
    have hi3 : (3 : Int) < (m : Int) := by omega
    have Hcw := Lib.hid hcw; have Hcell := Lib.hid hcell; clear hcw hcell
    have Hl := Lib.hid hl; clear hl
    by_cases h23 : x2 ≠ 0 ∨ x3 ≠ 0
    · rw [Hf1.out (by omega) (by omega)]
      have ht : (bits .or .u8 (x2 : Int) (x3 : Int) != 0) = true := by
        rw [hor2]
        have : x2 ||| x3 ≠ 0 := by rw [Ne, Nat.or_eq_zero_iff]; omega
        simp only [bne_iff_ne, ne_eq]; omega
      clear hor2 h23
      go_enter Try.func31, Try.ntmps31
      go_wp2_with fail
      go_quiet (fail)
      go_wp2_with fail
      go_quiet (fail)
      go_wp2_with fail
      exact bodyPost_ret (v := .tuple #[.agg #[.int .u16 0, .int .u8 0, .slice none 0 0], .int .i64 0, .int .i64 4]) (by simp [results, Try.results31, go_sem]) rfl ⟨_, _, _, rfl, Own.nil_ _ _ _ _, Ext.below (((((Ext.alloc _ _).drewN' _).set' (Nat.le_refl _) _).set' (Nat.le_refl _) _).set' (Nat.le_refl _) _)⟩
    · obtain ⟨rfl, rfl⟩ : x2 = 0 ∧ x3 = 0 := by omega
      have ht : (bits .or .u8 0 0 != 0) = false := rfl
      clear hor2 h23 hb2 hb3
      rcases Nat.lt_or_ge N 2 with hN2 | hN2
      · rw [Hf1.out (by omega) (by have := HN.out; omega)]
        have hd2 : decide ((N : Int) < 2) = true := by simp; omega
        go_enter Try.func31, Try.ntmps31
        go_wp2_with fail
        go_quiet (fail)
        go_wp2_with fail
        go_quiet (fail)
        go_wp2_with fail
        exact bodyPost_ret (v := .tuple #[.agg #[.int .u16 0, .int .u8 0, .slice none 0 0], .int .i64 0, .int .i64 4]) (by simp [results, Try.results31, go_sem]) rfl ⟨_, _, _, rfl, Own.nil_ _ _ _ _, Ext.below (((((Ext.alloc _ _).drewN' _).set' (Nat.le_refl _) _).set' (Nat.le_refl _) _).set' (Nat.le_refl _) _)⟩
      · rcases Nat.lt_or_ge 254 N with hN3 | hN3
        · rw [Hf1.out (by omega) (by have := HN.out; omega)]
          have hd2 : decide ((N : Int) < 2) = false := by simp; omega
          have hd3 : decide ((254 : Int) < (N : Int)) = true := by simp; omega
          go_enter Try.func31, Try.ntmps31
          go_wp2_with fail
          go_quiet (fail)
          go_wp2_with fail
          go_quiet (fail)
          go_wp2_with fail
          exact bodyPost_ret (v := .tuple #[.agg #[.int .u16 0, .int .u8 0, .slice none 0 0], .int .i64 0, .int .i64 4]) (by simp [results, Try.results31, go_sem]) rfl ⟨_, _, _, rfl, Own.nil_ _ _ _ _, Ext.below (((((Ext.alloc _ _).drewN' _).set' (Nat.le_refl _) _).set' (Nat.le_refl _) _).set' (Nat.le_refl _) _)⟩
        · have hd2 : decide ((N : Int) < 2) = false := by simp; omega
          have hd3 : decide ((254 : Int) < (N : Int)) = false := by simp; omega
          rcases Nat.lt_or_ge m (6 + N) with hmN | hmN
          · rw [Hf2.out (by omega) (by have := HN.out; omega) (by have := HN.out; omega)]
            go_enter Try.func31, Try.ntmps31
            go_wp2_with fail
            go_quiet (fail)
            go_wp2_with fail
            go_quiet (fail)
            go_wp2_with fail
            exact bodyPost_ret (v := .tuple #[.agg #[.int .u16 0, .int .u8 0, .slice none 0 0], .int .i64 0, .int .i64 1]) (by simp [results, Try.results31, go_sem]) rfl ⟨_, _, _, rfl, Own.nil_ _ _ _ _, Ext.below (((((Ext.alloc _ _).drewN' _).set' (Nat.le_refl _) _).set' (Nat.le_refl _) _).set' (Nat.le_refl _) _)⟩
          · have hf := Hf3.out (by omega) (by have := HN.out; omega) (by have := HN.out; omega)
            rw [HN.out, show at2 b 0 = (b.getD 0 0).toNat * 256 + (b.getD 1 0).toNat from rfl] at hf
            rw [hf]
            clear hf
            have c0 := Hcw.out 0 (by omega); have c1 := Hcw.out 1 (by omega); have c6 := Hcw.out 6 (by omega)
            have hb0 := (b.getD 0 0).toNat_lt; have hb1 := (b.getD 1 0).toNat_lt; have hb6 := (b.getD 6 0).toNat_lt
            rw [Nat.add_zero] at c0
            generalize hx0 : (b.getD 0 0).toNat = x0 at *; generalize hx1 : (b.getD 1 0).toNat = x1 at *
            generalize hy : b.getD 6 0 = y at *
            generalize hx6 : y.toNat = x6 at *
            have hor16 := or_u16' x0 x1 (by omega) (by omega)
            have Hy := Lib.hid hy; have Hx6 := Lib.hid hx6; have Hx0 := Lib.hid hx0; have Hx1 := Lib.hid hx1; clear hy hx6 hx0 hx1
            go_enter Try.func31, Try.ntmps31
            go_wp2_with fail
            go_quiet (fail)
            go_wp2_with fail
            go_quiet (fail)
            go_wp2_with fail
            clear c2 c3 c4 c5 hor ht hd2 hd3 hb4 hb5
            have hi0 : 0 < m := by omega
            have hi1 : (1 : Int) < (m : Int) := by omega
            have hi6 : (6 : Int) < (m : Int) := by omega
            have hs1 : IntKind.i64.wrap (6 + (N : Int)) = 6 + (N : Int) := IntWalk.i64_in _ (by omega)
            have hs2 : (7 : Int) ≤ 6 + (N : Int) := by omega
            have hs3 : 6 + (N : Int) ≤ (c : Int) := by omega
            have hc7 : ¬ c = 7 := by omega
            have hbk1 : ¬ bk = w.heap.size := by omega
            have hbk2 : ¬ w.heap.size = bk := by omega
            have hs4 : (6 + (N : Int)).toNat = 6 + N := by omega
            have hs5 : 6 + N - 7 = N - 1 := by omega
            have hF : ∀ k, (((w.alloc (.cells #[.int .u16 0, .int .u8 0, .slice none 0 0] 34)).drewN k).alloc (.cells #[] 5)).heap[w.heap.size]? = some (.cells #[.int .u16 0, .int .u8 0, .slice none 0 0] 34 (0, 0)) := fun k => ((Ext.draws _ k).trans (Ext.alloc _ _)).block (heap_alloc_new w _)
            have hown0 : ∀ k, Own (((w.alloc (.cells #[.int .u16 0, .int .u8 0, .slice none 0 0] 34)).drewN k).alloc (.cells #[] 5)) (w.heap.size + 1) 5 IsU8 (some ⟨w.heap.size + 1, 0, none⟩) 0 0 [] := fun k => by
              have h := Own.new (p := IsU8) (base := w.heap.size + 1) ((w.alloc (.cells #[.int .u16 0, .int .u8 0, .slice none 0 0] 34)).drewN k) (by simp) 5 #[] 0 (by simp) (by simp) (by simp)
              simpa using h
            have hr0 : ∀ k, Rd (((w.alloc (.cells #[.int .u16 0, .int .u8 0, .slice none 0 0] 34)).drewN k).alloc (.cells #[] 5)) (some ⟨bk, off + 7, none⟩) (N - 1) (((b.drop 7).take (N - 1)).map cB) := fun k => by
              have h := (Hr.out.cut (k := 7) (m := N - 1) (by omega)).ext ((Ext.alloc w (.cells #[.int .u16 0, .int .u8 0, .slice none 0 0] 34)).trans ((Ext.draws _ k).trans (Ext.alloc _ (.cells #[] 5))))
              rw [← List.map_drop, ← List.map_take] at h
              exact h
            have Hown0 := Lib.hid hown0; have Hr0 := Lib.hid hr0; have HF := Lib.hid hF; clear hown0 hr0 hF
            go_region_held3 (fun w' => w'.cell? ⟨bk, off, none⟩ = some (.int .u8 (x0 : Int)) ∧ w'.cell? ⟨bk, off + 1, none⟩ = some (.int .u8 (x1 : Int)) ∧ w'.cell? ⟨bk, off + 6, none⟩ = some (.int .u8 (x6 : Int))) (go_keep) ((refine step_u8 rfl (.tmp 56) (.tmp 60) rfl rfl (Hown0.out _) rfl (Hr0.out _) isU8_map (by omega) (by simp) ?_; intro A2 n2 w2 hown2 hg2 hb2; have hf2 := (hg2.block w.heap.size (by simp; omega) (by simp [blk])).trans (HF.out _); have hck : ∀ j, j < m → w2.cell? ⟨bk, off + j, none⟩ = some (.int .u8 ((b.getD j 0).toNat : Int)) := fun j hj => (World.cell?_of_block (a := ⟨bk, off + j, none⟩) (hg2.block bk (by simp; omega) (by simp [blk]; omega))).trans (((Ext.draws _ _).trans (Ext.alloc _ _)).cell (by simp; omega) (Hcw.out j hj)); have k0 := hck 0 (by omega); have k1 := hck 1 (by omega); have k6 := hck 6 (by omega); rw [Nat.add_zero] at k0; rw [Hx0.out] at k0; rw [Hx1.out] at k1; rw [Hy.out, Hx6.out] at k6; have d0 : w2.cell? ⟨w.heap.size, 0, none⟩ = some (.int .u16 0) := (cell_of_row _ _ _ _ _ _ hf2).trans rfl; have d1 : w2.cell? ⟨w.heap.size, 1, none⟩ = some (.int .u8 0) := (cell_of_row _ _ _ _ _ _ hf2).trans rfl; have d2 : w2.cell? ⟨w.heap.size, 2, none⟩ = some (.slice none 0 0) := (cell_of_row _ _ _ _ _ _ hf2).trans rfl; have e0 := frozen_of_row w2 w.heap.size 0 _ _ hf2; have e1 := frozen_of_row w2 w.heap.size 1 _ _ hf2; have e2 := frozen_of_row w2 w.heap.size 2 _ _ hf2; rw [Nat.zero_add]; rw [Nat.zero_add, List.nil_append] at hown2; have Hown2 := Lib.hid hown2; have Hg2 := Lib.hid hg2; clear hown2 hg2 hb2 hf2 hck))
            go_wp2_with fail
            refine bodyPost_ret (v := .tuple #[.agg #[.int .u16 ((x0 : Int) * 256 + (x1 : Int)), .int .u8 (x6 : Int), .slice A2 (N - 1) n2], .int .i64 (6 + (N : Int)), .int .i64 0]) (by simp [results, Try.results31, go_sem, d0, d1, d2]) rfl ⟨A2, N - 1, n2, ?_, ?_, ?_⟩
            · simp [Hx6.out]
            · exact (((Hown2.out.set_below (by simp) _).set_below (by simp) _).set_below (by simp) _).mono (by omega)
            · exact Ext.below ((((((((Ext.alloc _ _).drewN' _).alloc' _).grown' Hg2.out (by intro k hk; simp [blk] at hk; omega)).set' (Nat.le_refl _) _).set' (Nat.le_refl _) _).set' (Nat.le_refl _) _))
end Go.Proofs.Ytemiahjdacckgaa
