/- UnitKnown, the walk: the chapter's examples. -/
import Derived.Test.YtpjmhckdeeonbaaUnitLa2
namespace Go.Out
open Go Go.RowKit
def kn0 : UnitD := newU 17 10
def kn1 : UnitD := { newU 17 10 with t1 := [0, 0, 0, 0, 0, 0, 0, 0, 0, 1], wrote := 1 }
def kn2 : UnitD := { kn1 with t4 := [0, 0, 0, 0, 0, 0, 0, 0, 0, 65535] }
theorem kn0_ok : UnitOk kn0 := newU_ok (by decide) (by decide)
theorem kn1_ok : UnitOk kn1 := ⟨rfl, rfl, rfl, rfl, by decide, by decide⟩
theorem kn2_ok : UnitOk kn2 := ⟨rfl, rfl, rfl, rfl, by decide, by decide⟩
theorem dk1 : doU kn0 ⟨7, 0, 0, [], [], []⟩ = (kn0, ⟨1, [], [], []⟩) := by kernel_rfl
theorem dk2 : doU kn0 ⟨3, 8, 0, [], [], []⟩ = (kn0, ⟨3, [], [], []⟩) := by kernel_rfl
theorem dk3 : doU kn0 ⟨20, 0, 0, [], [], [⟨1, 0, 1⟩]⟩ = (kn0, ⟨1, [], [], []⟩) := by kernel_rfl
theorem dk4 : doU kn0 ⟨5, 9, 0, [true], [], []⟩ = (kn1, ⟨0, [], [], []⟩) := by kernel_rfl
theorem gk1 : getU kn1 1 9 = (1, 0) := by kernel_rfl
theorem gk2 : getU kn2 0 0 = (0, 28) := by kernel_rfl
theorem sk1 : setU kn1 5 0 0 = (kn1, 28) := by kernel_rfl
theorem sk2 : setU kn1 1 10 0 = (kn1, 21) := by kernel_rfl
theorem sk3 : setU kn1 1 0 2 = (kn1, 3) := by kernel_rfl
theorem sk4 : setU kn1 4 9 65535 = (kn2, 0) := by kernel_rfl
theorem sk5 : setU kn2 3 (-1) 0 = (kn2, 21) := by kernel_rfl
theorem hk_own {b : List UInt8} (h1 : 1 ≤ b.length) (h2 : b.length ≤ 253) : openRtuF (rtuF 17 b).1 = (17, b, 0) := (openRtu_rtu (rtu_fits.2 ⟨by decide, h1, h2⟩)).1
theorem hk1 : hearU kn2 (rtuF 17 [7]).1 = (kn2, (rtuF 17 [135, 1]).1) := by
  unfold hearU
  rw [hk_own (by decide) (by decide), if_neg (by decide), if_pos (by decide)]; rfl
theorem hk2 : hearU kn2 (rtuF 17 [3, 0]).1 = (kn2, (rtuF 17 [131, 3]).1) := by
  unfold hearU
  rw [hk_own (by decide) (by decide), if_neg (by decide), if_neg (by decide), if_pos (by decide)]; rfl
theorem hk3 : hearU kn2 (rtuF 17 [131, 2]).1 = (kn2, []) := by
  unfold hearU
  rw [hk_own (by decide) (by decide), if_pos (by decide)]
theorem hk4 : hearU kn2 (rtuF 18 [7]).1 = (kn2, []) := by
  unfold hearU
  rw [(openRtu_rtu (rtu_fits.2 ⟨by decide, by decide, by decide⟩ : (rtuF 18 [7]).2 = 0)).1, if_pos (by decide)]
theorem hk5 : hearU kn2 [1, 2, 3] = (kn2, []) := by
  unfold hearU
  rw [show openRtuF [1, 2, 3] = (0, [], 1) from rfl, if_pos (by decide)]
theorem rk0 : rtuF 17 [] = ([], 1) := by kernel_rfl
end Go.Out
namespace Go.Proofs.Ytpjmhckdeeonbaa
set_option linter.unusedVariables false
set_option linter.unusedSimpArgs false
set_option maxRecDepth 100000
set_option maxHeartbeats 1000000
open Go Go.RowKit Go.Out

theorem new_w (a z x : Int) (h : newE a z = x) (h0 : x ≠ 0) (w : World) : Calls Try.prog 43 #[.int .i64 a, .int .i64 z] w (fun e w' => e = .returned (.tuple #[.pointer none, .int .i64 x]) ∧ w = w') := by
  refine (new_u a z w).mono ?_
  subst h
  rintro e w' (⟨h, rfl, rfl⟩ | ⟨h, -⟩)
  · exact ⟨rfl, rfl⟩
  · exact absurd h h0
theorem set_v {u u' : UnitD} {s : UnitS} {w : World} (k i r : Int) (v : UInt16) (nv : Int) (hv : (v.toNat : Int) = nv) (hu : UnitOk u) (hs : setU u k i v = (u', r)) (h : UnitAt w s u) : Calls Try.prog 48 #[.pointer (some ⟨s.p, 0, none⟩), .int .i64 k, .int .i64 i, .int .u16 nv] w
    (fun e w' => e = .returned (.int .i64 r) ∧ UnitAt w' s u' ∧ OnlyU s w w') := by
  have h2 := set_u u s k i v w hu h
  rw [hs, hv] at h2
  exact h2
theorem get_v {u : UnitD} {s : UnitS} {w : World} (k i r : Int) (v : UInt16) (nv : Int) (hv : (v.toNat : Int) = nv) (hu : UnitOk u) (hs : getU u k i = (v, r)) (h : UnitAt w s u) : Calls Try.prog 46 #[.pointer (some ⟨s.p, 0, none⟩), .int .i64 k, .int .i64 i] w
    (fun e w' => e = .returned (.tuple #[.int .u16 nv, .int .i64 r]) ∧ w = w') := by
  have h2 := get_u u s k i w hu h
  unfold getV at h2
  rw [hs, hv] at h2
  exact h2
theorem hear_v {u u' : UnitD} {s : UnitS} {w : World} {b back : List UInt8} {A : Option Addr} {n c : Nat} (hs : hearU u b = (u', back)) (h : UnitAt w s u) (hu : UnitOk u) (hr : Rd w A n (b.map cB)) (hc : n ≤ c) (hwr : u.wrote < 4611686018427387904) : Calls Try.prog 40 #[.pointer (some ⟨s.p, 0, none⟩), .slice A n c] w
    (fun e w' => ∃ A n c, e = .returned (.slice A n c) ∧ Own w' w.heap.size 5 IsU8 A n c (back.map cB) ∧ UnitAt w' s u' ∧ OnlyU s w w') := by
  have h2 := hear_any u s b A n c w h hu hr hc hwr
  unfold RetH at h2
  rw [hs] at h2
  exact h2
theorem rtu_v {b : List UInt8} (x : UInt8) (nx : Int) (hx : (x.toNat : Int) = nx) {A : Option Addr} {m c : Nat} {w : World} (hr : Rd w A m (b.map cB)) (hm : m ≤ 140737488355200) : Calls Try.prog 49 #[.int .u8 nx, .slice A m c] w
    (fun e w' => ∃ A n c y, e = .returned (.tuple #[.slice A n c, .int .i64 y]) ∧ Own w' w.heap.size 5 IsU8 A n c ((rtuF x b).1.map cB) ∧ Ext w w') := by
  have h2 := rtu_any x b A m c w hr hm
  rw [hx] at h2
  refine h2.mono ?_
  rintro e w' ⟨A, n, c, rfl, ho, hb⟩
  exact ⟨A, n, c, _, rfl, ho, Ext.of hb⟩
theorem ask_on {w : World} {code addr count : Int} (h1 : i64P code) (h2 : i64P addr) (h3 : i64P count) {A : Option Addr} {n : Nat} {l : List Bool} (hr : Rd w A n (l.map cL)) (hn : n ≤ 9223372036854775807) : AskRd w ⟨code, addr, count, l, [], []⟩ ⟨A, n, n, none, 0, 0, none, 0, 0⟩ :=
  ⟨hr, Rd.nil_ _, RdL.nil_ _ _ _, h1, h2, h3, by simp [hn], by simp, by simp⟩
theorem ask_part {w : World} {g : Nat} {t : TypeId} (h : w.heap[g]? = some (.cells #[.int .i64 1, .int .i64 0, .int .i64 1] t (0, 0))) : AskRd w ⟨20, 0, 0, [], [], [⟨1, 0, 1⟩]⟩ ⟨none, 0, 0, none, 0, 0, some ⟨g, 0, none⟩, 1, 1⟩ := by
  refine ⟨Rd.nil_ _, Rd.nil_ _, ⟨rfl, fun _ => ⟨g, 0, rfl, lt_of_heap h, fun i x hx => ?_⟩⟩, by unfold i64P; decide, by unfold i64P; decide, by unfold i64P; decide, by simp, by simp, by simp⟩
  rcases i with _ | i
  · simp at hx
    subst hx
    refine ⟨[.int .i64 1, .int .i64 0, .int .i64 1], rfl, fun j u hu => ?_, rfl, by unfold i64P; decide, by unfold i64P; decide, by unfold i64P; decide⟩
    rw [Nat.zero_mul, Nat.zero_add, Nat.zero_add, cell_of_row _ _ _ _ _ _ h]
    simpa using hu
  · simp at hx
theorem al2 (w : World) (a b : Obj) : Ext w ((w.alloc a).alloc b) := (Ext.alloc w a).alloc' b
theorem al3 (w : World) (a b c : Obj) : Ext w (((w.alloc a).alloc b).alloc c) := (al2 w a b).alloc' c
theorem al4 (w : World) (a b c d : Obj) : Ext w ((((w.alloc a).alloc b).alloc c).alloc d) := (al3 w a b c).alloc' d
theorem al5 (w : World) (a b c d e : Obj) : Ext w (((((w.alloc a).alloc b).alloc c).alloc d).alloc e) := (al4 w a b c d).alloc' e
theorem al6 (w : World) (a b c d e f : Obj) : Ext w ((((((w.alloc a).alloc b).alloc c).alloc d).alloc e).alloc f) := (al5 w a b c d e).alloc' f
theorem al7 (w : World) (a b c d e f g : Obj) : Ext w (((((((w.alloc a).alloc b).alloc c).alloc d).alloc e).alloc f).alloc g) := (al6 w a b c d e f).alloc' g
/-- The two tables of UnitKnown, as they lie from block q on. -/
def KnRows (W : World) (q : Nat) : Prop :=
  W.heap[q]? = some (.cells #[.int .u8 7] 5 (0, 0)) ∧ W.heap[q + 1]? = some (.cells #[.int .u8 3, .int .u8 0] 5 (0, 0)) ∧ W.heap[q + 1 + 1]? = some (.cells #[.int .u8 131, .int .u8 2] 5 (0, 0)) ∧
  W.heap[q + 1 + 1 + 1]? = some (.cells #[.slice (some ⟨q, 0, none⟩) 1 1, .slice (some ⟨q + 1, 0, none⟩) 2 2, .slice (some ⟨q + 1 + 1, 0, none⟩) 2 2] 36 (0, 0)) ∧
  W.heap[q + 1 + 1 + 1 + 1]? = some (.cells #[.int .u8 135, .int .u8 1] 5 (0, 0)) ∧ W.heap[q + 1 + 1 + 1 + 1 + 1]? = some (.cells #[.int .u8 131, .int .u8 3] 5 (0, 0)) ∧
  W.heap[q + 1 + 1 + 1 + 1 + 1 + 1]? = some (.cells #[.slice (some ⟨q + 1 + 1 + 1 + 1, 0, none⟩) 2 2, .slice (some ⟨q + 1 + 1 + 1 + 1 + 1, 0, none⟩) 2 2, .slice none 0 0] 36 (0, 0))
theorem KnRows.keep {a b : World} {s : UnitS} {q B : Nat} (h : KnRows a q) (ho : OnlyU s a b) (hl : LtU s B) (hq : B ≤ q) : KnRows b q := by
  obtain ⟨r1, r2, r3, r4, r5, r6, r7⟩ := h
  exact ⟨ho.keep hl hq r1, ho.keep hl (by omega) r2, ho.keep hl (by omega) r3, ho.keep hl (by omega) r4, ho.keep hl (by omega) r5, ho.keep hl (by omega) r6, ho.keep hl (by omega) r7⟩
theorem own_only {s : UnitS} {a b : World} {B base n c : Nat} {t : TypeId} {p : Value → Prop} {A : Option Addr} {xs : List Value} (h : Own a base t p A n c xs) (ho : OnlyU s a b) (hl : LtU s B) (hB : B ≤ base) : Own b base t p A n c xs := by
  obtain ⟨l0, l1, l2, l3, l4⟩ := hl
  exact h.kept fun g hg => by
    obtain ⟨q1, q2⟩ := h.lt g hg
    exact ho.block g q2 (by omega) (by omega) (by omega) (by omega) (by omega)
theorem lawUnitKnown (w : World) : Calls Try.prog 12 #[] w (RetQ w true) := by
  have D1 := Lib.hid dk1; have D2 := Lib.hid dk2; have D3 := Lib.hid dk3; have D4 := Lib.hid dk4; have G1 := Lib.hid gk1; have G2 := Lib.hid gk2
  have S1 := Lib.hid sk1; have S2 := Lib.hid sk2; have S3 := Lib.hid sk3; have S4 := Lib.hid sk4; have S5 := Lib.hid sk5
  go_enter Try.func12, Try.ntmps12
  go_wp2_with fail
  refine (new_w 0 1 24 (by decide) (by decide) _).mono ?_
  rintro e w0 ⟨rfl, rfl⟩
  go_wp2_with fail
  refine (new_w 248 1 24 (by decide) (by decide) _).mono ?_
  rintro e w0 ⟨rfl, rfl⟩
  go_wp2_with fail
  refine (new_v 247 1024 _ (by decide) (by decide)).mono ?_
  rintro e w1 ⟨s0, rfl, -, hx1, -⟩
  have X1 := Lib.hid hx1
  clear hx1
  go_wp2_with fail
  refine (new_w 1 0 3 (by decide) (by decide) _).mono ?_
  rintro e w0 ⟨rfl, rfl⟩
  go_wp2_with fail
  refine (new_w 1 1025 3 (by decide) (by decide) _).mono ?_
  rintro e w0 ⟨rfl, rfl⟩
  go_wp2_with fail
  refine (new_v 17 10 _ (by decide) (by decide)).mono ?_
  rintro e w2 ⟨s, rfl, hU, hx2, hF⟩
  have U2 : Hid (UnitAt w2 s kn0) := hU; have X2 := Lib.hid (X1.out.trans hx2); have F2 : Hid (FromU w.heap.size s) := by
    obtain ⟨f0, f1, f2, f3, f4⟩ := hF
    have := X1.out.size
    exact ⟨by omega, by omega, by omega, by omega, by omega⟩
  have L2 : Hid (LtU s w2.heap.size) := hU.lt
  clear hU hx2 hF X1
  go_wp2_with fail
  have A0 := fun W (code addr : Int) (h1 : i64P code) (h2 : i64P addr) => (ask_set (w := W) (code := code) (addr := addr) (count := 0) (l := []) h1 h2 (by unfold i64P; decide) (Rd.nil_ _) (by decide))
  have HA0 := Lib.hid A0
  clear A0
  refine (do_v U2.out kn0_ok (by decide) (HA0.out _ 7 0 (by unfold i64P; decide) (by unfold i64P; decide)) D1.out).mono ?_
  rintro e w3 ⟨B1, m1, k1, B2, m2, k2, B3, m3, k3, rfl, -, u3, o3⟩
  have U3 := Lib.hid u3; have X3 := Lib.hid (OnlyU.ext o3 F2.out X2.out)
  have z3 : w2.heap.size ≤ w3.heap.size := o3.size
  clear u3 o3 U2
  have K3 := Lib.hid (heap_alloc_new w3 (.cells #[.int .i64 1, .slice B1 m1 k1, .slice B2 m2 k2, .slice B3 m3 k3] 29))
  go_wp2_with fail
  refine (do_v (U3.out.ext (Ext.alloc _ _)) kn0_ok (by decide) (HA0.out _ 3 8 (by unfold i64P; decide) (by unfold i64P; decide)) D2.out).mono ?_
  rintro e w4 ⟨C1, p1, q1, C2, p2, q2, C3, p3, q3, rfl, -, u4, o4⟩
  have U4 := Lib.hid u4; have X4 := Lib.hid (OnlyU.ext o4 F2.out (X3.out.trans (Ext.alloc _ _)))
  have z4 : w3.heap.size + 1 ≤ w4.heap.size := by have := o4.size; simpa using this
  have K4 := Lib.hid (o4.keep L2.out z3 K3.out)
  clear u4 o4 U3 K3
  have K4' := Lib.hid (heap_alloc_new w4 (.cells #[.int .i64 3, .slice C1 p1 q1, .slice C2 p2 q2, .slice C3 p3 q3] 29))
  go_wp2_with fail
  refine (do_v (U4.out.ext ((Ext.alloc _ _).trans (Ext.alloc _ _))) kn0_ok (by decide) (ask_part (heap_at _ _ _ (by simp))) D3.out).mono ?_
  rintro e w5 ⟨E1, a1, b1, E2, a2, b2, E3, a3, b3, rfl, -, u5, o5⟩
  have U5 := Lib.hid u5; have X5 := Lib.hid (OnlyU.ext o5 F2.out (X4.out.trans ((Ext.alloc _ _).trans (Ext.alloc _ _))))
  have z5 : w4.heap.size + 2 ≤ w5.heap.size := by have := o5.size; simpa using this
  have N3 := Lib.hid (o5.keep L2.out z3 (((Ext.alloc _ _).trans (Ext.alloc _ _)).block K4.out))
  have N4 := Lib.hid (o5.keep L2.out (by omega) ((Ext.alloc _ _).block K4'.out))
  clear u5 o5 U4 K4 K4'
  have N5 := Lib.hid (heap_alloc_new w5 (.cells #[.int .i64 1, .slice E1 a1 b1, .slice E2 a2 b2, .slice E3 a3 b3] 29))
  go_wp2_with fail
  refine (do_v (U5.out.ext ((Ext.alloc _ _).trans (Ext.alloc _ _))) kn0_ok (by decide) (ask_on (by unfold i64P; decide) (by unfold i64P; decide) (by unfold i64P; decide) (l := [true]) (Rd.lit _ [.bool true] _ _ 1 _ rfl (by simp)) (by decide)) D4.out).mono ?_
  rintro e w6 ⟨F1, c1, d1, F2', c2, d2, F3, c3, d3, rfl, -, u6, o6⟩
  have U6 := Lib.hid u6; have X6 := Lib.hid (OnlyU.ext o6 F2.out (X5.out.trans ((Ext.alloc _ _).trans (Ext.alloc _ _))))
  have z6 : w5.heap.size + 2 ≤ w6.heap.size := by have := o6.size; simpa using this
  have M3 := Lib.hid (o6.keep L2.out z3 (((Ext.alloc _ _).trans (Ext.alloc _ _)).block N3.out))
  have M4 := Lib.hid (o6.keep L2.out (by omega) (((Ext.alloc _ _).trans (Ext.alloc _ _)).block N4.out))
  have M5 := Lib.hid (o6.keep L2.out (by omega) ((Ext.alloc _ _).block N5.out))
  clear u6 o6 U5 N3 N4 N5
  have V3 := Lib.hid ((Ext.alloc w6 (.cells #[.int .i64 0, .slice F1 c1 d1, .slice F2' c2 d2, .slice F3 c3 d3] 29)).block M3.out)
  have V4 := Lib.hid ((Ext.alloc w6 (.cells #[.int .i64 0, .slice F1 c1 d1, .slice F2' c2 d2, .slice F3 c3 d3] 29)).block M4.out)
  have V5 := Lib.hid ((Ext.alloc w6 (.cells #[.int .i64 0, .slice F1 c1 d1, .slice F2' c2 d2, .slice F3 c3 d3] 29)).block M5.out)
  have V6 := Lib.hid (heap_alloc_new w6 (.cells #[.int .i64 0, .slice F1 c1 d1, .slice F2' c2 d2, .slice F3 c3 d3] 29))
  have UV := Lib.hid (U6.out.ext (Ext.alloc w6 (.cells #[.int .i64 0, .slice F1 c1 d1, .slice F2' c2 d2, .slice F3 c3 d3] 29)))
  have XV := Lib.hid (X6.out.trans (Ext.alloc w6 (.cells #[.int .i64 0, .slice F1 c1 d1, .slice F2' c2 d2, .slice F3 c3 d3] 29)))
  clear M3 M4 M5 U6 X6 X5 X4 X3 X2
  go_wp2_with fail
  generalize w6.alloc (.cells #[.int .i64 0, .slice F1 c1 d1, .slice F2' c2 d2, .slice F3 c3 d3] 29) = v at *
  refine (get_v 1 9 0 1 1 rfl kn1_ok G1.out UV.out).mono ?_
  rintro e w0 ⟨rfl, rfl⟩
  go_wp2_with fail
  refine (set_v 5 0 28 0 0 rfl kn1_ok S1.out UV.out).mono ?_
  rintro e w7 ⟨rfl, u7, o7⟩
  have U7 := Lib.hid u7; have O7 := Lib.hid o7
  clear u7 o7
  go_wp2_with fail
  refine (set_v 1 10 21 0 0 rfl kn1_ok S2.out U7.out).mono ?_
  rintro e w8 ⟨rfl, u8, o8⟩
  have U8 := Lib.hid u8; have O8 := Lib.hid (O7.out.trans o8)
  clear u8 o8
  go_wp2_with fail
  refine (set_v 1 0 3 2 2 rfl kn1_ok S3.out U8.out).mono ?_
  rintro e w9 ⟨rfl, u9, o9⟩
  have U9 := Lib.hid u9; have O9 := Lib.hid (O8.out.trans o9)
  clear u9 o9
  go_wp2_with fail
  refine (set_v 4 9 0 65535 65535 rfl kn1_ok S4.out U9.out).mono ?_
  rintro e w10 ⟨rfl, u10, o10⟩
  have U10 := Lib.hid u10; have O10 := Lib.hid (O9.out.trans o10)
  clear u10 o10
  go_wp2_with fail
  refine (set_v 3 (-1) 21 0 0 rfl kn2_ok S5.out U10.out).mono ?_
  rintro e w11 ⟨rfl, u11, o11⟩
  have U11 := Lib.hid u11; have O11 := Lib.hid (O10.out.trans o11)
  clear u11 o11
  go_wp2_with fail
  refine (get_v 0 0 28 0 0 rfl kn2_ok G2.out U11.out).mono ?_
  rintro e w0 ⟨rfl, rfl⟩
  have zv : w2.heap.size ≤ w6.heap.size := by omega
  obtain ⟨p30, -⟩ := cells4 (O11.out.keep L2.out z3 V3.out)
  obtain ⟨p40, -⟩ := cells4 (O11.out.keep L2.out (by omega) V4.out)
  obtain ⟨p50, -⟩ := cells4 (O11.out.keep L2.out (by omega) V5.out)
  obtain ⟨p60, -⟩ := cells4 (O11.out.keep L2.out zv V6.out)
  have HW := Lib.hid (show Calls Try.prog 39 #[.pointer (some ⟨s.p, 0, none⟩)] w11 (RetN w11 1) from writes_u kn2 s w11 U11.out)
  go_wp2_with fail
  refine HW.out.mono ?_
  rintro e w0 ⟨rfl, rfl⟩
  clear p30 p40 p50 p60 HW
  have X11 := Lib.hid (OnlyU.ext O11.out F2.out XV.out)
  have zz : w2.heap.size ≤ w11.heap.size := Nat.le_trans (Nat.le_trans zv (by have := lt_of_heap V6.out; omega)) O11.out.size
  go_wp2_with fail
  obtain ⟨Q, hQ⟩ : ∃ Q, w11.heap.size = Q := ⟨_, rfl⟩
  have HQ := Lib.hid hQ
  rw [hQ] at zz
  simp only [hQ]
  go_loopw [24, 25, 26, 27, 28] (fun i _ _ _ _ wr => ∃ k : Nat, k ≤ 3 ∧ i = .int .i64 (k : Int) ∧ Hid (UnitAt wr s kn2) ∧ Hid (OnlyU s w11 wr) ∧ Hid (KnRows wr Q)) (fun i _ _ _ _ _ => 3 - (intOf i).toNat)
  case atStart =>
    exact ⟨0, by omega, rfl, U11.out.ext (al7 _ _ _ _ _ _ _ _), .of_ext (al7 _ _ _ _ _ _ _ _), (al6 _ _ _ _ _ _ _).block (heap_at _ _ _ (by simp [hQ])), (al5 _ _ _ _ _ _).block (heap_at _ _ _ (by simp [hQ])), (al4 _ _ _ _ _).block (heap_at _ _ _ (by simp [hQ])),
      (al3 _ _ _ _).block (heap_at _ _ _ (by simp [hQ])), (al2 _ _ _).block (heap_at _ _ _ (by simp [hQ])), (Ext.alloc _ _).block (heap_at _ _ _ (by simp [hQ])), heap_at _ _ _ (by simp [hQ])⟩
  case round =>
    obtain ⟨k, hk, rfl, HU, HO, HR⟩ := hrel
    rcases Nat.lt_or_ge k 3 with hlt | hge
    · have h3 : k = 0 ∨ k = 1 ∨ k = 2 := by omega
      obtain ⟨r1, r2, r3, r4, r5, r6, r7⟩ := HR.out
      have zq : w11.heap.size ≤ wr.heap.size := HO.out.size
      rw [hQ] at zq
      rcases h3 with rfl | rfl | rfl
      · have c0 : wr.cell? ⟨Q + 1 + 1 + 1, 0, none⟩ = some (.slice (some ⟨Q, 0, none⟩) 1 1) := by rw [cell_of_row _ _ _ _ _ _ r4]; rfl
        have c1 : ∀ W, Ext wr W → W.cell? ⟨Q + 1 + 1 + 1 + 1 + 1 + 1, 0, none⟩ = some (.slice (some ⟨Q + 1 + 1 + 1 + 1, 0, none⟩) 2 2) := fun W hX => by rw [cell_of_row _ _ _ _ _ _ (hX.block r7)]; rfl
        have HC1 := Lib.hid c1
        have HI := Lib.hid (Rd.of_heap (ys := []) (xs := ([7] : List UInt8).map cB) r1 (by simp [cB]) rfl)
        have HJ := Lib.hid (Rd.of_heap (ys := []) (xs := ([135, 1] : List UInt8).map cB) r5 (by simp [cB]) rfl)
        clear c1 r1 r2 r3 r4 r5 r6 r7
        go_wp2_with fail
        refine (rtu_v 17 17 rfl HI.out (by simp)).mono ?_
        rintro e w12 ⟨A5, n5, c5, y5, rfl, ho5, hx5⟩
        have HO5 := Lib.hid ho5; have HX5 := Lib.hid hx5; have d0 := HC1.out _ hx5
        clear ho5 hx5 c0
        go_wp2_with fail
        refine (rtu_v (b := [135, 1]) 17 17 rfl (HJ.out.ext HX5.out) (by simp)).mono ?_
        rintro e w13 ⟨A6, n6, c6, y6, rfl, ho6, hx6⟩
        have HO6 := Lib.hid ho6; have HX6 := Lib.hid (HX5.out.trans hx6); have HO5' := Lib.hid (HO5.out.ext hx6)
        clear ho6 hx6 d0 HO5
        go_wp2_with fail
        refine (hear_v hk1 (HU.out.ext HX6.out) kn2_ok HO5'.out.rd HO5'.out.cap (by decide)).mono ?_
        rintro e w14 ⟨A7, n7, c7, rfl, ho7, hu7, hO7⟩
        have HU7 := Lib.hid hu7; have HON := Lib.hid ((OnlyU.of_ext HX6.out).trans hO7)
        have HSM := Lib.hid (same_any _ _ A7 A6 n7 n6 c7 c6 w14 ho7.rd (own_only HO6.out hO7 L2.out (Nat.le_trans (Nat.le_trans zz zq) HX5.out.size)).rd (by have := ho7.cap; have := ho7.capLe; unfold maxLen; omega))
        rw [decide_eq_true rfl] at HSM
        clear ho7 hu7 hO7
        go_wp2_with fail
        refine HSM.out.mono ?_
        rintro e w15 ⟨rfl, hb15⟩
        have HX15 := Lib.hid (Ext.of hb15)
        have HN15 := Lib.hid (HON.out.trans (.of_ext HX15.out))
        clear hb15
        go_wp2_with fail
        go_roundw
        case rel => exact ⟨1, by omega, by go_num, HU7.out.ext HX15.out, HO.out.trans HN15.out, HR.out.keep HN15.out L2.out (by omega)⟩
        case measure => simp [intOf]
      · have c0 : wr.cell? ⟨Q + 1 + 1 + 1, 1, none⟩ = some (.slice (some ⟨Q + 1, 0, none⟩) 2 2) := by rw [cell_of_row _ _ _ _ _ _ r4]; rfl
        have c1 : ∀ W, Ext wr W → W.cell? ⟨Q + 1 + 1 + 1 + 1 + 1 + 1, 1, none⟩ = some (.slice (some ⟨Q + 1 + 1 + 1 + 1 + 1, 0, none⟩) 2 2) := fun W hX => by rw [cell_of_row _ _ _ _ _ _ (hX.block r7)]; rfl
        have HC1 := Lib.hid c1
        have HI := Lib.hid (Rd.of_heap (ys := []) (xs := ([3, 0] : List UInt8).map cB) r2 (by simp [cB]) rfl)
        have HJ := Lib.hid (Rd.of_heap (ys := []) (xs := ([131, 3] : List UInt8).map cB) r6 (by simp [cB]) rfl)
        clear c1 r1 r2 r3 r4 r5 r6 r7
        go_wp2_with fail
        refine (rtu_v 17 17 rfl HI.out (by simp)).mono ?_
        rintro e w12 ⟨A5, n5, c5, y5, rfl, ho5, hx5⟩
        have HO5 := Lib.hid ho5; have HX5 := Lib.hid hx5; have d0 := HC1.out _ hx5
        clear ho5 hx5 c0
        go_wp2_with fail
        refine (rtu_v (b := [131, 3]) 17 17 rfl (HJ.out.ext HX5.out) (by simp)).mono ?_
        rintro e w13 ⟨A6, n6, c6, y6, rfl, ho6, hx6⟩
        have HO6 := Lib.hid ho6; have HX6 := Lib.hid (HX5.out.trans hx6); have HO5' := Lib.hid (HO5.out.ext hx6)
        clear ho6 hx6 d0 HO5
        go_wp2_with fail
        refine (hear_v hk2 (HU.out.ext HX6.out) kn2_ok HO5'.out.rd HO5'.out.cap (by decide)).mono ?_
        rintro e w14 ⟨A7, n7, c7, rfl, ho7, hu7, hO7⟩
        have HU7 := Lib.hid hu7; have HON := Lib.hid ((OnlyU.of_ext HX6.out).trans hO7)
        have HSM := Lib.hid (same_any _ _ A7 A6 n7 n6 c7 c6 w14 ho7.rd (own_only HO6.out hO7 L2.out (Nat.le_trans (Nat.le_trans zz zq) HX5.out.size)).rd (by have := ho7.cap; have := ho7.capLe; unfold maxLen; omega))
        rw [decide_eq_true rfl] at HSM
        clear ho7 hu7 hO7
        go_wp2_with fail
        refine HSM.out.mono ?_
        rintro e w15 ⟨rfl, hb15⟩
        have HX15 := Lib.hid (Ext.of hb15)
        have HN15 := Lib.hid (HON.out.trans (.of_ext HX15.out))
        clear hb15
        go_wp2_with fail
        go_roundw
        case rel => exact ⟨2, by omega, by go_num, HU7.out.ext HX15.out, HO.out.trans HN15.out, HR.out.keep HN15.out L2.out (by omega)⟩
        case measure => simp [intOf]
      · have c0 : wr.cell? ⟨Q + 1 + 1 + 1, 2, none⟩ = some (.slice (some ⟨Q + 1 + 1, 0, none⟩) 2 2) := by rw [cell_of_row _ _ _ _ _ _ r4]; rfl
        have c1 : ∀ W, Ext wr W → W.cell? ⟨Q + 1 + 1 + 1 + 1 + 1 + 1, 2, none⟩ = some (.slice none 0 0) := fun W hX => by rw [cell_of_row _ _ _ _ _ _ (hX.block r7)]; rfl
        have HC1 := Lib.hid c1
        have HI := Lib.hid (Rd.of_heap (ys := []) (xs := ([131, 2] : List UInt8).map cB) r3 (by simp [cB]) rfl)
        have HJ := Lib.hid (Rd.nil_ wr)
        clear c1 r1 r2 r3 r4 r5 r6 r7
        go_wp2_with fail
        refine (rtu_v 17 17 rfl HI.out (by simp)).mono ?_
        rintro e w12 ⟨A5, n5, c5, y5, rfl, ho5, hx5⟩
        have HO5 := Lib.hid ho5; have HX5 := Lib.hid hx5; have d0 := HC1.out _ hx5
        clear ho5 hx5 c0
        go_wp2_with fail
        refine (rtu_v (b := []) 17 17 rfl (HJ.out.ext HX5.out) (by simp)).mono ?_
        rintro e w13 ⟨A6, n6, c6, y6, rfl, ho6, hx6⟩
        rw [rk0] at ho6
        have HO6 := Lib.hid ho6; have HX6 := Lib.hid (HX5.out.trans hx6); have HO5' := Lib.hid (HO5.out.ext hx6)
        clear ho6 hx6 d0 HO5
        go_wp2_with fail
        refine (hear_v hk3 (HU.out.ext HX6.out) kn2_ok HO5'.out.rd HO5'.out.cap (by decide)).mono ?_
        rintro e w14 ⟨A7, n7, c7, rfl, ho7, hu7, hO7⟩
        have HU7 := Lib.hid hu7; have HON := Lib.hid ((OnlyU.of_ext HX6.out).trans hO7)
        have HSM := Lib.hid (same_any _ _ A7 A6 n7 n6 c7 c6 w14 ho7.rd (own_only HO6.out hO7 L2.out (Nat.le_trans (Nat.le_trans zz zq) HX5.out.size)).rd (by have := ho7.cap; have := ho7.capLe; unfold maxLen; omega))
        rw [decide_eq_true rfl] at HSM
        clear ho7 hu7 hO7
        go_wp2_with fail
        refine HSM.out.mono ?_
        rintro e w15 ⟨rfl, hb15⟩
        have HX15 := Lib.hid (Ext.of hb15)
        have HN15 := Lib.hid (HON.out.trans (.of_ext HX15.out))
        clear hb15
        go_wp2_with fail
        go_roundw
        case rel => exact ⟨3, by omega, by go_num, HU7.out.ext HX15.out, HO.out.trans HN15.out, HR.out.keep HN15.out L2.out (by omega)⟩
        case measure => simp [intOf]
    · have hk3 : k = 3 := by omega
      have hk3' : ¬ (k : Int) < 3 := by omega
      have HX11 := Lib.hid (OnlyU.ext (O11.out.trans HO.out) F2.out XV.out)
      go_wp2_with fail
      refine (rtu_v (b := [7]) 18 18 rfl (Rd.lit _ [.int .u8 7] _ _ 1 _ rfl (by simp)) (by simp)).mono ?_
      rintro e w12 ⟨A5, n5, c5, y5, rfl, ho5, hx5⟩
      have HO5 := Lib.hid ho5; have HX5 := Lib.hid ((Ext.alloc _ _).trans hx5)
      clear ho5 hx5
      go_wp2_with fail
      refine (hear_v hk4 (HU.out.ext HX5.out) kn2_ok HO5.out.rd HO5.out.cap (by decide)).mono ?_
      rintro e w13 ⟨A6, n6, c6, rfl, ho6, hu6, hO6⟩
      have HU6 := Lib.hid hu6; have HX6 := Lib.hid (OnlyU.ext hO6 F2.out (HX11.out.trans HX5.out))
      obtain rfl : n6 = 0 := by have := ho6.len; simpa using this.symm
      clear ho6 hu6 hO6
      go_wp2_with fail
      refine (hear_v hk5 (HU6.out.ext (Ext.alloc _ _)) kn2_ok (Rd.lit _ [.int .u8 1, .int .u8 2, .int .u8 3] _ _ 3 _ rfl (by simp)) (by decide) (by decide)).mono ?_
      rintro e w14 ⟨A7, n7, c7, rfl, ho7, hu7, hO7⟩
      have HX7 := Lib.hid (OnlyU.ext hO7 F2.out (HX6.out.trans (Ext.alloc _ _)))
      obtain rfl : n7 = 0 := by have := ho7.len; simpa using this.symm
      clear ho7 hu7 hO7
      have HKN := Lib.hid (known19_any w14)
      go_wp2_with fail
      refine HKN.out.mono ?_
      rintro e w15 ⟨rfl, hx15⟩
      go_wp2_with fail
      go_ret
      exact ⟨rfl, HX7.out.trans hx15⟩
end Go.Proofs.Ytpjmhckdeeonbaa
