/- The walk of ReplyBack: for every input true. (genrepl.py prints this.) -/
import Derived.Test.YtpjmhckdeeonbaaRepEx
import Derived.Test.YtpjmhckdeeonbaaPick
import Derived.Deep.RegionHeld3
namespace Go.Proofs.Ytpjmhckdeeonbaa
set_option linter.unusedVariables false
set_option linter.unusedSimpArgs false
set_option maxRecDepth 100000
set_option maxHeartbeats 2000000
open Go Go.RowKit Go.Out

theorem step_b8 {ops : Array Oper} {o : Oper} {a : Act} {w : World} {K : Act → World → Prop} {Q : Exit → Act → World → Prop} {E : Prop} (hgd : o.guard = none) (s x : Operand)
    (ho : o.op = .call { callee := .builtin .append, args := #[s, x], argTypes := #[36, 36] })
    {base : Nat} {A : Option Addr} {n c : Nat} {xs : List Value} (hs : a.eval s = .slice A n c) (hown : Own w base 5 IsU8 A n c xs)
    {A' : Option Addr} {m c' : Nat} {news : List Value} (hx : a.eval x = .slice A' m c') (hr : Rd w A' m news) (hnp : ∀ u ∈ news, IsU8 u) (hsz : n + m ≤ 140737488355328) (hbase : base ≤ w.heap.size)
    (h : ∀ A1 c1 w1, Own w1 base 5 IsU8 A1 (n + m) c1 (xs ++ news) → w.grownBy w1 (blk A) → (blk A1 = blk A ∨ blk A1 = some w.heap.size) → K (a.put o.dst (.slice A1 (n + m) c1)) w1) :
    if Region.wanted o (yielded ops a.tmps) = true then Oper.wp Try.prog o a w K Q else E :=
  step_append_Own hgd s x _ ho IsU8 base _ (.int .u8 0) 1 Try.underlying36 info_u8 rfl ⟨0, rfl⟩ (fun _ => isU8_one) A n c xs hs hown A' m c' news hx hr hnp (by omega) (by omega) hbase h
theorem back_long (code addr count exc : Int) (A1 A2 A3 B1 B2 B3 : Option Addr) (n1 c1 n2 c2 n3 c3 m1 k1 m2 k2 m3 k3 : Nat) (cut : Int) (mo : UInt8) (w : World) (HL : Hid (∀ W, Ext w W → Calls Try.prog 14 #[.agg #[.int .i64 code, .int .i64 addr, .int .i64 count, .slice A1 n1 c1, .slice A2 n2 c2, .slice A3 n3 c3], .agg #[.int .i64 exc, .slice B1 m1 k1, .slice B2 m2 k2, .slice B3 m3 k3]] W (RetQ W true))) :
    Calls Try.prog 6 #[.agg #[.int .i64 code, .int .i64 addr, .int .i64 count, .slice A1 n1 c1, .slice A2 n2 c2, .slice A3 n3 c3], .agg #[.int .i64 exc, .slice B1 m1 k1, .slice B2 m2 k2, .slice B3 m3 k3], .int .i64 cut, .int .u8 (mo.toNat : Int)] w (RetQ w true) := by
  go_enter Try.func6, Try.ntmps6
  go_wp2_with fail
  refine (HL.out _ ((Ext.alloc _ _).trans (Ext.alloc _ _))).mono ?_
  rintro e w1 ⟨rfl, hx⟩
  have Z := Lib.hid (show Ext w w1 from ((Ext.alloc _ _).trans (Ext.alloc _ _)).trans hx)
  have BA := Lib.hid (show w1.heap[w.heap.size]? = some (.cells #[.int .i64 code, .int .i64 addr, .int .i64 count, .slice A1 n1 c1, .slice A2 n2 c2, .slice A3 n3 c3] 26 (0, 0)) from hx.block ((Ext.alloc _ _).block (heap_at _ _ _ (by simp))))
  have BR := Lib.hid (show w1.heap[w.heap.size + 1]? = some (.cells #[.int .i64 exc, .slice B1 m1 k1, .slice B2 m2 k2, .slice B3 m3 k3] 29 (0, 0)) from hx.block (heap_at _ _ _ (by simp)))
  have X := Lib.hid Z.out
  clear hx Z
  obtain ⟨d0, d1, d2, d3, d4, d5⟩ := cells6 BA.out
  obtain ⟨g0, g1, g2, g3⟩ := cells4 BR.out
  go_wp2_with fail
  refine (works04_any _).mono ?_
  rintro e w2 ⟨rfl, hx⟩
  have Z := Lib.hid (show Ext w1 w2 from hx)
  replace BA := Lib.hid (Z.out.block BA.out)
  replace BR := Lib.hid (Z.out.block BR.out)
  replace X := Lib.hid (X.out.trans Z.out)
  clear d0 d1 d2 d3 d4 d5 g0 g1 g2 g3
  clear hx Z
  obtain ⟨d0, d1, d2, d3, d4, d5⟩ := cells6 BA.out
  obtain ⟨g0, g1, g2, g3⟩ := cells4 BR.out
  go_wp2_with fail
  go_ret
  exact ⟨rfl, X.out⟩
theorem back_bad (code addr count exc : Int) (A1 A2 A3 B1 B2 B3 : Option Addr) (n1 c1 n2 c2 n3 c3 m1 k1 m2 k2 m3 k3 : Nat) (cut : Int) (mo : UInt8) (w : World) (K : Int) (hK : (K != 0) = true) (hee : (K == K) = true) (HL : Hid (∀ W, Ext w W → Calls Try.prog 14 #[.agg #[.int .i64 code, .int .i64 addr, .int .i64 count, .slice A1 n1 c1, .slice A2 n2 c2, .slice A3 n3 c3], .agg #[.int .i64 exc, .slice B1 m1 k1, .slice B2 m2 k2, .slice B3 m3 k3]] W (RetQ W false)))(HPT : Hid (∀ W, Ext w W → Calls Try.prog 20 #[.agg #[.int .i64 code, .int .i64 addr, .int .i64 count, .slice A1 n1 c1, .slice A2 n2 c2, .slice A3 n3 c3], .agg #[.int .i64 exc, .slice B1 m1 k1, .slice B2 m2 k2, .slice B3 m3 k3]] W (RetU W [] K)))(HCK : Hid (∀ W, Ext w W → Calls Try.prog 15 #[.agg #[.int .i64 code, .int .i64 addr, .int .i64 count, .slice A1 n1 c1, .slice A2 n2 c2, .slice A3 n3 c3], .agg #[.int .i64 exc, .slice B1 m1 k1, .slice B2 m2 k2, .slice B3 m3 k3]] W (RetI W K))) :
    Calls Try.prog 6 #[.agg #[.int .i64 code, .int .i64 addr, .int .i64 count, .slice A1 n1 c1, .slice A2 n2 c2, .slice A3 n3 c3], .agg #[.int .i64 exc, .slice B1 m1 k1, .slice B2 m2 k2, .slice B3 m3 k3], .int .i64 cut, .int .u8 (mo.toNat : Int)] w (RetQ w true) := by
  go_enter Try.func6, Try.ntmps6
  go_wp2_with fail
  refine (HL.out _ ((Ext.alloc _ _).trans (Ext.alloc _ _))).mono ?_
  rintro e w1 ⟨rfl, hx⟩
  have Z := Lib.hid (show Ext w w1 from ((Ext.alloc _ _).trans (Ext.alloc _ _)).trans hx)
  have BA := Lib.hid (show w1.heap[w.heap.size]? = some (.cells #[.int .i64 code, .int .i64 addr, .int .i64 count, .slice A1 n1 c1, .slice A2 n2 c2, .slice A3 n3 c3] 26 (0, 0)) from hx.block ((Ext.alloc _ _).block (heap_at _ _ _ (by simp))))
  have BR := Lib.hid (show w1.heap[w.heap.size + 1]? = some (.cells #[.int .i64 exc, .slice B1 m1 k1, .slice B2 m2 k2, .slice B3 m3 k3] 29 (0, 0)) from hx.block (heap_at _ _ _ (by simp)))
  have X := Lib.hid Z.out
  clear hx Z
  obtain ⟨d0, d1, d2, d3, d4, d5⟩ := cells6 BA.out
  obtain ⟨g0, g1, g2, g3⟩ := cells4 BR.out
  go_wp2_with fail
  refine (HPT.out _ X.out).mono ?_
  rintro e w2 ⟨A5, n5, c5, rfl, ho5, hx⟩
  have Z := Lib.hid (show Ext w1 w2 from hx)
  replace BA := Lib.hid (Z.out.block BA.out)
  replace BR := Lib.hid (Z.out.block BR.out)
  replace X := Lib.hid (X.out.trans Z.out)
  obtain rfl : n5 = 0 := by have h1 := ho5.len; simp at h1; omega
  clear ho5
  clear d0 d1 d2 d3 d4 d5 g0 g1 g2 g3
  clear hx Z
  obtain ⟨d0, d1, d2, d3, d4, d5⟩ := cells6 BA.out
  obtain ⟨g0, g1, g2, g3⟩ := cells4 BR.out
  go_wp2_with fail
  refine (HCK.out _ X.out).mono ?_
  rintro e w3 ⟨rfl, hx⟩
  have Z := Lib.hid (show Ext w2 w3 from hx)
  replace BA := Lib.hid (Z.out.block BA.out)
  replace BR := Lib.hid (Z.out.block BR.out)
  replace X := Lib.hid (X.out.trans Z.out)
  clear d0 d1 d2 d3 d4 d5 g0 g1 g2 g3
  clear hx Z
  obtain ⟨d0, d1, d2, d3, d4, d5⟩ := cells6 BA.out
  obtain ⟨g0, g1, g2, g3⟩ := cells4 BR.out
  go_wp2_with fail
  refine (works04_any _).mono ?_
  rintro e w4 ⟨rfl, hx⟩
  have Z := Lib.hid (show Ext w3 w4 from hx)
  replace BA := Lib.hid (Z.out.block BA.out)
  replace BR := Lib.hid (Z.out.block BR.out)
  replace X := Lib.hid (X.out.trans Z.out)
  clear d0 d1 d2 d3 d4 d5 g0 g1 g2 g3
  clear hx Z
  obtain ⟨d0, d1, d2, d3, d4, d5⟩ := cells6 BA.out
  obtain ⟨g0, g1, g2, g3⟩ := cells4 BR.out
  go_wp2_with fail
  go_ret
  exact ⟨rfl, X.out⟩
theorem back_ok (code addr count exc : Int) (A1 A2 A3 B1 B2 B3 : Option Addr) (n1 c1 n2 c2 n3 c3 m1 k1 m2 k2 m3 k3 : Nat) (cut : Int) (mo : UInt8) (w : World) (rr : RepD) (hre : rr.exc = exc) (xs : List UInt8) (n : Nat) (hn : xs.length = n) (hn2 : 2 ≤ n) (hn3 : n ≤ 253) (HL : Hid (∀ W, Ext w W → Calls Try.prog 14 #[.agg #[.int .i64 code, .int .i64 addr, .int .i64 count, .slice A1 n1 c1, .slice A2 n2 c2, .slice A3 n3 c3], .agg #[.int .i64 exc, .slice B1 m1 k1, .slice B2 m2 k2, .slice B3 m3 k3]] W (RetQ W false)))(HPT : Hid (∀ W, Ext w W → Calls Try.prog 20 #[.agg #[.int .i64 code, .int .i64 addr, .int .i64 count, .slice A1 n1 c1, .slice A2 n2 c2, .slice A3 n3 c3], .agg #[.int .i64 exc, .slice B1 m1 k1, .slice B2 m2 k2, .slice B3 m3 k3]] W (RetU W xs 0)))(HG : Hid (∀ W A c, Ext w W → n ≤ c → c ≤ 9223372036854775807 → Rd W A n ((xs).map cB) → Calls Try.prog 28 #[.agg #[.int .i64 code, .int .i64 addr, .int .i64 count, .slice A1 n1 c1, .slice A2 n2 c2, .slice A3 n3 c3], .slice A n c] W (RetGR W (rr, 0))))(HGT : Hid (∀ W A k c, Ext w W → k < n → k ≤ c → c ≤ 9223372036854775807 → Rd W A k ((xs.take k).map cB) → Calls Try.prog 28 #[.agg #[.int .i64 code, .int .i64 addr, .int .i64 count, .slice A1 n1 c1, .slice A2 n2 c2, .slice A3 n3 c3], .slice A k c] W (RetGR W (rep0, 1))))(HGM : Hid (∀ W A c, Ext w W → (n + 1) ≤ c → c ≤ 9223372036854775807 → Rd W A (n + 1) ((xs ++ [mo]).map cB) → Calls Try.prog 28 #[.agg #[.int .i64 code, .int .i64 addr, .int .i64 count, .slice A1 n1 c1, .slice A2 n2 c2, .slice A3 n3 c3], .slice A (n + 1) c] W (RetGR W (rep0, 2))))(HS : Hid (∀ W (s : RepS), Ext w W → RepRd W rr s → Calls Try.prog 24 #[repV rr s, .agg #[.int .i64 exc, .slice B1 m1 k1, .slice B2 m2 k2, .slice B3 m3 k3]] W (RetQ W true))) :
    Calls Try.prog 6 #[.agg #[.int .i64 code, .int .i64 addr, .int .i64 count, .slice A1 n1 c1, .slice A2 n2 c2, .slice A3 n3 c3], .agg #[.int .i64 exc, .slice B1 m1 k1, .slice B2 m2 k2, .slice B3 m3 k3], .int .i64 cut, .int .u8 (mo.toNat : Int)] w (RetQ w true) := by
  have HN := Lib.hid hn
  clear hn
  obtain ⟨rexc, ron, rset, rfiles⟩ := rr
  simp only at hre
  subst hre
  simp only [repV] at HS
  have HP := Lib.hid (fun W => pick_any cut n W (by omega) (by omega))
  go_enter Try.func6, Try.ntmps6
  go_wp2_with fail
  refine (HL.out _ ((Ext.alloc _ _).trans (Ext.alloc _ _))).mono ?_
  rintro e w1 ⟨rfl, hx⟩
  have Z := Lib.hid (show Ext w w1 from ((Ext.alloc _ _).trans (Ext.alloc _ _)).trans hx)
  have BA := Lib.hid (show w1.heap[w.heap.size]? = some (.cells #[.int .i64 code, .int .i64 addr, .int .i64 count, .slice A1 n1 c1, .slice A2 n2 c2, .slice A3 n3 c3] 26 (0, 0)) from hx.block ((Ext.alloc _ _).block (heap_at _ _ _ (by simp))))
  have BR := Lib.hid (show w1.heap[w.heap.size + 1]? = some (.cells #[.int .i64 rexc, .slice B1 m1 k1, .slice B2 m2 k2, .slice B3 m3 k3] 29 (0, 0)) from hx.block (heap_at _ _ _ (by simp)))
  have X := Lib.hid Z.out
  have BA1 := BA
  have X1 := X
  have Y := Lib.hid (Ext.refl w1)
  clear hx Z
  obtain ⟨d0, d1, d2, d3, d4, d5⟩ := cells6 BA.out
  obtain ⟨g0, g1, g2, g3⟩ := cells4 BR.out
  go_wp2_with fail
  refine (HPT.out _ X.out).mono ?_
  rintro e w2 ⟨A5, n5, c5, rfl, ho5, hx⟩
  have Z := Lib.hid (show Ext w1 w2 from hx)
  replace BA := Lib.hid (Z.out.block BA.out)
  replace BR := Lib.hid (Z.out.block BR.out)
  replace X := Lib.hid (X.out.trans Z.out)
  replace Y := Lib.hid (Y.out.trans Z.out)
  obtain rfl : n5 = n := by have h1 := ho5.len; have h2 := HN.out; simp at h1; omega
  have hc5 := ho5.cap
  have hk5 := ho5.capLe
  have HO := Lib.hid ho5
  clear ho5
  clear d0 d1 d2 d3 d4 d5 g0 g1 g2 g3
  clear hx Z
  obtain ⟨d0, d1, d2, d3, d4, d5⟩ := cells6 BA.out
  obtain ⟨g0, g1, g2, g3⟩ := cells4 BR.out
  go_wp2_with fail
  refine (HG.out _ A5 c5 X.out hc5 hk5 HO.out.rd).mono ?_
  rintro e w3 ⟨t, rfl, how, hx⟩
  have Z := Lib.hid (show Ext w2 w3 from hx)
  replace BA := Lib.hid (Z.out.block BA.out)
  replace BR := Lib.hid (Z.out.block BR.out)
  replace X := Lib.hid (X.out.trans Z.out)
  replace HO := Lib.hid (HO.out.ext Z.out)
  replace Y := Lib.hid (Y.out.trans Z.out)
  have HW := Lib.hid how.rd
  clear how
  obtain ⟨E1, p1, q1, E2, p2, q2, E3, p3, q3⟩ := t
  simp only [repV]
  clear d0 d1 d2 d3 d4 d5 g0 g1 g2 g3
  clear hx Z
  obtain ⟨d0, d1, d2, d3, d4, d5⟩ := cells6 BA.out
  have da0 := fun o : Obj => (cells6 ((Ext.alloc _ o).block BA.out)).1
  have da1 := fun o : Obj => (cells6 ((Ext.alloc _ o).block BA.out)).2.1
  have da2 := fun o : Obj => (cells6 ((Ext.alloc _ o).block BA.out)).2.2.1
  have da3 := fun o : Obj => (cells6 ((Ext.alloc _ o).block BA.out)).2.2.2.1
  have da4 := fun o : Obj => (cells6 ((Ext.alloc _ o).block BA.out)).2.2.2.2.1
  have da5 := fun o : Obj => (cells6 ((Ext.alloc _ o).block BA.out)).2.2.2.2.2
  obtain ⟨g0, g1, g2, g3⟩ := cells4 BR.out
  have ga0 := fun o : Obj => (cells4 ((Ext.alloc _ o).block BR.out)).1
  have ga1 := fun o : Obj => (cells4 ((Ext.alloc _ o).block BR.out)).2.1
  have ga2 := fun o : Obj => (cells4 ((Ext.alloc _ o).block BR.out)).2.2.1
  have ga3 := fun o : Obj => (cells4 ((Ext.alloc _ o).block BR.out)).2.2.2
  go_wp2_with fail
  refine (HS.out _ ⟨E1, p1, q1, E2, p2, q2, E3, p3, q3⟩ (X.out.trans (Ext.alloc _ _)) (HW.out.ext (Ext.alloc _ _))).mono ?_
  rintro e w4 ⟨rfl, hx⟩
  have Z := Lib.hid (show Ext w3 w4 from (Ext.alloc _ _).trans hx)
  replace BA := Lib.hid (Z.out.block BA.out)
  replace BR := Lib.hid (Z.out.block BR.out)
  have BX := Lib.hid (show w4.heap[w3.heap.size]? = some (.cells #[.int .i64 rexc, .slice E1 p1 q1, .slice E2 p2 q2, .slice E3 p3 q3] 29 (0, 0)) from hx.block (heap_at _ _ _ (by simp)))
  replace X := Lib.hid (X.out.trans Z.out)
  replace HO := Lib.hid (HO.out.ext Z.out)
  replace HW := Lib.hid (HW.out.ext Z.out)
  replace Y := Lib.hid (Y.out.trans Z.out)
  clear d0 d1 d2 d3 d4 d5 da0 da1 da2 da3 da4 da5 g0 g1 g2 g3 ga0 ga1 ga2 ga3
  clear hx Z
  obtain ⟨d0, d1, d2, d3, d4, d5⟩ := cells6 BA.out
  have HSS := Lib.hid (fun (W : World) (hX : Ext w1 W) => (show W.cell? ⟨w.heap.size, 0, none⟩ = some (.int .i64 code) ∧ W.cell? ⟨w.heap.size, 1, none⟩ = some (.int .i64 addr) ∧ W.cell? ⟨w.heap.size, 2, none⟩ = some (.int .i64 count) ∧ W.cell? ⟨w.heap.size, 3, none⟩ = some (.slice A1 n1 c1) ∧ W.cell? ⟨w.heap.size, 4, none⟩ = some (.slice A2 n2 c2) ∧ W.cell? ⟨w.heap.size, 5, none⟩ = some (.slice A3 n3 c3) from cells6 (hX.block BA1.out)))
  go_wp2_with fail
  go_region_held3 (fun W => W.cell? ⟨w.heap.size, 0, none⟩ = some (.int .i64 code) ∧ W.cell? ⟨w.heap.size, 1, none⟩ = some (.int .i64 addr) ∧ W.cell? ⟨w.heap.size, 2, none⟩ = some (.int .i64 count) ∧ W.cell? ⟨w.heap.size, 3, none⟩ = some (.slice A1 n1 c1) ∧ W.cell? ⟨w.heap.size, 4, none⟩ = some (.slice A2 n2 c2) ∧ W.cell? ⟨w.heap.size, 5, none⟩ = some (.slice A3 n3 c3)) (first | with_reducible exact HSS.out _ (Y.out.trans (Ext.draw _)) | with_reducible exact HSS.out _ Y5.out | go_keep) ((first
    | (go_at_call 32
       with_reducible refine Calls.mono (HP.out _) ?_
       rintro e v_ ⟨p, hpn, rfl, rfl⟩
       have hp2 : (p : Int) ≤ (c5 : Int) := by omega
       have HRT := Lib.hid (show Rd w4.drew A5 p ((xs.take p).map cB) by rw [List.map_take]; exact (HO.out.rd.ext (Ext.draw _)).take (by omega)))
    | (go_at_call 28
       with_reducible refine Calls.mono (HGT.out _ A5 p c5 (X.out.trans (Ext.draw _)) hpn (by omega) hk5 HRT.out) ?_
       rintro e w5 ⟨⟨G1, r1, u1, G2, r2, u2, G3, r3, u3⟩, rfl, how, hx⟩
       have Y5 := Lib.hid (Y.out.trans ((Ext.draw _).trans hx))
       have X5 := Lib.hid (X.out.trans ((Ext.draw _).trans hx))
       have HO5 := Lib.hid (HO.out.ext ((Ext.draw _).trans hx))
       clear how hx)
    | fail))
  clear d0 d1 d2 d3 d4 d5
  obtain ⟨d0, d1, d2, d3, d4, d5⟩ := HSS.out _ Y5.out
  have HLT := Lib.hid (fun (W : World) (g : Nat) (hg : g = W.heap.size) => (show Rd (W.alloc (.cells #[.int .u8 (mo.toNat : Int)] 5)) (some ⟨g, 0, none⟩) 1 (([mo] : List UInt8).map cB) from Rd.of_heap (ys := []) (heap_at _ _ _ hg) rfl rfl))
  go_wp2_with fail
  go_region_held3 (fun W => W.cell? ⟨w.heap.size, 0, none⟩ = some (.int .i64 code) ∧ W.cell? ⟨w.heap.size, 1, none⟩ = some (.int .i64 addr) ∧ W.cell? ⟨w.heap.size, 2, none⟩ = some (.int .i64 count) ∧ W.cell? ⟨w.heap.size, 3, none⟩ = some (.slice A1 n1 c1) ∧ W.cell? ⟨w.heap.size, 4, none⟩ = some (.slice A2 n2 c2) ∧ W.cell? ⟨w.heap.size, 5, none⟩ = some (.slice A3 n3 c3)) (first | with_reducible exact HSS.out _ (Y5.out.trans (Ext.draw _)) | with_reducible exact HSS.out _ (Y5.out.trans ((Ext.draw _).trans (Ext.alloc _ _))) | with_reducible exact HSS.out _ Y6.out | with_reducible exact HSS.out _ Y7.out | go_keep) ((first
    | (refine step_b8 rfl (.tmp 77) (.tmp 79) rfl rfl (HO5.out.ext ((Ext.draw _).trans (Ext.alloc _ _))) rfl (HLT.out _ _ (by simp)) isU8_map (by omega) (by have := HO5.out; simp; exact Nat.le_trans Y5.out.size (Nat.le_succ _)) ?_
       intro A6 c6 w6 hown hg hbk
       rw [← List.map_append] at hown
       have HO6 := Lib.hid hown
       have X6 := Lib.hid ((X5.out.trans ((Ext.draw _).trans (Ext.alloc _ _))).grown' hg (fun g e => Nat.le_trans X1.out.size (HO5.out.lt g e).1))
       have Y6 := Lib.hid ((Y5.out.trans ((Ext.draw _).trans (Ext.alloc _ _))).grown' hg (fun g e => (HO5.out.lt g e).1))
       clear hown hg hbk)
    | (go_at_call 28
       with_reducible refine Calls.mono (HGM.out _ A6 c6 X6.out HO6.out.cap HO6.out.capLe HO6.out.rd) ?_
       rintro e w7 ⟨⟨G1', r1', u1', G2', r2', u2', G3', r3', u3'⟩, rfl, how, hx⟩
       have X7 := Lib.hid (X6.out.trans hx)
       have Y7 := Lib.hid (Y6.out.trans hx)
       clear how hx)
    | fail))
  clear d0 d1 d2 d3 d4 d5
  go_wp2_with fail
  refine (works04_any _).mono ?_
  rintro e w8 ⟨rfl, hx⟩
  go_wp2_with fail
  go_ret
  exact ⟨rfl, X7.out.trans hx⟩
theorem lawReplyBack (a : AskD) (s : AskS) (r : RepD) (t : RepS) (cut : Int) (m : Int) (w : World) (ha : AskRd w a s) (hr : RepRd w r t) (wfc : (Lit.int .i64 cut).wf = true) (wfm : (Lit.int .u8 m).wf = true) :
    Calls Try.prog 6 #[askV a s, repV r t, .int .i64 cut, .int .u8 m] w (RetQ w true) := by
  have hm := bounds_u8 wfm
  obtain ⟨mo, rfl⟩ : ∃ mo : UInt8, m = (mo.toNat : Int) := ⟨UInt8.ofNat m.toNat, by rw [toNat_ofNat8 (by omega)]; omega⟩
  have HL := Lib.hid (fun W (hX : Ext w W) => long04_any a r s t W (ha.ext hX) (hr.ext hX))
  generalize (decide (70000 < s.n1 ∨ 70000 < s.n2 ∨ 70000 < s.n3) || longR r) = P at HL
  cases P with
  | true => exact back_long _ _ _ _ _ _ _ _ _ _ _ _ _ _ _ _ _ _ _ _ _ _ cut mo w HL
  | false =>
    have HPT := Lib.hid (fun W (hX : Ext w W) => replyPut_any a r s t W (ha.ext hX) (hr.ext hX))
    by_cases hK : checkR a r = 0
    · obtain ⟨g1, g2, g3, g4⟩ := getR_putR hK
      have q1 := fun k (h : k < (putR a r).1.length) => getR_take hK h
      have q2 := getR_more hK (m := [mo]) (by simp)
      have HG := fun (xs : List UInt8) (R : RepD × Int) (hR : getR a xs = R) (W : World) (A : Option Addr) (c n : Nat) (hX : Ext w W) (h1 : n ≤ c) (h2 : c ≤ 9223372036854775807) (h3 : n ≤ 300) (h : Rd W A n (xs.map cB)) => (by
        have h5 := replyGet_any a xs s A n c W (ha.ext hX) h ⟨h1, h2⟩ (by omega)
        rwa [hR] at h5 : Calls Try.prog 28 #[askV a s, .slice A n c] W (RetGR W R))
      rw [g2] at HPT
      refine back_ok _ _ _ _ _ _ _ _ _ _ _ _ _ _ _ _ _ _ _ _ _ _ cut mo w r rfl (putR a r).1 _ rfl g3 g4 HL HPT (Lib.hid fun W A c hX h1 h2 h => HG _ _ g1 W A c _ hX h1 h2 (by omega) h)
        (Lib.hid fun W A k c hX hk h1 h2 h => HG _ _ (q1 k hk) W A c _ hX h1 h2 (by omega) h) (Lib.hid fun W A c hX h1 h2 h => HG _ _ q2 W A c _ hX h1 h2 (by omega) h) (Lib.hid fun W u hX h => same_reply r u t W h (hr.ext hX))
    · have HCK := Lib.hid (fun W (hX : Ext w W) => replyCheck_any a r s t W (ha.ext hX) (hr.ext hX))
      rw [putR_no hK] at HPT
      exact back_bad _ _ _ _ _ _ _ _ _ _ _ _ _ _ _ _ _ _ _ _ _ _ cut mo w _ (by simpa using hK) (by simp) HL HPT HCK
end Go.Proofs.Ytpjmhckdeeonbaa
