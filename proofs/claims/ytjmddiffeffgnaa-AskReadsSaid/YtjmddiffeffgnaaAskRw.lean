/- The walk of AskReads: for every input true. -/
import Derived.Test.YtjmddiffeffgnaaAskSp
import Derived.Test.YtjmddiffeffgnaaAskSh
namespace Go.Proofs.Ytjmddiffeffgnaa
set_option linter.unusedVariables false
set_option linter.unusedSimpArgs false
set_option maxRecDepth 100000
set_option maxHeartbeats 1000000
open Go Go.RowKit Go.Out

theorem getA_parts (b : List UInt8) : (getA b).1.parts.length ≤ 4398046511104 := by
  by_cases h : (getA b).2 = 0
  · obtain ⟨-, -, -, -, hck⟩ := getA_zero h
    rcases Go.Out.ask_cases hck with ⟨_, _, _, _, _, _, _, _, e⟩ | ⟨_, _, _, e⟩ | ⟨_, _, _, e⟩ | ⟨_, _, _, _, _, e⟩ | ⟨_, _, _, _, _, e⟩ | ⟨l, _, hl, _, e⟩
    all_goals (rw [e]; simp only [List.length_nil]; omega)
  · rw [getA_err h]; simp [ask0]

theorem lawAskReads (b : List UInt8) (A : Option Addr) (n c : Nat) (w : World) (hr : Rd w A n (b.map cB)) (hnc : n ≤ c) (hm : c ≤ 9223372036854775807) (hb : c * 1 ≤ 140737488351232) : Calls Try.prog 7 #[.slice A n c] w (RetQ w true) := by
  have HB := Lib.hid (show n ≤ 140737488351232 by omega)
  have HGA := Lib.hid (fun B k W (h : Rd W B n (b.map cB)) (h1 : n ≤ k) (h2 : k ≤ 9223372036854775807) => askGet_any b B n k W h h1 h2 (by omega))
  have HGR := Lib.hid (fun W (hX : Ext w W) => ref3Get_any b A n c W (hr.ext hX) hnc hm (by omega))
  have Hr := Lib.hid hr; clear hr
  have hpl := getA_parts b
  generalize getA b = r at *
  obtain ⟨a, E⟩ := r
  have hee : (E != E) = false := by simp
  simp only at hpl
  go_enter Try.func7, Try.ntmps7
  go_wp2_with fail
  refine (lent_any b _ _ _ _ Hr.out (by have := HB.out; omega)).mono ?_
  rintro e w1 ⟨gx, curx, rfl, hgx, hhx, hcurx, hb1⟩
  have Hox := Lib.hid (lent_own hgx hhx hcurx Hr.out.length (by have := HB.out; omega))
  have hgxl := lt_of_heap hhx
  have Hhx := Lib.hid hhx; have Hcx := Lib.hid hcurx
  have X1 := Lib.hid (Ext.of hb1)
  clear hhx hcurx hb1
  go_wp2_with fail
  refine (HGA.out (some ⟨gx, 0, none⟩) (n + 5) w1 Hox.out.rd (by omega) (by have := HB.out; omega)).mono ?_
  rintro e w2 ⟨⟨B1, m1, k1, B2, m2, k2, B3, m3, k3⟩, rfl, hw2, hx2⟩
  have HW2 := Lib.hid hw2; have X2 := Lib.hid hx2
  clear hw2 hx2
  obtain ⟨code, addr, count, on, set, parts⟩ := a
  simp only [askV]
  go_wp2_with fail
  refine (HGR.out _ (X1.out.trans (X2.out.trans (Ext.alloc _ _)))).mono ?_
  rintro e w3 ⟨⟨C1, p1, q1, C2, p2, q2, C3, p3, q3⟩, rfl, hw3, hx3⟩
  have HW3 := Lib.hid hw3; have X3 := Lib.hid hx3
  obtain ⟨d0, d1, d2, d3, d4, d5⟩ := ask_cells _ hx3
  have D := fun o : Obj => ask_cells _ (hx3.trans (Ext.alloc w3 o))
  have D0 := fun o => (D o).1
  have D1 := fun o => (D o).2.1
  have D2 := fun o => (D o).2.2.1
  have D3 := fun o => (D o).2.2.2.1
  have D4 := fun o => (D o).2.2.2.2.1
  have D5 := fun o => (D o).2.2.2.2.2
  have HS := Lib.hid (fun o => sameAsk_eq ⟨code, addr, count, on, set, parts⟩ ⟨B1, m1, k1, B2, m2, k2, B3, m3, k3⟩ ⟨C1, p1, q1, C2, p2, q2, C3, p3, q3⟩ (w3.alloc o) (HW2.out.rd.ext ((Ext.alloc _ _).trans (X3.out.trans (Ext.alloc _ _)))) (HW3.out.rd.ext (Ext.alloc _ _))
    (by have := HW2.out.rd.cap1; simp only at this ⊢; omega) (by have := HW2.out.rd.cap2; simp only at this ⊢; omega) (by have := HW2.out.rd.n3; simp only at this ⊢; omega))
  have X23 := Lib.hid (fun o => ((Ext.alloc _ _).trans X3.out).trans (Ext.alloc w3 o))
  have HDD := Lib.hid (fun (o : Obj) (W : World) (h : Ext (w3.alloc o) W) => ask_cells W ((X3.out.trans (Ext.alloc w3 o)).trans h))
  clear D hx3 hw3
  simp only [askV] at HS ⊢
  go_wp2_with fail
  refine (HS.out _).mono ?_
  rintro e w4 ⟨rfl, hx4⟩
  have X4 := Lib.hid ((X23.out _).trans hx4)
  obtain ⟨g0, g1, g2, g3, g4, g5⟩ := HDD.out _ _ hx4
  clear d0 d1 d2 d3 d4 d5 D0 D1 D2 D3 D4 D5 hx4
  go_wp2_with fail
  have hz := X2.out.size
  have hz4 := X4.out.size
  have hz1 := X1.out.size
  have hsp := spoilAsk_any ⟨code, addr, count, on, set, parts⟩ ⟨B1, m1, k1, B2, m2, k2, B3, m3, k3⟩ w1.heap.size w4 (HW2.out.ext X4.out) (by omega)
  simp only [askV] at hsp
  refine hsp.mono ?_
  clear hsp
  rintro e w5 ⟨rfl, hb5⟩
  have Y5 := Lib.hid (show Ext w1 w5 from (X2.out.trans X4.out).below.trans hb5)
  have X5 := Lib.hid (X1.out.trans Y5.out)
  have hh5 : w5.heap[gx]? = some (.cells curx 5 (0, 0)) := Y5.out.block Hhx.out
  have Hh5 := Lib.hid hh5
  clear hb5 hh5 g0 g1 g2 g3 g4 g5
  go_wp2_with fail
  refine (kept_any b _ _ _ gx curx _ (Hr.out.ext X5.out) Hh5.out Hcx.out (by have := HB.out; omega)).mono ?_
  rintro e w6 ⟨rfl, hb6⟩
  have X6 := Lib.hid (X5.out.trans (Ext.of hb6))
  clear hb6
  go_wp2_with fail
  go_ret
  exact ⟨rfl, X6.out⟩
end Go.Proofs.Ytjmddiffeffgnaa
