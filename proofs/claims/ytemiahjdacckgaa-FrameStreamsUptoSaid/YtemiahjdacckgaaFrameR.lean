/- The walk of FrameStreams: for every input whose lists are short enough true; nothing that was there turns. -/
import Derived.Test.YtemiahjdacckgaaStream4
import Derived.Test.YtemiahjdacckgaaSees
import Derived.Test.YtemiahjdacckgaaFrame3
namespace Go.Proofs.Ytemiahjdacckgaa
set_option linter.unusedVariables false
open Go Go.RowKit Go.Out

/-- Frames of the call's own, when an elder block is written over. -/
theorem owl_grown {w w' : World} {base : Nat} {e : TypeId} {v : Value} {l : List TcpD} {row : Option Nat} (h : OwL (tcpO base) w base e v l) (hg : w.grownBy w' row) (hr : ∀ g, row = some g → g < base) : OwL (tcpO base) w' base e v l := by
  obtain ⟨xs, h1, h2⟩ := h
  refine ⟨xs, h1.kept hg ?_, h2.mono fun cs x ⟨A, n, c, k1, k2, k3⟩ => ⟨A, n, c, k1, k2.grown hg fun g hg' e' => ?_, k3⟩⟩
  · cases hv : v.ownBlock with
    | none => exact .inl rfl
    | some g =>
      right
      intro e'
      have := (h1.lt g hv).1
      have := hr g (by rw [← e'])
      omega
  · have := (k2.lt g hg').1
    have := hr g e'.symm
    omega

theorem rdl_own {w : World} {base base' : Nat} {e : TypeId} {A : Option Addr} {n c : Nat} {l : List TcpD} (h : OwL (tcpO base) w base' e (.slice A n c) l) : RdL tcpK w A n l := by
  obtain ⟨A', c', hv, _, _, hr, _⟩ := h.form
  injection hv with h1 h2 h3
  subst h1; subst h2
  exact rdl_tcp hr
set_option maxHeartbeats 4000000 in
theorem lawFrameStreams (id : Nat) (u : UInt8) (b : List UInt8) (A : Option Addr) (m c : Nat) (t : List UInt8) (A' : Option Addr) (m' c' : Nat) (w : World) (hid : id < 65536) (hr : Rd w A m (b.map cB)) (hc : m ≤ c) (hb : c * 1 ≤ 140737488351232)
    (hr' : Rd w A' m' (t.map cB)) (hc' : m' ≤ c') (hc63 : c' ≤ 9223372036854775807) (hb' : c' * 1 ≤ 140737488351232) (hm' : m' ≤ 1048576) :
    Calls Try.prog 6 #[.agg #[.int .u16 (id : Int), .int .u8 (u.toNat : Int), .slice A m c], .slice A' m' c'] w fun e w' => e = .returned (.bool true) ∧ Below w.heap.size w w' := by
  have Hl := Lib.hid hr.length
  have Hl' := Lib.hid hr'.length
  have X0 : Ext w (w.alloc (.cells #[.int .u16 (id : Int), .int .u8 (u.toNat : Int), .slice A m c] 34)) := Ext.alloc _ _
  have HF0 : (w.alloc (.cells #[.int .u16 (id : Int), .int .u8 (u.toNat : Int), .slice A m c] 34)).heap[w.heap.size]? = some (.cells #[.int .u16 (id : Int), .int .u8 (u.toNat : Int), .slice A m c] 34 (0, 0)) := heap_alloc_new w _
  have Hr := Lib.hid (hr.ext X0); have Hr' := Lib.hid hr'; clear hr hr'
  have hd0 : ∀ (W : World), Ext (w.alloc (.cells #[.int .u16 (id : Int), .int .u8 (u.toNat : Int), .slice A m c] 34)) W → W.cell? ⟨w.heap.size, 0, none⟩ = some (.int .u16 (id : Int)) ∧ W.cell? ⟨w.heap.size, 1, none⟩ = some (.int .u8 (u.toNat : Int)) ∧ W.cell? ⟨w.heap.size, 2, none⟩ = some (.slice A m c) := fun W X => ⟨(cell_of_row _ _ _ _ _ _ (X.block HF0)).trans rfl, (cell_of_row _ _ _ _ _ _ (X.block HF0)).trans rfl, (cell_of_row _ _ _ _ _ _ (X.block HF0)).trans rfl⟩
  have Hd := Lib.hid hd0; clear hd0 HF0
  go_enter Try.func6, Try.ntmps6
  go_wp2_with fail
  refine (lent_any b _ _ _ _ Hr.out (by omega)).mono ?_
  rintro e w1 ⟨gx, curx, rfl, hgx, hhx, hcurx, hb1⟩
  have X1 : Ext _ w1 := hb1
  obtain ⟨d0, d1, d2⟩ := Hd.out w1 X1
  have hox := lent_own hgx hhx hcurx Hr.out.length (by omega)
  have Hox := Lib.hid hox; have Hhx := Lib.hid hhx; have Hcx := Lib.hid hcurx; clear hox hhx hcurx hb1
  have hgx0 : w.heap.size < gx := by simp at hgx; omega
  clear hgx
  go_wp2_with fail
  refine (tcpPut_any id u b _ _ _ _ hid Hox.out.rd (by omega)).mono ?_
  rintro e w2 ⟨A2, n2, c2, rfl, ho, hb2⟩
  have X2 : Ext w1 w2 := hb2
  clear d0 d1 d2
  obtain ⟨d0, d1, d2⟩ := Hd.out w2 (X1.trans X2)
  have Ho2 := Lib.hid ho; clear ho hb2
  go_wp2_with fail
  refine (refTcpPut_any id u b _ _ _ _ hid (Hr.out.ext (X1.trans X2)) (by omega)).mono ?_
  rintro e w3 ⟨A3, n3, c3, rfl, ho, hb3⟩
  have X3 : Ext w2 w3 := hb3
  clear d0 d1 d2
  have Ho3 := Lib.hid ho; clear ho hb3
  have ht1 : ((putTF ⟨id, u, b⟩).2 != (putTF ⟨id, u, b⟩).2) = false := by simp
  have hpl : Hid ((putTF ⟨id, u, b⟩).1.length ≤ m + 7) := by unfold Hid putTF; split <;> simp [headF_length, Hl.out]; omega
  go_wp2_with fail
  refine (same_any _ _ _ _ _ _ _ _ _ (Ho2.out.ext X3).rd Ho3.out.rd (by have h1 := Ho2.out.cap; have h2 := Ho2.out.capLe; unfold maxLen; omega)).mono ?_
  rintro e w4 ⟨rfl, hb4⟩
  rw [decide_eq_true rfl]
  have X4 : Ext w3 w4 := hb4
  clear hb4
  have X14 : Ext w1 w4 := X2.trans (X3.trans X4)
  obtain ⟨d0, d1, d2⟩ := Hd.out w4 (X1.trans X14)
  clear ht1
  go_wp2_with fail
  refine (kept_any b _ _ _ gx curx _ (Hr.out.ext (X1.trans X14)) (X14.block Hhx.out) Hcx.out (by omega)).mono ?_
  rintro e w5 ⟨rfl, hb5⟩
  have X5 : Ext w4 w5 := hb5
  have X15 : Ext w1 w5 := X14.trans X5
  have X05 : Ext w w5 := X0.trans (X1.trans X15)
  clear hb5 d0 d1 d2
  go_wp2_with fail
  refine (apart_alloc [(A2, n2, c2), (some ⟨gx, 0, none⟩, m, m + 5)] 2 w.heap.size w5 rfl ?_ ?_ ?_ X05.size (by omega)).mono ?_
  · intro s hs
    simp only [List.mem_cons, List.not_mem_nil, or_false] at hs
    rcases hs with rfl | rfl
    · exact ⟨_, (Ho2.out.ext (X3.trans (X4.trans X5))).mono (X0.trans (X1)).size⟩
    · exact ⟨_, (Hox.out.ext X15).mono (by simp)⟩
  · simp only [List.pairwise_cons, List.mem_cons, List.not_mem_nil, or_false, forall_eq]
    exact ⟨(Sep.of_lt Hox.out Ho2.out (Nat.le_refl _)).symm, by simp, List.Pairwise.nil⟩
  · intro s hs
    simp only [List.mem_cons, List.not_mem_nil, or_false] at hs
    rcases hs with rfl | rfl
    · have h1 := Ho2.out.len; have h2 := hpl.out; simp at h1; simp only; omega
    · simp only; omega
  rintro e w6 ⟨rfl, hb6⟩
  have X6 : Ext w w6 := Below.trans X05 hb6
  clear hb6
  go_wp2_with fail
  refine (lent_any t _ _ _ _ (Hr'.out.ext X6) (by omega)).mono ?_
  rintro e w7 ⟨gy, cury, rfl, hgy, hhy, hcury, hb7⟩
  have X7 : Ext w6 w7 := hb7
  have hoy := lent_own hgy hhy hcury Hr'.out.length (by omega)
  have Hoy := Lib.hid hoy; have Hhy := Lib.hid hhy; have Hcy := Lib.hid hcury; clear hoy hhy hcury hb7
  go_wp2_with fail
  refine (tcpGet_any t _ _ _ _ Hoy.out.rd (by omega) (by omega)).mono ?_
  rintro e w8 ⟨A8, n8, c8, rfl, ho, hb8⟩
  have X8 : Ext w7 w8 := hb8
  have Ho8 := Lib.hid ho; clear ho hb8
  have hr1 : (getTF t).2.1 ≤ m' ∨ (getTF t).2.1 = 0 := by
    rcases getTF_err t with h | h
    · left; have := (getTF_ok h).2.1; rw [Hl'.out] at this; exact this
    · right; exact h.2.1
  have hrefG : ∀ (W : World), Ext w W → Calls Try.prog 32 #[.slice A' m' c'] W (RetG W 5 (getTF t)) := fun W X => refTcpGet_any t _ _ _ _ (Hr'.out.ext X) hc' (by omega)
  generalize getTF t = r at *
  obtain ⟨x, n0, e0⟩ := r
  simp only at hr1 Ho8 ⊢
  have HrefG := Lib.hid hrefG; clear hrefG
  have hn8 : n8 ≤ 9223372036854775807 := Nat.le_trans Ho8.out.cap Ho8.out.capLe
  go_wp2_with fail
  have X8a : Ext w8 (w8.alloc (.cells #[.int .u16 (x.id : Int), .int .u8 (x.unit.toNat : Int), .slice A8 n8 c8] 34)) := Ext.alloc _ _
  refine (HrefG.out _ (X6.trans (X7.trans (X8.trans X8a)))).mono ?_
  rintro e w9 ⟨A9, n9, c9, rfl, ho, hb9⟩
  have X9 : Ext (w8.alloc (.cells #[.int .u16 (x.id : Int), .int .u8 (x.unit.toNat : Int), .slice A8 n8 c8] 34)) w9 := hb9
  have Ho9 := Lib.hid ho; clear ho hb9
  have X89 : Ext w8 w9 := X8a.trans X9
  go_wp2_with fail
  have X9a : Ext w9 (w9.alloc (.cells #[.int .u16 (x.id : Int), .int .u8 (x.unit.toNat : Int), .slice A9 n9 c9] 34)) := Ext.alloc _ _
  refine (tcpSplit_any t _ _ _ _ ((Hoy.out.ext (X8.trans (X89.trans X9a))).rd) (by omega) (by omega) (by omega)).mono ?_
  rintro e w10 ⟨v10, rfl, hv10, hb10⟩
  have X10 : Ext (w9.alloc (.cells #[.int .u16 (x.id : Int), .int .u8 (x.unit.toNat : Int), .slice A9 n9 c9] 34)) w10 := hb10
  obtain ⟨A10, c10, rfl, hc10, hm10, -, -⟩ := hv10.form
  have Hv10 := Lib.hid hv10; clear hv10 hb10
  have X9b : Ext w9 w10 := X9a.trans X10
  go_wp2_with fail
  refine (refTcpSplit_any t _ _ _ _ (Hr'.out.ext (X6.trans (X7.trans (X8.trans (X89.trans X9b))))) (by omega) (by omega) (by omega)).mono ?_
  rintro e w11 ⟨v11, rfl, hv11, hb11⟩
  have X11 : Ext w10 w11 := hb11
  obtain ⟨A11, c11, rfl, hc11, hm11, -, -⟩ := hv11.form
  have Hv11 := Lib.hid hv11; clear hv11 hb11
  have hne1 : ((splitF t).2.2 != (splitF t).2.2) = false := by simp
  have hle := splitF_le t.length t (Nat.le_refl _)
  have hn1 : (splitF t).1.length ≤ 1048576 := by have h1 := hle.1; have h2 := hle.2.1; rw [Hl'.out] at h1; omega
  clear hle
  have Y8 : Ext (w8.alloc (.cells #[.int .u16 (x.id : Int), .int .u8 (x.unit.toNat : Int), .slice A8 n8 c8] 34)) w11 := X9.trans (X9b.trans X11)
  have Y9 : Ext (w9.alloc (.cells #[.int .u16 (x.id : Int), .int .u8 (x.unit.toNat : Int), .slice A9 n9 c9] 34)) w11 := X10.trans X11
  have d0 : w11.cell? ⟨w8.heap.size, 0, none⟩ = some (.int .u16 (x.id : Int)) := (cell_of_row _ _ _ _ _ _ (Y8.block (heap_alloc_new w8 _))).trans rfl
  have d1 : w11.cell? ⟨w8.heap.size, 1, none⟩ = some (.int .u8 (x.unit.toNat : Int)) := (cell_of_row _ _ _ _ _ _ (Y8.block (heap_alloc_new w8 _))).trans rfl
  have d2 : w11.cell? ⟨w8.heap.size, 2, none⟩ = some (.slice A8 n8 c8) := (cell_of_row _ _ _ _ _ _ (Y8.block (heap_alloc_new w8 _))).trans rfl
  have e0_ : w11.cell? ⟨w9.heap.size, 0, none⟩ = some (.int .u16 (x.id : Int)) := (cell_of_row _ _ _ _ _ _ (Y9.block (heap_alloc_new w9 _))).trans rfl
  have e1_ : w11.cell? ⟨w9.heap.size, 1, none⟩ = some (.int .u8 (x.unit.toNat : Int)) := (cell_of_row _ _ _ _ _ _ (Y9.block (heap_alloc_new w9 _))).trans rfl
  have e2_ : w11.cell? ⟨w9.heap.size, 2, none⟩ = some (.slice A9 n9 c9) := (cell_of_row _ _ _ _ _ _ (Y9.block (heap_alloc_new w9 _))).trans rfl
  go_wp2_with fail
  refine (tcpSame_any x _ _ _ _ _ _ _ ((Ho8.out.ext (X89.trans (X9b.trans X11))).rd) ((Ho9.out.ext (X9b.trans X11)).rd) hn8).mono ?_
  rintro e w12 ⟨rfl, hb12⟩
  have X12 : Ext w11 w12 := hb12
  clear hb12 d0 d1 d2 e0_ e1_ e2_
  go_wp2_with fail
  refine (tcpSameAll_any (splitF t).1 _ _ _ _ _ _ _ (rdl_own (Hv10.out.ext (X11.trans X12))) (rdl_own (Hv11.out.ext X12)) (by omega)).mono ?_
  rintro e w13 ⟨rfl, hb13⟩
  have X13 : Ext w12 w13 := hb13
  clear hb13
  have Z13 : Ext w11 w13 := X12.trans X13
  have d0 : w13.cell? ⟨w8.heap.size, 0, none⟩ = some (.int .u16 (x.id : Int)) := (cell_of_row _ _ _ _ _ _ ((Y8.trans Z13).block (heap_alloc_new w8 _))).trans rfl
  have d1 : w13.cell? ⟨w8.heap.size, 1, none⟩ = some (.int .u8 (x.unit.toNat : Int)) := (cell_of_row _ _ _ _ _ _ ((Y8.trans Z13).block (heap_alloc_new w8 _))).trans rfl
  have d2 : w13.cell? ⟨w8.heap.size, 2, none⟩ = some (.slice A8 n8 c8) := (cell_of_row _ _ _ _ _ _ ((Y8.trans Z13).block (heap_alloc_new w8 _))).trans rfl
  go_wp2_with fail
  refine (spoil_any _ _ _ _ _ _ (Ho8.out.ext (X89.trans (X9b.trans (X11.trans Z13))))).mono ?_
  rintro e w14 ⟨rfl, ho14, hg14⟩
  clear ho14 d0 d1 d2
  have hz8 := X8.size; have hz89 := X89.size; have hz9a := X9a.size; have hz10 := X10.size
  have hblk : ∀ g, blk A8 = some g → w7.heap.size ≤ g ∧ g < w8.heap.size := fun g hg => ⟨(Ho8.out.lt g hg).1, (Ho8.out.lt g hg).2⟩
  have hv10 := owl_grown (Hv10.out.ext (X11.trans Z13)) hg14 (fun g hg => by have := (hblk g hg).2; omega)
  have hv11 := owl_grown (Hv11.out.ext Z13) hg14 (fun g hg => by have := (hblk g hg).2; omega)
  have hhy : w14.heap[gy]? = some (.cells cury 5 (0, 0)) := (hg14.block gy (by have := lt_of_heap Hhy.out; have := X9b.size; have := X11.size; have := Z13.size; omega) (fun e => by have := (hblk gy e.symm).1; have := lt_of_heap Hhy.out; omega)).trans ((X8.trans (X89.trans (X9b.trans (X11.trans Z13)))).block Hhy.out)
  have hX6w : Ext w w13 := X6.trans (X7.trans (X8.trans (X89.trans (X9b.trans (X11.trans Z13)))))
  have X14 : Ext w w14 := hX6w.grown' hg14 (fun g hg => by have := (hblk g hg).1; have := X6.size; have := X7.size; omega)
  have H10 := Lib.hid hv10; have H11 := Lib.hid hv11; have Hgy := Lib.hid hhy; clear hv10 hv11 hhy hblk hg14
  generalize splitF t = sp at *
  obtain ⟨L, at0, er⟩ := sp
  simp only at hn1 hc10 hm10 hc11 hm11 H10 H11 ⊢
  rcases Nat.eq_zero_or_pos L.length with h0 | h0
  · have hL0 : decide ((0 : Int) < (L.length : Int)) = false := decide_eq_false (by omega)
    go_wp2_with fail
    go_quiet (fail)
    go_wp2_with fail
    refine (kept_any t _ _ _ gy cury _ (Hr'.out.ext (X14.trans (Ext.draws _ _))) ((Ext.draws _ _).block Hgy.out) Hcy.out (by omega)).mono ?_
    rintro e w16 ⟨rfl, hb16⟩
    go_wp2_with fail
    go_ret
    exact ⟨rfl, (X14.trans ((Ext.draws _ _).trans hb16)).below⟩
  · have hL0 : decide ((0 : Int) < (L.length : Int)) = true := decide_eq_true (by omega)
    obtain ⟨b1, o1, rfl, hbl1, hl1, cs1, hcs1, hcell1, B1, k1, q1, rfl, hr1', _, hm1, _⟩ := (rdl_own H10.out).at_ h0
    obtain ⟨b2, o2, rfl, hbl2, hl2, cs2, hcs2, hcell2, B2, k2, q2, rfl, hr2', _, hm2, _⟩ := (rdl_own H11.out).at_ h0
    have p1 : w14.cell? ⟨b1, o1 + 2, none⟩ = some (.slice B1 k1 q1) := by have h := hcell1 2 _ rfl; rwa [Nat.zero_mul, Nat.zero_add] at h
    have p2 : w14.cell? ⟨b2, o2 + 2, none⟩ = some (.slice B2 k2 q2) := by have h := hcell2 2 _ rfl; rwa [Nat.zero_mul, Nat.zero_add] at h
    have hli : (0 : Int) < (L.length : Int) := by omega
    have HR1 := Lib.hid hr1'; have HR2 := Lib.hid hr2'; clear hr1' hr2' hcell1 hcell2 hcs1 hcs2
    generalize L[0] = y at *
    go_wp2_with fail
    go_still_tail 12, (by kernel_rfl)
    change wpList _ _ _ _ _ w14.drew
    go_wp2_with fail
    refine (same_any y.pdu y.pdu _ _ _ _ _ _ _ (HR1.out.ext (Ext.draw _)) (HR2.out.ext (Ext.draw _)) (by unfold maxLen; omega)).mono ?_
    rintro e w15 ⟨rfl, hb15⟩
    rw [decide_eq_true rfl]
    have X15' : Ext w14 w15 := (Ext.draw _).trans hb15
    clear hb15
    go_wp2_with fail
    refine (kept_any t _ _ _ gy cury _ (Hr'.out.ext (X14.trans X15')) (X15'.block Hgy.out) Hcy.out (by omega)).mono ?_
    rintro e w16 ⟨rfl, hb16⟩
    go_wp2_with fail
    go_ret
    exact ⟨rfl, (X14.trans (X15'.trans hb16)).below⟩
end Go.Proofs.Ytemiahjdacckgaa
