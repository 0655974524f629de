/- The walk of ReplyGets: for every input true. (genrepl.py prints this.) -/
import Derived.Test.YtpjmhckdeeonbaaRepT
import Derived.Test.YtpjmhckdeeonbaaRepF
import Derived.Test.YtpjmhckdeeonbaaAskL
namespace Go.Proofs.Ytpjmhckdeeonbaa
set_option linter.unusedVariables false
set_option linter.unusedSimpArgs false
set_option maxRecDepth 100000
set_option maxHeartbeats 2000000
open Go Go.RowKit Go.Out

theorem RepOw.keep {w w' : World} {base : Nat} {r : RepD} {t : RepS} (h : RepOw w base r t) (hk : ∀ g, base ≤ g → g < w.heap.size → w'.heap[g]? = w.heap[g]?) : RepOw w' base r t :=
  ⟨h.on.kept fun g hg => hk g (h.on.lt g hg).1 (h.on.lt g hg).2, h.set.kept fun g hg => hk g (h.set.lt g hg).1 (h.set.lt g hg).2, owl_keep h.files hk, h.n3, h.cap3, h.exc⟩
theorem gets_long (code addr count : Int) (A1 A2 A3 : Option Addr) (n1 c1 n2 c2 n3 c3 : Nat) (A : Option Addr) (N c : Nat) (w : World) (P : Bool) (HL : Hid (∀ W, Calls Try.prog 26 #[.agg #[.int .i64 code, .int .i64 addr, .int .i64 count, .slice A1 n1 c1, .slice A2 n2 c2, .slice A3 n3 c3]] W (RetQ W P))) (hN : P = true ∨ 70000 < N) :
    Calls Try.prog 5 #[.agg #[.int .i64 code, .int .i64 addr, .int .i64 count, .slice A1 n1 c1, .slice A2 n2 c2, .slice A3 n3 c3], .slice A N c] w (RetQ w true) := by
  cases P with
  | true =>
    go_enter Try.func5, Try.ntmps5
    go_wp2_with fail
    refine (HL.out _).mono ?_
    rintro e w1 ⟨rfl, hx⟩
    have Z := Lib.hid (show Ext w w1 from (Ext.alloc _ _).trans hx)
    have BA := Lib.hid (show w1.heap[w.heap.size]? = some (.cells #[.int .i64 code, .int .i64 addr, .int .i64 count, .slice A1 n1 c1, .slice A2 n2 c2, .slice A3 n3 c3] 26 (0, 0)) from hx.block (heap_at _ _ _ (by simp)))
    have X := Lib.hid Z.out
    clear hx Z
    obtain ⟨d0, d1, d2, d3, d4, d5⟩ := cells6 BA.out
    go_wp2_with fail
    refine (works04_any _).mono ?_
    rintro e w2 ⟨rfl, hx⟩
    have Z := Lib.hid (show Ext w1 w2 from hx)
    replace BA := Lib.hid (Z.out.block BA.out)
    replace X := Lib.hid (X.out.trans Z.out)
    clear d0 d1 d2 d3 d4 d5
    clear hx Z
    obtain ⟨d0, d1, d2, d3, d4, d5⟩ := cells6 BA.out
    go_wp2_with fail
    go_ret
    exact ⟨rfl, X.out⟩
  | false =>
    have hN : 70000 < N := by simpa using hN
    have hgt : (N : Int) > 70000 := by omega
    go_enter Try.func5, Try.ntmps5
    go_wp2_with fail
    refine (HL.out _).mono ?_
    rintro e w1 ⟨rfl, hx⟩
    have Z := Lib.hid (show Ext w w1 from (Ext.alloc _ _).trans hx)
    have BA := Lib.hid (show w1.heap[w.heap.size]? = some (.cells #[.int .i64 code, .int .i64 addr, .int .i64 count, .slice A1 n1 c1, .slice A2 n2 c2, .slice A3 n3 c3] 26 (0, 0)) from hx.block (heap_at _ _ _ (by simp)))
    have X := Lib.hid Z.out
    clear hx Z
    obtain ⟨d0, d1, d2, d3, d4, d5⟩ := cells6 BA.out
    go_wp2_with fail
    refine (works04_any _).mono ?_
    rintro e w2 ⟨rfl, hx⟩
    have Z := Lib.hid (show Ext w1 w2 from hx)
    replace BA := Lib.hid (Z.out.block BA.out)
    replace X := Lib.hid (X.out.trans Z.out)
    clear d0 d1 d2 d3 d4 d5
    clear hx Z
    obtain ⟨d0, d1, d2, d3, d4, d5⟩ := cells6 BA.out
    go_wp2_with fail
    go_ret
    exact ⟨rfl, X.out⟩
theorem lawReplyGets (a : AskD) (s : AskS) (b : List UInt8) (A : Option Addr) (N c : Nat) (w : World) (ha : AskRd w a s) (hb : Rd w A N (b.map cB)) (hnc : N ≤ c) (hm : c ≤ 9223372036854775807) (hbb : c * 1 ≤ 140737488351232) :
    Calls Try.prog 5 #[askV a s, .slice A N c] w (RetQ w true) := by
  have HL := Lib.hid (fun W => longAsk_any a s W)
  obtain ⟨P, hP⟩ : ∃ P, decide (70000 < s.n1 ∨ 70000 < s.n2 ∨ 70000 < s.n3) = P := ⟨_, rfl⟩
  rw [hP] at HL
  by_cases hbig : P = true ∨ 70000 < N
  · exact gets_long _ _ _ _ _ _ _ _ _ _ _ _ A N c w P HL hbig
  have hPf : P = false := by cases P <;> simp_all
  subst hPf
  have hN : ¬ 70000 < N := fun h => hbig (.inr h)
  have hgt : ¬ (N : Int) > 70000 := by omega
  have hs := of_decide_eq_false hP
  have b1 : s.n1 ≤ 70000 := by omega
  have b2 : s.n2 ≤ 70000 := by omega
  have b3 : s.n3 ≤ 70000 := by omega
  have HLN := Lib.hid (fun (W : World) (hX : Ext w W) => lentAsk_any a s W (ha.ext hX) b1 b2 b3)
  have HLR := Lib.hid (fun (W : World) (base : Nat) (t : AskS) (h : AskLent W base a s t) => h.rd ha b1 b2 b3)
  have HKP := Lib.hid (fun (W : World) (base : Nat) (t : AskS) (hX : Ext w W) (h : AskLent W base a s t) => keptAsk_any a s t base W (ha.ext hX) h b1 b2 b3)
  have HG := Lib.hid (fun (W : World) (u : AskS) (g k : Nat) (h : AskRd W a u) (h' : Rd W (some ⟨g, 0, none⟩) N (b.map cB)) (h1 : N ≤ k ∧ k ≤ 9223372036854775807) => replyGet_any a b u (some ⟨g, 0, none⟩) N k W h h' h1 (by omega))
  have HG4 := Lib.hid (fun (W : World) (hX : Ext w W) => ref04Get_any a b s A N c W (ha.ext hX) (hb.ext hX) ⟨hnc, hm⟩ (by omega))
  have HB := Lib.hid hb
  generalize getR a b = R at *
  obtain ⟨r, E⟩ := R
  have hee : (E != E) = false := by simp
  have HSP := Lib.hid (fun (t : RepS) (base : Nat) (w1 W : World) (ho : RepOw w1 base r t) (hx : Ext w1 W) (hbs : base ≤ w1.heap.size) => spoilReply_any r t base w1 W ho hx hbs)
  have HSR := Lib.hid (fun (W : World) (u v : RepS) (h : RepRd W r u) (h' : RepRd W r v) => same_reply r u v W h h')
  clear ha hb hbig hP hs
  obtain ⟨code, addr, count, on, set, parts⟩ := a
  obtain ⟨A1, n1, c1, A2, n2, c2, A3, n3, c3⟩ := s
  obtain ⟨exc, ron, rset, files⟩ := r
  simp only [askV, repV] at HL HLN HG HG4 HKP HSR HSP ⊢
  go_enter Try.func5, Try.ntmps5
  go_wp2_with fail
  refine (HL.out _).mono ?_
  rintro e w1 ⟨rfl, hx⟩
  have Z := Lib.hid (show Ext w w1 from (Ext.alloc _ _).trans hx)
  have BA := Lib.hid (show w1.heap[w.heap.size]? = some (.cells #[.int .i64 code, .int .i64 addr, .int .i64 count, .slice A1 n1 c1, .slice A2 n2 c2, .slice A3 n3 c3] 26 (0, 0)) from hx.block (heap_at _ _ _ (by simp)))
  have X := Lib.hid Z.out
  clear hx Z
  obtain ⟨d0, d1, d2, d3, d4, d5⟩ := cells6 BA.out
  go_wp2_with fail
  refine (HLN.out _ X.out).mono ?_
  rintro e w2 ⟨t, rfl, hlent, hx⟩
  have Z := Lib.hid (show Ext w1 w2 from hx)
  replace BA := Lib.hid (Z.out.block BA.out)
  replace X := Lib.hid (X.out.trans Z.out)
  have HLT := Lib.hid hlent
  have HRT := Lib.hid (HLR.out _ _ _ hlent)
  clear hlent
  obtain ⟨C1, p1, q1, C2, p2, q2, C3, p3, q3⟩ := t
  simp only
  clear d0 d1 d2 d3 d4 d5
  clear hx Z
  obtain ⟨d0, d1, d2, d3, d4, d5⟩ := cells6 BA.out
  go_wp2_with fail
  refine (lent_any b _ _ _ _ (HB.out.ext (X.out.trans (Ext.alloc _ _))) (by omega)).mono ?_
  rintro e w3 ⟨gx, curx, rfl, hgx, hhx, hcurx, hx⟩
  have Z := Lib.hid (show Ext w2 w3 from (Ext.alloc _ _).trans (Ext.of hx))
  replace BA := Lib.hid (Z.out.block BA.out)
  have BX := Lib.hid (show w3.heap[w2.heap.size]? = some (.cells #[.int .i64 code, .int .i64 addr, .int .i64 count, .slice C1 p1 q1, .slice C2 p2 q2, .slice C3 p3 q3] 26 (0, 0)) from (Ext.of hx).block (heap_at _ _ _ (by simp)))
  replace X := Lib.hid (X.out.trans Z.out)
  replace HLT := Lib.hid (HLT.out.ext Z.out)
  replace HRT := Lib.hid (HRT.out.ext Z.out)
  have HY := Lib.hid hhx
  have HCX := Lib.hid hcurx
  have HOY := Lib.hid (lent_own hgx hhx hcurx HB.out.length (by omega))
  clear hgx hhx hcurx
  clear d0 d1 d2 d3 d4 d5
  clear hx Z
  obtain ⟨d0, d1, d2, d3, d4, d5⟩ := cells6 BA.out
  obtain ⟨x0, x1, x2, x3, x4, x5⟩ := cells6 BX.out
  have BA0 := BA; have BX0 := BX; have XV := X; have HLT0 := HLT; have HY0 := HY
  have Y3 := Lib.hid (Ext.refl w3)
  go_wp2_with fail
  refine (HG.out _ ⟨C1, p1, q1, C2, p2, q2, C3, p3, q3⟩ gx (N + 5) HRT.out HOY.out.rd ⟨by omega, by omega⟩).mono ?_
  rintro e w4 ⟨t, rfl, how, hx⟩
  have Z := Lib.hid (show Ext w3 w4 from hx)
  replace BA := Lib.hid (Z.out.block BA.out)
  replace BX := Lib.hid (Z.out.block BX.out)
  replace X := Lib.hid (X.out.trans Z.out)
  replace HLT := Lib.hid (HLT.out.ext Z.out)
  replace HRT := Lib.hid (HRT.out.ext Z.out)
  replace HOY := Lib.hid (HOY.out.ext Z.out)
  replace HY := Lib.hid (Z.out.block HY.out)
  replace Y3 := Lib.hid (Y3.out.trans Z.out)
  have Y34 := Lib.hid Z.out.size
  have HOW := Lib.hid how
  have HW1 := Lib.hid how.rd
  clear how
  obtain ⟨B1, m1, k1, B2, m2, k2, B3, m3, k3⟩ := t
  simp only [repV]
  have Y4 := Lib.hid (Ext.refl w4)
  clear d0 d1 d2 d3 d4 d5 x0 x1 x2 x3 x4 x5
  clear hx Z
  obtain ⟨d0, d1, d2, d3, d4, d5⟩ := cells6 BA.out
  have da0 := fun o : Obj => (cells6 ((Ext.alloc _ o).block BA.out)).1
  have da1 := fun o : Obj => (cells6 ((Ext.alloc _ o).block BA.out)).2.1
  have da2 := fun o : Obj => (cells6 ((Ext.alloc _ o).block BA.out)).2.2.1
  have da3 := fun o : Obj => (cells6 ((Ext.alloc _ o).block BA.out)).2.2.2.1
  have da4 := fun o : Obj => (cells6 ((Ext.alloc _ o).block BA.out)).2.2.2.2.1
  have da5 := fun o : Obj => (cells6 ((Ext.alloc _ o).block BA.out)).2.2.2.2.2
  obtain ⟨x0, x1, x2, x3, x4, x5⟩ := cells6 BX.out
  have xa0 := fun o : Obj => (cells6 ((Ext.alloc _ o).block BX.out)).1
  have xa1 := fun o : Obj => (cells6 ((Ext.alloc _ o).block BX.out)).2.1
  have xa2 := fun o : Obj => (cells6 ((Ext.alloc _ o).block BX.out)).2.2.1
  have xa3 := fun o : Obj => (cells6 ((Ext.alloc _ o).block BX.out)).2.2.2.1
  have xa4 := fun o : Obj => (cells6 ((Ext.alloc _ o).block BX.out)).2.2.2.2.1
  have xa5 := fun o : Obj => (cells6 ((Ext.alloc _ o).block BX.out)).2.2.2.2.2
  go_wp2_with fail
  refine (HG.out _ ⟨C1, p1, q1, C2, p2, q2, C3, p3, q3⟩ gx (N + 5) (HRT.out.ext (Ext.alloc _ _)) (HOY.out.ext (Ext.alloc _ _)).rd ⟨by omega, by omega⟩).mono ?_
  rintro e w5 ⟨t, rfl, how, hx⟩
  have Z := Lib.hid (show Ext w4 w5 from (Ext.alloc _ _).trans hx)
  replace BA := Lib.hid (Z.out.block BA.out)
  replace BX := Lib.hid (Z.out.block BX.out)
  have B1X := Lib.hid (show w5.heap[w4.heap.size]? = some (.cells #[.int .i64 exc, .slice B1 m1 k1, .slice B2 m2 k2, .slice B3 m3 k3] 29 (0, 0)) from hx.block (heap_at _ _ _ (by simp)))
  replace X := Lib.hid (X.out.trans Z.out)
  replace HLT := Lib.hid (HLT.out.ext Z.out)
  replace HRT := Lib.hid (HRT.out.ext Z.out)
  replace HOY := Lib.hid (HOY.out.ext Z.out)
  replace HW1 := Lib.hid (HW1.out.ext Z.out)
  replace HY := Lib.hid (Z.out.block HY.out)
  replace Y3 := Lib.hid (Y3.out.trans Z.out)
  replace Y4 := Lib.hid (Y4.out.trans Z.out)
  have Y45 := Lib.hid (show w4.heap.size ≤ w5.heap.size from Z.out.size)
  have HW2 := Lib.hid (how.mono (show w4.heap.size ≤ _ from (Ext.alloc _ _).size))
  clear how
  obtain ⟨D1, r1, u1, D2, r2, u2, D3, r3, u3⟩ := t
  simp only [repV]
  clear d0 d1 d2 d3 d4 d5 da0 da1 da2 da3 da4 da5 x0 x1 x2 x3 x4 x5 xa0 xa1 xa2 xa3 xa4 xa5
  clear hx Z
  obtain ⟨d0, d1, d2, d3, d4, d5⟩ := cells6 BA.out
  have da0 := fun o : Obj => (cells6 ((Ext.alloc _ o).block BA.out)).1
  have da1 := fun o : Obj => (cells6 ((Ext.alloc _ o).block BA.out)).2.1
  have da2 := fun o : Obj => (cells6 ((Ext.alloc _ o).block BA.out)).2.2.1
  have da3 := fun o : Obj => (cells6 ((Ext.alloc _ o).block BA.out)).2.2.2.1
  have da4 := fun o : Obj => (cells6 ((Ext.alloc _ o).block BA.out)).2.2.2.2.1
  have da5 := fun o : Obj => (cells6 ((Ext.alloc _ o).block BA.out)).2.2.2.2.2
  obtain ⟨x0, x1, x2, x3, x4, x5⟩ := cells6 BX.out
  have xa0 := fun o : Obj => (cells6 ((Ext.alloc _ o).block BX.out)).1
  have xa1 := fun o : Obj => (cells6 ((Ext.alloc _ o).block BX.out)).2.1
  have xa2 := fun o : Obj => (cells6 ((Ext.alloc _ o).block BX.out)).2.2.1
  have xa3 := fun o : Obj => (cells6 ((Ext.alloc _ o).block BX.out)).2.2.2.1
  have xa4 := fun o : Obj => (cells6 ((Ext.alloc _ o).block BX.out)).2.2.2.2.1
  have xa5 := fun o : Obj => (cells6 ((Ext.alloc _ o).block BX.out)).2.2.2.2.2
  obtain ⟨g0, g1, g2, g3⟩ := cells4 B1X.out
  have ga0 := fun o : Obj => (cells4 ((Ext.alloc _ o).block B1X.out)).1
  have ga1 := fun o : Obj => (cells4 ((Ext.alloc _ o).block B1X.out)).2.1
  have ga2 := fun o : Obj => (cells4 ((Ext.alloc _ o).block B1X.out)).2.2.1
  have ga3 := fun o : Obj => (cells4 ((Ext.alloc _ o).block B1X.out)).2.2.2
  go_wp2_with fail
  have Y4P := Y4
  refine (HG4.out _ (X.out.trans (Ext.alloc _ _))).mono ?_
  rintro e w6 ⟨t, rfl, how, hx⟩
  have Z := Lib.hid (show Ext w5 w6 from (Ext.alloc _ _).trans hx)
  replace BA := Lib.hid (Z.out.block BA.out)
  replace BX := Lib.hid (Z.out.block BX.out)
  replace B1X := Lib.hid (Z.out.block B1X.out)
  have B2X := Lib.hid (show w6.heap[w5.heap.size]? = some (.cells #[.int .i64 exc, .slice D1 r1 u1, .slice D2 r2 u2, .slice D3 r3 u3] 29 (0, 0)) from hx.block (heap_at _ _ _ (by simp)))
  replace X := Lib.hid (X.out.trans Z.out)
  replace HLT := Lib.hid (HLT.out.ext Z.out)
  replace HRT := Lib.hid (HRT.out.ext Z.out)
  replace HOY := Lib.hid (HOY.out.ext Z.out)
  replace HW1 := Lib.hid (HW1.out.ext Z.out)
  replace HW2 := Lib.hid (HW2.out.ext Z.out)
  replace HY := Lib.hid (Z.out.block HY.out)
  replace Y3 := Lib.hid (Y3.out.trans Z.out)
  replace Y4 := Lib.hid (Y4.out.trans Z.out)
  have Y46 := Lib.hid (show w4.heap.size ≤ w6.heap.size from Nat.le_trans Y45.out Z.out.size)
  have HW3 := Lib.hid (how.mono (show w4.heap.size ≤ _ from Nat.le_trans Y4P.out.size (Ext.alloc _ _).size))
  clear how
  obtain ⟨E1, v1, z1, E2, v2, z2, E3, v3, z3⟩ := t
  simp only [repV]
  clear d0 d1 d2 d3 d4 d5 da0 da1 da2 da3 da4 da5 x0 x1 x2 x3 x4 x5 xa0 xa1 xa2 xa3 xa4 xa5 g0 g1 g2 g3 ga0 ga1 ga2 ga3
  clear hx Z
  obtain ⟨d0, d1, d2, d3, d4, d5⟩ := cells6 BA.out
  have da0 := fun o : Obj => (cells6 ((Ext.alloc _ o).block BA.out)).1
  have da1 := fun o : Obj => (cells6 ((Ext.alloc _ o).block BA.out)).2.1
  have da2 := fun o : Obj => (cells6 ((Ext.alloc _ o).block BA.out)).2.2.1
  have da3 := fun o : Obj => (cells6 ((Ext.alloc _ o).block BA.out)).2.2.2.1
  have da4 := fun o : Obj => (cells6 ((Ext.alloc _ o).block BA.out)).2.2.2.2.1
  have da5 := fun o : Obj => (cells6 ((Ext.alloc _ o).block BA.out)).2.2.2.2.2
  obtain ⟨x0, x1, x2, x3, x4, x5⟩ := cells6 BX.out
  have xa0 := fun o : Obj => (cells6 ((Ext.alloc _ o).block BX.out)).1
  have xa1 := fun o : Obj => (cells6 ((Ext.alloc _ o).block BX.out)).2.1
  have xa2 := fun o : Obj => (cells6 ((Ext.alloc _ o).block BX.out)).2.2.1
  have xa3 := fun o : Obj => (cells6 ((Ext.alloc _ o).block BX.out)).2.2.2.1
  have xa4 := fun o : Obj => (cells6 ((Ext.alloc _ o).block BX.out)).2.2.2.2.1
  have xa5 := fun o : Obj => (cells6 ((Ext.alloc _ o).block BX.out)).2.2.2.2.2
  obtain ⟨g0, g1, g2, g3⟩ := cells4 B1X.out
  have ga0 := fun o : Obj => (cells4 ((Ext.alloc _ o).block B1X.out)).1
  have ga1 := fun o : Obj => (cells4 ((Ext.alloc _ o).block B1X.out)).2.1
  have ga2 := fun o : Obj => (cells4 ((Ext.alloc _ o).block B1X.out)).2.2.1
  have ga3 := fun o : Obj => (cells4 ((Ext.alloc _ o).block B1X.out)).2.2.2
  obtain ⟨e0, e1, e2, e3⟩ := cells4 B2X.out
  have ea0 := fun o : Obj => (cells4 ((Ext.alloc _ o).block B2X.out)).1
  have ea1 := fun o : Obj => (cells4 ((Ext.alloc _ o).block B2X.out)).2.1
  have ea2 := fun o : Obj => (cells4 ((Ext.alloc _ o).block B2X.out)).2.2.1
  have ea3 := fun o : Obj => (cells4 ((Ext.alloc _ o).block B2X.out)).2.2.2
  go_wp2_with fail
  refine (HSR.out _ ⟨B1, m1, k1, B2, m2, k2, B3, m3, k3⟩ ⟨E1, v1, z1, E2, v2, z2, E3, v3, z3⟩ (HW1.out.ext (Ext.alloc _ _)) (HW3.out.ext (Ext.alloc _ _)).rd).mono ?_
  rintro e w7 ⟨rfl, hx⟩
  have Z := Lib.hid (show Ext w6 w7 from (Ext.alloc _ _).trans hx)
  replace BA := Lib.hid (Z.out.block BA.out)
  replace BX := Lib.hid (Z.out.block BX.out)
  replace B1X := Lib.hid (Z.out.block B1X.out)
  replace B2X := Lib.hid (Z.out.block B2X.out)
  have B3X := Lib.hid (show w7.heap[w6.heap.size]? = some (.cells #[.int .i64 exc, .slice E1 v1 z1, .slice E2 v2 z2, .slice E3 v3 z3] 29 (0, 0)) from hx.block (heap_at _ _ _ (by simp)))
  replace X := Lib.hid (X.out.trans Z.out)
  replace HLT := Lib.hid (HLT.out.ext Z.out)
  replace HRT := Lib.hid (HRT.out.ext Z.out)
  replace HOY := Lib.hid (HOY.out.ext Z.out)
  replace HW1 := Lib.hid (HW1.out.ext Z.out)
  replace HW2 := Lib.hid (HW2.out.ext Z.out)
  replace HW3 := Lib.hid (HW3.out.ext Z.out)
  replace HY := Lib.hid (Z.out.block HY.out)
  replace Y3 := Lib.hid (Y3.out.trans Z.out)
  replace Y4 := Lib.hid (Y4.out.trans Z.out)
  clear d0 d1 d2 d3 d4 d5 da0 da1 da2 da3 da4 da5 x0 x1 x2 x3 x4 x5 xa0 xa1 xa2 xa3 xa4 xa5 g0 g1 g2 g3 ga0 ga1 ga2 ga3 e0 e1 e2 e3 ea0 ea1 ea2 ea3
  clear hx Z
  obtain ⟨d0, d1, d2, d3, d4, d5⟩ := cells6 BA.out
  obtain ⟨x0, x1, x2, x3, x4, x5⟩ := cells6 BX.out
  obtain ⟨g0, g1, g2, g3⟩ := cells4 B1X.out
  obtain ⟨e0, e1, e2, e3⟩ := cells4 B2X.out
  obtain ⟨h0, h1, h2, h3⟩ := cells4 B3X.out
  go_wp2_with fail
  refine (HSR.out _ ⟨D1, r1, u1, D2, r2, u2, D3, r3, u3⟩ ⟨E1, v1, z1, E2, v2, z2, E3, v3, z3⟩ HW2.out.rd HW3.out.rd).mono ?_
  rintro e w8 ⟨rfl, hx⟩
  have Z := Lib.hid (show Ext w7 w8 from hx)
  replace BA := Lib.hid (Z.out.block BA.out)
  replace BX := Lib.hid (Z.out.block BX.out)
  replace B1X := Lib.hid (Z.out.block B1X.out)
  replace B2X := Lib.hid (Z.out.block B2X.out)
  replace B3X := Lib.hid (Z.out.block B3X.out)
  replace X := Lib.hid (X.out.trans Z.out)
  replace HLT := Lib.hid (HLT.out.ext Z.out)
  replace HRT := Lib.hid (HRT.out.ext Z.out)
  replace HOY := Lib.hid (HOY.out.ext Z.out)
  replace HW1 := Lib.hid (HW1.out.ext Z.out)
  replace HW2 := Lib.hid (HW2.out.ext Z.out)
  replace HW3 := Lib.hid (HW3.out.ext Z.out)
  replace HY := Lib.hid (Z.out.block HY.out)
  replace Y3 := Lib.hid (Y3.out.trans Z.out)
  replace Y4 := Lib.hid (Y4.out.trans Z.out)
  clear d0 d1 d2 d3 d4 d5 x0 x1 x2 x3 x4 x5 g0 g1 g2 g3 e0 e1 e2 e3 h0 h1 h2 h3
  clear hx Z
  obtain ⟨d0, d1, d2, d3, d4, d5⟩ := cells6 BA.out
  obtain ⟨x0, x1, x2, x3, x4, x5⟩ := cells6 BX.out
  obtain ⟨g0, g1, g2, g3⟩ := cells4 B1X.out
  obtain ⟨e0, e1, e2, e3⟩ := cells4 B2X.out
  obtain ⟨h0, h1, h2, h3⟩ := cells4 B3X.out
  go_wp2_with fail
  refine (HKP.out _ _ ⟨C1, p1, q1, C2, p2, q2, C3, p3, q3⟩ X.out HLT.out).mono ?_
  rintro e w9 ⟨rfl, hx⟩
  have Z := Lib.hid (show Ext w8 w9 from hx)
  replace BA := Lib.hid (Z.out.block BA.out)
  replace BX := Lib.hid (Z.out.block BX.out)
  replace B1X := Lib.hid (Z.out.block B1X.out)
  replace B2X := Lib.hid (Z.out.block B2X.out)
  replace B3X := Lib.hid (Z.out.block B3X.out)
  replace X := Lib.hid (X.out.trans Z.out)
  replace HLT := Lib.hid (HLT.out.ext Z.out)
  replace HRT := Lib.hid (HRT.out.ext Z.out)
  replace HOY := Lib.hid (HOY.out.ext Z.out)
  replace HW1 := Lib.hid (HW1.out.ext Z.out)
  replace HW2 := Lib.hid (HW2.out.ext Z.out)
  replace HW3 := Lib.hid (HW3.out.ext Z.out)
  replace HY := Lib.hid (Z.out.block HY.out)
  replace Y3 := Lib.hid (Y3.out.trans Z.out)
  replace Y4 := Lib.hid (Y4.out.trans Z.out)
  clear d0 d1 d2 d3 d4 d5 x0 x1 x2 x3 x4 x5 g0 g1 g2 g3 e0 e1 e2 e3 h0 h1 h2 h3
  clear hx Z
  obtain ⟨d0, d1, d2, d3, d4, d5⟩ := cells6 BA.out
  obtain ⟨x0, x1, x2, x3, x4, x5⟩ := cells6 BX.out
  obtain ⟨g0, g1, g2, g3⟩ := cells4 B1X.out
  obtain ⟨e0, e1, e2, e3⟩ := cells4 B2X.out
  obtain ⟨h0, h1, h2, h3⟩ := cells4 B3X.out
  go_wp2_with fail
  refine (kept_any b _ _ _ gx curx _ (HB.out.ext X.out) HY.out HCX.out (by omega)).mono ?_
  rintro e w10 ⟨rfl, hx⟩
  have Z := Lib.hid (show Ext w9 w10 from (Ext.of hx))
  replace BA := Lib.hid (Z.out.block BA.out)
  replace BX := Lib.hid (Z.out.block BX.out)
  replace B1X := Lib.hid (Z.out.block B1X.out)
  replace B2X := Lib.hid (Z.out.block B2X.out)
  replace B3X := Lib.hid (Z.out.block B3X.out)
  replace X := Lib.hid (X.out.trans Z.out)
  replace HLT := Lib.hid (HLT.out.ext Z.out)
  replace HRT := Lib.hid (HRT.out.ext Z.out)
  replace HOY := Lib.hid (HOY.out.ext Z.out)
  replace HW1 := Lib.hid (HW1.out.ext Z.out)
  replace HW2 := Lib.hid (HW2.out.ext Z.out)
  replace HW3 := Lib.hid (HW3.out.ext Z.out)
  replace HY := Lib.hid (Z.out.block HY.out)
  replace Y3 := Lib.hid (Y3.out.trans Z.out)
  replace Y4 := Lib.hid (Y4.out.trans Z.out)
  clear d0 d1 d2 d3 d4 d5 x0 x1 x2 x3 x4 x5 g0 g1 g2 g3 e0 e1 e2 e3 h0 h1 h2 h3
  clear hx Z
  obtain ⟨d0, d1, d2, d3, d4, d5⟩ := cells6 BA.out
  obtain ⟨x0, x1, x2, x3, x4, x5⟩ := cells6 BX.out
  obtain ⟨g0, g1, g2, g3⟩ := cells4 B1X.out
  obtain ⟨e0, e1, e2, e3⟩ := cells4 B2X.out
  obtain ⟨h0, h1, h2, h3⟩ := cells4 B3X.out
  go_wp2_with fail
  refine (HSP.out ⟨B1, m1, k1, B2, m2, k2, B3, m3, k3⟩ _ w4 _ HOW.out Y4.out Y34.out).mono ?_
  rintro e w20 ⟨rfl, hmid⟩
  have Y20 := Lib.hid (show Ext w3 w20 from Y3.out.below.trans hmid.below)
  have hk := Lib.hid hmid.block
  replace X := Lib.hid (XV.out.trans Y20.out)
  have hl2 := lt_of_heap B2X.out; have hl3 := lt_of_heap B3X.out
  replace BA := Lib.hid (Y20.out.block BA0.out); replace BX := Lib.hid (Y20.out.block BX0.out)
  replace B2X := Lib.hid ((hk.out _ (by have := Y45.out; omega) hl2).trans B2X.out)
  replace B3X := Lib.hid ((hk.out _ (by have := Y46.out; omega) hl3).trans B3X.out)
  replace HW2 := Lib.hid (HW2.out.keep fun g h1 h2 => hk.out g h1 h2)
  replace HW3 := Lib.hid (HW3.out.keep fun g h1 h2 => hk.out g h1 h2)
  replace HLT := Lib.hid (HLT0.out.ext Y20.out)
  replace HY := Lib.hid (Y20.out.block HY0.out)
  clear d0 d1 d2 d3 d4 d5 x0 x1 x2 x3 x4 x5 g0 g1 g2 g3 e0 e1 e2 e3 h0 h1 h2 h3
  clear hmid hl2 hl3
  obtain ⟨d0, d1, d2, d3, d4, d5⟩ := cells6 BA.out
  obtain ⟨x0, x1, x2, x3, x4, x5⟩ := cells6 BX.out
  obtain ⟨e0, e1, e2, e3⟩ := cells4 B2X.out
  obtain ⟨h0, h1, h2, h3⟩ := cells4 B3X.out
  go_wp2_with fail
  refine (HSR.out _ ⟨D1, r1, u1, D2, r2, u2, D3, r3, u3⟩ ⟨E1, v1, z1, E2, v2, z2, E3, v3, z3⟩ HW2.out.rd HW3.out.rd).mono ?_
  rintro e w21 ⟨rfl, hx⟩
  have Z := Lib.hid (show Ext w20 w21 from hx)
  replace BA := Lib.hid (Z.out.block BA.out)
  replace BX := Lib.hid (Z.out.block BX.out)
  replace B2X := Lib.hid (Z.out.block B2X.out)
  replace B3X := Lib.hid (Z.out.block B3X.out)
  replace X := Lib.hid (X.out.trans Z.out)
  replace HW2 := Lib.hid (HW2.out.ext Z.out)
  replace HW3 := Lib.hid (HW3.out.ext Z.out)
  replace HLT := Lib.hid (HLT.out.ext Z.out)
  replace HY := Lib.hid (Z.out.block HY.out)
  clear d0 d1 d2 d3 d4 d5 x0 x1 x2 x3 x4 x5 e0 e1 e2 e3 h0 h1 h2 h3
  clear hx Z
  obtain ⟨d0, d1, d2, d3, d4, d5⟩ := cells6 BA.out
  obtain ⟨x0, x1, x2, x3, x4, x5⟩ := cells6 BX.out
  obtain ⟨e0, e1, e2, e3⟩ := cells4 B2X.out
  obtain ⟨h0, h1, h2, h3⟩ := cells4 B3X.out
  go_wp2_with fail
  refine (HKP.out _ _ ⟨C1, p1, q1, C2, p2, q2, C3, p3, q3⟩ X.out HLT.out).mono ?_
  rintro e w22 ⟨rfl, hx⟩
  have Z := Lib.hid (show Ext w21 w22 from hx)
  replace BA := Lib.hid (Z.out.block BA.out)
  replace BX := Lib.hid (Z.out.block BX.out)
  replace B2X := Lib.hid (Z.out.block B2X.out)
  replace B3X := Lib.hid (Z.out.block B3X.out)
  replace X := Lib.hid (X.out.trans Z.out)
  replace HW2 := Lib.hid (HW2.out.ext Z.out)
  replace HW3 := Lib.hid (HW3.out.ext Z.out)
  replace HLT := Lib.hid (HLT.out.ext Z.out)
  replace HY := Lib.hid (Z.out.block HY.out)
  clear d0 d1 d2 d3 d4 d5 x0 x1 x2 x3 x4 x5 e0 e1 e2 e3 h0 h1 h2 h3
  clear hx Z
  obtain ⟨d0, d1, d2, d3, d4, d5⟩ := cells6 BA.out
  obtain ⟨x0, x1, x2, x3, x4, x5⟩ := cells6 BX.out
  obtain ⟨e0, e1, e2, e3⟩ := cells4 B2X.out
  obtain ⟨h0, h1, h2, h3⟩ := cells4 B3X.out
  go_wp2_with fail
  refine (kept_any b _ _ _ gx curx _ (HB.out.ext X.out) HY.out HCX.out (by omega)).mono ?_
  rintro e w23 ⟨rfl, hx⟩
  have Z := Lib.hid (show Ext w22 w23 from (Ext.of hx))
  replace BA := Lib.hid (Z.out.block BA.out)
  replace BX := Lib.hid (Z.out.block BX.out)
  replace B2X := Lib.hid (Z.out.block B2X.out)
  replace B3X := Lib.hid (Z.out.block B3X.out)
  replace X := Lib.hid (X.out.trans Z.out)
  replace HW2 := Lib.hid (HW2.out.ext Z.out)
  replace HW3 := Lib.hid (HW3.out.ext Z.out)
  replace HLT := Lib.hid (HLT.out.ext Z.out)
  replace HY := Lib.hid (Z.out.block HY.out)
  clear d0 d1 d2 d3 d4 d5 x0 x1 x2 x3 x4 x5 e0 e1 e2 e3 h0 h1 h2 h3
  clear hx Z
  obtain ⟨d0, d1, d2, d3, d4, d5⟩ := cells6 BA.out
  obtain ⟨x0, x1, x2, x3, x4, x5⟩ := cells6 BX.out
  obtain ⟨e0, e1, e2, e3⟩ := cells4 B2X.out
  obtain ⟨h0, h1, h2, h3⟩ := cells4 B3X.out
  go_wp2_with fail
  refine (works04_any _).mono ?_
  rintro e w24 ⟨rfl, hx⟩
  have Z := Lib.hid (show Ext w23 w24 from hx)
  replace BA := Lib.hid (Z.out.block BA.out)
  replace BX := Lib.hid (Z.out.block BX.out)
  replace B2X := Lib.hid (Z.out.block B2X.out)
  replace B3X := Lib.hid (Z.out.block B3X.out)
  replace X := Lib.hid (X.out.trans Z.out)
  replace HW2 := Lib.hid (HW2.out.ext Z.out)
  replace HW3 := Lib.hid (HW3.out.ext Z.out)
  replace HLT := Lib.hid (HLT.out.ext Z.out)
  replace HY := Lib.hid (Z.out.block HY.out)
  clear d0 d1 d2 d3 d4 d5 x0 x1 x2 x3 x4 x5 e0 e1 e2 e3 h0 h1 h2 h3
  clear hx Z
  obtain ⟨d0, d1, d2, d3, d4, d5⟩ := cells6 BA.out
  obtain ⟨x0, x1, x2, x3, x4, x5⟩ := cells6 BX.out
  obtain ⟨e0, e1, e2, e3⟩ := cells4 B2X.out
  obtain ⟨h0, h1, h2, h3⟩ := cells4 B3X.out
  go_wp2_with fail
  go_ret
  exact ⟨rfl, X.out⟩
end Go.Proofs.Ytpjmhckdeeonbaa
