/- The walk of ReplyPuts: for every input true. (genrepl.py prints this.) -/
import Derived.Test.YtpjmhckdeeonbaaRepFo
import Derived.Test.YtpjmhckdeeonbaaRepF
import Derived.Test.YtpjmhckdeeonbaaRepQ2
import Derived.Test.YtpjmhckdeeonbaaAskL
namespace Go.Proofs.Ytpjmhckdeeonbaa
set_option linter.unusedVariables false
set_option linter.unusedSimpArgs false
set_option maxRecDepth 100000
set_option maxHeartbeats 2000000
open Go Go.RowKit Go.Out

theorem puts_long (code addr count exc : Int) (A1 A2 A3 B1 B2 B3 : Option Addr) (n1 c1 n2 c2 n3 c3 m1 k1 m2 k2 m3 k3 : Nat) (w : World) (HL : Hid (∀ W, Ext w W → Calls Try.prog 14 #[.agg #[.int .i64 code, .int .i64 addr, .int .i64 count, .slice A1 n1 c1, .slice A2 n2 c2, .slice A3 n3 c3], .agg #[.int .i64 exc, .slice B1 m1 k1, .slice B2 m2 k2, .slice B3 m3 k3]] W (RetQ W true))) :
    Calls Try.prog 4 #[.agg #[.int .i64 code, .int .i64 addr, .int .i64 count, .slice A1 n1 c1, .slice A2 n2 c2, .slice A3 n3 c3], .agg #[.int .i64 exc, .slice B1 m1 k1, .slice B2 m2 k2, .slice B3 m3 k3]] w (RetQ w true) := by
  go_enter Try.func4, Try.ntmps4
  go_wp2_with fail
  refine (HL.out _ ((Ext.alloc _ _).trans (Ext.alloc _ _))).mono ?_
  rintro e w1 ⟨rfl, hx⟩
  have Z := Lib.hid (show Ext w w1 from ((Ext.alloc _ _).trans (Ext.alloc _ _)).trans hx)
  have BA := Lib.hid (show w1.heap[w.heap.size]? = some (.cells #[.int .i64 code, .int .i64 addr, .int .i64 count, .slice A1 n1 c1, .slice A2 n2 c2, .slice A3 n3 c3] 26 (0, 0)) from hx.block ((Ext.alloc _ _).block (heap_at _ _ _ (by simp))))
  have BR := Lib.hid (show w1.heap[w.heap.size + 1]? = some (.cells #[.int .i64 exc, .slice B1 m1 k1, .slice B2 m2 k2, .slice B3 m3 k3] 29 (0, 0)) from hx.block (heap_at _ _ _ (by simp)))
  have X := Lib.hid Z.out
  clear hx Z
  obtain ⟨d0, d1, d2, d3, d4, d5⟩ := cells6 BA.out
  obtain ⟨g0, g1, g2, g3⟩ := cells4 BR.out
  go_wp2_with fail
  refine (works04_any _).mono ?_
  rintro e w2 ⟨rfl, hx⟩
  have Z := Lib.hid (show Ext w1 w2 from hx)
  replace BA := Lib.hid (Z.out.block BA.out)
  replace BR := Lib.hid (Z.out.block BR.out)
  replace X := Lib.hid (X.out.trans Z.out)
  clear d0 d1 d2 d3 d4 d5 g0 g1 g2 g3
  clear hx Z
  obtain ⟨d0, d1, d2, d3, d4, d5⟩ := cells6 BA.out
  obtain ⟨g0, g1, g2, g3⟩ := cells4 BR.out
  go_wp2_with fail
  go_ret
  exact ⟨rfl, X.out⟩
theorem lawReplyPuts (a : AskD) (s : AskS) (r : RepD) (t : RepS) (w : World) (ha : AskRd w a s) (hr : RepRd w r t) :
    Calls Try.prog 4 #[askV a s, repV r t] w (RetQ w true) := by
  have HL := Lib.hid (fun W (hX : Ext w W) => long04_any a r s t W (ha.ext hX) (hr.ext hX))
  have hlong : (decide (70000 < s.n1 ∨ 70000 < s.n2 ∨ 70000 < s.n3) || longR r) = false → (s.n1 ≤ 70000 ∧ s.n2 ≤ 70000 ∧ s.n3 ≤ 70000) ∧ t.n1 ≤ 70000 ∧ t.n2 ≤ 70000 ∧ t.n3 ≤ 1000 := fun h => by
    simp only [Bool.or_eq_false_iff, decide_eq_false_iff_not] at h
    have h2 := longR_le h.2
    have h3 := hr.n1; have h4 := hr.n2; have h5 := hr.n3
    omega
  generalize (decide (70000 < s.n1 ∨ 70000 < s.n2 ∨ 70000 < s.n3) || longR r) = P at HL hlong
  cases P with
  | true => exact puts_long _ _ _ _ _ _ _ _ _ _ _ _ _ _ _ _ _ _ _ _ _ _ w HL
  | false =>
  obtain ⟨⟨b1, b2, b3⟩, b4, b5, b6⟩ := hlong rfl
  have HLN := Lib.hid (fun (W : World) (hX : Ext w W) => lentAsk_any a s W (ha.ext hX) b1 b2 b3)
  have HLR := Lib.hid (fun (W : World) (base : Nat) (t : AskS) (h : AskLent W base a s t) => h.rd ha b1 b2 b3)
  have HCP := Lib.hid (fun (W : World) (hX : Ext w W) => copyReply_any r t W (hr.ext hX) b4 b5 b6)
  have HP := Lib.hid (fun (W : World) (u : AskS) (v : RepS) (h : AskRd W a u) (h' : RepRd W r v) => replyPut_any a r u v W h h')
  have HP4 := Lib.hid (fun (W : World) (hX : Ext w W) => ref04Put_any a r s t W (ha.ext hX) (hr.ext hX))
  have HKP := Lib.hid (fun (W : World) (base : Nat) (t : AskS) (hX : Ext w W) (h : AskLent W base a s t) => keptAsk_any a s t base W (ha.ext hX) h b1 b2 b3)
  have HSR := Lib.hid (fun (W : World) (v : RepS) (hX : Ext w W) (h : RepRd W r v) => same_reply r v t W h (hr.ext hX))
  have hlen : (putR a r).1.length ≤ 300 := by
    by_cases hK : checkR a r = 0
    · have := (getR_putR hK).2.2; omega
    · rw [putR_no hK]; simp
  generalize putR a r = PP at *
  obtain ⟨xs, E⟩ := PP
  simp only at HP HP4 hlen
  have hee : (E != E) = false := by simp
  obtain ⟨n, hn⟩ : ∃ n, xs.length = n := ⟨_, rfl⟩
  rw [hn] at hlen
  have HN := Lib.hid hn
  clear ha hr hlong hn
  obtain ⟨code, addr, count, on, set, parts⟩ := a
  obtain ⟨A1, n1, c1, A2, n2, c2, A3, n3, c3⟩ := s
  obtain ⟨exc, ron, rset, files⟩ := r
  obtain ⟨B1, m1, k1, B2, m2, k2, B3, m3, k3⟩ := t
  simp only [askV, repV] at HL HLN HCP HP HP4 HKP HSR ⊢
  go_enter Try.func4, Try.ntmps4
  go_wp2_with fail
  refine (HL.out _ ((Ext.alloc _ _).trans (Ext.alloc _ _))).mono ?_
  rintro e w1 ⟨rfl, hx⟩
  have Z := Lib.hid (show Ext w w1 from ((Ext.alloc _ _).trans (Ext.alloc _ _)).trans hx)
  have BA := Lib.hid (show w1.heap[w.heap.size]? = some (.cells #[.int .i64 code, .int .i64 addr, .int .i64 count, .slice A1 n1 c1, .slice A2 n2 c2, .slice A3 n3 c3] 26 (0, 0)) from hx.block ((Ext.alloc _ _).block (heap_at _ _ _ (by simp))))
  have BR := Lib.hid (show w1.heap[w.heap.size + 1]? = some (.cells #[.int .i64 exc, .slice B1 m1 k1, .slice B2 m2 k2, .slice B3 m3 k3] 29 (0, 0)) from hx.block (heap_at _ _ _ (by simp)))
  have X := Lib.hid Z.out
  clear hx Z
  obtain ⟨d0, d1, d2, d3, d4, d5⟩ := cells6 BA.out
  obtain ⟨g0, g1, g2, g3⟩ := cells4 BR.out
  go_wp2_with fail
  refine (HLN.out _ X.out).mono ?_
  rintro e w2 ⟨t, rfl, hlent, hx⟩
  have Z := Lib.hid (show Ext w1 w2 from hx)
  replace BA := Lib.hid (Z.out.block BA.out)
  replace BR := Lib.hid (Z.out.block BR.out)
  replace X := Lib.hid (X.out.trans Z.out)
  have HLT := Lib.hid hlent
  have HRT := Lib.hid (HLR.out _ _ _ hlent)
  clear hlent
  obtain ⟨C1, p1, q1, C2, p2, q2, C3, p3, q3⟩ := t
  simp only
  clear d0 d1 d2 d3 d4 d5 g0 g1 g2 g3
  clear hx Z
  obtain ⟨d0, d1, d2, d3, d4, d5⟩ := cells6 BA.out
  have da0 := fun o : Obj => (cells6 ((Ext.alloc _ o).block BA.out)).1
  have da1 := fun o : Obj => (cells6 ((Ext.alloc _ o).block BA.out)).2.1
  have da2 := fun o : Obj => (cells6 ((Ext.alloc _ o).block BA.out)).2.2.1
  have da3 := fun o : Obj => (cells6 ((Ext.alloc _ o).block BA.out)).2.2.2.1
  have da4 := fun o : Obj => (cells6 ((Ext.alloc _ o).block BA.out)).2.2.2.2.1
  have da5 := fun o : Obj => (cells6 ((Ext.alloc _ o).block BA.out)).2.2.2.2.2
  obtain ⟨g0, g1, g2, g3⟩ := cells4 BR.out
  have ga0 := fun o : Obj => (cells4 ((Ext.alloc _ o).block BR.out)).1
  have ga1 := fun o : Obj => (cells4 ((Ext.alloc _ o).block BR.out)).2.1
  have ga2 := fun o : Obj => (cells4 ((Ext.alloc _ o).block BR.out)).2.2.1
  have ga3 := fun o : Obj => (cells4 ((Ext.alloc _ o).block BR.out)).2.2.2
  go_wp2_with fail
  refine (HCP.out _ (X.out.trans (Ext.alloc _ _))).mono ?_
  rintro e w3 ⟨t, rfl, how, hx⟩
  have Z := Lib.hid (show Ext w2 w3 from (Ext.alloc _ _).trans hx)
  replace BA := Lib.hid (Z.out.block BA.out)
  replace BR := Lib.hid (Z.out.block BR.out)
  have BX := Lib.hid (show w3.heap[w2.heap.size]? = some (.cells #[.int .i64 code, .int .i64 addr, .int .i64 count, .slice C1 p1 q1, .slice C2 p2 q2, .slice C3 p3 q3] 26 (0, 0)) from hx.block (heap_at _ _ _ (by simp)))
  replace X := Lib.hid (X.out.trans Z.out)
  replace HLT := Lib.hid (HLT.out.ext Z.out)
  replace HRT := Lib.hid (HRT.out.ext Z.out)
  have HOY := Lib.hid how.rd
  clear how
  obtain ⟨D1, r1, u1, D2, r2, u2, D3, r3, u3⟩ := t
  simp only
  clear d0 d1 d2 d3 d4 d5 da0 da1 da2 da3 da4 da5 g0 g1 g2 g3 ga0 ga1 ga2 ga3
  clear hx Z
  obtain ⟨d0, d1, d2, d3, d4, d5⟩ := cells6 BA.out
  have da0 := fun o : Obj => (cells6 ((Ext.alloc _ o).block BA.out)).1
  have da1 := fun o : Obj => (cells6 ((Ext.alloc _ o).block BA.out)).2.1
  have da2 := fun o : Obj => (cells6 ((Ext.alloc _ o).block BA.out)).2.2.1
  have da3 := fun o : Obj => (cells6 ((Ext.alloc _ o).block BA.out)).2.2.2.1
  have da4 := fun o : Obj => (cells6 ((Ext.alloc _ o).block BA.out)).2.2.2.2.1
  have da5 := fun o : Obj => (cells6 ((Ext.alloc _ o).block BA.out)).2.2.2.2.2
  obtain ⟨g0, g1, g2, g3⟩ := cells4 BR.out
  have ga0 := fun o : Obj => (cells4 ((Ext.alloc _ o).block BR.out)).1
  have ga1 := fun o : Obj => (cells4 ((Ext.alloc _ o).block BR.out)).2.1
  have ga2 := fun o : Obj => (cells4 ((Ext.alloc _ o).block BR.out)).2.2.1
  have ga3 := fun o : Obj => (cells4 ((Ext.alloc _ o).block BR.out)).2.2.2
  obtain ⟨x0, x1, x2, x3, x4, x5⟩ := cells6 BX.out
  have xa0 := fun o : Obj => (cells6 ((Ext.alloc _ o).block BX.out)).1
  have xa1 := fun o : Obj => (cells6 ((Ext.alloc _ o).block BX.out)).2.1
  have xa2 := fun o : Obj => (cells6 ((Ext.alloc _ o).block BX.out)).2.2.1
  have xa3 := fun o : Obj => (cells6 ((Ext.alloc _ o).block BX.out)).2.2.2.1
  have xa4 := fun o : Obj => (cells6 ((Ext.alloc _ o).block BX.out)).2.2.2.2.1
  have xa5 := fun o : Obj => (cells6 ((Ext.alloc _ o).block BX.out)).2.2.2.2.2
  go_wp2_with fail
  obtain ⟨V, hV⟩ : ∃ V, (w3.alloc (.cells #[.int .i64 exc, .slice D1 r1 u1, .slice D2 r2 u2, .slice D3 r3 u3] 29)) = V := ⟨_, rfl⟩
  rw [hV]
  have Z := Lib.hid (show Ext w3 V from hV ▸ Ext.alloc _ _)
  replace BA := Lib.hid (Z.out.block BA.out)
  replace BR := Lib.hid (Z.out.block BR.out)
  replace BX := Lib.hid (Z.out.block BX.out)
  have BY := Lib.hid (show V.heap[w3.heap.size]? = some (.cells #[.int .i64 exc, .slice D1 r1 u1, .slice D2 r2 u2, .slice D3 r3 u3] 29 (0, 0)) from hV ▸ heap_at _ _ _ (by simp))
  replace X := Lib.hid (X.out.trans Z.out)
  replace HLT := Lib.hid (HLT.out.ext Z.out)
  replace HRT := Lib.hid (HRT.out.ext Z.out)
  replace HOY := Lib.hid (HOY.out.ext Z.out)
  clear d0 d1 d2 d3 d4 d5 da0 da1 da2 da3 da4 da5 g0 g1 g2 g3 ga0 ga1 ga2 ga3 x0 x1 x2 x3 x4 x5 xa0 xa1 xa2 xa3 xa4 xa5
  clear Z hV
  have BA0 := BA; have BR0 := BR; have BX0 := BX; have BY0 := BY; have XV := X; have HLT0 := HLT; have HOY0 := HOY
  have Y := Lib.hid (Ext.refl V)
  refine (HP.out _ ⟨C1, p1, q1, C2, p2, q2, C3, p3, q3⟩ ⟨D1, r1, u1, D2, r2, u2, D3, r3, u3⟩ HRT.out HOY.out).mono ?_
  rintro e w4 ⟨A5, n5, c5, rfl, ho5, hx⟩
  have Z := Lib.hid (show Ext V w4 from hx)
  replace BA := Lib.hid (Z.out.block BA.out)
  replace BR := Lib.hid (Z.out.block BR.out)
  replace BX := Lib.hid (Z.out.block BX.out)
  replace BY := Lib.hid (Z.out.block BY.out)
  replace X := Lib.hid (X.out.trans Z.out)
  replace HLT := Lib.hid (HLT.out.ext Z.out)
  replace HRT := Lib.hid (HRT.out.ext Z.out)
  replace HOY := Lib.hid (HOY.out.ext Z.out)
  replace Y := Lib.hid (Y.out.trans Z.out)
  obtain rfl : n = n5 := by have h1 := ho5.len; have h2 := HN.out; simp at h1; omega
  have HO5 := Lib.hid ho5
  have HS5 := HO5
  clear ho5
  clear hx Z
  obtain ⟨d0, d1, d2, d3, d4, d5⟩ := cells6 BA.out
  obtain ⟨g0, g1, g2, g3⟩ := cells4 BR.out
  obtain ⟨x0, x1, x2, x3, x4, x5⟩ := cells6 BX.out
  obtain ⟨y0, y1, y2, y3⟩ := cells4 BY.out
  go_wp2_with fail
  have YP := Y
  refine (HP.out _ ⟨C1, p1, q1, C2, p2, q2, C3, p3, q3⟩ ⟨D1, r1, u1, D2, r2, u2, D3, r3, u3⟩ HRT.out HOY.out).mono ?_
  rintro e w5 ⟨A6, n6, c6, rfl, ho6, hx⟩
  have Z := Lib.hid (show Ext w4 w5 from hx)
  replace BA := Lib.hid (Z.out.block BA.out)
  replace BR := Lib.hid (Z.out.block BR.out)
  replace BX := Lib.hid (Z.out.block BX.out)
  replace BY := Lib.hid (Z.out.block BY.out)
  replace X := Lib.hid (X.out.trans Z.out)
  replace HLT := Lib.hid (HLT.out.ext Z.out)
  replace HRT := Lib.hid (HRT.out.ext Z.out)
  replace HOY := Lib.hid (HOY.out.ext Z.out)
  replace HO5 := Lib.hid (HO5.out.ext Z.out)
  replace Y := Lib.hid (Y.out.trans Z.out)
  obtain rfl : n = n6 := by have h1 := ho6.len; have h2 := HN.out; simp at h1; omega
  have Z5 := Lib.hid (show V.heap.size ≤ w4.heap.size from YP.out.size)
  have HO6 := Lib.hid ho6
  have HSEP := Lib.hid (Sep.of_lt HS5.out ho6 (Nat.le_refl _))
  clear ho6 HS5
  clear d0 d1 d2 d3 d4 d5 g0 g1 g2 g3 x0 x1 x2 x3 x4 x5 y0 y1 y2 y3
  clear hx Z
  obtain ⟨d0, d1, d2, d3, d4, d5⟩ := cells6 BA.out
  obtain ⟨g0, g1, g2, g3⟩ := cells4 BR.out
  obtain ⟨x0, x1, x2, x3, x4, x5⟩ := cells6 BX.out
  obtain ⟨y0, y1, y2, y3⟩ := cells4 BY.out
  go_wp2_with fail
  refine (HP4.out _ X.out).mono ?_
  rintro e w6 ⟨A7, n7, c7, rfl, ho7, hx⟩
  have Z := Lib.hid (show Ext w5 w6 from hx)
  replace BA := Lib.hid (Z.out.block BA.out)
  replace BR := Lib.hid (Z.out.block BR.out)
  replace BX := Lib.hid (Z.out.block BX.out)
  replace BY := Lib.hid (Z.out.block BY.out)
  replace X := Lib.hid (X.out.trans Z.out)
  replace HLT := Lib.hid (HLT.out.ext Z.out)
  replace HRT := Lib.hid (HRT.out.ext Z.out)
  replace HOY := Lib.hid (HOY.out.ext Z.out)
  replace HO5 := Lib.hid (HO5.out.ext Z.out)
  replace HO6 := Lib.hid (HO6.out.ext Z.out)
  replace Y := Lib.hid (Y.out.trans Z.out)
  obtain rfl : n = n7 := by have h1 := ho7.len; have h2 := HN.out; simp at h1; omega
  have HO7 := Lib.hid ho7.rd
  clear ho7
  clear d0 d1 d2 d3 d4 d5 g0 g1 g2 g3 x0 x1 x2 x3 x4 x5 y0 y1 y2 y3
  clear hx Z
  obtain ⟨d0, d1, d2, d3, d4, d5⟩ := cells6 BA.out
  obtain ⟨g0, g1, g2, g3⟩ := cells4 BR.out
  obtain ⟨x0, x1, x2, x3, x4, x5⟩ := cells6 BX.out
  obtain ⟨y0, y1, y2, y3⟩ := cells4 BY.out
  go_wp2_with fail
  refine (same_any xs xs _ _ _ _ _ _ _ HO5.out.rd HO7.out (by unfold maxLen; omega)).mono ?_
  rintro e w7 ⟨rfl, hx⟩
  have Z := Lib.hid (show Ext w6 w7 from (Ext.of hx))
  replace BA := Lib.hid (Z.out.block BA.out)
  replace BR := Lib.hid (Z.out.block BR.out)
  replace BX := Lib.hid (Z.out.block BX.out)
  replace BY := Lib.hid (Z.out.block BY.out)
  replace X := Lib.hid (X.out.trans Z.out)
  replace HLT := Lib.hid (HLT.out.ext Z.out)
  replace HRT := Lib.hid (HRT.out.ext Z.out)
  replace HOY := Lib.hid (HOY.out.ext Z.out)
  replace HO5 := Lib.hid (HO5.out.ext Z.out)
  replace HO6 := Lib.hid (HO6.out.ext Z.out)
  replace HO7 := Lib.hid (HO7.out.ext Z.out)
  replace Y := Lib.hid (Y.out.trans Z.out)
  rw [decide_eq_true rfl]
  clear d0 d1 d2 d3 d4 d5 g0 g1 g2 g3 x0 x1 x2 x3 x4 x5 y0 y1 y2 y3
  clear hx Z
  obtain ⟨d0, d1, d2, d3, d4, d5⟩ := cells6 BA.out
  obtain ⟨g0, g1, g2, g3⟩ := cells4 BR.out
  obtain ⟨x0, x1, x2, x3, x4, x5⟩ := cells6 BX.out
  obtain ⟨y0, y1, y2, y3⟩ := cells4 BY.out
  go_wp2_with fail
  refine (same_any xs xs _ _ _ _ _ _ _ HO6.out.rd HO7.out (by unfold maxLen; omega)).mono ?_
  rintro e w8 ⟨rfl, hx⟩
  have Z := Lib.hid (show Ext w7 w8 from (Ext.of hx))
  replace BA := Lib.hid (Z.out.block BA.out)
  replace BR := Lib.hid (Z.out.block BR.out)
  replace BX := Lib.hid (Z.out.block BX.out)
  replace BY := Lib.hid (Z.out.block BY.out)
  replace X := Lib.hid (X.out.trans Z.out)
  replace HLT := Lib.hid (HLT.out.ext Z.out)
  replace HRT := Lib.hid (HRT.out.ext Z.out)
  replace HOY := Lib.hid (HOY.out.ext Z.out)
  replace HO5 := Lib.hid (HO5.out.ext Z.out)
  replace HO6 := Lib.hid (HO6.out.ext Z.out)
  replace HO7 := Lib.hid (HO7.out.ext Z.out)
  replace Y := Lib.hid (Y.out.trans Z.out)
  rw [decide_eq_true rfl]
  clear d0 d1 d2 d3 d4 d5 g0 g1 g2 g3 x0 x1 x2 x3 x4 x5 y0 y1 y2 y3
  clear hx Z
  obtain ⟨d0, d1, d2, d3, d4, d5⟩ := cells6 BA.out
  obtain ⟨g0, g1, g2, g3⟩ := cells4 BR.out
  obtain ⟨x0, x1, x2, x3, x4, x5⟩ := cells6 BX.out
  obtain ⟨y0, y1, y2, y3⟩ := cells4 BY.out
  go_wp2_with fail
  refine (HKP.out _ _ ⟨C1, p1, q1, C2, p2, q2, C3, p3, q3⟩ X.out HLT.out).mono ?_
  rintro e w9 ⟨rfl, hx⟩
  have Z := Lib.hid (show Ext w8 w9 from hx)
  replace BA := Lib.hid (Z.out.block BA.out)
  replace BR := Lib.hid (Z.out.block BR.out)
  replace BX := Lib.hid (Z.out.block BX.out)
  replace BY := Lib.hid (Z.out.block BY.out)
  replace X := Lib.hid (X.out.trans Z.out)
  replace HLT := Lib.hid (HLT.out.ext Z.out)
  replace HRT := Lib.hid (HRT.out.ext Z.out)
  replace HOY := Lib.hid (HOY.out.ext Z.out)
  replace HO5 := Lib.hid (HO5.out.ext Z.out)
  replace HO6 := Lib.hid (HO6.out.ext Z.out)
  replace HO7 := Lib.hid (HO7.out.ext Z.out)
  replace Y := Lib.hid (Y.out.trans Z.out)
  clear d0 d1 d2 d3 d4 d5 g0 g1 g2 g3 x0 x1 x2 x3 x4 x5 y0 y1 y2 y3
  clear hx Z
  obtain ⟨d0, d1, d2, d3, d4, d5⟩ := cells6 BA.out
  obtain ⟨g0, g1, g2, g3⟩ := cells4 BR.out
  obtain ⟨x0, x1, x2, x3, x4, x5⟩ := cells6 BX.out
  obtain ⟨y0, y1, y2, y3⟩ := cells4 BY.out
  go_wp2_with fail
  refine (HSR.out _ ⟨D1, r1, u1, D2, r2, u2, D3, r3, u3⟩ X.out HOY.out).mono ?_
  rintro e w10 ⟨rfl, hx⟩
  have Z := Lib.hid (show Ext w9 w10 from hx)
  replace BA := Lib.hid (Z.out.block BA.out)
  replace BR := Lib.hid (Z.out.block BR.out)
  replace BX := Lib.hid (Z.out.block BX.out)
  replace BY := Lib.hid (Z.out.block BY.out)
  replace X := Lib.hid (X.out.trans Z.out)
  replace HLT := Lib.hid (HLT.out.ext Z.out)
  replace HRT := Lib.hid (HRT.out.ext Z.out)
  replace HOY := Lib.hid (HOY.out.ext Z.out)
  replace HO5 := Lib.hid (HO5.out.ext Z.out)
  replace HO6 := Lib.hid (HO6.out.ext Z.out)
  replace HO7 := Lib.hid (HO7.out.ext Z.out)
  replace Y := Lib.hid (Y.out.trans Z.out)
  clear d0 d1 d2 d3 d4 d5 g0 g1 g2 g3 x0 x1 x2 x3 x4 x5 y0 y1 y2 y3
  clear hx Z
  obtain ⟨d0, d1, d2, d3, d4, d5⟩ := cells6 BA.out
  obtain ⟨g0, g1, g2, g3⟩ := cells4 BR.out
  obtain ⟨x0, x1, x2, x3, x4, x5⟩ := cells6 BX.out
  obtain ⟨y0, y1, y2, y3⟩ := cells4 BY.out
  go_wp2_with fail
  refine (apart_alloc [(A5, n, c5), (A6, n, c6)] 2 V.heap.size w10 rfl ?_ ?_ ?_ Y.out.size (by omega)).mono ?_
  · intro s hs
    simp only [List.mem_cons, List.not_mem_nil, or_false] at hs
    rcases hs with rfl | rfl
    · exact ⟨_, HO5.out⟩
    · exact ⟨_, HO6.out.mono Z5.out⟩
  · simp only [List.pairwise_cons, List.mem_cons, List.not_mem_nil, or_false, forall_eq]
    exact ⟨HSEP.out, by simp, List.Pairwise.nil⟩
  · intro s hs
    simp only [List.mem_cons, List.not_mem_nil, or_false] at hs
    rcases hs with rfl | rfl <;> simp <;> omega
  rintro e w20 ⟨rfl, hb⟩
  have Y20 := Lib.hid (show Ext V w20 from Y.out.below.trans hb)
  have X := Lib.hid (XV.out.trans Y20.out)
  have BA := Lib.hid (Y20.out.block BA0.out); have BR := Lib.hid (Y20.out.block BR0.out); have BX := Lib.hid (Y20.out.block BX0.out); have BY := Lib.hid (Y20.out.block BY0.out)
  have HLT := Lib.hid (HLT0.out.ext Y20.out); have HOY := Lib.hid (HOY0.out.ext Y20.out)
  clear d0 d1 d2 d3 d4 d5 g0 g1 g2 g3 x0 x1 x2 x3 x4 x5 y0 y1 y2 y3
  clear hb
  obtain ⟨d0, d1, d2, d3, d4, d5⟩ := cells6 BA.out
  obtain ⟨g0, g1, g2, g3⟩ := cells4 BR.out
  obtain ⟨x0, x1, x2, x3, x4, x5⟩ := cells6 BX.out
  obtain ⟨y0, y1, y2, y3⟩ := cells4 BY.out
  go_wp2_with fail
  refine (HKP.out _ _ ⟨C1, p1, q1, C2, p2, q2, C3, p3, q3⟩ X.out HLT.out).mono ?_
  rintro e w21 ⟨rfl, hx⟩
  have Z := Lib.hid (show Ext w20 w21 from hx)
  replace BA := Lib.hid (Z.out.block BA.out)
  replace BR := Lib.hid (Z.out.block BR.out)
  replace BX := Lib.hid (Z.out.block BX.out)
  replace BY := Lib.hid (Z.out.block BY.out)
  replace X := Lib.hid (X.out.trans Z.out)
  replace HLT := Lib.hid (HLT.out.ext Z.out)
  replace HOY := Lib.hid (HOY.out.ext Z.out)
  clear d0 d1 d2 d3 d4 d5 g0 g1 g2 g3 x0 x1 x2 x3 x4 x5 y0 y1 y2 y3
  clear hx Z
  obtain ⟨d0, d1, d2, d3, d4, d5⟩ := cells6 BA.out
  obtain ⟨g0, g1, g2, g3⟩ := cells4 BR.out
  obtain ⟨x0, x1, x2, x3, x4, x5⟩ := cells6 BX.out
  obtain ⟨y0, y1, y2, y3⟩ := cells4 BY.out
  go_wp2_with fail
  refine (HSR.out _ ⟨D1, r1, u1, D2, r2, u2, D3, r3, u3⟩ X.out HOY.out).mono ?_
  rintro e w22 ⟨rfl, hx⟩
  have Z := Lib.hid (show Ext w21 w22 from hx)
  replace BA := Lib.hid (Z.out.block BA.out)
  replace BR := Lib.hid (Z.out.block BR.out)
  replace BX := Lib.hid (Z.out.block BX.out)
  replace BY := Lib.hid (Z.out.block BY.out)
  replace X := Lib.hid (X.out.trans Z.out)
  replace HLT := Lib.hid (HLT.out.ext Z.out)
  replace HOY := Lib.hid (HOY.out.ext Z.out)
  clear d0 d1 d2 d3 d4 d5 g0 g1 g2 g3 x0 x1 x2 x3 x4 x5 y0 y1 y2 y3
  clear hx Z
  obtain ⟨d0, d1, d2, d3, d4, d5⟩ := cells6 BA.out
  obtain ⟨g0, g1, g2, g3⟩ := cells4 BR.out
  obtain ⟨x0, x1, x2, x3, x4, x5⟩ := cells6 BX.out
  obtain ⟨y0, y1, y2, y3⟩ := cells4 BY.out
  go_wp2_with fail
  refine (works04_any _).mono ?_
  rintro e w23 ⟨rfl, hx⟩
  have Z := Lib.hid (show Ext w22 w23 from hx)
  replace BA := Lib.hid (Z.out.block BA.out)
  replace BR := Lib.hid (Z.out.block BR.out)
  replace BX := Lib.hid (Z.out.block BX.out)
  replace BY := Lib.hid (Z.out.block BY.out)
  replace X := Lib.hid (X.out.trans Z.out)
  replace HLT := Lib.hid (HLT.out.ext Z.out)
  replace HOY := Lib.hid (HOY.out.ext Z.out)
  clear d0 d1 d2 d3 d4 d5 g0 g1 g2 g3 x0 x1 x2 x3 x4 x5 y0 y1 y2 y3
  clear hx Z
  obtain ⟨d0, d1, d2, d3, d4, d5⟩ := cells6 BA.out
  obtain ⟨g0, g1, g2, g3⟩ := cells4 BR.out
  obtain ⟨x0, x1, x2, x3, x4, x5⟩ := cells6 BX.out
  obtain ⟨y0, y1, y2, y3⟩ := cells4 BY.out
  go_wp2_with fail
  go_ret
  exact ⟨rfl, X.out⟩
end Go.Proofs.Ytpjmhckdeeonbaa
