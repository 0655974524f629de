/- Contract of reply.Check, whatever the request and the answer. -/
import Derived.Test.YtbaiifhncpfdpaaRep
namespace Go.Proofs.Ytbaiifhncpfdpaa
set_option linter.unusedVariables false
set_option linter.unusedSimpArgs false
set_option maxRecDepth 100000
set_option maxHeartbeats 2000000
open Go Go.RowKit Go.Out

theorem ext_pair (w : World) (o1 o2 : Obj) : Ext w ((w.alloc o1).alloc o2) := (Ext.alloc _ _).trans (Ext.alloc _ _)
theorem cells4 {W : World} {g : Nat} {t : TypeId} {v0 v1 v2 v3 : Value} (h : W.heap[g]? = some (.cells #[v0, v1, v2, v3] t (0, 0))) :
    W.cell? ⟨g, 0, none⟩ = some v0 ∧ W.cell? ⟨g, 1, none⟩ = some v1 ∧ W.cell? ⟨g, 2, none⟩ = some v2 ∧ W.cell? ⟨g, 3, none⟩ = some v3 :=
  ⟨cell_of_row _ _ _ _ _ _ h, cell_of_row _ _ _ _ _ _ h, cell_of_row _ _ _ _ _ _ h, cell_of_row _ _ _ _ _ _ h⟩
theorem cells6 {W : World} {g : Nat} {t : TypeId} {v0 v1 v2 v3 v4 v5 : Value} (h : W.heap[g]? = some (.cells #[v0, v1, v2, v3, v4, v5] t (0, 0))) :
    W.cell? ⟨g, 0, none⟩ = some v0 ∧ W.cell? ⟨g, 1, none⟩ = some v1 ∧ W.cell? ⟨g, 2, none⟩ = some v2 ∧ W.cell? ⟨g, 3, none⟩ = some v3 ∧ W.cell? ⟨g, 4, none⟩ = some v4 ∧ W.cell? ⟨g, 5, none⟩ = some v5 :=
  ⟨cell_of_row _ _ _ _ _ _ h, cell_of_row _ _ _ _ _ _ h, cell_of_row _ _ _ _ _ _ h, cell_of_row _ _ _ _ _ _ h, cell_of_row _ _ _ _ _ _ h, cell_of_row _ _ _ _ _ _ h⟩
theorem counted_any (a : AskD) (r : RepD) (s : AskS) (t : RepS) (w : World) (ha : AskRd w a s) (hr : RepRd w r t) :
    Calls Try.prog 50 #[askV a s, repV r t] w (RetQ w (countedB a r)) := by
  by_cases h : a.code = 1 ∨ a.code = 2 ∨ a.code = 3 ∨ a.code = 4
  · exact counted_len a r s t w h hr
  · exact counted_rows a r s t w (by omega) (by omega) (by omega) (by omega) ha hr
theorem codeP_of {a : AskD} (h : checkF a = 0) : codeP a.code := by
  unfold checkF at h
  by_cases hp : codeP a.code
  · exact hp
  · rw [if_pos hp] at h; cases h

/-- Both boxes, in every later world. -/
theorem two_boxes (w : World) (va vb : Array Value) (ta tb : TypeId) (W : World) (hX : Ext ((w.alloc (.cells va ta)).alloc (.cells vb tb)) W) :
    W.heap[w.heap.size]? = some (.cells va ta (0, 0)) ∧ W.heap[w.heap.size + 1]? = some (.cells vb tb (0, 0)) :=
  ⟨((Ext.alloc _ _).trans hX).block (heap_alloc_new _ _), hX.block (heap_at _ _ _ (by simp))⟩

theorem replyCheck_any (a : AskD) (r : RepD) (s : AskS) (t : RepS) (w : World) (ha : AskRd w a s) (hr : RepRd w r t) :
    Calls Try.prog 32 #[askV a s, repV r t] w (RetI w (checkR a r)) := by
  have HC := Lib.hid (fun W (hX : Ext w W) => check_any a s W (ha.ext hX))
  have HN := Lib.hid (fun W (hX : Ext w W) => counted_any a r s t W (ha.ext hX) (hr.ext hX))
  have e1 := hr.n1; have e2 := hr.n2; have e3 := hr.n3
  obtain ⟨K, hK⟩ : ∃ K, checkF a = K := ⟨_, rfl⟩
  have hp := fun h => @codeP_of a h
  have f0 : K ≠ 0 → checkR a r = K := fun h => by unfold checkR; rw [if_pos (by rw [hK]; exact h), hK]
  have f1 : K = 0 → r.exc ≠ 0 → (r.exc < 1 ∨ 127 < r.exc) → checkR a r = 3 := fun h h1 h2 => by unfold checkR; rw [if_neg (by rw [hK]; simpa using h), if_pos h1, if_pos h2]
  have f2 : K = 0 → r.exc ≠ 0 → ¬ (r.exc < 1 ∨ 127 < r.exc) → (0 < t.n1 ∨ 0 < t.n2 ∨ 0 < t.n3) → checkR a r = 23 := fun h h1 h2 h3 => by unfold checkR; rw [if_neg (by rw [hK]; simpa using h), if_pos h1, if_neg h2, if_pos (by omega)]
  have f3 : K = 0 → r.exc ≠ 0 → ¬ (r.exc < 1 ∨ 127 < r.exc) → ¬ (0 < t.n1 ∨ 0 < t.n2 ∨ 0 < t.n3) → checkR a r = 0 := fun h h1 h2 h3 => by unfold checkR; rw [if_neg (by rw [hK]; simpa using h), if_pos h1, if_neg h2, if_neg (by omega)]
  have f4 : K = 0 → r.exc = 0 → foreignB a.code t.n1 t.n2 t.n3 = true → checkR a r = 23 := fun h h1 h2 => by unfold checkR; rw [if_neg (by rw [hK]; simpa using h), if_neg (by simpa using h1), e1, e2, e3, if_pos h2]
  have f5 : K = 0 → r.exc = 0 → foreignB a.code t.n1 t.n2 t.n3 = false → checkR a r = if countedB a r = false then 22 else 0 := fun h h1 h2 => by unfold checkR; rw [if_neg (by rw [hK]; simpa using h), if_neg (by simpa using h1), e1, e2, e3, if_neg (by simp [h2])]
  rw [hK] at HC hp
  generalize checkR a r = X at *
  generalize countedB a r = CB at *
  have HP := Lib.hid hp
  have F0 := Lib.hid f0; have F1 := Lib.hid f1; have F2 := Lib.hid f2; have F3 := Lib.hid f3; have F4 := Lib.hid f4; have F5 := Lib.hid f5
  clear f0 f1 f2 f3 f4 f5 hp ha hr e1 e2 e3 hK
  obtain ⟨code, addr, count, on, set, parts⟩ := a
  obtain ⟨exc, ron, rset, files⟩ := r
  obtain ⟨A1, n1, c1, A2, n2, c2, A3, n3, c3⟩ := s
  obtain ⟨B1, m1, k1, B2, m2, k2, B3, m3, k3⟩ := t
  simp only [askV, repV] at HC HN HP F1 F2 F3 F4 F5 ⊢
  have HB := Lib.hid (two_boxes w #[.int .i64 code, .int .i64 addr, .int .i64 count, .slice A1 n1 c1, .slice A2 n2 c2, .slice A3 n3 c3] #[.int .i64 exc, .slice B1 m1 k1, .slice B2 m2 k2, .slice B3 m3 k3] 26 41)
  by_cases hK : K = 0
  · subst hK
    have hp := HP.out rfl
    by_cases hE : exc = 0
    · subst hE
      cases hF : foreignB code m1 m2 m3 with
      | true =>
        have hX := F4.out rfl rfl hF
        subst hX
        go_enter Try.func32, Try.ntmps32
        go_wp2_with fail
        refine (HC.out _ (ext_pair _ _ _)).mono ?_
        rintro e w1 ⟨rfl, hx1⟩
        obtain ⟨hb1, hb2⟩ := HB.out _ hx1
        obtain ⟨d0, d1, d2, d3, d4, d5⟩ := cells6 hb1
        obtain ⟨g0, g1, g2, g3⟩ := cells4 hb2
        have X1 := Lib.hid ((ext_pair _ _ _).trans hx1)
        clear hx1 hb1 hb2
        go_wp2_with fail
        refine (foreign_any code 0 _ _ _ _ _ _ _ _ _ _ hp).mono ?_
        rw [hF]
        rintro e w2 ⟨rfl, hx2⟩
        go_wp2_with fail
        go_ret
        exact ⟨rfl, X1.out.trans hx2⟩
      | false =>
        have hX := F5.out rfl rfl hF
        have HX := Lib.hid hX
        clear hX
        go_enter Try.func32, Try.ntmps32
        go_wp2_with fail
        refine (HC.out _ (ext_pair _ _ _)).mono ?_
        rintro e w1 ⟨rfl, hx1⟩
        obtain ⟨hb1, hb2⟩ := HB.out _ hx1
        obtain ⟨d0, d1, d2, d3, d4, d5⟩ := cells6 hb1
        obtain ⟨g0, g1, g2, g3⟩ := cells4 hb2
        have X1 := Lib.hid hx1
        clear hx1 hb1 hb2
        go_wp2_with fail
        refine (foreign_any code 0 _ _ _ _ _ _ _ _ _ _ hp).mono ?_
        rw [hF]
        rintro e w2 ⟨rfl, hx2⟩
        obtain ⟨hb1, hb2⟩ := HB.out _ (X1.out.trans hx2)
        clear d0 d1 d2 d3 d4 d5 g0 g1 g2 g3
        obtain ⟨d0, d1, d2, d3, d4, d5⟩ := cells6 hb1
        obtain ⟨g0, g1, g2, g3⟩ := cells4 hb2
        have X2 := Lib.hid ((ext_pair _ _ _).trans (X1.out.trans hx2))
        clear hx2 hb1 hb2
        go_wp2_with fail
        refine (HN.out _ X2.out).mono ?_
        rintro e w3 ⟨rfl, hx3⟩
        cases CB with
        | true =>
          go_wp2_with fail
          go_ret
          exact RetI.of (by rw [HX.out]; rfl) (X2.out.trans hx3)
        | false =>
          go_wp2_with fail
          go_ret
          exact RetI.of (by rw [HX.out]; rfl) (X2.out.trans hx3)
    · have hne : (exc != 0) = true := by simpa using hE
      have F1' := Lib.hid (F1.out rfl hE); have F2' := Lib.hid (F2.out rfl hE); have F3' := Lib.hid (F3.out rfl hE)
      go_enter Try.func32, Try.ntmps32
      go_wp2_with fail
      refine (HC.out _ (ext_pair _ _ _)).mono ?_
      rintro e w1 ⟨rfl, hx1⟩
      obtain ⟨hb1, hb2⟩ := HB.out _ hx1
      obtain ⟨d0, d1, d2, d3, d4, d5⟩ := cells6 hb1
      obtain ⟨g0, g1, g2, g3⟩ := cells4 hb2
      have X1 := Lib.hid ((ext_pair _ _ _).trans hx1)
      clear hx1 hb1 hb2
      go_wp2_with fail
      all_goals
        go_ret
        first
          | exact RetI.of (F1'.out (by omega)) X1.out
          | exact RetI.of (F2'.out (by omega) (by omega)) X1.out
          | exact RetI.of (F3'.out (by omega) (by omega)) X1.out
  · have hne : (K != 0) = true := by simpa using hK
    have hX := F0.out hK
    subst hX
    go_enter Try.func32, Try.ntmps32
    go_wp2_with fail
    refine (HC.out _ (ext_pair _ _ _)).mono ?_
    rintro e w1 ⟨rfl, hx1⟩
    go_wp2_with fail
    go_ret
    exact ⟨rfl, (ext_pair _ _ _).trans hx1⟩
end Go.Proofs.Ytbaiifhncpfdpaa
