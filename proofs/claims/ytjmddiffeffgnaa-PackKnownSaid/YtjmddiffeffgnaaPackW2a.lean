/- The walks of the laws PackWords and PackWordsBack: for every input true; nothing that was there turns. -/
import Derived.Test.YtjmddiffeffgnaaPackW
namespace Go.Proofs.Ytjmddiffeffgnaa
set_option linter.unusedVariables false
open Go Go.RowKit Go.Out

theorem lawPackWords (l : List UInt16) (A : Option Addr) (m c : Nat) (b : List UInt8) (B : Option Addr) (m' c' : Nat) (w : World) (hr : Rd w A m (l.map cW)) (hc : m ≤ c) (hm : c ≤ 9223372036854775807) (_ : c * 2 ≤ 140737488351232) (hr' : Rd w B m' (b.map cB)) (hc' : m' ≤ c') (hm' : c' ≤ 9223372036854775807) (_ : c' * 1 ≤ 140737488351232) :
    Calls Try.prog 45 #[.slice A m c, .slice B m' c'] w fun e w' => e = .returned (.bool true) ∧ Below w.heap.size w w' := by
  have Hr := Lib.hid hr; have Hr' := Lib.hid hr'; clear hr hr'
  by_cases hbig : 65536 < m ∨ 65536 < m'
  · rcases Nat.lt_or_ge 65536 m with h1 | h1
    all_goals try (have h2 : 65536 < m' := by omega)
    all_goals
      clear hbig
      go_enter Try.func45, Try.ntmps45
      go_wp2_with fail
      refine (works_any _).mono ?_
      rintro e w1 ⟨rfl, hb⟩
      go_wp2_with fail
      go_ret
      exact ⟨rfl, hb⟩
  · have h1 : m ≤ 65536 := by omega
    have h2 : m' ≤ 65536 := by omega
    clear hbig
    go_enter Try.func45, Try.ntmps45
    go_wp2_with fail
    refine (lentW_any l _ _ _ _ Hr.out (by omega)).mono ?_
    rintro e w1 ⟨gx, curx, rfl, hgx, hhx, hcurx, hb1⟩
    have hox := lentW_own hgx hhx hcurx Hr.out.length (by omega)
    have hgxl := lt_of_heap hhx
    have Hhx := Lib.hid hhx; have Hcx := Lib.hid hcurx; have Hox := Lib.hid hox; clear hhx hcurx hox
    have hz1 := hb1.size
    go_wp2_with fail
    refine (lent_any b _ _ _ _ (Hr'.out.below hb1) (by omega)).mono ?_
    rintro e w2 ⟨gy, cury, rfl, hgy, hhy, hcury, hb2⟩
    have hoy := lent_own hgy hhy hcury Hr'.out.length (by omega)
    have hgyl := lt_of_heap hhy
    have Hhy := Lib.hid hhy; have Hcy := Lib.hid hcury; have Hoy := Lib.hid hoy; clear hhy hcury hoy
    have hz2 := hb2.size
    go_wp2_with fail
    refine (bytes_any l _ _ _ _ (Hox.out.below hb2).rd (by omega)).mono ?_
    rintro e w3 ⟨A3, c3, rfl, ho3, hb3⟩
    have Ho3 := Lib.hid ho3; clear ho3
    have hz3 := hb3.size
    go_wp2_with fail
    refine (bytes_any l _ _ _ _ ((Hox.out.below hb2).below hb3).rd (by omega)).mono ?_
    rintro e w4 ⟨A4, c4, rfl, ho4, hb4⟩
    have Ho4 := Lib.hid ho4; clear ho4
    have hz4 := hb4.size
    have hb04 : Below w.heap.size w w4 := hb1.trans ((hb2.mono hz1).trans ((hb3.mono (by omega)).trans (hb4.mono (by omega))))
    go_wp2_with fail
    refine (refBytes_any l _ _ _ _ (Hr.out.below hb04) (by omega)).mono ?_
    rintro e w5 ⟨A5, c5, rfl, ho5, hb5⟩
    have Ho5 := Lib.hid ho5; clear ho5
    have hz5 := hb5.size
    go_wp2_with fail
    refine (same_any (wb l) (wb l) _ _ _ _ _ _ _ ((Ho3.out.below hb4).below hb5).rd Ho5.out.rd (by unfold maxLen; omega)).mono ?_
    rintro e w6 ⟨rfl, hb6⟩
    rw [decide_eq_true rfl]
    have hz6 := hb6.size
    go_wp2_with fail
    refine (same_any (wb l) (wb l) _ _ _ _ _ _ _ ((Ho4.out.below hb5).below hb6).rd (Ho5.out.below hb6).rd (by unfold maxLen; omega)).mono ?_
    rintro e w7 ⟨rfl, hb7⟩
    rw [decide_eq_true rfl]
    have hz7 := hb7.size
    have hb17 : Below w1.heap.size w1 w7 := hb2.trans ((hb3.mono hz2).trans ((hb4.mono (by omega)).trans ((hb5.mono (by omega)).trans ((hb6.mono (by omega)).trans (hb7.mono (by omega))))))
    have hb27 : Below w2.heap.size w2 w7 := hb3.trans ((hb4.mono hz3).trans ((hb5.mono (by omega)).trans ((hb6.mono (by omega)).trans (hb7.mono (by omega)))))
    go_wp2_with fail
    refine (keptW_any l _ _ _ gx curx _ ((Hr.out.below hb1).below hb17) (by rw [hb17.block gx hgxl]; exact Hhx.out) Hcx.out (by omega)).mono ?_
    rintro e w8 ⟨rfl, hb8⟩
    have hz8 := hb8.size
    go_wp2_with fail
    refine (apart_alloc [(A3, 2 * m, c3), (A4, 2 * m, c4)] 2 w2.heap.size w8 rfl ?_ ?_ ?_ (by omega) (by omega)).mono ?_
    · intro s hs
      simp only [List.mem_cons, List.not_mem_nil, or_false] at hs
      rcases hs with rfl | rfl
      · exact ⟨_, (((((Ho3.out.below hb4).below hb5).below hb6).below hb7).below hb8)⟩
      · exact ⟨_, ((((Ho4.out.below hb5).below hb6).below hb7).below hb8).mono (by omega)⟩
    · simp only [List.pairwise_cons, List.mem_cons, List.not_mem_nil, or_false, forall_eq]
      exact ⟨Sep.of_lt Ho3.out Ho4.out (Nat.le_refl _), by simp, List.Pairwise.nil⟩
    · intro s hs
      simp only [List.mem_cons, List.not_mem_nil, or_false] at hs
      rcases hs with rfl | rfl <;> simp <;> omega
    rintro e w9 ⟨rfl, hb9⟩
    have hz9 := hb9.size
    have hb29 : Below w2.heap.size w2 w9 := hb27.trans ((hb8.mono (by omega)).trans hb9)
    go_wp2_with fail
    refine (words_any b _ _ _ _ (Hoy.out.below hb29).rd (by omega)).mono ?_
    rintro e v1 ⟨P1, n1, d1, rfl, hp1, hc1⟩
    have Hp1 := Lib.hid hp1; clear hp1
    have hy1 := hc1.size
    go_wp2_with fail
    refine (words_any b _ _ _ _ ((Hoy.out.below hb29).below hc1).rd (by omega)).mono ?_
    rintro e v2 ⟨P2, n2, d2, rfl, hp2, hc2⟩
    have Hp2 := Lib.hid hp2; clear hp2
    have hy2 := hc2.size
    have hbR : Below w.heap.size w v2 := (hb1.trans ((hb2.mono hz1).trans (hb29.mono (by omega)))).trans ((hc1.mono (by omega)).trans (hc2.mono (by omega)))
    go_wp2_with fail
    refine (refWords_any b _ _ _ _ (Hr'.out.below hbR) (by omega)).mono ?_
    rintro e v3 ⟨P3, n3, d3, rfl, hp3, hc3⟩
    have Hp3 := Lib.hid hp3; clear hp3
    have hy3 := hc3.size
    have hE : ((wordsF b).2 != (wordsF b).2) = false := by simp
    have hLl : (wordsF b).1.length ≤ 65536 := by unfold wordsF; split <;> simp [bw_length]; have := Hr'.out.length; omega
    generalize (wordsF b).1 = L at *
    generalize (wordsF b).2 = E at *
    have hl1 : L.length = n1 := Hp1.out.rd.length
    have hl2 : L.length = n2 := Hp2.out.rd.length
    have HL := Lib.hid hLl; have Hl1 := Lib.hid hl1; have Hl2 := Lib.hid hl2; clear hLl hl1 hl2
    go_wp2_with fail
    refine (sameW_any L L _ _ _ _ _ _ _ (((Hp1.out.below hc2).below hc3).rd) Hp3.out.rd (by unfold maxLen; have := HL.out; have := Hl1.out; omega)).mono ?_
    rintro e v4 ⟨rfl, hc4⟩
    rw [decide_eq_true rfl]
    have hy4 := hc4.size
    go_wp2_with fail
    refine (sameW_any L L _ _ _ _ _ _ _ (((Hp2.out.below hc3).below hc4).rd) (Hp3.out.below hc4).rd (by unfold maxLen; have := HL.out; have := Hl2.out; omega)).mono ?_
    rintro e v5 ⟨rfl, hc5⟩
    rw [decide_eq_true rfl]
    have hy5 := hc5.size
    go_wp2_with fail
    refine (apartW_alloc [(P1, n1, d1), (P2, n2, d2)] 2 w9.heap.size v5 rfl ?_ ?_ ?_ (by omega) (by omega)).mono ?_
    · intro s hs
      simp only [List.mem_cons, List.not_mem_nil, or_false] at hs
      rcases hs with rfl | rfl
      · exact ⟨_, ((((Hp1.out.below hc2).below hc3).below hc4).below hc5)⟩
      · exact ⟨_, (((Hp2.out.below hc3).below hc4).below hc5).mono (by omega)⟩
    · simp only [List.pairwise_cons, List.mem_cons, List.not_mem_nil, or_false, forall_eq]
      exact ⟨Sep.of_lt Hp1.out Hp2.out (Nat.le_refl _), by simp, List.Pairwise.nil⟩
    · intro s hs
      have := HL.out; have := Hl1.out; have := Hl2.out
      simp only [List.mem_cons, List.not_mem_nil, or_false] at hs
      rcases hs with rfl | rfl <;> simp <;> omega
    rintro e v6 ⟨rfl, hc6⟩
    have hy6 := hc6.size
    have hb2v : Below w2.heap.size w2 v6 := hb29.trans (((hc1.trans ((hc2.mono hy1).trans ((hc3.mono (by omega)).trans ((hc4.mono (by omega)).trans (hc5.mono (by omega)))))).trans hc6).mono (by omega))
    go_wp2_with fail
    refine (kept_any b _ _ _ gy cury _ (((Hr'.out.below hb1).below hb2).below hb2v) (by rw [hb2v.block gy hgyl]; exact Hhy.out) Hcy.out (by omega)).mono ?_
    rintro e v7 ⟨rfl, hc7⟩
    have hy7 := hc7.size
    go_wp2_with fail
    refine (works_any _).mono ?_
    rintro e v8 ⟨rfl, hc8⟩
    go_wp2_with fail
    go_ret
    exact ⟨rfl, hb1.trans ((hb2.mono hz1).trans ((hb2v.mono (by omega)).trans ((hc7.mono (by omega)).trans (hc8.mono (by omega)))))⟩
end Go.Proofs.Ytjmddiffeffgnaa
