/- Contract of the reference's Check (chapter 04), whatever the request and the answer. (genrep3.py prints this.) -/
import Derived.Test.YtpjmhckdeeonbaaRep3
namespace Go.Proofs.Ytpjmhckdeeonbaa
set_option linter.unusedVariables false
set_option linter.unusedSimpArgs false
set_option maxRecDepth 100000
set_option maxHeartbeats 2000000
open Go Go.RowKit Go.Out

theorem ref04_files (code addr count exc : Int) (on : List Bool) (set : List UInt16) (parts : List PartD) (A1 A2 A3 B1 B2 B3 : Option Addr) (n1 c1 n2 c2 n3 c3 m1 k1 m2 k2 m3 k3 : Nat) (w : World) (files : List (List UInt16)) (HC : Hid (∀ W, Ext w W → Calls Try.prog 55 #[.agg #[.int .i64 code, .int .i64 addr, .int .i64 count, .slice A1 n1 c1, .slice A2 n2 c2, .slice A3 n3 c3]] W (RetI W 0))) (H1 : Hid (∀ W, Calls Try.prog 56 #[.agg #[.int .i64 code, .int .i64 addr, .int .i64 count, .slice A1 n1 c1, .slice A2 n2 c2, .slice A3 n3 c3]] W (RetQ W false))) (H2 : Hid (∀ W, Calls Try.prog 57 #[.agg #[.int .i64 code, .int .i64 addr, .int .i64 count, .slice A1 n1 c1, .slice A2 n2 c2, .slice A3 n3 c3]] W (RetQ W false))) (H3 : Hid (∀ W, Calls Try.prog 58 #[.agg #[.int .i64 code, .int .i64 addr, .int .i64 count, .slice A1 n1 c1, .slice A2 n2 c2, .slice A3 n3 c3]] W (RetQ W true))) (p3 : 0 < m3) (hl : m3 = n3) (ha : RdL partK w A3 n3 parts) (hr : RdL fileK w B3 m3 files) (q1 : m3 ≤ k3 ∧ k3 ≤ 9223372036854775807) (q2 : n3 ≤ c3 ∧ c3 ≤ 9223372036854775807) :
    Calls Try.prog 16 #[.agg #[.int .i64 code, .int .i64 addr, .int .i64 count, .slice A1 n1 c1, .slice A2 n2 c2, .slice A3 n3 c3], .agg #[.int .i64 0, .slice B1 0 k1, .slice B2 0 k2, .slice B3 m3 k3]] w (RetI w (if sizedB files parts = true then 0 else 22)) := by
  subst hl
  have G3 := Lib.hid hr.length
  have E3 := Lib.hid ha.length
  have HI := Lib.hid (sizedB_iff (fs := files) (ps := parts) (by rw [G3.out, E3.out]))
  have HA := Lib.hid ha; have HR := Lib.hid hr
  clear ha hr
  generalize hSB : sizedB files parts = SB at *
  have HSB := Lib.hid hSB
  clear hSB
  obtain ⟨RX, hRX⟩ : ∃ RX : Int, (if SB = true then 0 else 22) = RX := ⟨_, rfl⟩
  rw [hRX]
  have HRX := Lib.hid hRX
  clear hRX
  have heq : ((m3 : Int) != (m3 : Int)) = false := by simp
  have HB := Lib.hid (two_boxes w #[.int .i64 code, .int .i64 addr, .int .i64 count, .slice A1 n1 c1, .slice A2 n2 c2, .slice A3 m3 c3] #[.int .i64 0, .slice B1 0 k1, .slice B2 0 k2, .slice B3 m3 k3] 26 29)
  go_enter Try.func16, Try.ntmps16
  go_wp2_with fail
  refine (HC.out _ (ext_pair _ _ _)).mono ?_
  rintro e w1 ⟨rfl, hx⟩
  have HX := Lib.hid hx
  clear hx
  obtain ⟨hb1, hb2⟩ := HB.out _ HX.out
  obtain ⟨d0, d1, d2, d3, d4, d5⟩ := cells6 hb1
  obtain ⟨g0, g1, g2, g3⟩ := cells4 hb2
  clear hb1 hb2
  go_wp2_with fail
  refine (H3.out _).mono ?_
  rintro e wn ⟨rfl, hx⟩
  replace HX := Lib.hid (HX.out.trans hx)
  clear hx d0 d1 d2 d3 d4 d5 g0 g1 g2 g3
  obtain ⟨hb1, hb2⟩ := HB.out _ HX.out
  obtain ⟨d0, d1, d2, d3, d4, d5⟩ := cells6 hb1
  obtain ⟨g0, g1, g2, g3⟩ := cells4 hb2
  clear hb1 hb2
  go_wp2_with fail
  refine (H1.out _).mono ?_
  rintro e wn ⟨rfl, hx⟩
  replace HX := Lib.hid (HX.out.trans hx)
  clear hx d0 d1 d2 d3 d4 d5 g0 g1 g2 g3
  obtain ⟨hb1, hb2⟩ := HB.out _ HX.out
  obtain ⟨d0, d1, d2, d3, d4, d5⟩ := cells6 hb1
  obtain ⟨g0, g1, g2, g3⟩ := cells4 hb2
  clear hb1 hb2
  go_wp2_with fail
  refine (H2.out _).mono ?_
  rintro e wn ⟨rfl, hx⟩
  replace HX := Lib.hid (HX.out.trans hx)
  clear hx d0 d1 d2 d3 d4 d5 g0 g1 g2 g3
  obtain ⟨hb1, hb2⟩ := HB.out _ HX.out
  obtain ⟨d0, d1, d2, d3, d4, d5⟩ := cells6 hb1
  obtain ⟨g0, g1, g2, g3⟩ := cells4 hb2
  clear hb1 hb2
  go_wp2_with fail
  refine (H3.out _).mono ?_
  rintro e wn ⟨rfl, hx⟩
  replace HX := Lib.hid (HX.out.trans hx)
  clear hx d0 d1 d2 d3 d4 d5 g0 g1 g2 g3
  obtain ⟨hb1, hb2⟩ := HB.out _ HX.out
  obtain ⟨d0, d1, d2, d3, d4, d5⟩ := cells6 hb1
  obtain ⟨g0, g1, g2, g3⟩ := cells4 hb2
  clear hb1 hb2
  go_wp2_with fail
  have hz : w.heap.size + 1 < wn.heap.size := by have := HX.out.size; simp at this; omega
  have HV := Lib.hid (Ext.refl wn)
  obtain ⟨V, hV⟩ : ∃ V, wn = V := ⟨_, rfl⟩
  subst hV
  have HE3 : Hid (∀ W, Ext wn W → W.cell? ⟨w.heap.size + 1, 3, none⟩ = some (.slice B3 m3 k3) ∧ W.cell? ⟨w.heap.size, 5, none⟩ = some (.slice A3 m3 c3)) := fun W hX => ⟨hX.cell hz g3, hX.cell (by omega) d5⟩
  have HXX := Lib.hid ((ext_pair _ _ _).trans HX.out)
  clear d0 d1 d2 d3 d4 d5 g0 g1 g2 g3 HV
  go_loopw [6] (fun j wr => ∃ k : Nat, k ≤ m3 ∧ j = .int .i64 (k : Int) ∧ Ext wn wr ∧ Hid (∀ (q : Nat) (h1 : q < files.length) (h2 : q < parts.length), q < k → (files[q].length : Int) = parts[q].len)) (fun j _ => m3 - (intOf j).toNat)
  case atStart => exact ⟨0, by omega, rfl, Ext.refl _, Lib.hid fun q _ _ h => absurd h (by omega)⟩
  case round =>
    obtain ⟨k, hk, rfl, hx, HG⟩ := hrel
    obtain ⟨e3, e5⟩ := HE3.out _ hx
    rcases Nat.lt_or_ge k m3 with hlt | hge
    · have hf : k < files.length := by rw [G3.out]; exact hlt
      have hp : k < parts.length := by rw [E3.out]; exact hlt
      obtain ⟨b, off, hbA, hbk, hl', cs, -, hc, hR⟩ := (HA.out.ext (HXX.out.trans hx)).at_ hlt
      obtain ⟨rfl, -⟩ := id hR
      have d2 : wr.cell? ⟨b, off + k * 3 + 2, none⟩ = some (.int .i64 parts[k].len) := hc 2 _ rfl
      obtain ⟨g, of2, hbB, hgk, hl2, cs2, -, hc2, A5, n5, c5, rfl, hr5, -⟩ := (HR.out.ext (HXX.out.trans hx)).at_ hlt
      have f0 : wr.cell? ⟨g, of2 + k, none⟩ = some (.slice A5 n5 c5) := by have := hc2 0 _ rfl; simpa [fileK] using this
      have hn5 : files[k].length = n5 := by have := hr5.length; simpa using this
      subst hbA; subst hbB
      have HN := Lib.hid hn5
      have X0 := Lib.hid hx
      have HGS : Hid ((n5 : Int) = parts[k].len → ∀ (q : Nat) (h1 : q < files.length) (h2 : q < parts.length), q < k + 1 → (files[q].length : Int) = parts[q].len) := fun he q q1 q2 hq => by
        by_cases hqk : q = k
        · subst hqk; rw [HN.out]; exact he
        · exact HG.out q q1 q2 (by omega)
      have HGN : Hid ((n5 : Int) ≠ parts[k].len → SB = false) := fun he => by
        cases hs : SB with
        | false => rfl
        | true => exact absurd (by rw [← HN.out]; exact HI.out.1 (by first | exact hs | exact HSB.out.trans hs) k hf hp) he
      generalize parts[k].len = P2 at *
      clear hc hR hc2 hr5 hn5 hx HI HG
      by_cases he : (n5 : Int) = P2
      · have ht : ((n5 : Int) != P2) = false := by simpa using he
        go_wp2_with fail
        go_quiet (fail)
        go_wp2_with fail
        go_roundw
        case rel => exact ⟨k + 1, by omega, by go_num, by repeat' (first | with_reducible exact X0.out | with_reducible refine Ext.drewN' ?_ _ | with_reducible refine Ext.drew' ?_ | with_reducible refine Ext.alloc' ?_ _), Lib.hid (HGS.out he)⟩
        case measure => simp [intOf]; omega
      · have ht : ((n5 : Int) != P2) = true := by simpa using he
        go_wp2_with fail
        go_quiet (fail)
        go_wp2_with fail
        go_ret
        refine RetI.of (by rw [← HRX.out, HGN.out he]; rfl) (HXX.out.trans ?_)
        repeat' (first | with_reducible exact X0.out | with_reducible refine Ext.drewN' ?_ _ | with_reducible refine Ext.drew' ?_ | with_reducible refine Ext.alloc' ?_ _)
    · obtain rfl : k = m3 := by omega
      have hS : SB = true := by
        have h1 := HI.out.2 fun q h1 h2 => HG.out q h1 h2 (by rw [← G3.out]; exact h1)
        first | exact h1 | exact HSB.out.symm.trans h1
      go_wp2_with fail
      go_ret
      exact RetI.of (by rw [← HRX.out, hS]; rfl) (HXX.out.trans hx)
end Go.Proofs.Ytpjmhckdeeonbaa
