/- Contracts of the kit's functions on answers: same, long. -/
import Derived.Test.YtbaiifhncpfdpaaRep2
import Derived.Test.YtbaiifhncpfdpaaRepLaw
import Derived.Test.YtbaiifhncpfdpaaAskKit
import Derived.StillTailTactics
namespace Go.Out
open Go Go.RowKit
set_option linter.unusedVariables false
/-- Are there more words in rows of files than a statement goes through? (n: so many till now.) -/
def sumLong : Nat → List (List UInt16) → Bool
  | _, [] => false
  | n, f :: fs => if 70000 < n + min f.length 70000 then true else sumLong (n + min f.length 70000) fs
def longR (r : RepD) : Bool := if 70000 < r.on.length ∨ 70000 < r.set.length ∨ 1000 < r.files.length then true else sumLong 0 r.files
theorem longR_le {r : RepD} (h : longR r = false) : r.on.length ≤ 70000 ∧ r.set.length ≤ 70000 ∧ r.files.length ≤ 1000 := by
  unfold longR at h
  split at h
  · simp at h
  · exact ⟨by omega, by omega, by omega⟩
end Go.Out
namespace Go.Proofs.Ytbaiifhncpfdpaa
set_option linter.unusedVariables false
set_option linter.unusedSimpArgs false
set_option maxRecDepth 100000
set_option maxHeartbeats 2000000
open Go Go.RowKit Go.Out

theorem file_cells {w : World} {A : Option Addr} {n k : Nat} {l : List (List UInt16)} (h : RdL fileK w A n l) (hk : k < n) :
    ∃ b off f A5 n5 c5, l[k]? = some f ∧ A = some ⟨b, off, none⟩ ∧ b < w.heap.size ∧ w.cell? ⟨b, off + k, none⟩ = some (.slice A5 n5 c5) ∧ Rd w A5 n5 (f.map cW) ∧ f.length = n5 ∧ n5 ≤ c5 ∧ n5 ≤ 70368744175616 := by
  obtain ⟨b, off, rfl, hbk, hl', cs, -, hc, A5, n5, c5, rfl, hr5, h5, h6⟩ := h.at_ hk
  exact ⟨b, off, l[k], A5, n5, c5, List.getElem?_eq_getElem hl', rfl, hbk, by have := hc 0 _ rfl; simpa [fileK] using this, hr5, by have := hr5.length; simpa using this, h5, h6.2⟩

theorem sameFiles_eq (l : List (List UInt16)) (A B : Option Addr) (n m ca cb : Nat) (w : World) (ha : RdL fileK w A n l) (hb : RdL fileK w B m l) (hn : n ≤ 9223372036854775807) :
    Calls Try.prog 38 #[.slice A n ca, .slice B m cb] w (RetQ w true) := by
  obtain rfl : n = m := ha.length.symm.trans hb.length
  have ht : ((n : Int) != (n : Int)) = false := by simp
  have Ha := Lib.hid ha; have Hb := Lib.hid hb; clear ha hb
  go_enter Try.func38, Try.ntmps38
  go_wp2_with fail
  go_loopw [5] (fun i wr => ∃ k : Nat, k ≤ n ∧ i = .int .i64 (k : Int) ∧ Ext w wr) (fun i _ => n - (intOf i).toNat)
  case atStart => exact ⟨0, Nat.zero_le _, rfl, Ext.refl _⟩
  case round =>
    obtain ⟨k, hk, rfl, hx⟩ := hrel
    by_cases hlt : k < n
    · obtain ⟨b1, o1, f, A1, n1, c1, hf, rfl, hb1, d0, hr1, hl1, hm1, hm1'⟩ := file_cells (Ha.out.ext hx) hlt
      obtain ⟨b2, o2, f2, A2, n2, c2, hf2, rfl, hb2, e0, hr2, hl2, hm2, hm2'⟩ := file_cells (Hb.out.ext hx) hlt
      obtain rfl : f = f2 := by rw [hf] at hf2; injection hf2
      have HR1 := Lib.hid hr1; have HR2 := Lib.hid hr2
      clear hf hf2 hr1 hr2 hl1 hl2
      go_wp2_with fail
      go_still_tail 8, (by kernel_rfl)
      change wpList _ _ _ _ _ wr.drew
      go_wp2_with fail
      refine (sameW_any f f _ _ _ _ _ _ _ (HR1.out.ext (Ext.draw _)) (HR2.out.ext (Ext.draw _)) (by unfold maxLen; omega)).mono ?_
      rintro e w1 ⟨rfl, hb1⟩
      rw [decide_eq_true rfl]
      have X1 : Ext wr w1 := (Ext.draw _).trans hb1
      go_wp2_with fail
      go_roundw
      case rel => exact ⟨k + 1, by omega, by go_num, hx.trans X1⟩
      case measure => simp [intOf]; omega
    · go_wp2_with fail
      go_ret
      exact ⟨rfl, hx⟩

theorem rep_cells_at {w : World} {exc : Int} {A1 A2 A3 : Option Addr} {n1 c1 n2 c2 n3 c3 g : Nat} (hg : g = w.heap.size) :
    ∀ W : World, Ext (w.alloc (.cells #[.int .i64 exc, .slice A1 n1 c1, .slice A2 n2 c2, .slice A3 n3 c3] 41)) W →
      W.cell? ⟨g, 0, none⟩ = some (.int .i64 exc) ∧ W.cell? ⟨g, 1, none⟩ = some (.slice A1 n1 c1) ∧ W.cell? ⟨g, 2, none⟩ = some (.slice A2 n2 c2) ∧ W.cell? ⟨g, 3, none⟩ = some (.slice A3 n3 c3) := by
  subst hg
  exact fun W hX => rep_cells W hX

theorem sameReply_eq (r : RepD) (s t : RepS) (w : World) (ha : RepRd w r s) (hb : RepRd w r t) (h1 : s.n1 ≤ 9223372036854775807) (h2 : s.n2 ≤ 9223372036854775807) (h3 : s.n3 ≤ 9223372036854775807) :
    Calls Try.prog 18 #[repV r s, repV r t] w (RetQ w true) := by
  have Ha := Lib.hid ha; have Hb := Lib.hid hb; clear ha hb
  obtain ⟨exc, on, set, files⟩ := r
  obtain ⟨A1, n1, c1, A2, n2, c2, A3, n3, c3⟩ := s
  obtain ⟨B1, m1, k1, B2, m2, k2, B3, m3, k3⟩ := t
  simp only at h1 h2 h3
  simp only [repV]
  have HB := Lib.hid (two_boxes w #[.int .i64 exc, .slice A1 n1 c1, .slice A2 n2 c2, .slice A3 n3 c3] #[.int .i64 exc, .slice B1 m1 k1, .slice B2 m2 k2, .slice B3 m3 k3] 41 41)
  go_enter Try.func18, Try.ntmps18
  go_wp2_with fail
  refine (sameL_any on on _ _ _ _ _ _ _ (Ha.out.on.ext (ext_pair _ _ _)) (Hb.out.on.ext (ext_pair _ _ _)) (by unfold maxLen; omega)).mono ?_
  rintro e w1 ⟨rfl, hx1⟩
  rw [decide_eq_true rfl]
  obtain ⟨hb1, hb2⟩ := HB.out _ (Ext.of hx1)
  obtain ⟨d0, d1, d2, d3⟩ := cells4 hb1
  obtain ⟨g0, g1, g2, g3⟩ := cells4 hb2
  have Y1 := Lib.hid (Ext.of hx1)
  have X1 := Lib.hid ((ext_pair _ _ _).trans (Ext.of hx1))
  clear hx1 hb1 hb2
  go_wp2_with fail
  refine (sameW_any set set _ _ _ _ _ _ _ (Ha.out.set.ext X1.out) (Hb.out.set.ext X1.out) (by unfold maxLen; omega)).mono ?_
  rintro e w2 ⟨rfl, hx2⟩
  rw [decide_eq_true rfl]
  clear d0 d1 d2 d3 g0 g1 g2 g3
  obtain ⟨hb1, hb2⟩ := HB.out _ (Y1.out.trans hx2)
  obtain ⟨d0, d1, d2, d3⟩ := cells4 hb1
  obtain ⟨g0, g1, g2, g3⟩ := cells4 hb2
  have X2 := Lib.hid (X1.out.trans hx2)
  clear hx2 hb1 hb2
  go_wp2_with fail
  refine (sameFiles_eq files _ _ _ _ _ _ _ (Ha.out.files.ext X2.out) (Hb.out.files.ext X2.out) h3).mono ?_
  rintro e w3 ⟨rfl, hx3⟩
  go_wp2_with fail
  go_ret
  exact ⟨rfl, X2.out.trans hx3⟩

theorem longReply_any (r : RepD) (t : RepS) (w : World) (hr : RepRd w r t) :
    Calls Try.prog 16 #[repV r t] w (RetQ w (longR r)) := by
  have e1 := hr.n1; have e2 := hr.n2; have e3 := hr.n3
  have HR := Lib.hid hr.files
  have hL : longR r = if 70000 < t.n1 ∨ 70000 < t.n2 ∨ 1000 < t.n3 then true else sumLong 0 r.files := by unfold longR; rw [e1, e2, e3]
  clear hr e1 e2
  obtain ⟨exc, on, set, files⟩ := r
  obtain ⟨B1, m1, k1, B2, m2, k2, B3, m3, k3⟩ := t
  simp only at e3 hL HR
  simp only [repV]
  have HB := Lib.hid (fun W hX => rep_cells W (w := w) (v0 := .int .i64 exc) (v1 := .slice B1 m1 k1) (v2 := .slice B2 m2 k2) (v3 := .slice B3 m3 k3) (t := 41) hX)
  rw [hL]
  clear hL
  by_cases hb : 70000 < m1 ∨ 70000 < m2 ∨ 1000 < m3
  · rw [if_pos hb]
    go_enter Try.func16, Try.ntmps16
    go_wp2_with fail
    all_goals first
      | (go_ret; exact ⟨rfl, Ext.alloc _ _⟩)
      | (exfalso; omega)
  · rw [if_neg hb]
    have b1 : m1 ≤ 70000 := by omega
    have b2 : m2 ≤ 70000 := by omega
    have b3 : m3 ≤ 1000 := by omega
    have E3 := Lib.hid e3
    clear hb e3
    go_enter Try.func16, Try.ntmps16
    go_wp2_with fail
    go_loopw [3, 4] (fun x j wr => ∃ (k q : Nat), k ≤ m3 ∧ q ≤ 70000 ∧ x = .int .i64 (q : Int) ∧ j = .int .i64 (k : Int) ∧ Hid (sumLong 0 files = sumLong q (files.drop k)) ∧ Ext (w.alloc (.cells #[.int .i64 exc, .slice B1 m1 k1, .slice B2 m2 k2, .slice B3 m3 k3] 41)) wr) (fun _ j _ => m3 - (intOf j).toNat)
    case atStart => exact ⟨0, 0, by omega, by omega, rfl, rfl, rfl, Ext.refl _⟩
    case round =>
      obtain ⟨k, q, hk, hq, rfl, rfl, HS, hx⟩ := hrel
      obtain ⟨-, -, -, g3⟩ := HB.out _ hx
      have HX := Lib.hid hx
      rcases Nat.lt_or_ge k m3 with hlt | hge
      · obtain ⟨b1, o1, f, A1, n1, c1, hf, rfl, hb1, d0, hr1, hl1, hm1, hm1'⟩ := file_cells (HR.out.ext ((Ext.alloc _ _).trans hx)) hlt
        obtain ⟨hkl, hfe⟩ := List.getElem?_eq_some_iff.1 hf
        have hst : sumLong q (files.drop k) = if 70000 < q + min n1 70000 then true else sumLong (q + min n1 70000) (files.drop (k + 1)) := by
          rw [List.drop_eq_getElem_cons hkl, hfe, ← hl1]; rfl
        have HST := Lib.hid hst
        clear hst hf hfe hkl hr1 hl1 hx hb1
        have hmn : min (n1 : Int) 70000 = ((min n1 70000 : Nat) : Int) := by omega
        by_cases hov : 70000 < q + min n1 70000
        · have hgt : ((q : Int) + ((min n1 70000 : Nat) : Int) > 70000) := by omega
          go_wp2_with fail
          all_goals first
            | (go_ret; exact ⟨ret_bool (by rw [HS.out, HST.out, if_pos hov]), (Ext.alloc _ _).trans HX.out⟩)
            | (exfalso; omega)
        · go_wp2_with fail
          all_goals first
            | (go_roundw
               case rel => exact ⟨k + 1, q + min n1 70000, by omega, by omega, by go_num, by go_num, Lib.hid (by rw [HS.out, HST.out, if_neg hov]), HX.out⟩
               case measure => simp [intOf]; omega)
            | (exfalso; omega)
      · obtain rfl : k = m3 := by omega
        have hS : sumLong 0 files = false := by rw [HS.out, List.drop_of_length_le (by have := E3.out; omega)]; rfl
        go_wp2_with fail
        go_ret
        exact ⟨ret_bool hS.symm, (Ext.alloc _ _).trans HX.out⟩
end Go.Proofs.Ytbaiifhncpfdpaa
