/- Contracts of functions of the given program, and plain lemmas: what each call returns and what it leaves as it was; used by the claim's last text. -/
import Derived.Test.YtjmddiffeffgnaaPack
namespace Go.Proofs.Ytjmddiffeffgnaa
set_option linter.unusedVariables false
open Go Go.RowKit Go.Out

theorem refGet_any (b : List UInt8) (A : Option Addr) (m c : Nat) (at_ n : Int) (w : World) (hr : Rd w A m (b.map cB)) (hm : m ≤ 9223372036854775807) :
    Calls Try.prog 109 #[.slice A m c, .int .i64 at_, .int .i64 n] w fun e w' => e = .returned (.tuple #[.int .u64 (getF b at_ n).1, .int .i64 (getF b at_ n).2]) ∧ Below w.heap.size w w' := by
  have hl : b.length = m := by have := hr.1; simpa using this
  unfold getF
  by_cases h : n < 1 ∨ 8 < n
  · rw [if_pos h]
    clear hr hl
    rcases h with h | h
    all_goals
      go_enter Try.func109, Try.ntmps109
      go_wp2_with fail
      all_goals go_ret2
      all_goals exact ⟨rfl, Below.refl _ _⟩
  · rw [if_neg h]
    by_cases h2 : at_ < 0 ∨ (b.length : Int) < at_ + n
    · rw [if_pos h2, hl] at *
      have h1 : 1 ≤ n := by omega
      have h8 : n ≤ 8 := by omega
      clear hr hl h
      rcases Int.lt_or_le at_ 0 with h0 | h0
      · clear h2
        go_enter Try.func109, Try.ntmps109
        go_wp2_with fail
        all_goals go_ret2
        all_goals exact ⟨rfl, Below.refl _ _⟩
      · rcases Int.lt_or_le (m : Int) at_ with h3 | h3
        all_goals
          go_enter Try.func109, Try.ntmps109
          go_wp2_with fail
          all_goals go_ret2
          all_goals exact ⟨rfl, Below.refl _ _⟩
    · rw [if_neg h2]
      obtain ⟨n, rfl⟩ := Int.eq_ofNat_of_zero_le (show 0 ≤ n by omega)
      obtain ⟨at_, rfl⟩ := Int.eq_ofNat_of_zero_le (show 0 ≤ at_ by omega)
      rw [Int.toNat_natCast, Int.toNat_natCast]
      obtain ⟨b1, o1, rfl, hb1, hc1⟩ := hr.2 (by omega)
      have hcell : ∀ k, k < n → ∃ hk : at_ + k < b.length, w.cell? ⟨b1, o1 + (at_ + k), none⟩ = some (.int .u8 (b[at_ + k].toNat : Int)) := fun k hk => ⟨by omega, by exact hc1 (at_ + k) _ (by rw [List.getElem?_map, List.getElem?_eq_getElem (by omega)]; rfl)⟩
      have h1 : 1 ≤ n := by omega
      have h8 : n ≤ 8 := by omega
      have h3 : at_ + n ≤ m := by omega
      have Hl := Lib.hid hl; have Hc := Lib.hid hcell; clear hr hl hc1 hcell h h2
      go_enter Try.func109, Try.ntmps109
      go_wp2_with fail
      go_loop [8, 9] (fun v i => ∃ k : Nat, k ≤ n ∧ i = .int .i64 k ∧ v = .int .u64 (num ((b.drop at_).take k))) (fun _ i => n - (intOf i).toNat)
      case atStart => exact ⟨0, Nat.zero_le _, rfl, by simp [num]⟩
      case round =>
        obtain ⟨k, hk, rfl, rfl⟩ := hrel
        by_cases hlt : k < n
        · obtain ⟨hk2, hcc⟩ := Hc.out k hlt
          have hnl := num_lt ((b.drop at_).take k)
          rw [List.length_take, List.length_drop, Hl.out, Nat.min_eq_left (by omega)] at hnl
          have hnb := num_small hnl (by omega)
          generalize hX : num ((b.drop at_).take k) = X at *
          have HX := Lib.hid hX; clear hX hnl
          go_wp2
          go_round
          case rel => exact ⟨k + 1, by omega, by go_num, by rw [take_drop_succ _ _ _ hk2, num_snoc, HX.out, num_add _ hnb]⟩
          case measure => simp [intOf]; omega
        · obtain rfl : k = n := by omega
          go_wp2
          go_ret2
          exact ⟨rfl, Below.refl _ _⟩

theorem works_any (w : World) : Calls Try.prog 46 #[] w fun e w' => e = .returned (.bool true) ∧ Below w.heap.size w w' := by
  go_enter Try.func46, Try.ntmps46
  go_wp2_with fail
  refine (put_ok [9] _ _ _ 258 2 _ (Rd.one _ _ _) (by omega) (by omega) (by omega) (by decide)).mono ?_
  rintro e w1 ⟨A', c', rfl, ho, hb⟩
  go_wp2_with fail
  obtain ⟨g, off, rfl, hg, hc⟩ := ho.rd.2 (by omega)
  have hc0 : w1.cell? ⟨g, off, none⟩ = some (.int .u8 9) := by have := hc 0 (cB 9) rfl; simpa [cB] using this
  have hc1 : w1.cell? ⟨g, off + 1, none⟩ = some (.int .u8 1) := by have := hc 1 (cB 1) rfl; simpa [cB] using this
  have hc2 : w1.cell? ⟨g, off + 2, none⟩ = some (.int .u8 2) := by have := hc 2 (cB 2) rfl; simpa [cB] using this
  refine (get_ok ([9] ++ be 258 2) _ _ _ 1 2 _ ho.rd ho.cap ho.capLe (by omega) (by omega) (by omega)).mono ?_
  rintro e w2 ⟨rfl, hb2⟩
  have hd0 : w2.cell? ⟨g, off, none⟩ = some (.int .u8 9) := (hb2.cell (p := ⟨g, off, none⟩) hg).trans hc0
  have hd1 : w2.cell? ⟨g, off + 1, none⟩ = some (.int .u8 1) := (hb2.cell (p := ⟨g, off + 1, none⟩) hg).trans hc1
  have hd2 : w2.cell? ⟨g, off + 2, none⟩ = some (.int .u8 2) := (hb2.cell (p := ⟨g, off + 2, none⟩) hg).trans hc2
  have hnum : num (([9] ++ be 258 2 : List UInt8).drop 1 |>.take 2) = 258 := by decide
  rw [hnum]
  clear hc hc0 hc1 hc2 hnum
  have Ho := Lib.hid ho; clear ho
  go_wp2_with fail
  go_ret
  exact ⟨rfl, ((Below.refl _ _).alloc (Nat.le_refl _) _).trans ((hb.mono (by simp)).trans (hb2.mono (by have := hb.size; simp at this; omega)))⟩

theorem lawPackGets (b : List UInt8) (A : Option Addr) (m c : Nat) (at_ n : Int) (w : World) (hr : Rd w A m (b.map cB)) (hc : m ≤ c) (hm : c ≤ 9223372036854775807) (_ : c * 1 ≤ 140737488351232) (_ : (Lit.int .i64 at_).wf = true) (_ : (Lit.int .i64 n).wf = true) :
    Calls Try.prog 41 #[.slice A m c, .int .i64 at_, .int .i64 n] w fun e w' => e = .returned (.bool true) ∧ Below w.heap.size w w' := by
  have Hr := Lib.hid hr; clear hr
  by_cases hbig : 65536 < m
  · go_enter Try.func41, Try.ntmps41
    go_wp2_with fail
    refine (works_any _).mono ?_
    rintro e w1 ⟨rfl, hb⟩
    go_wp2_with fail
    go_ret
    exact ⟨rfl, hb⟩
  · go_enter Try.func41, Try.ntmps41
    go_wp2_with fail
    refine (lent_any b _ _ _ _ Hr.out (by omega)).mono ?_
    rintro e w1 ⟨g, cur, rfl, hg, hh, hcur, hb1⟩
    have hrx : Rd w1 (some ⟨g, 0, none⟩) m (b.map cB) := Rd.of_heap hh hcur (by simpa using Hr.out.length)
    have hgl := lt_of_heap hh
    have Hh := Lib.hid hh; have Hcur := Lib.hid hcur; have Hrx := Lib.hid hrx; clear hh hcur hrx
    have hz1 := hb1.size
    go_wp2_with fail
    refine (get_any b _ _ _ at_ n _ Hrx.out (by omega) (by omega)).mono ?_
    rintro e w2 ⟨rfl, hb2⟩
    have hz2 := hb2.size
    go_wp2_with fail
    refine (refGet_any b _ _ _ at_ n _ ((Hr.out.below hb1).below hb2) (by omega)).mono ?_
    rintro e w3 ⟨rfl, hb3⟩
    have hz3 := hb3.size
    generalize (getF b at_ n).1 = V
    generalize (getF b at_ n).2 = E
    have ht1 : ((V : Int) == (V : Int)) = true := by simp
    have ht2 : (E == E) = true := by simp
    go_wp2_with fail
    refine (kept_any b _ _ _ g cur _ (((Hr.out.below hb1).below hb2).below hb3) (by rw [hb3.block g (by omega), hb2.block g (by omega)]; exact Hh.out) Hcur.out (by omega)).mono ?_
    rintro e w4 ⟨rfl, hb4⟩
    have hz4 := hb4.size
    go_wp2_with fail
    refine (works_any _).mono ?_
    rintro e w5 ⟨rfl, hb5⟩
    go_wp2_with fail
    go_ret
    exact ⟨rfl, hb1.trans ((hb2.mono (by omega)).trans ((hb3.mono (by omega)).trans ((hb4.mono (by omega)).trans (hb5.mono (by omega)))))⟩

theorem lawPackPuts (b : List UInt8) (A : Option Addr) (m c : Nat) (v n : Int) (w : World) (hr : Rd w A m (b.map cB)) (hc : m ≤ c) (hm : c ≤ 9223372036854775807) (_ : c * 1 ≤ 140737488351232) (wfv : (Lit.int .u64 v).wf = true) (_ : (Lit.int .i64 n).wf = true) :
    Calls Try.prog 42 #[.slice A m c, .int .u64 v, .int .i64 n] w fun e w' => e = .returned (.bool true) ∧ Below w.heap.size w w' := by
  have Hr := Lib.hid hr; clear hr
  obtain ⟨v, rfl⟩ := Int.eq_ofNat_of_zero_le (bounds_u64 wfv).1
  have Hv : Hid (v < 2 ^ 64) := by have := (bounds_u64 wfv).2; unfold Hid; omega
  clear wfv
  by_cases hbig : 65536 < m
  · go_enter Try.func42, Try.ntmps42
    go_wp2_with fail
    refine (works_any _).mono ?_
    rintro e w1 ⟨rfl, hb⟩
    go_wp2_with fail
    go_ret
    exact ⟨rfl, hb⟩
  · go_enter Try.func42, Try.ntmps42
    go_wp2_with fail
    refine (lent_any b _ _ _ _ Hr.out (by omega)).mono ?_
    rintro e w1 ⟨g, cur, rfl, hg, hh, hcur, hb1⟩
    have hox := lent_own hg hh hcur Hr.out.length (by omega)
    have hgl := lt_of_heap hh
    have Hh := Lib.hid hh; have Hcur := Lib.hid hcur; have Hox := Lib.hid hox; clear hh hcur hox
    have hz1 := hb1.size
    go_wp2_with fail
    refine (put_any b _ _ _ v n _ Hox.out.rd (by omega) Hv.out).mono ?_
    rintro e w2 ⟨A2, n2, c2, rfl, ho2, hb2⟩
    have hz2 := hb2.size
    have Ho2 := Lib.hid ho2; clear ho2
    go_wp2_with fail
    refine (put_any b _ _ _ v n _ (Hox.out.rd.below hb2) (by omega) Hv.out).mono ?_
    rintro e w3 ⟨A3, n3, c3, rfl, ho3, hb3⟩
    have hz3 := hb3.size
    have Ho3 := Lib.hid ho3; clear ho3
    go_wp2_with fail
    refine (refPut_any b _ _ _ v n _ (((Hr.out.below hb1).below hb2).below hb3) (by omega) Hv.out).mono ?_
    rintro e w4 ⟨A4, n4, c4, rfl, ho4, hb4⟩
    have hz4 := hb4.size
    have Ho4 := Lib.hid ho4; clear ho4
    have hE : ((putF b v n).2 != (putF b v n).2) = false := by simp
    generalize hL : (putF b v n).1 = L at *
    generalize (putF b v n).2 = E at *
    have hLl : L.length ≤ 65544 := by rw [← hL]; unfold putF; split <;> simp [be_length]; have := Hr.out.length; omega
    have h2l : L.length = n2 := Ho2.out.rd.length
    have h3l : L.length = n3 := Ho3.out.rd.length
    have HL := Lib.hid hLl; have H2l := Lib.hid h2l; have H3l := Lib.hid h3l; clear hLl hL h2l h3l
    go_wp2_with fail
    refine (same_any L L _ _ _ _ _ _ _ (((Ho2.out.below hb3).below hb4).rd) Ho4.out.rd (by unfold maxLen; have := HL.out; have := H2l.out; omega)).mono ?_
    rintro e w5 ⟨rfl, hb5⟩
    rw [decide_eq_true rfl]
    have hz5 := hb5.size
    go_wp2_with fail
    refine (same_any L L _ _ _ _ _ _ _ (((Ho3.out.below hb4).below hb5).rd) (Ho4.out.below hb5).rd (by unfold maxLen; have := HL.out; have := H3l.out; omega)).mono ?_
    rintro e w6 ⟨rfl, hb6⟩
    rw [decide_eq_true rfl]
    have hz6 := hb6.size
    have hbx : Below w1.heap.size w1 w6 := hb2.trans ((hb3.mono hz2).trans ((hb4.mono (by omega)).trans ((hb5.mono (by omega)).trans (hb6.mono (by omega)))))
    go_wp2_with fail
    refine (kept_any b _ _ _ g cur _ ((Hr.out.below hb1).below hbx) (by rw [hbx.block g hgl]; exact Hh.out) Hcur.out (by omega)).mono ?_
    rintro e w7 ⟨rfl, hb7⟩
    have hz7 := hb7.size
    go_wp2_with fail
    refine (apart_alloc [(A2, n2, c2), (A3, n3, c3), (some ⟨g, 0, none⟩, m, m + 5)] 3 w.heap.size w7 rfl ?_ ?_ ?_ (by omega) (by omega)).mono ?_
    · intro s hs
      simp only [List.mem_cons, List.not_mem_nil, or_false] at hs
      rcases hs with rfl | rfl | rfl
      · exact ⟨_, (((((Ho2.out.below hb3).below hb4).below hb5).below hb6).below hb7).mono hz1⟩
      · exact ⟨_, ((((Ho3.out.below hb4).below hb5).below hb6).below hb7).mono (by omega)⟩
      · exact ⟨_, ((Hox.out.below hbx).below hb7)⟩
    · simp only [List.pairwise_cons, List.mem_cons, List.not_mem_nil, or_false, forall_eq_or_imp, forall_eq]
      exact ⟨⟨Sep.of_lt Ho2.out Ho3.out (Nat.le_refl _), (Sep.of_lt Hox.out Ho2.out (Nat.le_refl _)).symm⟩, (Sep.of_lt Hox.out Ho3.out hz2).symm, by simp, List.Pairwise.nil⟩
    · intro s hs
      have := HL.out; have := H2l.out; have := H3l.out
      simp only [List.mem_cons, List.not_mem_nil, or_false] at hs
      rcases hs with rfl | rfl | rfl <;> simp <;> omega
    rintro e w8 ⟨rfl, hb8⟩
    have hz8 := hb8.size
    go_wp2_with fail
    refine (works_any _).mono ?_
    rintro e w9 ⟨rfl, hb9⟩
    go_wp2_with fail
    go_ret
    exact ⟨rfl, hb1.trans ((hbx.mono hz1).trans ((hb7.mono (by omega)).trans (hb8.trans (hb9.mono (by omega)))))⟩
end Go.Proofs.Ytjmddiffeffgnaa
