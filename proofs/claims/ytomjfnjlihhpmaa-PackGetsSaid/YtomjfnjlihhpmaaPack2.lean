import Derived.Test.YtomjfnjlihhpmaaPack
namespace Go.Proofs.Ytomjfnjlihhpmaa
set_option linter.unusedVariables false
open Go Go.RowKit Go.Out

theorem refGet_any (b : List UInt8) (A : Option Addr) (m c : Nat) (at_ n : Int) (w : World) (hr : Rd w A m (b.map u8)) (hm : m ≤ 9223372036854775807) :
    Calls Try.prog 20 #[.slice A m c, .int .i64 at_, .int .i64 n] w fun e w' => e = .returned (.tuple #[.int .u64 (getF b at_ n).1, .int .i64 (getF b at_ n).2]) ∧ Below w.heap.size w w' := by
  have hl : b.length = m := by have := hr.1; simpa using this
  unfold getF
  by_cases h : n < 1 ∨ 8 < n
  · rw [if_pos h]
    clear hr hl
    rcases h with h | h
    all_goals
      go_enter Try.func20, Try.ntmps20
      go_wp2_with fail
      all_goals go_ret2
      all_goals exact ⟨rfl, Below.refl _ _⟩
  · rw [if_neg h]
    by_cases h2 : at_ < 0 ∨ (b.length : Int) < at_ + n
    · rw [if_pos h2, hl] at *
      have h1 : 1 ≤ n := by omega
      have h8 : n ≤ 8 := by omega
      clear hr hl h
      rcases Int.lt_or_le at_ 0 with h0 | h0
      · clear h2
        go_enter Try.func20, Try.ntmps20
        go_wp2_with fail
        all_goals go_ret2
        all_goals exact ⟨rfl, Below.refl _ _⟩
      · rcases Int.lt_or_le (m : Int) at_ with h3 | h3
        all_goals
          go_enter Try.func20, Try.ntmps20
          go_wp2_with fail
          all_goals go_ret2
          all_goals exact ⟨rfl, Below.refl _ _⟩
    · rw [if_neg h2]
      obtain ⟨n, rfl⟩ := Int.eq_ofNat_of_zero_le (show 0 ≤ n by omega)
      obtain ⟨at_, rfl⟩ := Int.eq_ofNat_of_zero_le (show 0 ≤ at_ by omega)
      rw [Int.toNat_natCast, Int.toNat_natCast]
      obtain ⟨b1, o1, rfl, hb1, hc1⟩ := hr.2 (by omega)
      have hcell : ∀ k, k < n → ∃ hk : at_ + k < b.length, w.cell? ⟨b1, o1 + (at_ + k), none⟩ = some (.int .u8 (b[at_ + k].toNat : Int)) := fun k hk => ⟨by omega, by exact hc1 (at_ + k) _ (by rw [List.getElem?_map, List.getElem?_eq_getElem (by omega)]; rfl)⟩
      have h1 : 1 ≤ n := by omega
      have h8 : n ≤ 8 := by omega
      have h3 : at_ + n ≤ m := by omega
      have Hl := Lib.hid hl; have Hc := Lib.hid hcell; clear hr hl hc1 hcell h h2
      go_enter Try.func20, Try.ntmps20
      go_wp2_with fail
      go_loop [8, 9] (fun v i => ∃ k : Nat, k ≤ n ∧ i = .int .i64 k ∧ v = .int .u64 (num ((b.drop at_).take k))) (fun _ i => n - (intOf i).toNat)
      case atStart => exact ⟨0, Nat.zero_le _, rfl, by simp [num]⟩
      case round =>
        obtain ⟨k, hk, rfl, rfl⟩ := hrel
        by_cases hlt : k < n
        · obtain ⟨hk2, hcc⟩ := Hc.out k hlt
          have hnl := num_lt ((b.drop at_).take k)
          rw [List.length_take, List.length_drop, Hl.out, Nat.min_eq_left (by omega)] at hnl
          have hnb := num_small hnl (by omega)
          generalize hX : num ((b.drop at_).take k) = X at *
          have HX := Lib.hid hX; clear hX hnl
          go_wp2
          go_round
          case rel => exact ⟨k + 1, by omega, by go_num, by rw [take_drop_succ _ _ _ hk2, num_snoc, HX.out, num_add _ hnb]⟩
          case measure => simp [intOf]; omega
        · obtain rfl : k = n := by omega
          go_wp2
          go_ret2
          exact ⟨rfl, Below.refl _ _⟩

theorem works_any (w : World) : Calls Try.prog 12 #[] w fun e w' => e = .returned (.bool true) ∧ Below w.heap.size w w' := by
  go_enter Try.func12, Try.ntmps12
  go_wp2_with fail
  refine (put_ok [9] _ _ _ 258 2 _ (Rd.one _ _ _) (by omega) (by omega) (by omega) (by decide)).mono ?_
  rintro e w1 ⟨A', c', rfl, ho, hb⟩
  go_wp2_with fail
  obtain ⟨g, off, rfl, hg, hc⟩ := ho.rd.2 (by omega)
  have hc0 : w1.cell? ⟨g, off, none⟩ = some (.int .u8 9) := by have := hc 0 (u8 9) rfl; simpa [u8] using this
  have hc1 : w1.cell? ⟨g, off + 1, none⟩ = some (.int .u8 1) := by have := hc 1 (u8 1) rfl; simpa [u8] using this
  have hc2 : w1.cell? ⟨g, off + 2, none⟩ = some (.int .u8 2) := by have := hc 2 (u8 2) rfl; simpa [u8] using this
  refine (get_ok ([9] ++ be 258 2) _ _ _ 1 2 _ ho.rd ho.cap ho.capLe (by omega) (by omega) (by omega)).mono ?_
  rintro e w2 ⟨rfl, hb2⟩
  have hd0 : w2.cell? ⟨g, off, none⟩ = some (.int .u8 9) := (hb2.cell (p := ⟨g, off, none⟩) hg).trans hc0
  have hd1 : w2.cell? ⟨g, off + 1, none⟩ = some (.int .u8 1) := (hb2.cell (p := ⟨g, off + 1, none⟩) hg).trans hc1
  have hd2 : w2.cell? ⟨g, off + 2, none⟩ = some (.int .u8 2) := (hb2.cell (p := ⟨g, off + 2, none⟩) hg).trans hc2
  have hnum : num (([9] ++ be 258 2 : List UInt8).drop 1 |>.take 2) = 258 := by decide
  rw [hnum]
  clear hc hc0 hc1 hc2 hnum
  have Ho := Lib.hid ho; clear ho
  go_wp2_with fail
  go_ret
  exact ⟨rfl, ((Below.refl _ _).alloc (Nat.le_refl _) _).trans ((hb.mono (by simp)).trans (hb2.mono (by have := hb.size; simp at this; omega)))⟩

theorem lawPackGets (b : List UInt8) (A : Option Addr) (m c : Nat) (at_ n : Int) (w : World) (hr : Rd w A m (b.map u8)) (hc : m ≤ c) (hm : c ≤ 9223372036854775807) (_ : c * 1 ≤ 140737488351232) (_ : (Lit.int .i64 at_).wf = true) (_ : (Lit.int .i64 n).wf = true) :
    Calls Try.prog 4 #[.slice A m c, .int .i64 at_, .int .i64 n] w fun e w' => e = .returned (.bool true) ∧ Below w.heap.size w w' := by
  have Hr := Lib.hid hr; clear hr
  by_cases hbig : 65536 < m
  · go_enter Try.func4, Try.ntmps4
    go_wp2_with fail
    refine (works_any _).mono ?_
    rintro e w1 ⟨rfl, hb⟩
    go_wp2_with fail
    go_ret
    exact ⟨rfl, hb⟩
  · go_enter Try.func4, Try.ntmps4
    go_wp2_with fail
    refine (lent_any b _ _ _ _ Hr.out (by omega)).mono ?_
    rintro e w1 ⟨g, cur, rfl, hg, hh, hcur, hb1⟩
    have hrx : Rd w1 (some ⟨g, 0, none⟩) m (b.map u8) := Rd.of_heap hh hcur (by simpa using Hr.out.length)
    have hgl := lt_of_heap hh
    have Hh := Lib.hid hh; have Hcur := Lib.hid hcur; have Hrx := Lib.hid hrx; clear hh hcur hrx
    have hz1 := hb1.size
    go_wp2_with fail
    refine (get_any b _ _ _ at_ n _ Hrx.out (by omega) (by omega)).mono ?_
    rintro e w2 ⟨rfl, hb2⟩
    have hz2 := hb2.size
    go_wp2_with fail
    refine (refGet_any b _ _ _ at_ n _ ((Hr.out.below hb1).below hb2) (by omega)).mono ?_
    rintro e w3 ⟨rfl, hb3⟩
    have hz3 := hb3.size
    generalize (getF b at_ n).1 = V
    generalize (getF b at_ n).2 = E
    have ht1 : ((V : Int) == (V : Int)) = true := by simp
    have ht2 : (E == E) = true := by simp
    go_wp2_with fail
    refine (kept_any b _ _ _ g cur _ (((Hr.out.below hb1).below hb2).below hb3) (by rw [hb3.block g (by omega), hb2.block g (by omega)]; exact Hh.out) Hcur.out (by omega)).mono ?_
    rintro e w4 ⟨rfl, hb4⟩
    have hz4 := hb4.size
    go_wp2_with fail
    refine (works_any _).mono ?_
    rintro e w5 ⟨rfl, hb5⟩
    go_wp2_with fail
    go_ret
    exact ⟨rfl, hb1.trans ((hb2.mono (by omega)).trans ((hb3.mono (by omega)).trans ((hb4.mono (by omega)).trans (hb5.mono (by omega)))))⟩
end Go.Proofs.Ytomjfnjlihhpmaa
