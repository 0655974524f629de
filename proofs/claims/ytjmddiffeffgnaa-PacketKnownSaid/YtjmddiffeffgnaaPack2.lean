/- Contracts of functions of the given program, and plain lemmas: what each call returns and what it leaves as it was; used by the claim's last text. -/
import Derived.Test.YtjmddiffeffgnaaKitA
import Derived.Test.YtjmddiffeffgnaaBitBack
namespace Go.Proofs.Ytjmddiffeffgnaa
set_option linter.unusedVariables false
open Go Go.RowKit Go.Out

theorem copy_u8 {ops : Array Oper} {rest : List Oper} {o : Oper} {a : Act} {Q : Exit → Act → World → Prop} (w : World) (hgd : o.guard = none) (d s : Operand)
    (ho : o.op = .call { callee := .builtin .copy, args := #[d, s], argTypes := #[32, 32] })
    {g off dLen dCap sLen sCap : Nat} {A : Option Addr} {cur : Array Value} {cs : List UInt8} {t : TypeId} (hd : a.eval d = .slice (some ⟨g, off, none⟩) dLen dCap) (hs : a.eval s = .slice A sLen sCap)
    (hg : w.heap[g]? = some (.cells cur t (0, 0))) (hr : Rd w A sLen (cs.map cB)) (hle : sLen ≤ dLen) (hfit : off + sLen ≤ cur.size)
    (h : ∀ w', w'.heap[g]? = some (.cells (cur.toList.take off ++ cs.map cB ++ cur.toList.drop (off + sLen)).toArray t (0, 0)) → w.grownBy w' (some g) → wpList Try.prog ops Q rest (a.put o.dst (.int .i64 (sLen : Int))) w') :
    wpList Try.prog ops Q (o :: rest) a w :=
  wpList_copy_Rd w hgd d s _ _ ho 5 Try.underlying32 (by kernel_rfl) hd hs hg hr hle hfit (fun v hv => isU8_one (isU8_map v hv)) h

theorem put_ok (b : List UInt8) (A : Option Addr) (m c : Nat) (v n : Nat) (w : World) (hr : Rd w A m (b.map cB)) (hm : m ≤ 140737488355300) (h1 : 1 ≤ n) (h8 : n ≤ 8) (hv : v < 256 ^ n) :
    Calls Try.prog 110 #[.slice A m c, .int .u64 v, .int .i64 n] w fun e w' => ∃ A' c', e = .returned (.tuple #[.slice A' (m + n) c', .int .i64 0]) ∧ Own w' w.heap.size 5 IsU8 A' (m + n) c' ((b ++ be v n).map cB) ∧ Below w.heap.size w w' := by
  have hl : b.length = m := by have := hr.1; simpa using this
  have Hr := Lib.hid hr; have Hl := Lib.hid hl; clear hr hl
  have hmk : ∀ W : World, (Instr.makeSlice 32 (.int .i64 ((m : Int) + (n : Int))) (.int .i64 ((m : Int) + (n : Int)))).run Try.prog W = .ok (.slice (some ⟨W.heap.size, 0, none⟩) (m + n) (m + n)) (W.alloc (.cells (Array.replicate (m + n) (.int .u8 0)) 5)) :=
    fun W => by have := run_make1 (P := Try.prog) 32 5 (.int .u8 0) 1 Try.underlying32 info_u8 rfl (m + n) (by omega) (by omega) W; simpa using this
  have ht : n < 8 → ((v : Int) / 2 ^ (8 * n) != 0) = false := fun _ => by rw [shr_cast]; simp [Nat.div_eq_of_lt hv]
  have hrA : ∀ o : Obj, Rd (w.alloc o) A m (b.map cB) := fun o => Hr.out.below ((Below.refl _ _).alloc (Nat.le_refl _) o)
  have HrA := Lib.hid hrA; clear hrA hv
  rcases Nat.lt_or_ge n 8 with hn8 | hn8
  all_goals try have ht := ht hn8
  all_goals
    go_enter Try.func110, Try.ntmps110
    go_wp2_with (refine copy_u8 _ rfl (.tmp 32) (.tmp 33) rfl rfl rfl (heap_alloc_new _ _) (HrA.out _) (by omega) (by simp) ?_; intro w1 hh1 hg1)
    have Hh1 := Lib.hid hh1; clear hh1
    go_loopw [36] (fun i wr => ∃ (k : Nat) (cur : Array Value), k ≤ n ∧ i = .int .i64 k ∧ wr.heap[w.heap.size]? = some (.cells cur 5 (0, 0)) ∧ Hid (cur.toList = (b.map cB ++ List.replicate (n - k) (Value.int .u8 0)) ++ (be v k).map cB) ∧ Hid (cur.size = m + n) ∧ Below w.heap.size w wr) (fun i _ => n - (intOf i).toNat)
    case atStart => exact ⟨0, _, Nat.zero_le _, rfl, Hh1.out, by simp [Hid, be], by have := Hl.out; simp [Hid]; omega, ((Below.refl _ _).alloc (Nat.le_refl _) _).grown hg1 (by simp) (by simp)⟩
    case round =>
      obtain ⟨k, cur, hk, rfl, hh, hcur, Hcs, hbel⟩ := hrel
      by_cases hlt : k < n
      · obtain ⟨old, hce⟩ := heap_cell (k := m + n - 1 - k) hh (by have := Hcs.out; omega)
        have hfz := frozen_of_row wr w.heap.size (m + n - 1 - k) cur _ hh
        have Hh := Lib.hid hh; clear hh
        go_wp2
        go_roundw
        case rel => exact ⟨k + 1, _, by omega, by go_num, heap_setCell_same _ _ _ _ _ _ Hh.out, by rw [be_cell]; exact fill_back hcur (by simpa using Hl.out) hlt, by have := Hcs.out; simp [Hid]; omega, hbel.setCell (Nat.le_refl _) _⟩
        case measure => simp [intOf]; omega
      · obtain rfl : k = n := by omega
        have Hh := Lib.hid hh; clear hh
        go_wp2
        go_ret2
        exact ⟨_, _, rfl, Own.bytes (Nat.le_refl _) Hh.out (by rw [hcur.out, Nat.sub_self, List.replicate_zero, List.append_nil, ← List.map_append]) (by have := Hl.out; simp [be_length]; omega) (by unfold maxLen; omega), hbel⟩

theorem get_ok (b : List UInt8) (A : Option Addr) (m c : Nat) (at_ n : Nat) (w : World) (hr : Rd w A m (b.map cB)) (hc : m ≤ c) (hm : c ≤ 9223372036854775807) (h1 : 1 ≤ n) (h8 : n ≤ 8) (hat : at_ + n ≤ m) :
    Calls Try.prog 108 #[.slice A m c, .int .i64 at_, .int .i64 n] w fun e w' => e = .returned (.tuple #[.int .u64 (num ((b.drop at_).take n)), .int .i64 0]) ∧ Below w.heap.size w w' := by
  have hl : b.length = m := by have := hr.1; simpa using this
  obtain ⟨b1, o1, rfl, hb1, hc1⟩ := hr.2 (by omega)
  have hcell : ∀ k, k < n → ∃ hk : at_ + k < b.length, w.cell? ⟨b1, o1 + at_ + k, none⟩ = some (.int .u8 (b[at_ + k].toNat : Int)) := fun k hk => ⟨by omega, by rw [Nat.add_assoc]; exact hc1 (at_ + k) _ (by rw [List.getElem?_map, List.getElem?_eq_getElem (by omega)]; rfl)⟩
  have Hl := Lib.hid hl; have Hc := Lib.hid hcell; clear hr hl hc1 hcell
  go_enter Try.func108, Try.ntmps108
  go_wp2_with fail
  go_loop [8, 40] (fun v i => ∃ k : Nat, k ≤ n ∧ i = .int .i64 k ∧ v = .int .u64 (num ((b.drop at_).take k))) (fun _ i => n - (intOf i).toNat)
  case atStart => exact ⟨0, Nat.zero_le _, rfl, by simp [num]⟩
  case round =>
    obtain ⟨k, hk, rfl, rfl⟩ := hrel
    by_cases hlt : k < n
    · obtain ⟨hk2, hcc⟩ := Hc.out k hlt
      have hnl := num_lt ((b.drop at_).take k)
      rw [List.length_take, List.length_drop, Hl.out, Nat.min_eq_left (by omega)] at hnl
      have hnb := num_small hnl (by omega)
      generalize hX : num ((b.drop at_).take k) = X at *
      have HX := Lib.hid hX; clear hX hnl
      go_wp2
      go_round
      case rel => exact ⟨k + 1, by omega, by go_num, by rw [num_or _ hnb, take_drop_succ _ _ _ hk2, num_snoc, HX.out]⟩
      case measure => simp [intOf]; omega
    · obtain rfl : k = n := by omega
      go_wp2
      go_ret2
      exact ⟨rfl, Below.refl _ _⟩
theorem get_no1 (A : Option Addr) (m c : Nat) (at_ n : Int) (w : World) (h : n < 1 ∨ 8 < n) :
    Calls Try.prog 108 #[.slice A m c, .int .i64 at_, .int .i64 n] w fun e w' => e = .returned (.tuple #[.int .u64 0, .int .i64 3]) ∧ Below w.heap.size w w' := by
  rcases h with h | h
  all_goals
    go_enter Try.func108, Try.ntmps108
    go_wp2_with fail
    all_goals go_ret2
    all_goals exact ⟨rfl, Below.refl _ _⟩

theorem get_no2 (A : Option Addr) (m c : Nat) (at_ n : Int) (w : World) (hm : m ≤ 9223372036854775807) (h1 : 1 ≤ n) (h8 : n ≤ 8) (h : at_ < 0 ∨ (m : Int) < at_ + n) :
    Calls Try.prog 108 #[.slice A m c, .int .i64 at_, .int .i64 n] w fun e w' => e = .returned (.tuple #[.int .u64 0, .int .i64 1]) ∧ Below w.heap.size w w' := by
  rcases Int.lt_or_le at_ 0 with h0 | h0
  · go_enter Try.func108, Try.ntmps108
    go_wp2_with fail
    all_goals go_ret2
    all_goals exact ⟨rfl, Below.refl _ _⟩
  · rcases Int.lt_or_le (m : Int) at_ with h2 | h2
    all_goals
      go_enter Try.func108, Try.ntmps108
      go_wp2_with fail
      all_goals go_ret2
      all_goals exact ⟨rfl, Below.refl _ _⟩

theorem fits_any (v : Nat) (n : Int) (w : World) (hv : v < 2 ^ 64) : Calls Try.prog 139 #[.int .u64 v, .int .i64 n] w fun e w' => e = .returned (.bool (fitsF v n)) ∧ w = w' := by
  have Hv := Lib.hid hv; clear hv
  by_cases h : 1 ≤ n ∧ n ≤ 8
  · obtain ⟨h1, h8⟩ := h
    obtain ⟨n, rfl⟩ := Int.eq_ofNat_of_zero_le (show 0 ≤ n by omega)
    go_enter Try.func139, Try.ntmps139
    go_wp2_with fail
    go_loop [0, 5] (fun x i => ∃ k : Nat, k ≤ n ∧ i = .int .i64 k ∧ x = .int .u64 ((v / 256 ^ k : Nat) : Int)) (fun _ i => n - (intOf i).toNat)
    case atStart => exact ⟨0, Nat.zero_le _, rfl, by simp⟩
    case round =>
      obtain ⟨k, hk, rfl, rfl⟩ := hrel
      generalize hX : v / 256 ^ k = X at *
      have HX := Lib.hid hX; clear hX
      by_cases hlt : k < n
      · go_wp2
        go_round
        case rel => exact ⟨k + 1, by omega, by go_num, by rw [Nat.pow_succ, ← Nat.div_div_eq_div_mul, HX.out, wrap_u64_div (X := X) (v := v) (HX.out ▸ Nat.div_le_self _ _) Hv.out]⟩
        case measure => simp [intOf]; omega
      · obtain rfl : k = n := by omega
        by_cases h0 : X = 0
        · have ht : ((X : Int) == 0) = true := by simp [h0]
          have H0 := Lib.hid h0; clear h0
          go_wp2
          go_ret
          exact ⟨ret_bool (by symm; exact fitsF_t (by omega) (by omega) (div_zero_iff.1 (HX.out.trans H0.out))), rfl⟩
        · have ht : ((X : Int) == 0) = false := by simp [h0]
          go_wp2
          go_ret
          exact ⟨ret_bool (by symm; exact fitsF_f (fun h => h0 (HX.out.symm.trans (div_zero_iff.2 h)))), rfl⟩
  · have hc : n < 1 ∨ 8 < n := by omega
    rcases hc with hc | hc
    all_goals
      go_enter Try.func139, Try.ntmps139
      go_wp2_with fail
      all_goals go_ret
      all_goals exact ⟨ret_bool (by symm; exact fitsF_f' (by omega)), rfl⟩

theorem refPut_no (A : Option Addr) (m c : Nat) (v : Nat) (n : Int) (w : World) (hv : v < 2 ^ 64) (h : fitsF v n = false) :
    Calls Try.prog 111 #[.slice A m c, .int .u64 v, .int .i64 n] w fun e w' => e = .returned (.tuple #[.slice none 0 0, .int .i64 3]) ∧ Below w.heap.size w w' := by
  have H := Lib.hid h; have Hv := Lib.hid hv; clear h hv
  go_enter Try.func111, Try.ntmps111
  go_wp2_with fail
  refine (fits_any v n _ Hv.out).mono ?_
  rintro e w1 ⟨rfl, rfl⟩
  rw [H.out]
  go_wp2_with fail
  go_ret2
  exact ⟨rfl, Below.refl _ _⟩

theorem refPut_ok (b : List UInt8) (A : Option Addr) (m c : Nat) (v n : Nat) (w : World) (hr : Rd w A m (b.map cB)) (hm : m ≤ 140737488355300) (hv : v < 2 ^ 64) (h1 : 1 ≤ n) (h8 : n ≤ 8) (h : v < 256 ^ n) :
    Calls Try.prog 111 #[.slice A m c, .int .u64 v, .int .i64 n] w fun e w' => ∃ A' c', e = .returned (.tuple #[.slice A' (m + n) c', .int .i64 0]) ∧ Own w' w.heap.size 5 IsU8 A' (m + n) c' ((b ++ be v n).map cB) ∧ Below w.heap.size w w' := by
  have hl : b.length = m := by have := hr.1; simpa using this
  have H := Lib.hid (fitsF_t h1 h8 h); have Hv := Lib.hid hv; have Hr := Lib.hid hr; have Hl := Lib.hid hl; clear h hv hr hl
  go_enter Try.func111, Try.ntmps111
  go_wp2_with fail
  refine (fits_any v n _ Hv.out).mono ?_
  rintro e w1 ⟨rfl, rfl⟩
  rw [H.out]
  go_wp2_with fail
  go_loopw [8, 9] (fun x i wr => ∃ (k c : Nat) (A : Option Addr), k ≤ m ∧ i = .int .i64 k ∧ x = .slice A k c ∧ Own wr w.heap.size 5 IsU8 A k c ((b.take k).map cB) ∧ Below w.heap.size w wr) (fun _ i _ => m - (intOf i).toNat)
  case atStart => exact ⟨0, 0, none, Nat.zero_le _, rfl, rfl, Own.nil_ _ _ _ _, Below.refl _ _⟩
  case round =>
    obtain ⟨k, c1, A1, hk, rfl, rfl, hown, hbel⟩ := hrel
    by_cases hlt : k < m
    · obtain ⟨b1, o1, rfl, -, hl1, hc1⟩ := ((Hr.out).below hbel).u8at hlt
      have hbs := hbel.size
      go_wp2_with (at_builtin; (refine app_u8 _ rfl (.tmp 23) (.tmp 28) rfl rfl (hown.alloc _) rfl (Rd.one _ _ _) (by intro u hu; simp at hu; subst hu; exact ⟨_, rfl⟩) (by omega) (by simp; omega) ?_); intro A2 c2 w2 hown2 hg2 hb2)
      go_roundw
      case rel => exact ⟨k + 1, c2, A2, by omega, by go_num, rfl, by rw [map_take_succ _ _ _ hl1]; exact hown2, below_app hbel hbs hg2 (fun g hg => (hown.lt g hg).1)⟩
      case measure => simp [intOf]; omega
    · obtain rfl : k = m := by omega
      rw [List.take_of_length_le (by have := Hl.out; omega)] at hown
      go_wp2_with fail
      go_loopw [8, 10, 11, 12] (fun x i _ _ wr => ∃ (j c : Nat) (A : Option Addr), j ≤ n ∧ i = .int .i64 ((j : Int) - 1) ∧ x = .slice A (k + (n - j)) c ∧ Own wr w.heap.size 5 IsU8 A (k + (n - j)) c ((b ++ beTop v n j).map cB) ∧ Below w.heap.size w wr) (fun _ i _ _ _ => (intOf i + 1).toNat)
      case atStart => exact ⟨n, c1, A1, Nat.le_refl _, rfl, by simp, by rw [beTop_zero, List.append_nil, Nat.sub_self]; exact hown, hbel⟩
      case round =>
        obtain ⟨j, c2, A2, hj, rfl, rfl, hown2, hbel2⟩ := hrel
        rcases Nat.eq_zero_or_pos j with rfl | hpos
        · rw [beTop_all, Nat.sub_zero] at hown2
          go_wp2_with fail
          go_ret2
          exact ⟨_, _, rfl, hown2, hbel2⟩
        · obtain ⟨i, rfl⟩ : ∃ i, j = i + 1 := ⟨j - 1, by omega⟩
          rw [show (((i + 1 : Nat) : Int) - 1) = (i : Int) from by omega]
          have Hown := Lib.hid hown2; clear hown2
          obtain ⟨wo, rfl⟩ : ∃ wo : World, wo = wr := ⟨_, rfl⟩
          go_wp2_with fail
          go_loop [11, 12] (fun x q => ∃ p : Nat, p ≤ i ∧ q = .int .i64 p ∧ x = .int .u64 ((v / 256 ^ p : Nat) : Int)) (fun _ q => i - (intOf q).toNat)
          case atStart => exact ⟨0, by omega, rfl, by simp⟩
          case round =>
            obtain ⟨p, hp, rfl, rfl⟩ := hrel
            generalize hX : v / 256 ^ p = X at *
            have HX := Lib.hid hX; clear hX
            by_cases hlt2 : p < i
            · go_wp2_with fail
              go_round
              case rel => exact ⟨p + 1, by omega, by go_num, by rw [Nat.pow_succ, ← Nat.div_div_eq_div_mul, HX.out, wrap_u64_div (X := X) (v := v) (HX.out ▸ Nat.div_le_self _ _) Hv.out]⟩
              case measure => simp [intOf]; omega
            · obtain rfl : p = i := by omega
              have hbs2 := hbel2.size
              go_wp2_with (at_builtin; (refine app_u8 _ rfl (.tmp 44) (.tmp 48) rfl rfl (Hown.out.alloc _) rfl (Rd.one _ _ _) (by intro u hu; simp at hu; subst hu; exact isU8_of (by omega) (by omega)) (by omega) (by simp; omega) ?_); intro A3 c3 w3 hown3 hg3 hb3)
              go_roundw
              case rel => exact ⟨p, c3, A3, by omega, by go_num, by rw [show k + (n - p) = k + (n - (p + 1)) + 1 from by omega], by rw [beTop_step v n p (by omega), ← List.append_assoc, List.map_append, HX.out, show k + (n - p) = k + (n - (p + 1)) + 1 from by omega, List.map_singleton, u8_ofNat]; exact hown3, below_app hbel2 hbs2 hg3 (fun g hg => (Hown.out.lt g hg).1)⟩
              case measure => simp [intOf]

theorem put_no (A : Option Addr) (m c : Nat) (v : Nat) (n : Int) (w : World) (hv : v < 2 ^ 64) (h : fitsF v n = false) :
    Calls Try.prog 110 #[.slice A m c, .int .u64 v, .int .i64 n] w fun e w' => e = .returned (.tuple #[.slice none 0 0, .int .i64 3]) ∧ Below w.heap.size w w' := by
  by_cases hn : 1 ≤ n ∧ n ≤ 8
  · obtain ⟨h1, h8⟩ := hn
    obtain ⟨n, rfl⟩ := Int.eq_ofNat_of_zero_le (show 0 ≤ n by omega)
    have hlt : ¬ v < 256 ^ n := fun hlt => by rw [fitsF_t (by omega) (by omega) hlt] at h; cases h
    have hn8 : n < 8 := by
      rcases Nat.lt_or_ge n 8 with h | h
      · exact h
      · exfalso; apply hlt; have : n = 8 := by omega
        subst this; simpa using hv
    have ht : ((v : Int) / 2 ^ (8 * n) != 0) = true := by
      rw [shr_cast, bne_iff_ne]
      intro h; exact hlt (div_zero_iff.1 (by omega))
    clear hv h hlt
    go_enter Try.func110, Try.ntmps110
    go_wp2_with fail
    go_ret2
    exact ⟨rfl, Below.refl _ _⟩
  · have hc : n < 1 ∨ 8 < n := by omega
    clear hv h
    rcases hc with hc | hc
    all_goals
      go_enter Try.func110, Try.ntmps110
      go_wp2_with fail
      all_goals go_ret2
      all_goals exact ⟨rfl, Below.refl _ _⟩

theorem put_any (b : List UInt8) (A : Option Addr) (m c : Nat) (v : Nat) (n : Int) (w : World) (hr : Rd w A m (b.map cB)) (hm : m ≤ 140737488355300) (hv : v < 2 ^ 64) :
    Calls Try.prog 110 #[.slice A m c, .int .u64 v, .int .i64 n] w (RetL w 5 (putF b v n).1 (putF b v n).2) := by
  by_cases h : 1 ≤ n ∧ n ≤ 8 ∧ v < 256 ^ n.toNat
  · unfold putF; rw [if_pos h]
    obtain ⟨h1, h8, hv8⟩ := h
    obtain ⟨n, rfl⟩ := Int.eq_ofNat_of_zero_le (show 0 ≤ n by omega)
    refine (put_ok b A m c v n w hr hm (by omega) (by omega) (by simpa using hv8)).mono ?_
    rintro e w' ⟨A', c', rfl, ho, hb⟩
    exact ⟨_, _, _, rfl, by simpa using ho, hb⟩
  · unfold putF; rw [if_neg h]
    refine (put_no A m c v n w hv (by unfold fitsF; simpa using h)).mono ?_
    rintro e w' ⟨rfl, hb⟩
    exact ⟨_, _, _, rfl, Own.nil_ _ _ _ _, hb⟩

theorem refPut_any (b : List UInt8) (A : Option Addr) (m c : Nat) (v : Nat) (n : Int) (w : World) (hr : Rd w A m (b.map cB)) (hm : m ≤ 140737488355300) (hv : v < 2 ^ 64) :
    Calls Try.prog 111 #[.slice A m c, .int .u64 v, .int .i64 n] w (RetL w 5 (putF b v n).1 (putF b v n).2) := by
  by_cases h : 1 ≤ n ∧ n ≤ 8 ∧ v < 256 ^ n.toNat
  · unfold putF; rw [if_pos h]
    obtain ⟨h1, h8, hv8⟩ := h
    obtain ⟨n, rfl⟩ := Int.eq_ofNat_of_zero_le (show 0 ≤ n by omega)
    refine (refPut_ok b A m c v n w hr hm hv (by omega) (by omega) (by simpa using hv8)).mono ?_
    rintro e w' ⟨A', c', rfl, ho, hb⟩
    exact ⟨_, _, _, rfl, by simpa using ho, hb⟩
  · unfold putF; rw [if_neg h]
    refine (refPut_no A m c v n w hv (by unfold fitsF; simpa using h)).mono ?_
    rintro e w' ⟨rfl, hb⟩
    exact ⟨_, _, _, rfl, Own.nil_ _ _ _ _, hb⟩

theorem get_any (b : List UInt8) (A : Option Addr) (m c : Nat) (at_ n : Int) (w : World) (hr : Rd w A m (b.map cB)) (hc : m ≤ c) (hm : c ≤ 9223372036854775807) :
    Calls Try.prog 108 #[.slice A m c, .int .i64 at_, .int .i64 n] w fun e w' => e = .returned (.tuple #[.int .u64 (getF b at_ n).1, .int .i64 (getF b at_ n).2]) ∧ Below w.heap.size w w' := by
  have hl : b.length = m := by have := hr.1; simpa using this
  unfold getF
  by_cases h : n < 1 ∨ 8 < n
  · rw [if_pos h]; exact get_no1 A m c at_ n w h
  · rw [if_neg h]
    by_cases h2 : at_ < 0 ∨ (b.length : Int) < at_ + n
    · rw [if_pos h2]; exact get_no2 A m c at_ n w (by omega) (by omega) (by omega) (by omega)
    · rw [if_neg h2]
      obtain ⟨n, rfl⟩ := Int.eq_ofNat_of_zero_le (show 0 ≤ n by omega)
      obtain ⟨at_, rfl⟩ := Int.eq_ofNat_of_zero_le (show 0 ≤ at_ by omega)
      exact get_ok b A m c at_ n w hr hc hm (by omega) (by omega) (by omega)

end Go.Proofs.Ytjmddiffeffgnaa

namespace Go.Proofs.Ytjmddiffeffgnaa
set_option linter.unusedVariables false
open Go Go.RowKit Go.Out

theorem refGet_any (b : List UInt8) (A : Option Addr) (m c : Nat) (at_ n : Int) (w : World) (hr : Rd w A m (b.map cB)) (hm : m ≤ 9223372036854775807) :
    Calls Try.prog 109 #[.slice A m c, .int .i64 at_, .int .i64 n] w fun e w' => e = .returned (.tuple #[.int .u64 (getF b at_ n).1, .int .i64 (getF b at_ n).2]) ∧ Below w.heap.size w w' := by
  have hl : b.length = m := by have := hr.1; simpa using this
  unfold getF
  by_cases h : n < 1 ∨ 8 < n
  · rw [if_pos h]
    clear hr hl
    rcases h with h | h
    all_goals
      go_enter Try.func109, Try.ntmps109
      go_wp2_with fail
      all_goals go_ret2
      all_goals exact ⟨rfl, Below.refl _ _⟩
  · rw [if_neg h]
    by_cases h2 : at_ < 0 ∨ (b.length : Int) < at_ + n
    · rw [if_pos h2, hl] at *
      have h1 : 1 ≤ n := by omega
      have h8 : n ≤ 8 := by omega
      clear hr hl h
      rcases Int.lt_or_le at_ 0 with h0 | h0
      · clear h2
        go_enter Try.func109, Try.ntmps109
        go_wp2_with fail
        all_goals go_ret2
        all_goals exact ⟨rfl, Below.refl _ _⟩
      · rcases Int.lt_or_le (m : Int) at_ with h3 | h3
        all_goals
          go_enter Try.func109, Try.ntmps109
          go_wp2_with fail
          all_goals go_ret2
          all_goals exact ⟨rfl, Below.refl _ _⟩
    · rw [if_neg h2]
      obtain ⟨n, rfl⟩ := Int.eq_ofNat_of_zero_le (show 0 ≤ n by omega)
      obtain ⟨at_, rfl⟩ := Int.eq_ofNat_of_zero_le (show 0 ≤ at_ by omega)
      rw [Int.toNat_natCast, Int.toNat_natCast]
      obtain ⟨b1, o1, rfl, hb1, hc1⟩ := hr.2 (by omega)
      have hcell : ∀ k, k < n → ∃ hk : at_ + k < b.length, w.cell? ⟨b1, o1 + (at_ + k), none⟩ = some (.int .u8 (b[at_ + k].toNat : Int)) := fun k hk => ⟨by omega, by exact hc1 (at_ + k) _ (by rw [List.getElem?_map, List.getElem?_eq_getElem (by omega)]; rfl)⟩
      have h1 : 1 ≤ n := by omega
      have h8 : n ≤ 8 := by omega
      have h3 : at_ + n ≤ m := by omega
      have Hl := Lib.hid hl; have Hc := Lib.hid hcell; clear hr hl hc1 hcell h h2
      go_enter Try.func109, Try.ntmps109
      go_wp2_with fail
      go_loop [8, 9] (fun v i => ∃ k : Nat, k ≤ n ∧ i = .int .i64 k ∧ v = .int .u64 (num ((b.drop at_).take k))) (fun _ i => n - (intOf i).toNat)
      case atStart => exact ⟨0, Nat.zero_le _, rfl, by simp [num]⟩
      case round =>
        obtain ⟨k, hk, rfl, rfl⟩ := hrel
        by_cases hlt : k < n
        · obtain ⟨hk2, hcc⟩ := Hc.out k hlt
          have hnl := num_lt ((b.drop at_).take k)
          rw [List.length_take, List.length_drop, Hl.out, Nat.min_eq_left (by omega)] at hnl
          have hnb := num_small hnl (by omega)
          generalize hX : num ((b.drop at_).take k) = X at *
          have HX := Lib.hid hX; clear hX hnl
          go_wp2
          go_round
          case rel => exact ⟨k + 1, by omega, by go_num, by rw [take_drop_succ _ _ _ hk2, num_snoc, HX.out, num_add _ hnb]⟩
          case measure => simp [intOf]; omega
        · obtain rfl : k = n := by omega
          go_wp2
          go_ret2
          exact ⟨rfl, Below.refl _ _⟩

theorem works_any (w : World) : Calls Try.prog 46 #[] w fun e w' => e = .returned (.bool true) ∧ Below w.heap.size w w' := by
  go_enter Try.func46, Try.ntmps46
  go_wp2_with fail
  refine (put_ok [9] _ _ _ 258 2 _ (Rd.one _ _ _) (by omega) (by omega) (by omega) (by decide)).mono ?_
  rintro e w1 ⟨A', c', rfl, ho, hb⟩
  go_wp2_with fail
  obtain ⟨g, off, rfl, hg, hc⟩ := ho.rd.2 (by omega)
  have hc0 : w1.cell? ⟨g, off, none⟩ = some (.int .u8 9) := by have := hc 0 (cB 9) rfl; simpa [cB] using this
  have hc1 : w1.cell? ⟨g, off + 1, none⟩ = some (.int .u8 1) := by have := hc 1 (cB 1) rfl; simpa [cB] using this
  have hc2 : w1.cell? ⟨g, off + 2, none⟩ = some (.int .u8 2) := by have := hc 2 (cB 2) rfl; simpa [cB] using this
  refine (get_ok ([9] ++ be 258 2) _ _ _ 1 2 _ ho.rd ho.cap ho.capLe (by omega) (by omega) (by omega)).mono ?_
  rintro e w2 ⟨rfl, hb2⟩
  have hd0 : w2.cell? ⟨g, off, none⟩ = some (.int .u8 9) := (hb2.cell (p := ⟨g, off, none⟩) hg).trans hc0
  have hd1 : w2.cell? ⟨g, off + 1, none⟩ = some (.int .u8 1) := (hb2.cell (p := ⟨g, off + 1, none⟩) hg).trans hc1
  have hd2 : w2.cell? ⟨g, off + 2, none⟩ = some (.int .u8 2) := (hb2.cell (p := ⟨g, off + 2, none⟩) hg).trans hc2
  have hnum : num (([9] ++ be 258 2 : List UInt8).drop 1 |>.take 2) = 258 := by decide
  rw [hnum]
  clear hc hc0 hc1 hc2 hnum
  have Ho := Lib.hid ho; clear ho
  go_wp2_with fail
  go_ret
  exact ⟨rfl, ((Below.refl _ _).alloc (Nat.le_refl _) _).trans ((hb.mono (by simp)).trans (hb2.mono (by have := hb.size; simp at this; omega)))⟩

theorem lawPackGets (b : List UInt8) (A : Option Addr) (m c : Nat) (at_ n : Int) (w : World) (hr : Rd w A m (b.map cB)) (hc : m ≤ c) (hm : c ≤ 9223372036854775807) (_ : c * 1 ≤ 140737488351232) (_ : (Lit.int .i64 at_).wf = true) (_ : (Lit.int .i64 n).wf = true) :
    Calls Try.prog 41 #[.slice A m c, .int .i64 at_, .int .i64 n] w fun e w' => e = .returned (.bool true) ∧ Below w.heap.size w w' := by
  have Hr := Lib.hid hr; clear hr
  by_cases hbig : 65536 < m
  · go_enter Try.func41, Try.ntmps41
    go_wp2_with fail
    refine (works_any _).mono ?_
    rintro e w1 ⟨rfl, hb⟩
    go_wp2_with fail
    go_ret
    exact ⟨rfl, hb⟩
  · go_enter Try.func41, Try.ntmps41
    go_wp2_with fail
    refine (lent_any b _ _ _ _ Hr.out (by omega)).mono ?_
    rintro e w1 ⟨g, cur, rfl, hg, hh, hcur, hb1⟩
    have hrx : Rd w1 (some ⟨g, 0, none⟩) m (b.map cB) := Rd.of_heap hh hcur (by simpa using Hr.out.length)
    have hgl := lt_of_heap hh
    have Hh := Lib.hid hh; have Hcur := Lib.hid hcur; have Hrx := Lib.hid hrx; clear hh hcur hrx
    have hz1 := hb1.size
    go_wp2_with fail
    refine (get_any b _ _ _ at_ n _ Hrx.out (by omega) (by omega)).mono ?_
    rintro e w2 ⟨rfl, hb2⟩
    have hz2 := hb2.size
    go_wp2_with fail
    refine (refGet_any b _ _ _ at_ n _ ((Hr.out.below hb1).below hb2) (by omega)).mono ?_
    rintro e w3 ⟨rfl, hb3⟩
    have hz3 := hb3.size
    generalize (getF b at_ n).1 = V
    generalize (getF b at_ n).2 = E
    have ht1 : ((V : Int) == (V : Int)) = true := by simp
    have ht2 : (E == E) = true := by simp
    go_wp2_with fail
    refine (kept_any b _ _ _ g cur _ (((Hr.out.below hb1).below hb2).below hb3) (by rw [hb3.block g (by omega), hb2.block g (by omega)]; exact Hh.out) Hcur.out (by omega)).mono ?_
    rintro e w4 ⟨rfl, hb4⟩
    have hz4 := hb4.size
    go_wp2_with fail
    refine (works_any _).mono ?_
    rintro e w5 ⟨rfl, hb5⟩
    go_wp2_with fail
    go_ret
    exact ⟨rfl, hb1.trans ((hb2.mono (by omega)).trans ((hb3.mono (by omega)).trans ((hb4.mono (by omega)).trans (hb5.mono (by omega)))))⟩

theorem lawPackPuts (b : List UInt8) (A : Option Addr) (m c : Nat) (v n : Int) (w : World) (hr : Rd w A m (b.map cB)) (hc : m ≤ c) (hm : c ≤ 9223372036854775807) (_ : c * 1 ≤ 140737488351232) (wfv : (Lit.int .u64 v).wf = true) (_ : (Lit.int .i64 n).wf = true) :
    Calls Try.prog 42 #[.slice A m c, .int .u64 v, .int .i64 n] w fun e w' => e = .returned (.bool true) ∧ Below w.heap.size w w' := by
  have Hr := Lib.hid hr; clear hr
  obtain ⟨v, rfl⟩ := Int.eq_ofNat_of_zero_le (bounds_u64 wfv).1
  have Hv : Hid (v < 2 ^ 64) := by have := (bounds_u64 wfv).2; unfold Hid; omega
  clear wfv
  by_cases hbig : 65536 < m
  · go_enter Try.func42, Try.ntmps42
    go_wp2_with fail
    refine (works_any _).mono ?_
    rintro e w1 ⟨rfl, hb⟩
    go_wp2_with fail
    go_ret
    exact ⟨rfl, hb⟩
  · go_enter Try.func42, Try.ntmps42
    go_wp2_with fail
    refine (lent_any b _ _ _ _ Hr.out (by omega)).mono ?_
    rintro e w1 ⟨g, cur, rfl, hg, hh, hcur, hb1⟩
    have hox := lent_own hg hh hcur Hr.out.length (by omega)
    have hgl := lt_of_heap hh
    have Hh := Lib.hid hh; have Hcur := Lib.hid hcur; have Hox := Lib.hid hox; clear hh hcur hox
    have hz1 := hb1.size
    go_wp2_with fail
    refine (put_any b _ _ _ v n _ Hox.out.rd (by omega) Hv.out).mono ?_
    rintro e w2 ⟨A2, n2, c2, rfl, ho2, hb2⟩
    have hz2 := hb2.size
    have Ho2 := Lib.hid ho2; clear ho2
    go_wp2_with fail
    refine (put_any b _ _ _ v n _ (Hox.out.rd.below hb2) (by omega) Hv.out).mono ?_
    rintro e w3 ⟨A3, n3, c3, rfl, ho3, hb3⟩
    have hz3 := hb3.size
    have Ho3 := Lib.hid ho3; clear ho3
    go_wp2_with fail
    refine (refPut_any b _ _ _ v n _ (((Hr.out.below hb1).below hb2).below hb3) (by omega) Hv.out).mono ?_
    rintro e w4 ⟨A4, n4, c4, rfl, ho4, hb4⟩
    have hz4 := hb4.size
    have Ho4 := Lib.hid ho4; clear ho4
    have hE : ((putF b v n).2 != (putF b v n).2) = false := by simp
    generalize hL : (putF b v n).1 = L at *
    generalize (putF b v n).2 = E at *
    have hLl : L.length ≤ 65544 := by rw [← hL]; unfold putF; split <;> simp [be_length]; have := Hr.out.length; omega
    have h2l : L.length = n2 := Ho2.out.rd.length
    have h3l : L.length = n3 := Ho3.out.rd.length
    have HL := Lib.hid hLl; have H2l := Lib.hid h2l; have H3l := Lib.hid h3l; clear hLl hL h2l h3l
    go_wp2_with fail
    refine (same_any L L _ _ _ _ _ _ _ (((Ho2.out.below hb3).below hb4).rd) Ho4.out.rd (by unfold maxLen; have := HL.out; have := H2l.out; omega)).mono ?_
    rintro e w5 ⟨rfl, hb5⟩
    rw [decide_eq_true rfl]
    have hz5 := hb5.size
    go_wp2_with fail
    refine (same_any L L _ _ _ _ _ _ _ (((Ho3.out.below hb4).below hb5).rd) (Ho4.out.below hb5).rd (by unfold maxLen; have := HL.out; have := H3l.out; omega)).mono ?_
    rintro e w6 ⟨rfl, hb6⟩
    rw [decide_eq_true rfl]
    have hz6 := hb6.size
    have hbx : Below w1.heap.size w1 w6 := hb2.trans ((hb3.mono hz2).trans ((hb4.mono (by omega)).trans ((hb5.mono (by omega)).trans (hb6.mono (by omega)))))
    go_wp2_with fail
    refine (kept_any b _ _ _ g cur _ ((Hr.out.below hb1).below hbx) (by rw [hbx.block g hgl]; exact Hh.out) Hcur.out (by omega)).mono ?_
    rintro e w7 ⟨rfl, hb7⟩
    have hz7 := hb7.size
    go_wp2_with fail
    refine (apart_alloc [(A2, n2, c2), (A3, n3, c3), (some ⟨g, 0, none⟩, m, m + 5)] 3 w.heap.size w7 rfl ?_ ?_ ?_ (by omega) (by omega)).mono ?_
    · intro s hs
      simp only [List.mem_cons, List.not_mem_nil, or_false] at hs
      rcases hs with rfl | rfl | rfl
      · exact ⟨_, (((((Ho2.out.below hb3).below hb4).below hb5).below hb6).below hb7).mono hz1⟩
      · exact ⟨_, ((((Ho3.out.below hb4).below hb5).below hb6).below hb7).mono (by omega)⟩
      · exact ⟨_, ((Hox.out.below hbx).below hb7)⟩
    · simp only [List.pairwise_cons, List.mem_cons, List.not_mem_nil, or_false, forall_eq_or_imp, forall_eq]
      exact ⟨⟨Sep.of_lt Ho2.out Ho3.out (Nat.le_refl _), (Sep.of_lt Hox.out Ho2.out (Nat.le_refl _)).symm⟩, (Sep.of_lt Hox.out Ho3.out hz2).symm, by simp, List.Pairwise.nil⟩
    · intro s hs
      have := HL.out; have := H2l.out; have := H3l.out
      simp only [List.mem_cons, List.not_mem_nil, or_false] at hs
      rcases hs with rfl | rfl | rfl <;> simp <;> omega
    rintro e w8 ⟨rfl, hb8⟩
    have hz8 := hb8.size
    go_wp2_with fail
    refine (works_any _).mono ?_
    rintro e w9 ⟨rfl, hb9⟩
    go_wp2_with fail
    go_ret
    exact ⟨rfl, hb1.trans ((hbx.mono hz1).trans ((hb7.mono (by omega)).trans (hb8.trans (hb9.mono (by omega)))))⟩
end Go.Proofs.Ytjmddiffeffgnaa
