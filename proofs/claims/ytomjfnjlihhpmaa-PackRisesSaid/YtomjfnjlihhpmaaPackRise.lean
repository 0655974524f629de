/- Contracts for the law PackRises: the plain law on the order of numbers and of their bytes, and its walk. -/
import Derived.Test.YtomjfnjlihhpmaaPackBack
namespace Go.Proofs.Ytomjfnjlihhpmaa
set_option linter.unusedVariables false
open Go Go.RowKit Go.Out

/-- Two rows of bytes that differ first at a place. -/
theorem first_diff {a b : List UInt8} (hl : a.length = b.length) (h : a ≠ b) : ∃ i, ∃ (ha : i < a.length) (hb : i < b.length), a.take i = b.take i ∧ a[i] ≠ b[i] := by
  induction a generalizing b with
  | nil => cases b with
    | nil => exact absurd rfl h
    | cons y b => simp at hl
  | cons x a ih => cases b with
    | nil => simp at hl
    | cons y b =>
      by_cases hxy : x = y
      · subst hxy
        obtain ⟨i, ha, hb, h1, h2⟩ := ih (b := b) (by simpa using hl) (fun e => h (by rw [e]))
        exact ⟨i + 1, by simpa using ha, by simpa using hb, by simp [h1], by simpa using h2⟩
      · exact ⟨0, by simp, by simp, rfl, by simpa using hxy⟩

theorem num_append (a b : List UInt8) : num (a ++ b) = num a * 256 ^ b.length + num b := by
  suffices h : ∀ (b : List UInt8) (x : Nat), b.foldl (fun a x => a * 256 + x.toNat) x = x * 256 ^ b.length + num b by
    unfold num; rw [List.foldl_append, h]; rfl
  intro b
  induction b with
  | nil => intro x; simp [num]
  | cons y b ih =>
    intro x
    have e : num (y :: b) = y.toNat * 256 ^ b.length + num b := by
      have := ih y.toNat
      simpa [num] using this
    rw [List.foldl_cons, ih, e, List.length_cons, Nat.pow_succ, Nat.add_mul, Nat.mul_assoc, Nat.mul_comm 256]
    omega

/-- The greater number's bytes are the greater ones at the first place that differs. -/
theorem diff_lt {a b : List UInt8} {i : Nat} (hl : a.length = b.length) (ha : i < a.length) (hb : i < b.length) (h1 : a.take i = b.take i) (h2 : a[i].toNat < b[i].toNat) : num a < num b := by
  have ea : a = a.take i ++ a[i] :: a.drop (i + 1) := by rw [← List.drop_eq_getElem_cons ha, List.take_append_drop]
  have eb : b = b.take i ++ b[i] :: b.drop (i + 1) := by rw [← List.drop_eq_getElem_cons hb, List.take_append_drop]
  rw [ea, eb, num_append, num_append, h1]
  have la : (a[i] :: a.drop (i + 1)).length = (b[i] :: b.drop (i + 1)).length := by simp; omega
  rw [la]
  suffices h : num (a[i] :: a.drop (i + 1)) < num (b[i] :: b.drop (i + 1)) by omega
  have xa : num (a[i] :: a.drop (i + 1)) = a[i].toNat * 256 ^ (a.drop (i + 1)).length + num (a.drop (i + 1)) := by
    have := num_append [a[i]] (a.drop (i + 1)); simpa [num] using this
  have xb : num (b[i] :: b.drop (i + 1)) = b[i].toNat * 256 ^ (b.drop (i + 1)).length + num (b.drop (i + 1)) := by
    have := num_append [b[i]] (b.drop (i + 1)); simpa [num] using this
  have := num_lt (a.drop (i + 1))
  have e3 : (a.drop (i + 1)).length = (b.drop (i + 1)).length := by simp; omega
  rw [xa, xb, ← e3]
  have h4 : (a[i].toNat + 1) * 256 ^ (a.drop (i + 1)).length ≤ b[i].toNat * 256 ^ (a.drop (i + 1)).length := Nat.mul_le_mul_right _ h2
  rw [Nat.add_mul] at h4
  omega

set_option maxHeartbeats 1600000 in
set_option maxRecDepth 100000 in
theorem lawPackRises (v u : Int) (w : World) (wfv : (Lit.int .u64 v).wf = true) (wfu : (Lit.int .u64 u).wf = true) :
    Calls Try.prog 6 #[.int .u64 v, .int .u64 u] w fun e w' => e = .returned (.bool true) ∧ Below w.heap.size w w' := by
  obtain ⟨v, rfl⟩ := Int.eq_ofNat_of_zero_le (bounds_u64 wfv).1
  obtain ⟨u, rfl⟩ := Int.eq_ofNat_of_zero_le (bounds_u64 wfu).1
  have Hv : Hid (v < 2 ^ 64) := by have := (bounds_u64 wfv).2; unfold Hid; omega
  have Hu : Hid (u < 2 ^ 64) := by have := (bounds_u64 wfu).2; unfold Hid; omega
  clear wfv wfu
  go_enter Try.func6, Try.ntmps6
  go_wp2_with fail
  go_loopw [5] (fun i wr => ∃ n : Nat, 1 ≤ n ∧ n ≤ 9 ∧ i = .int .i64 n ∧ Below w.heap.size w wr) (fun i _ => 9 - (intOf i).toNat)
  case atStart => exact ⟨1, by omega, by omega, rfl, Below.refl _ _⟩
  case round =>
    obtain ⟨n, hn1, hn9, rfl, hbel⟩ := hrel
    by_cases hlt : n ≤ 8
    · have hz := hbel.size
      go_wp2_with fail
      refine (least_any v n _ Hv.out hn1 hlt).mono ?_
      rintro e w1 ⟨rfl, rfl⟩
      have hw1 : v % 256 ^ n < 256 ^ n := Nat.mod_lt _ (pow_pos256 n)
      generalize v % 256 ^ n = a at *
      go_wp2_with fail
      refine (least_any u n _ Hu.out hn1 hlt).mono ?_
      rintro e w1 ⟨rfl, rfl⟩
      have hw2 : u % 256 ^ n < 256 ^ n := Nat.mod_lt _ (pow_pos256 n)
      generalize u % 256 ^ n = b at *
      have Ha := Lib.hid hw1; have Hb := Lib.hid hw2; clear hw1 hw2
      go_wp2_with fail
      refine (put_ok [] none 0 0 a n _ (Rd.nil_ _) (by omega) hn1 hlt Ha.out).mono ?_
      rintro e w1 ⟨A1, c1, rfl, ho1, hb1⟩
      rw [Nat.zero_add, List.nil_append] at ho1
      rw [Nat.zero_add]
      have Ho1 := Lib.hid ho1; clear ho1
      have hz1 := hb1.size
      go_wp2_with fail
      refine (put_ok [] none 0 0 b n _ (Rd.nil_ _) (by omega) hn1 hlt Hb.out).mono ?_
      rintro e w2 ⟨A2, c2, rfl, ho2, hb2⟩
      rw [Nat.zero_add, List.nil_append] at ho2
      rw [Nat.zero_add]
      have Ho2 := Lib.hid ho2; clear ho2
      have hz2 := hb2.size
      have hbe : Below w.heap.size w w2 := (hbel.trans (hb1.mono hz)).trans (hb2.mono (by omega))
      obtain ⟨g1, o1, rfl, hg1, hc1⟩ := (Ho1.out.below hb2).rd.2 (by omega)
      obtain ⟨g2, o2, rfl, hg2, hc2⟩ := Ho2.out.rd.2 (by omega)
      have Hc1 := Lib.hid hc1; have Hc2 := Lib.hid hc2; clear hc1 hc2
      have la := be_length a n
      have lb := be_length b n
      have na : num (be a n) = a := by rw [num_be, Nat.mod_eq_of_lt Ha.out]
      have nb : num (be b n) = b := by rw [num_be, Nat.mod_eq_of_lt Hb.out]
      -- the place of the first difference
      obtain ⟨d, hd, hsame, hdiff⟩ : ∃ d, d ≤ n ∧ (∀ k, (hk : k < d) → (be a n)[k]? = (be b n)[k]?) ∧ (d < n → ∃ x y : UInt8, (be a n)[d]? = some x ∧ (be b n)[d]? = some y ∧ (a < b → x.toNat < y.toNat) ∧ (b < a → y.toNat < x.toNat) ∧ a ≠ b ∧ x.toNat ≠ y.toNat) := by
        by_cases hab : be a n = be b n
        · exact ⟨n, Nat.le_refl _, fun k _ => by rw [hab], fun h => absurd h (by omega)⟩
        · obtain ⟨i, h1, h2, h3, h4⟩ := first_diff (la.trans lb.symm) hab
          have h5 : (be a n)[i].toNat ≠ (be b n)[i].toNat := fun e => h4 (UInt8.toNat.inj e)
          refine ⟨i, by omega, fun k hk => ?_, fun _ => ⟨_, _, List.getElem?_eq_getElem h1, List.getElem?_eq_getElem h2, fun hlt => ?_, fun hlt => ?_, fun e => hab (by rw [e]), h5⟩⟩
          · have := congrArg (fun l => l[k]?) h3
            simpa [hk] using this
          · rcases Nat.lt_or_ge (be a n)[i].toNat (be b n)[i].toNat with h | h
            · exact h
            · have := diff_lt (lb.trans la.symm) h2 h1 h3.symm (by omega); omega
          · rcases Nat.lt_or_ge (be b n)[i].toNat (be a n)[i].toNat with h | h
            · exact h
            · have := diff_lt (la.trans lb.symm) h1 h2 h3 (by omega); omega
      have hdn : d = n ↔ a = b := by
        constructor
        · intro e
          have : be a n = be b n := List.ext_getElem? fun k => by
            rcases Nat.lt_or_ge k n with h | h
            · exact hsame k (by omega)
            · rw [List.getElem?_eq_none (by omega), List.getElem?_eq_none (by omega)]
          rw [← na, ← nb, this]
        · intro e
          rcases Nat.lt_or_ge d n with h | h
          · obtain ⟨x, y, _, _, _, _, h, _⟩ := hdiff h; exact absurd e h
          · omega
      have HS := Lib.hid hsame; have HD := Lib.hid hdiff; have HN := Lib.hid hdn; have La := Lib.hid la; have Lb := Lib.hid lb
      clear hsame hdiff hdn la lb na nb
      go_wp2_with fail
      obtain ⟨wo, rfl⟩ : ∃ wo : World, wo = wr := ⟨_, rfl⟩
      go_loopw [12] (fun i wr => ∃ k : Nat, k ≤ d ∧ i = .int .i64 k ∧ Below w2.heap.size w2 wr) (fun i _ => n - (intOf i).toNat)
      case atStart => exact ⟨0, by omega, rfl, Below.refl _ _⟩
      case round =>
        obtain ⟨k, hk, rfl, hbk⟩ := hrel
        by_cases hkd : k < d
        · obtain ⟨x, hx⟩ : ∃ x, (be a n)[k]? = some x := ⟨_, List.getElem?_eq_getElem (by have := La.out; omega)⟩
          have hy : (be b n)[k]? = some x := (HS.out k hkd) ▸ hx
          have hcx : wr.cell? ⟨g1, o1 + k, none⟩ = some (.int .u8 (x.toNat : Int)) := (hbk.cell (p := ⟨g1, o1 + k, none⟩) hg1).trans (Hc1.out k (cB x) (by rw [List.getElem?_map, hx]; rfl))
          have hcy : wr.cell? ⟨g2, o2 + k, none⟩ = some (.int .u8 (x.toNat : Int)) := (hbk.cell (p := ⟨g2, o2 + k, none⟩) hg2).trans (Hc2.out k (cB x) (by rw [List.getElem?_map, hy]; rfl))
          have hkn : decide ((k : Int) < (n : Int)) = true := by simp; omega
          have hkn2 : k < n := by omega
          have ht : ((x.toNat : Int) == (x.toNat : Int)) = true := by simp
          clear hx hy
          go_wp2_with fail
          go_quiet (fail)
          go_wp2_with fail
          go_roundw
          case rel => exact ⟨k + 1, by omega, by go_num, below_drewN hbk _⟩
          case measure => simp [intOf]; omega
        · obtain rfl : k = d := by omega
          rcases Nat.lt_or_ge k n with hkn | hkn
          · obtain ⟨x, y, hx, hy, hlt1, hlt2, hne, hxy⟩ := HD.out hkn
            have hcx : wr.cell? ⟨g1, o1 + k, none⟩ = some (.int .u8 (x.toNat : Int)) := (hbk.cell (p := ⟨g1, o1 + k, none⟩) hg1).trans (Hc1.out k (cB x) (by rw [List.getElem?_map, hx]; rfl))
            have hcy : wr.cell? ⟨g2, o2 + k, none⟩ = some (.int .u8 (y.toNat : Int)) := (hbk.cell (p := ⟨g2, o2 + k, none⟩) hg2).trans (Hc2.out k (cB y) (by rw [List.getElem?_map, hy]; rfl))
            have hkd' : decide ((k : Int) < (n : Int)) = true := by simp; omega
            have ht : ((x.toNat : Int) == (y.toNat : Int)) = false := by simp; omega
            clear hx hy
            go_wp2_with fail
            go_quiet (fail)
            have he1 : ((a : Int) == (b : Int)) = false := by simp; omega
            have he2 : ((k : Int) == (n : Int)) = false := by simp; omega
            rcases Nat.lt_or_ge a b with hab | hab
            · have hl := hlt1 hab
              have hd1 : decide (a < b) = true := by simp; omega
              have hd2 : decide (y.toNat ≤ x.toNat) = false := by simp; omega
              have hd3 : decide (b < a) = false := by simp; omega
              clear hlt1 hlt2 hxy
              go_wp2_with fail
              go_quiet (fail)
              go_wp2_with fail
              go_roundw
              case rel => exact ⟨n + 1, by omega, by omega, by go_num, hbe.trans ((below_drewN hbk _).mono (by omega))⟩
              case measure => simp [intOf]; omega
            · have hab' : b < a := by omega
              have hl := hlt2 hab'
              have hd1 : decide (a < b) = false := by simp; omega
              have hd2 : decide (x.toNat ≤ y.toNat) = false := by simp; omega
              have hd3 : decide (b < a) = true := by simp; omega
              clear hlt1 hlt2 hxy
              go_wp2_with fail
              go_quiet (fail)
              go_wp2_with fail
              go_roundw
              case rel => exact ⟨n + 1, by omega, by omega, by go_num, hbe.trans ((below_drewN hbk _).mono (by omega))⟩
              case measure => simp [intOf]; omega
          · obtain rfl : k = n := by omega
            have hab : a = b := HN.out.1 rfl
            have hkd' : decide ((k : Int) < (k : Int)) = false := by simp
            subst hab
            go_wp2_with fail
            go_quiet (fail)
            have he1 : ((a : Int) == (a : Int)) = true := by simp
            have he2 : ((k : Int) == (k : Int)) = true := by simp
            have hd1 : decide (a < a) = false := by simp
            go_wp2_with fail
            go_quiet (fail)
            go_wp2_with fail
            go_roundw
            case rel => exact ⟨k + 1, by omega, by omega, by go_num, hbe.trans ((below_drewN hbk _).mono (by omega))⟩
            case measure => simp [intOf]; omega
    · go_wp2_with fail
      refine (works_any _).mono ?_
      rintro e w1 ⟨rfl, hb⟩
      go_wp2_with fail
      go_ret
      exact ⟨rfl, hbel.trans (hb.mono hbel.size)⟩
end Go.Proofs.Ytomjfnjlihhpmaa
