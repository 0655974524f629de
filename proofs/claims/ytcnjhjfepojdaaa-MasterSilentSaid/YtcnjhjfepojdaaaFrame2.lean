/- Contracts of OpenRtu, the program's and the reference's. -/
import Derived.Test.YtcnjhjfepojdaaaFrame
import Derived.Test.YtcnjhjfepojdaaaBitBack
import Derived.StillTailTactics
import Derived.Deep.RegionWith
namespace Go.Proofs.Ytcnjhjfepojdaaa
set_option linter.unusedVariables false
open Go Go.RowKit Go.Out

/-- A call that hands back a byte, bytes of its own and an error's number. -/
def RetT (w : World) (t : TypeId) (r : UInt8 × List UInt8 × Int) (e : Ending) (w' : World) : Prop :=
  ∃ A n c, e = .returned (.tuple #[.int .u8 (r.1.toNat : Int), .slice A n c, .int .i64 r.2.2]) ∧ Own w' w.heap.size t IsU8 A n c (r.2.1.map cB) ∧ Below w.heap.size w w'
theorem lineF_err {o : List UInt8 × Int} (h : ¬ o.2 = 0) : lineF o = (0, [], o.2) := if_pos h
theorem lineF_unit {x : UInt8} {l : List UInt8} (h : x.toNat < 1 ∨ 247 < x.toNat) : lineF (x :: l, 0) = (0, [], 24) := by unfold lineF; rw [if_neg (by simp)]; exact if_pos h
theorem lineF_ok {x : UInt8} {l : List UInt8} (h : ¬ (x.toNat < 1 ∨ 247 < x.toNat)) : lineF (x :: l, 0) = (x, l, 0) := by unfold lineF; rw [if_neg (by simp)]; exact if_neg h
theorem open_cons (b : List UInt8) (h : 4 ≤ b.length) (hz : (openF 2 (more16 65535) b).2 = 0) : ∃ x l, openF 2 (more16 65535) b = (x :: l, 0) ∧ l.length + 3 = b.length := by
  have h1 := openF_ok hz
  have h2 : (openF 2 (more16 65535) b).1.length = b.length - 2 := by rw [h1]; simp
  cases h3 : openF 2 (more16 65535) b with
  | mk o e =>
    rw [h3] at h2 hz
    cases o with
    | nil => simp at h2; omega
    | cons x l => simp at h2 hz; subst hz; exact ⟨x, l, rfl, by omega⟩
theorem step_u8 {ops : Array Oper} {o : Oper} {a : Act} {w : World} {K : Act → World → Prop} {Q : Exit → Act → World → Prop} {E : Prop} (hgd : o.guard = none) (s x : Operand)
    (ho : o.op = .call { callee := .builtin .append, args := #[s, x], argTypes := #[34, 34] })
    {base : Nat} {A : Option Addr} {n c : Nat} {xs : List Value} (hs : a.eval s = .slice A n c) (hown : Own w base 5 IsU8 A n c xs)
    {A' : Option Addr} {m c' : Nat} {news : List Value} (hx : a.eval x = .slice A' m c') (hr : Rd w A' m news) (hnp : ∀ u ∈ news, IsU8 u) (hsz : n + m ≤ 140737488355328) (hbase : base ≤ w.heap.size)
    (h : ∀ A1 c1 w1, Own w1 base 5 IsU8 A1 (n + m) c1 (xs ++ news) → w.grownBy w1 (blk A) → (blk A1 = blk A ∨ blk A1 = some w.heap.size) → K (a.put o.dst (.slice A1 (n + m) c1)) w1) :
    if Region.wanted o (yielded ops a.tmps) = true then Oper.wp Try.prog o a w K Q else E :=
  step_append_Own hgd s x _ ho IsU8 base _ (.int .u8 0) 1 Try.underlying34 info_u8 rfl ⟨0, rfl⟩ (fun _ => isU8_one) A n c xs hs hown A' m c' news hx hr hnp (by omega) (by omega) hbase h

theorem openRtu_any (b : List UInt8) (A : Option Addr) (m c : Nat) (w : World) (hr : Rd w A m (b.map cB)) (hc : m ≤ c) :
    Calls Try.prog 22 #[.slice A m c] w (RetT w 5 (openRtuF b)) := by
  have hl := hr.length
  have Hr := Lib.hid hr; clear hr
  rcases Nat.lt_or_ge m 4 with h | h
  · rw [show openRtuF b = (0, [], 1) from if_pos (by omega)]
    clear hl
    all_goals
      go_enter Try.func22, Try.ntmps22
      go_wp2_with fail
      go_ret3
      exact ⟨_, _, _, rfl, Own.nil_ _ _ _ _, Below.refl _ _⟩
  · rcases Nat.lt_or_ge 256 m with h2 | h2
    · rw [show openRtuF b = (0, [], 2) from by unfold openRtuF; rw [if_neg (by omega), if_pos (by omega)]]
      clear hl
      go_enter Try.func22, Try.ntmps22
      go_wp2_with fail
      go_ret3
      exact ⟨_, _, _, rfl, Own.nil_ _ _ _ _, Below.refl _ _⟩
    · rw [show openRtuF b = lineF (openF 2 (more16 65535) b) from by unfold openRtuF; rw [if_neg (by omega), if_neg (by omega)]]
      by_cases hz : (openF 2 (more16 65535) b).2 = 0
      · obtain ⟨x, l, hO, hlm⟩ := open_cons b (by omega) hz
        rw [hl] at hlm
        have HO := Lib.hid hO; have Hlm := Lib.hid hlm; clear hz hl hlm
        by_cases hu : x.toNat < 1 ∨ 247 < x.toNat
        · rw [hO, lineF_unit hu]
          clear hO
          generalize hX : x.toNat = X at *
          have HX := Lib.hid hX; clear hX
          rcases hu with h7 | h7
          all_goals try have h8 : ¬ X < 1 := by omega
          all_goals
            go_enter Try.func22, Try.ntmps22
            go_wp2_with fail
            refine (open16_any b _ _ _ _ Hr.out hc (by omega)).mono ?_
            rintro e w1 ⟨A1, n1, c1, rfl, ho, hbd⟩
            rw [HO.out] at ho ⊢
            have hz1 := hbd.size
            have hn1 := ho.len
            have hnc := ho.cap
            have h1n : 1 ≤ n1 := by simp at hn1; omega
            have h0n : 0 < n1 := h1n
            have hx' : (x.toNat : Int) = (X : Int) := by rw [HX.out]
            have h2n : 2 ≤ n1 := by have h1 := Hlm.out; simp at hn1; omega
            have hc1' : ¬ c1 = 1 := by omega
            have h1i : 1 ≤ (n1 : Int) := by omega
            have hn1m : n1 ≤ m := by have h1 := Hlm.out; simp at hn1; omega
            obtain ⟨bk, ok, rfl, hbk, hl0, hc0⟩ := ho.rd.u8at (k := 0) h0n
            have hc0' : w1.cell? ⟨bk, ok, none⟩ = some (.int .u8 (X : Int)) := by have h := hc0; rw [show ((x :: l)[0].toNat) = X from HX.out] at h; exact h
            have Hown := Lib.hid ho; clear ho hc0 hn1 hl0
            go_wp2_with fail
            refine (isUnit_any _ _).mono ?_
            rintro e w2 ⟨rfl, rfl⟩
            rw [show decide (1 ≤ X ∧ X ≤ 247) = false from by simp; omega]
            go_wp2_with fail
            go_ret3
            exact ⟨_, _, _, rfl, Own.nil_ _ _ _ _, hbd⟩

        · rw [hO, lineF_ok hu]
          clear hO
          have hxl := x.toNat_lt
          generalize hX : x.toNat = X at *
          have HX := Lib.hid hX; clear hX
          have HU := Lib.hid hu
          all_goals
            go_enter Try.func22, Try.ntmps22
            go_wp2_with fail
            refine (open16_any b _ _ _ _ Hr.out hc (by omega)).mono ?_
            rintro e w1 ⟨A1, n1, c1, rfl, ho, hbd⟩
            rw [HO.out] at ho ⊢
            have hz1 := hbd.size
            have hn1 := ho.len
            have hnc := ho.cap
            have h1n : 1 ≤ n1 := by simp at hn1; omega
            have h0n : 0 < n1 := h1n
            have hx' : (x.toNat : Int) = (X : Int) := by rw [HX.out]
            have h2n : 2 ≤ n1 := by have h1 := Hlm.out; simp at hn1; omega
            have hc1' : ¬ c1 = 1 := by omega
            have h1i : 1 ≤ (n1 : Int) := by omega
            have hn1m : n1 ≤ m := by have h1 := Hlm.out; simp at hn1; omega
            obtain ⟨bk, ok, rfl, hbk, hl0, hc0⟩ := ho.rd.u8at (k := 0) h0n
            have hc0' : w1.cell? ⟨bk, ok, none⟩ = some (.int .u8 (X : Int)) := by have h := hc0; rw [show ((x :: l)[0].toNat) = X from HX.out] at h; exact h
            have Hown := Lib.hid ho; clear ho hc0 hn1 hl0
            have h3 : ¬ X < 1 := by omega
            have h4 : ¬ 247 < X := by omega
            have h5 : 1 ≤ X := by omega
            have h6 : X ≤ 247 := by omega
            go_wp2_with fail
            refine (isUnit_any _ _).mono ?_
            rintro e w2 ⟨rfl, rfl⟩
            rw [show decide (1 ≤ X ∧ X ≤ 247) = true from by simp; omega]
            go_wp2_with fail
            go_quiet (fail)
            go_wp2_with fail
            go_ret3
            exact ⟨_, _, _, congrArg (fun z : Int => Ending.returned (.tuple #[.int .u8 z, .slice _ _ _, .int .i64 0])) hx'.symm, (Hown.out.tail h1n).drewN _, below_drewN hbd _⟩

      · rw [lineF_err hz]
        have ht : ((openF 2 (more16 65535) b).2 != 0) = true := by simp [hz]
        have HO : Hid (openF 2 (more16 65535) b = openF 2 (more16 65535) b) := rfl
        clear hl
        go_enter Try.func22, Try.ntmps22
        go_wp2_with fail
        refine (open16_any b _ _ _ _ Hr.out hc (by omega)).mono ?_
        rintro e w1 ⟨A1, n1, c1, rfl, ho, hbd⟩
        have hz1 := hbd.size
        go_wp2_with fail
        go_ret3
        exact ⟨_, _, _, rfl, Own.nil_ _ _ _ _, hbd⟩


end Go.Proofs.Ytcnjhjfepojdaaa
