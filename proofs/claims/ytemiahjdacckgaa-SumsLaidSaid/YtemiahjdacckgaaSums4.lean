/- The walk of SumsLaid: for every input true; nothing that was there turns. -/
import Derived.Test.YtemiahjdacckgaaSums3
import Derived.Deep.DeepCutAuto
import Derived.StillTailTactics
namespace Go.Proofs.Ytemiahjdacckgaa
set_option linter.unusedVariables false
open Go Go.RowKit Go.Out

theorem u8_xor_cell (x y : UInt8) : (.int .u8 (bits .xor .u8 (x.toNat : Int) (y.toNat : Int)) : Value) = cB (x ^^^ y) := by
  rw [u8_xor_nat _ _ x.toNat_lt y.toNat_lt]; unfold cB; rw [UInt8.toNat_xor]
theorem laid_get (a b : List UInt8) (k : Nat) (ha : k < a.length) (hb : k < b.length) : ((laid a b).map cB)[k]? = some (cB (a[k] ^^^ b[k])) := by
  unfold laid
  rw [List.getElem?_map, List.getElem?_zipWith, List.getElem?_eq_getElem ha, List.getElem?_eq_getElem hb]; rfl

theorem still16 {l : List UInt8} {A : Option Addr} {m c : Nat} {w : World} (hr : Rd w A m (l.map cB)) (hm : m ≤ 140737488355328) : ∀ W : World, W.heap = w.heap →
    Calls Try.prog 16 #[.slice A m c] W fun e w' => e = .returned (.int .u16 (more16 65535 l : Nat)) ∧ w' = W := fun W hW => by
  have hr2 : Rd W A m (l.map cB) := by have h := hr; unfold Rd World.cell? at *; rw [hW]; exact h
  exact (crc16_any l A m c W hr2 hm).mono fun _ _ ⟨h1, h2⟩ => ⟨h1, h2.symm⟩
theorem still32 {l : List UInt8} {A : Option Addr} {m c : Nat} {w : World} (hr : Rd w A m (l.map cB)) (hm : m ≤ 140737488355328) : ∀ W : World, W.heap = w.heap →
    Calls Try.prog 20 #[.slice A m c] W fun e w' => e = .returned (.int .u32 (more32 0 l : Nat)) ∧ w' = W := fun W hW => by
  have hr2 : Rd W A m (l.map cB) := by have h := hr; unfold Rd World.cell? at *; rw [hW]; exact h
  exact (crc32_any l A m c W hr2 hm).mono fun _ _ ⟨h1, h2⟩ => ⟨h1, h2.symm⟩
theorem lawSumsLaid (a : List UInt8) (A : Option Addr) (m c : Nat) (b : List UInt8) (B : Option Addr) (m' c' : Nat) (w : World) (hr : Rd w A m (a.map cB)) (hc : m ≤ c) (_ : c ≤ 9223372036854775807) (hb : c * 1 ≤ 140737488351232) (hr' : Rd w B m' (b.map cB)) (hc' : m' ≤ c') (_ : c' ≤ 9223372036854775807) (hb' : c' * 1 ≤ 140737488351232) :
    Calls Try.prog 5 #[.slice A m c, .slice B m' c'] w fun e w' => e = .returned (.bool true) ∧ Below w.heap.size w w' := by
  have Hr := Lib.hid hr; have Hr' := Lib.hid hr'; clear hr hr'
  go_enter Try.func5, Try.ntmps5
  go_upto_region 1 with fail
  go_cut [5] (fun v wx => ∃ n : Nat, v = .int .i64 n ∧ n ≤ m ∧ n ≤ m' ∧ n ≤ 65536 ∧ w = wx)
  case first =>
    rcases Nat.lt_or_ge m' m with h1 | h1
    · rcases Nat.lt_or_ge 65536 m' with h2 | h2
      · go_wp2_with fail
        go_meet
        case rel => exact ⟨65536, rfl, by omega, by omega, by omega, rfl⟩
      · go_wp2_with fail
        go_meet
        case rel => exact ⟨m', rfl, by omega, by omega, by omega, rfl⟩
    · rcases Nat.lt_or_ge 65536 m with h2 | h2
      · go_wp2_with fail
        go_meet
        case rel => exact ⟨65536, rfl, by omega, by omega, by omega, rfl⟩
      · go_wp2_with fail
        go_meet
        case rel => exact ⟨m, rfl, by omega, by omega, by omega, rfl⟩
  case rest =>
    obtain ⟨n, rfl, hnm, hnm', hn, rfl⟩ := hcut
    have hmk : ∀ W : World, (Instr.makeSlice 22 (.int .i64 (n : Int)) (.int .i64 (n : Int))).run Try.prog W = .ok (.slice (some ⟨W.heap.size, 0, none⟩) n n) (W.alloc (.cells (Array.replicate n (.int .u8 0)) 5)) :=
      fun W => run_make1 (P := Try.prog) 22 5 (.int .u8 0) 1 Try.underlying22 info_u8 rfl n (by omega) (by omega) W
    have HL : Hid ((laid (a.take n) (b.take n)).length = n) := by have h1 := Hr.out.length; have h2 := Hr'.out.length; unfold Hid; rw [laid_length _ _ (by simp; omega)]; simp; omega
    have Hra := Lib.hid (Hr.out.take hnm); have Hrb := Lib.hid (Hr'.out.take hnm')
    rw [← List.map_take] at Hra Hrb
    go_wp2_with fail
    go_loopw [7] (fun i wr => ∃ (k : Nat) (cur : Array Value), k ≤ n ∧ i = .int .i64 k ∧ wr.heap[w.heap.size]? = some (.cells cur 5 (0, 0)) ∧ Hid (cur.toList = ((laid (a.take n) (b.take n)).map cB).take k ++ List.replicate (n - k) (Value.int .u8 0)) ∧ Hid (cur.size = n) ∧ Below w.heap.size w wr) (fun i _ => n - (intOf i).toNat)
    case atStart => exact ⟨0, _, Nat.zero_le _, rfl, heap_alloc_new w _, by simp [Hid], by simp [Hid], (Below.refl _ _).alloc (Nat.le_refl _) _⟩
    case round =>
      obtain ⟨k, cur, hk, rfl, hh, hcur, Hcs, hbel⟩ := hrel
      by_cases hlt : k < n
      · obtain ⟨b1, o1, rfl, hb1, hl1, hc1⟩ := (Hr.out.below hbel).u8at (k := k) (by omega)
        obtain ⟨b2, o2, rfl, hb2, hl2, hc2⟩ := (Hr'.out.below hbel).u8at (k := k) (by omega)
        obtain ⟨old, hce⟩ := heap_cell (k := k) hh (by have := Hcs.out; omega)
        have hfz := frozen_of_row wr w.heap.size k cur _ hh
        have Hh := Lib.hid hh; clear hh
        have hv : Hid (((laid (a.take n) (b.take n)).map cB)[k]? = some (Value.int .u8 (bits .xor .u8 (a[k].toNat : Int) (b[k].toNat : Int)))) := by
          unfold Hid; rw [u8_xor_cell, laid_get _ _ k (by simp; omega) (by simp; omega)]; simp
        generalize a[k].toNat = X at *
        generalize b[k].toNat = Y at *
        have e1 : k < m := by omega
        have e2 : k < m' := by omega
        go_wp2_with fail
        go_still_tail 12, (by kernel_rfl)
        clear e1 e2
        go_wp2_with fail
        go_roundw
        case rel => exact ⟨k + 1, _, by omega, by go_num, heap_setCell_same _ _ _ _ _ _ Hh.out, fill_step hcur.out (by simpa using HL.out) hv.out, by have := Hcs.out; simp [Hid]; omega, (hbel.setCell (Nat.le_refl _) _).drew⟩
        case measure => simp [intOf]; omega
      · obtain rfl : k = n := by omega
        have hrc : Rd wr (some ⟨w.heap.size, 0, none⟩) k ((laid (a.take k) (b.take k)).map cB) := Rd.of_heap hh (by rw [hcur.out, Nat.sub_self, List.replicate_zero, List.take_of_length_le (by simp [HL.out])]) (by simpa using HL.out)
        have hrz : Rd (wr.alloc (.cells (Array.replicate k (.int .u8 0)) 5)) (some ⟨wr.heap.size, 0, none⟩) k ((List.replicate k (0 : UInt8)).map cB) := Rd.of_heap (heap_alloc_new wr _) (ys := []) (by simp [cB]) (by simp)
        have hb2 : Below wr.heap.size wr (wr.alloc (.cells (Array.replicate k (.int .u8 0)) 5)) := (Below.refl _ _).alloc (Nat.le_refl _) _
        have hbz := hbel.alloc hbel.size (.cells (Array.replicate k (.int .u8 0)) 5)
        have ha := (Hra.out.below hbel).below hb2
        have hb := (Hrb.out.below hbel).below hb2
        have hc := hrc.below hb2
        have hla : (a.take k).length = (b.take k).length := by have h1 := Hr.out.length; have h2 := Hr'.out.length; simp; omega
        have hlk : (a.take k).length = k := by have h1 := Hr.out.length; simp; omega
        have q1 := more16_three _ _ hla
        have q2 := more32_three _ _ hla
        rw [hlk] at q1 q2
        have l1 := more16_lt (r := 65535) (by decide) (a.take k)
        have l2 := more16_lt (r := 65535) (by decide) (b.take k)
        have l3 := more16_lt (r := 65535) (by decide) (laid (a.take k) (b.take k))
        have l4 := more32_lt (r := 0) (by decide) (a.take k)
        have l5 := more32_lt (r := 0) (by decide) (b.take k)
        have l6 := more32_lt (r := 0) (by decide) (laid (a.take k) (b.take k))
        have c1 := still16 (w := (wr.alloc (.cells (Array.replicate k (.int .u8 0)) 5))) ha (c := c) (by omega)
        have c2 := still16 hb (c := c') (by omega)
        have c3 := still16 hc (c := k) (by omega)
        have c4 := still16 hrz (c := k) (by omega)
        have d1 := still32 ha (c := c) (by omega)
        have d2 := still32 hb (c := c') (by omega)
        have d3 := still32 hc (c := k) (by omega)
        have d4 := still32 hrz (c := k) (by omega)
        generalize (laid (a.take k) (b.take k)) = Lc at *
        generalize (a.take k) = La at *
        generalize (b.take k) = Lb at *
        generalize (List.replicate k (0 : UInt8)) = Lz at *
        generalize more16 65535 La = S1 at *
        generalize more16 65535 Lb = S2 at *
        generalize more16 65535 Lc = S3 at *
        generalize more16 65535 Lz = S4 at *
        generalize more32 0 La = T1 at *
        generalize more32 0 Lb = T2 at *
        generalize more32 0 Lc = T3 at *
        generalize more32 0 Lz = T4 at *
        have x1 : bits .xor .u16 (S1 : Int) (S2 : Int) = ((S1 ^^^ S2 : Nat) : Int) := u16_xor_nat _ _ l1 l2
        have x2 : bits .xor .u16 ((S1 ^^^ S2 : Nat) : Int) (S3 : Int) = ((S4 : Nat) : Int) := by rw [← q1]; exact u16_xor_nat _ _ (Nat.xor_lt_two_pow (n := 16) l1 l2) l3
        have y1 : bits .xor .u32 (T1 : Int) (T2 : Int) = ((T1 ^^^ T2 : Nat) : Int) := u32_xor_nat _ _ l4 l5
        have y2 : bits .xor .u32 ((T1 ^^^ T2 : Nat) : Int) (T3 : Int) = ((T4 : Nat) : Int) := by rw [← q2]; exact u32_xor_nat _ _ (Nat.xor_lt_two_pow (n := 32) l4 l5) l6
        generalize (S1 ^^^ S2 : Nat) = S5 at *
        generalize (T1 ^^^ T2 : Nat) = T5 at *
        have ht1 : ((S4 : Int) == (S4 : Int)) = true := by simp
        have ht2 : ((T4 : Int) == (T4 : Int)) = true := by simp
        clear q1 q2 l1 l2 l3 l4 l5 l6 ha hb hc hrc hrz
        have Hcc := Lib.hid (And.intro c1 (And.intro c2 (And.intro c3 c4)))
        have Hdd := Lib.hid (And.intro d1 (And.intro d2 (And.intro d3 d4)))
        clear c1 c2 c3 c4 d1 d2 d3 d4
        have hle1 : k ≤ c := by omega
        have hle2 : k ≤ c' := by omega
        go_wp2_with fail
        go_still_tail 15, (by kernel_rfl)
        still_call (Hcc.out.1 _ rfl)
        repeat still_step
        still_call (Hcc.out.2.1 _ rfl)
        repeat still_step
        still_call (Hcc.out.2.2.1 _ rfl)
        repeat still_step
        still_call (Hcc.out.2.2.2 _ rfl)
        repeat still_step
        try refine wpStill_nil ?_
        go_wp2_with fail
        go_still_tail 15, (by kernel_rfl)
        still_call (Hdd.out.1 _ rfl)
        repeat still_step
        still_call (Hdd.out.2.1 _ rfl)
        repeat still_step
        still_call (Hdd.out.2.2.1 _ rfl)
        repeat still_step
        still_call (Hdd.out.2.2.2 _ rfl)
        repeat still_step
        try refine wpStill_nil ?_
        go_wp2_with fail
        refine (known_any _).mono ?_
        rintro e w4 ⟨rfl, hb4⟩
        go_wp2_with fail
        go_ret
        exact ⟨rfl, hbz.drew.drew.trans (hb4.mono hbz.size)⟩
end Go.Proofs.Ytemiahjdacckgaa
