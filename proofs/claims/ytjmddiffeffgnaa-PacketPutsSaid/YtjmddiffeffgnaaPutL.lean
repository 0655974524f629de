/- Contracts of outstationref21.eight and outstationref21.Put, whatever the packet. -/
import Derived.Test.YtjmddiffeffgnaaPac3
import Derived.Test.YtjmddiffeffgnaaPacR
import Derived.Test.YtjmddiffeffgnaaPacR3
import Derived.Test.YtjmddiffeffgnaaGetC
import Derived.Test.YtjmddiffeffgnaaAskSh
import Derived.Test.YtjmddiffeffgnaaAskSp
namespace Go.Proofs.Ytjmddiffeffgnaa
set_option linter.unusedVariables false
set_option linter.unusedSimpArgs false
set_option maxRecDepth 100000
set_option maxHeartbeats 2000000
open Go Go.RowKit Go.Out

theorem reight_any (xs : List UInt8) (v n : Nat) (hv : v < 4611686018427387904) (A : Option Addr) (c base : Nat) (w : World) (ho : Own w base 5 IsU8 A n c (xs.map cB)) (hbase : base ≤ w.heap.size) (hn : n ≤ 140737488300000) :
    Calls Try.prog 84 #[.slice A n c, .int .i64 (v : Int)] w (RetP w base A (xs ++ be v 8)) := by
  have Hlen := Lib.hid (show (xs ++ be v 8).length = n + 8 by have := ho.len; simp [be_length] at this ⊢; omega)
  have Ho := Lib.hid ho; have Hbase := Lib.hid hbase; clear ho hbase
  have hv64 : IntKind.u64.wrap (v : Int) = (v : Int) := by rw [IntKind.wrap_u64]; omega
  go_enter Try.func84, Try.ntmps84
  go_wp2_with fail
  go_loopw [0, 6] (fun b i wr => ∃ (q : Nat) (x : Int) (A2 : Option Addr) (c2 : Nat), q ≤ 8 ∧ x = (q : Int) - 1 ∧ i = .int .i64 x ∧ b = .slice A2 (n + (8 - q)) c2 ∧ Hid (Own wr base 5 IsU8 A2 (n + (8 - q)) c2 ((xs ++ beTop v 8 q).map cB)) ∧ Hid (Grow w wr A A2)) (fun _ i _ => ((intOf i) + 1).toNat)
  case atStart => exact ⟨8, 7, A, c, by omega, by omega, rfl, rfl, by simpa [Hid, beTop_zero] using Ho.out, Lib.hid (Grow.refl _ _)⟩
  case round =>
    obtain ⟨q, x, A2, c2, hq, hx, rfl, rfl, HO2, HG2⟩ := hrel
    rcases q with _ | q
    · obtain rfl : x = -1 := by omega
      clear hx
      go_wp2_with fail
      go_ret
      have h := HO2.out
      rw [beTop_all] at h
      exact ⟨A2, c2, by rw [Hlen.out]; rfl, by rw [Hlen.out]; exact h, HG2.out⟩
    · obtain rfl : x = (q : Int) := by omega
      clear hx
      have q0 : 0 ≤ 8 * (q : Int) := by omega
      have q1 : (8 * (q : Int)).toNat = 8 * q := by omega
      have q3 : min (8 * q) 64 = 8 * q := by omega
      have q4 : IntKind.i64.wrap (8 * (q : Int)) = 8 * (q : Int) := IntWalk.i64_in _ (by omega)
      have q5 : IntKind.u64.wrap (8 * (q : Int)) = 8 * (q : Int) := by rw [IntKind.wrap_u64]; omega
      have Hlit : Hid ((#[.int .u8 ((v : Int) / 2 ^ (8 * q) % 256)] : Array Value).toList = [UInt8.ofNat (v / 256 ^ q)].map cB ++ []) := by
        show [_] = _
        rw [be_cell]
        rfl
      have Hbt := Lib.hid (beTop_step v 8 q (by omega))
      go_wp2_with (at_builtin; go_must (refine app_u8 _ rfl (.tmp 13) (.tmp 20) rfl rfl (HO2.out.ext (Ext.alloc _ _)) rfl (Rd.of_heap (ys := []) (heap_alloc_new wr _) Hlit.out rfl) isU8_map (by omega) (Nat.le_trans (Nat.le_trans Hbase.out HG2.out.1.size) (Ext.alloc _ _).size) ?_); intro A3 c3 w2 hown2 hg2 hb2; have HO3 := Lib.hid hown2; have HG3 := Lib.hid (Grow.of_alloc hg2 hb2); clear hown2 hg2 hb2)
      go_roundw
      case rel => exact ⟨q, (q : Int) - 1, A3, c3, by omega, rfl, by go_num, by congr 1; omega, by have h := HO3.out; rw [← List.map_append, List.append_assoc, ← Hbt.out, show n + (8 - (q + 1)) + 1 = n + (8 - q) by omega] at h; exact h, Lib.hid (HG2.out.trans HG3.out)⟩
      case measure => simp [intOf]

/-- As reight_any, the length of what is handed back by name. -/
theorem reight_to (xs : List UInt8) (v n N : Nat) (hN : n + 8 = N) (hv : v < 4611686018427387904) (A : Option Addr) (c base : Nat) (w V : World) (hX : Ext w V) (hbw : w.heap.size ≤ base) (ho : Own V base 5 IsU8 A n c (xs.map cB)) (hbase : base ≤ V.heap.size) (hn : n ≤ 140737488300000) :
    Calls Try.prog 84 #[.slice A n c, .int .i64 (v : Int)] V fun e w' => ∃ A' c', e = .returned (.slice A' N c') ∧ Own w' base 5 IsU8 A' N c' ((xs ++ be v 8).map cB) ∧ Ext w w' := by
  have hl : (xs ++ be v 8).length = N := by have := ho.len; simp [be_length] at this ⊢; omega
  refine (reight_any xs v n hv A c base V ho hbase hn).mono ?_
  rintro e w' ⟨A', c', rfl, ho', hG⟩
  rw [hl] at ho' ⊢
  exact ⟨A', c', rfl, ho', hX.grown' hG.1 (fun g hg => Nat.le_trans hbw (ho.lt g hg).1)⟩

theorem rpacOk {p : PacD} {A : Option Addr} {n c : Nat} {w : World} (hr : PacRd w p A n c) (h : checkP p = 0) : ∀ W, Ext w W → Calls Try.prog 28 #[pacV p A n c] W (RetI W 0) := by
  intro W hX
  have := rpacCheck_any p A n c W (hr.ext hX)
  rwa [h] at this
theorem rputNo (p : PacD) (A : Option Addr) (n c : Nat) (w : World) (hr : PacRd w p A n c) (h : checkP p ≠ 0) : Calls Try.prog 24 #[pacV p A n c] w (RetU w [] (checkP p)) := by
  have hc := fun W (hX : Ext w W) => rpacCheck_any p A n c W (hr.ext hX)
  obtain ⟨k, hk⟩ : ∃ k, checkP p = k := ⟨_, rfl⟩
  simp only [hk] at hc h ⊢
  have ht : (k != 0) = true := by simpa using h
  have HC := Lib.hid hc; clear hc hr hk h
  obtain ⟨kd, e, s, i, cd, l⟩ := p
  simp only [pacV] at HC ⊢
  go_enter Try.func24, Try.ntmps24
  go_wp2_with fail
  refine (HC.out _ (Ext.alloc _ _)).mono ?_
  rintro e w1 ⟨rfl, hb⟩
  go_wp2_with fail
  go_ret2
  exact ⟨none, 0, 0, rfl, Own.nil_ _ _ _ _, (Ext.alloc _ _).trans hb⟩

theorem rputRuns1 (E S : Nat) (l : List UInt8) (A : Option Addr) (n c : Nat) (w : World) (hr : PacRd w ⟨1, E, S, 0, 0, l⟩ A n c) (h : checkP ⟨1, E, S, 0, 0, l⟩ = 0) (hE : E ≤ 1099511627776) (hS : S ≤ 1099511627776) (hl : l.length ≤ 1024) :
    Calls Try.prog 24 #[pacV ⟨1, E, S, 0, 0, l⟩ A n c] w (RetU w (sealF 4 (more32 0) (UInt8.ofNat 1 :: ((be E 8 ++ be S 8) ++ l))) 0) := by
  have HC := Lib.hid (rpacOk hr h)
  have HB := Lib.hid hr.body
  have hn := hr.len
  have hcap := hr.cap
  simp only at hn hcap
  clear hr h
  simp only [pacV] at HC ⊢
  have hn2 : n ≤ 1024 := by omega
  have HBX : Hid (∀ W, Ext (w.alloc (.cells #[.int .i64 1, .int .i64 (E : Int), .int .i64 (S : Int), .int .i64 0, .int .i64 0, .slice A n c] 34)) W → W.heap[w.heap.size]? = some (.cells #[.int .i64 1, .int .i64 (E : Int), .int .i64 (S : Int), .int .i64 0, .int .i64 0, .slice A n c] 34 (0, 0))) := fun W hX => hX.block (heap_alloc_new w _)
  have XW := Lib.hid (Ext.alloc w (.cells #[.int .i64 1, .int .i64 (E : Int), .int .i64 (S : Int), .int .i64 0, .int .i64 0, .slice A n c] 34))
  obtain ⟨V0, hV0⟩ : ∃ V0, (w.alloc (.cells #[.int .i64 1, .int .i64 (E : Int), .int .i64 (S : Int), .int .i64 0, .int .i64 0, .slice A n c] 34)) = V0 := ⟨_, rfl⟩
  rw [hV0] at HBX XW
  have hz0 : w.heap.size + 1 ≤ V0.heap.size := by rw [← hV0]; simp
  have HV0 := Lib.hid hV0
  clear hV0
  go_enter Try.func24, Try.ntmps24
  go_wp2_with fail
  rw [HV0.out]
  refine (HC.out V0 XW.out).mono ?_
  rintro e w1 ⟨rfl, hx1⟩
  obtain ⟨d0, d1, d2, d3, d4, d5, -⟩ := box6 (HBX.out _ hx1)
  have D0 := fun o : Obj => (box6 (HBX.out _ (hx1.trans (Ext.alloc w1 o)))).1
  have X1 := Lib.hid hx1
  have hz1 : w.heap.size + 1 ≤ w1.heap.size := Nat.le_trans hz0 hx1.size
  clear hx1
  go_wp2_with fail
  refine (rruns_any 1 true _ (by decide)).mono ?_
  rintro e v_ ⟨rfl, rfl⟩
  have XA := Lib.hid (X1.out.trans (Ext.alloc w1 (.cells #[.int .u8 1] 5)))
  have HF : Hid (Own (w1.alloc (.cells #[.int .u8 1] 5)) (w.heap.size + 1) 5 IsU8 (some ⟨w1.heap.size, 0, none⟩) 1 1 (([1] : List UInt8).map cB)) := Lib.hid (Own.first w1 _ hz1 1 1 rfl)
  obtain ⟨V1, hV1⟩ : ∃ V1, w1.alloc (.cells #[.int .u8 1] 5) = V1 := ⟨_, rfl⟩
  rw [hV1] at XA HF ⊢
  have hz2 : w.heap.size + 1 ≤ V1.heap.size := Nat.le_trans hz0 XA.out.size
  obtain ⟨q0, q1, q2, q3, q4, q5, -⟩ := box6 (HBX.out _ XA.out)
  clear hV1 d0 d1 d2 d3 d4 d5 D0
  have VZ := Lib.hid (show V0.heap.size ≤ w.heap.size + 1 by rw [← HV0.out]; simp)
  have HKK : Hid (∀ W, Ext V0 W → W.cell? ⟨w.heap.size, 1, none⟩ = some (.int .i64 (E : Int)) ∧ W.cell? ⟨w.heap.size, 2, none⟩ = some (.int .i64 (S : Int))) := fun W hX => by
    obtain ⟨-, q1, q2, -⟩ := box6 (HBX.out _ hX)
    exact ⟨q1, q2⟩
  have hzV : w.heap.size < V1.heap.size := by omega
  go_wp2_with fail
  go_region_held3 (fun w' => w'.cell? ⟨w.heap.size, 1, none⟩ = some (.int .i64 (E : Int)) ∧ w'.cell? ⟨w.heap.size, 2, none⟩ = some (.int .i64 (S : Int))) (go_keep) ((first
    | (go_at_call_of 84 (Value.int .i64 (E : Int))
       with_reducible refine Calls.mono (reight_to [1] E 1 9 rfl (by omega) _ _ (w.heap.size + 1) V0 _ ?_ VZ.out ?_ ?_ (by omega)) ?_
       · repeat' (first | with_reducible exact XA.out | with_reducible refine Ext.drew' ?_)
       · repeat' (first | with_reducible exact HF.out | with_reducible refine Own.drew ?_)
       · simp; omega
       rintro e w4 ⟨A5, c5, rfl, ho, hx4⟩
       obtain ⟨k1, k2⟩ := HKK.out _ hx4
       have hz4 : w.heap.size + 1 ≤ w4.heap.size := Nat.le_trans hz0 hx4.size
       have HO4 := Lib.hid ho
       have X4 := Lib.hid hx4
       clear ho hx4)
    | (go_at_call_of 84 (Value.int .i64 (S : Int))
       with_reducible refine Calls.mono (reight_to _ S 9 17 rfl (by omega) _ _ (w.heap.size + 1) V0 _ X4.out VZ.out HO4.out hz4 (by omega)) ?_
       rintro e w5 ⟨A6, c6, rfl, ho, hx5⟩
       obtain ⟨h1, h2⟩ := HKK.out _ hx5
       have HO := Lib.hid ho
       have X := Lib.hid hx5
       clear ho hx5)
    | fail "no arm"))
  obtain ⟨p0, p1, p2, p3, p4, p5, -⟩ := box6 (HBX.out _ X.out)
  clear q0 q1 q2 q3 q4 q5
  go_wp2_with fail
  go_loopw [5, 6] (fun b i wr => ∃ (k : Nat) (A1 : Option Addr) (c1 : Nat), k ≤ n ∧ i = .int .i64 (k : Int) ∧ b = .slice A1 (17 + k) c1 ∧ Hid (Own wr (w.heap.size + 1) 5 IsU8 A1 (17 + k) c1 ((([1] ++ be E 8 ++ be S 8) ++ l.take k).map cB)) ∧ Hid (Ext V0 wr)) (fun _ i _ => n - (intOf i).toNat)
  case atStart => exact ⟨0, _, _, Nat.zero_le _, rfl, rfl, by have h := HO.out; simpa [Hid] using h, X⟩
  case round =>
    obtain ⟨k, A1, c1, hk, rfl, rfl, HO1, HX⟩ := hrel
    obtain ⟨-, -, -, -, -, k5, -⟩ := box6 (HBX.out _ HX.out)
    rcases Nat.lt_or_ge k n with hlt | hge
    · obtain ⟨bk, off, rfl, hbk, hcell⟩ := HB.out.u8all (by omega)
      have hck := (XW.out.trans HX.out).cell hbk (hcell k hlt)
      have Hst : Hid (l.take (k + 1) = l.take k ++ [l.getD k 0]) := by
        unfold Hid
        rw [List.take_succ_eq_append_getElem (by omega), List.getD_eq_getElem?_getD, List.getElem?_eq_getElem (by omega)]; rfl
      have Hlit : Hid ((#[.int .u8 ((l.getD k 0).toNat : Int)] : Array Value).toList = [l.getD k 0].map cB ++ []) := by show [_] = _; rfl
      generalize hy : l.getD k 0 = y at *
      generalize hx : y.toNat = x at *
      have Hy := Lib.hid hy; have Hx := Lib.hid hx
      have hkc : (k : Int) < (n : Int) := by omega
      have hzr : w.heap.size + 1 ≤ wr.heap.size := Nat.le_trans hz0 HX.out.size
      clear hcell hy hx hn hcap
      go_wp2_with (at_builtin
                   go_must (refine app_u8 (base := w.heap.size + 1) _ rfl (.tmp 46) (.tmp 52) rfl rfl (HO1.out.ext (Ext.alloc _ _)) rfl (Rd.of_heap (ys := []) (heap_alloc_new wr _) Hlit.out rfl) isU8_map (by omega) (Nat.le_trans hzr (Ext.alloc _ _).size) ?_)
                   intro A3 c3 w3 hown hg hbk
                   have HO3 := Lib.hid hown
                   have X3 := Lib.hid ((HX.out.trans (Ext.alloc _ _)).grown' hg (fun g hg => Nat.le_trans VZ.out (HO1.out.lt g hg).1))
                   clear hown hg hbk)
      go_roundw
      case rel => exact ⟨k + 1, A3, c3, by omega, by go_num, rfl, by have h := HO3.out; rw [← List.map_append, List.append_assoc, ← Hst.out] at h; exact h, X3⟩
      case measure => simp [intOf]; omega
    · obtain rfl : k = n := by omega
      have HO2 : Hid (Own wr (w.heap.size + 1) 5 IsU8 A1 (17 + k) c1 ((([1] ++ be E 8 ++ be S 8) ++ l).map cB)) := by have h := HO1.out; rw [List.take_of_length_le (by omega)] at h; exact h
      clear hn hcap
      go_wp2_with fail
      refine (refSeal32_any (([1] ++ be E 8 ++ be S 8) ++ l) _ _ _ _ HO2.out.rd (by omega)).mono ?_
      rintro e w7 ⟨A9, c9, rfl, ho9, hb9⟩
      have HO9 := Lib.hid ho9
      have X9 := Lib.hid (Ext.of hb9)
      clear ho9 hb9
      go_wp2_with fail
      go_ret2
      have e : (([1] ++ be E 8 ++ be S 8) ++ l : List UInt8) = UInt8.ofNat 1 :: ((be E 8 ++ be S 8) ++ l) := by simp
      rw [← e]
      exact RetU.seal (XW.out.trans HX.out) HO9.out X9.out

theorem rputRuns2 (E S : Nat) (l : List UInt8) (A : Option Addr) (n c : Nat) (w : World) (hr : PacRd w ⟨2, E, S, 0, 0, l⟩ A n c) (h : checkP ⟨2, E, S, 0, 0, l⟩ = 0) (hE : E ≤ 1099511627776) (hS : S ≤ 1099511627776) (hl : l.length ≤ 1024) :
    Calls Try.prog 24 #[pacV ⟨2, E, S, 0, 0, l⟩ A n c] w (RetU w (sealF 4 (more32 0) (UInt8.ofNat 2 :: ((be E 8 ++ be S 8) ++ l))) 0) := by
  have HC := Lib.hid (rpacOk hr h)
  have HB := Lib.hid hr.body
  have hn := hr.len
  have hcap := hr.cap
  simp only at hn hcap
  clear hr h
  simp only [pacV] at HC ⊢
  have hn2 : n ≤ 1024 := by omega
  have HBX : Hid (∀ W, Ext (w.alloc (.cells #[.int .i64 2, .int .i64 (E : Int), .int .i64 (S : Int), .int .i64 0, .int .i64 0, .slice A n c] 34)) W → W.heap[w.heap.size]? = some (.cells #[.int .i64 2, .int .i64 (E : Int), .int .i64 (S : Int), .int .i64 0, .int .i64 0, .slice A n c] 34 (0, 0))) := fun W hX => hX.block (heap_alloc_new w _)
  have XW := Lib.hid (Ext.alloc w (.cells #[.int .i64 2, .int .i64 (E : Int), .int .i64 (S : Int), .int .i64 0, .int .i64 0, .slice A n c] 34))
  obtain ⟨V0, hV0⟩ : ∃ V0, (w.alloc (.cells #[.int .i64 2, .int .i64 (E : Int), .int .i64 (S : Int), .int .i64 0, .int .i64 0, .slice A n c] 34)) = V0 := ⟨_, rfl⟩
  rw [hV0] at HBX XW
  have hz0 : w.heap.size + 1 ≤ V0.heap.size := by rw [← hV0]; simp
  have HV0 := Lib.hid hV0
  clear hV0
  go_enter Try.func24, Try.ntmps24
  go_wp2_with fail
  rw [HV0.out]
  refine (HC.out V0 XW.out).mono ?_
  rintro e w1 ⟨rfl, hx1⟩
  obtain ⟨d0, d1, d2, d3, d4, d5, -⟩ := box6 (HBX.out _ hx1)
  have D0 := fun o : Obj => (box6 (HBX.out _ (hx1.trans (Ext.alloc w1 o)))).1
  have X1 := Lib.hid hx1
  have hz1 : w.heap.size + 1 ≤ w1.heap.size := Nat.le_trans hz0 hx1.size
  clear hx1
  go_wp2_with fail
  refine (rruns_any 2 true _ (by decide)).mono ?_
  rintro e v_ ⟨rfl, rfl⟩
  have XA := Lib.hid (X1.out.trans (Ext.alloc w1 (.cells #[.int .u8 2] 5)))
  have HF : Hid (Own (w1.alloc (.cells #[.int .u8 2] 5)) (w.heap.size + 1) 5 IsU8 (some ⟨w1.heap.size, 0, none⟩) 1 1 (([2] : List UInt8).map cB)) := Lib.hid (Own.first w1 _ hz1 2 2 rfl)
  obtain ⟨V1, hV1⟩ : ∃ V1, w1.alloc (.cells #[.int .u8 2] 5) = V1 := ⟨_, rfl⟩
  rw [hV1] at XA HF ⊢
  have hz2 : w.heap.size + 1 ≤ V1.heap.size := Nat.le_trans hz0 XA.out.size
  obtain ⟨q0, q1, q2, q3, q4, q5, -⟩ := box6 (HBX.out _ XA.out)
  clear hV1 d0 d1 d2 d3 d4 d5 D0
  have VZ := Lib.hid (show V0.heap.size ≤ w.heap.size + 1 by rw [← HV0.out]; simp)
  have HKK : Hid (∀ W, Ext V0 W → W.cell? ⟨w.heap.size, 1, none⟩ = some (.int .i64 (E : Int)) ∧ W.cell? ⟨w.heap.size, 2, none⟩ = some (.int .i64 (S : Int))) := fun W hX => by
    obtain ⟨-, q1, q2, -⟩ := box6 (HBX.out _ hX)
    exact ⟨q1, q2⟩
  have hzV : w.heap.size < V1.heap.size := by omega
  go_wp2_with fail
  go_region_held3 (fun w' => w'.cell? ⟨w.heap.size, 1, none⟩ = some (.int .i64 (E : Int)) ∧ w'.cell? ⟨w.heap.size, 2, none⟩ = some (.int .i64 (S : Int))) (go_keep) ((first
    | (go_at_call_of 84 (Value.int .i64 (E : Int))
       with_reducible refine Calls.mono (reight_to [2] E 1 9 rfl (by omega) _ _ (w.heap.size + 1) V0 _ ?_ VZ.out ?_ ?_ (by omega)) ?_
       · repeat' (first | with_reducible exact XA.out | with_reducible refine Ext.drew' ?_)
       · repeat' (first | with_reducible exact HF.out | with_reducible refine Own.drew ?_)
       · simp; omega
       rintro e w4 ⟨A5, c5, rfl, ho, hx4⟩
       obtain ⟨k1, k2⟩ := HKK.out _ hx4
       have hz4 : w.heap.size + 1 ≤ w4.heap.size := Nat.le_trans hz0 hx4.size
       have HO4 := Lib.hid ho
       have X4 := Lib.hid hx4
       clear ho hx4)
    | (go_at_call_of 84 (Value.int .i64 (S : Int))
       with_reducible refine Calls.mono (reight_to _ S 9 17 rfl (by omega) _ _ (w.heap.size + 1) V0 _ X4.out VZ.out HO4.out hz4 (by omega)) ?_
       rintro e w5 ⟨A6, c6, rfl, ho, hx5⟩
       obtain ⟨h1, h2⟩ := HKK.out _ hx5
       have HO := Lib.hid ho
       have X := Lib.hid hx5
       clear ho hx5)
    | fail "no arm"))
  obtain ⟨p0, p1, p2, p3, p4, p5, -⟩ := box6 (HBX.out _ X.out)
  clear q0 q1 q2 q3 q4 q5
  go_wp2_with fail
  go_loopw [5, 6] (fun b i wr => ∃ (k : Nat) (A1 : Option Addr) (c1 : Nat), k ≤ n ∧ i = .int .i64 (k : Int) ∧ b = .slice A1 (17 + k) c1 ∧ Hid (Own wr (w.heap.size + 1) 5 IsU8 A1 (17 + k) c1 ((([2] ++ be E 8 ++ be S 8) ++ l.take k).map cB)) ∧ Hid (Ext V0 wr)) (fun _ i _ => n - (intOf i).toNat)
  case atStart => exact ⟨0, _, _, Nat.zero_le _, rfl, rfl, by have h := HO.out; simpa [Hid] using h, X⟩
  case round =>
    obtain ⟨k, A1, c1, hk, rfl, rfl, HO1, HX⟩ := hrel
    obtain ⟨-, -, -, -, -, k5, -⟩ := box6 (HBX.out _ HX.out)
    rcases Nat.lt_or_ge k n with hlt | hge
    · obtain ⟨bk, off, rfl, hbk, hcell⟩ := HB.out.u8all (by omega)
      have hck := (XW.out.trans HX.out).cell hbk (hcell k hlt)
      have Hst : Hid (l.take (k + 1) = l.take k ++ [l.getD k 0]) := by
        unfold Hid
        rw [List.take_succ_eq_append_getElem (by omega), List.getD_eq_getElem?_getD, List.getElem?_eq_getElem (by omega)]; rfl
      have Hlit : Hid ((#[.int .u8 ((l.getD k 0).toNat : Int)] : Array Value).toList = [l.getD k 0].map cB ++ []) := by show [_] = _; rfl
      generalize hy : l.getD k 0 = y at *
      generalize hx : y.toNat = x at *
      have Hy := Lib.hid hy; have Hx := Lib.hid hx
      have hkc : (k : Int) < (n : Int) := by omega
      have hzr : w.heap.size + 1 ≤ wr.heap.size := Nat.le_trans hz0 HX.out.size
      clear hcell hy hx hn hcap
      go_wp2_with (at_builtin
                   go_must (refine app_u8 (base := w.heap.size + 1) _ rfl (.tmp 46) (.tmp 52) rfl rfl (HO1.out.ext (Ext.alloc _ _)) rfl (Rd.of_heap (ys := []) (heap_alloc_new wr _) Hlit.out rfl) isU8_map (by omega) (Nat.le_trans hzr (Ext.alloc _ _).size) ?_)
                   intro A3 c3 w3 hown hg hbk
                   have HO3 := Lib.hid hown
                   have X3 := Lib.hid ((HX.out.trans (Ext.alloc _ _)).grown' hg (fun g hg => Nat.le_trans VZ.out (HO1.out.lt g hg).1))
                   clear hown hg hbk)
      go_roundw
      case rel => exact ⟨k + 1, A3, c3, by omega, by go_num, rfl, by have h := HO3.out; rw [← List.map_append, List.append_assoc, ← Hst.out] at h; exact h, X3⟩
      case measure => simp [intOf]; omega
    · obtain rfl : k = n := by omega
      have HO2 : Hid (Own wr (w.heap.size + 1) 5 IsU8 A1 (17 + k) c1 ((([2] ++ be E 8 ++ be S 8) ++ l).map cB)) := by have h := HO1.out; rw [List.take_of_length_le (by omega)] at h; exact h
      clear hn hcap
      go_wp2_with fail
      refine (refSeal32_any (([2] ++ be E 8 ++ be S 8) ++ l) _ _ _ _ HO2.out.rd (by omega)).mono ?_
      rintro e w7 ⟨A9, c9, rfl, ho9, hb9⟩
      have HO9 := Lib.hid ho9
      have X9 := Lib.hid (Ext.of hb9)
      clear ho9 hb9
      go_wp2_with fail
      go_ret2
      have e : (([2] ++ be E 8 ++ be S 8) ++ l : List UInt8) = UInt8.ofNat 2 :: ((be E 8 ++ be S 8) ++ l) := by simp
      rw [← e]
      exact RetU.seal (XW.out.trans HX.out) HO9.out X9.out

theorem rputCmd (I : Nat) (l : List UInt8) (A : Option Addr) (n c : Nat) (w : World) (hr : PacRd w ⟨3, 0, 0, I, 0, l⟩ A n c) (h : checkP ⟨3, 0, 0, I, 0, l⟩ = 0) (hI : I ≤ 1099511627776) (hl : l.length ≤ 1024) :
    Calls Try.prog 24 #[pacV ⟨3, 0, 0, I, 0, l⟩ A n c] w (RetU w (sealF 4 (more32 0) (3 :: (be I 8 ++ l))) 0) := by
  have HC := Lib.hid (rpacOk hr h)
  have HB := Lib.hid hr.body
  have hn := hr.len
  have hcap := hr.cap
  simp only at hn hcap
  clear hr h
  simp only [pacV] at HC ⊢
  have hn2 : n ≤ 1024 := by omega
  have HBX : Hid (∀ W, Ext (w.alloc (.cells #[.int .i64 3, .int .i64 0, .int .i64 0, .int .i64 (I : Int), .int .i64 0, .slice A n c] 34)) W → W.heap[w.heap.size]? = some (.cells #[.int .i64 3, .int .i64 0, .int .i64 0, .int .i64 (I : Int), .int .i64 0, .slice A n c] 34 (0, 0))) := fun W hX => hX.block (heap_alloc_new w _)
  have XW := Lib.hid (Ext.alloc w (.cells #[.int .i64 3, .int .i64 0, .int .i64 0, .int .i64 (I : Int), .int .i64 0, .slice A n c] 34))
  obtain ⟨V0, hV0⟩ : ∃ V0, (w.alloc (.cells #[.int .i64 3, .int .i64 0, .int .i64 0, .int .i64 (I : Int), .int .i64 0, .slice A n c] 34)) = V0 := ⟨_, rfl⟩
  rw [hV0] at HBX XW
  have hz0 : w.heap.size + 1 ≤ V0.heap.size := by rw [← hV0]; simp
  have HV0 := Lib.hid hV0
  clear hV0
  go_enter Try.func24, Try.ntmps24
  go_wp2_with fail
  rw [HV0.out]
  refine (HC.out V0 XW.out).mono ?_
  rintro e w1 ⟨rfl, hx1⟩
  obtain ⟨d0, d1, d2, d3, d4, d5, -⟩ := box6 (HBX.out _ hx1)
  have D0 := fun o : Obj => (box6 (HBX.out _ (hx1.trans (Ext.alloc w1 o)))).1
  have X1 := Lib.hid hx1
  have hz1 : w.heap.size + 1 ≤ w1.heap.size := Nat.le_trans hz0 hx1.size
  clear hx1
  go_wp2_with fail
  refine (rruns_any 3 false _ (by decide)).mono ?_
  rintro e v_ ⟨rfl, rfl⟩
  have XA := Lib.hid (X1.out.trans (Ext.alloc w1 (.cells #[.int .u8 3] 5)))
  have HF : Hid (Own (w1.alloc (.cells #[.int .u8 3] 5)) (w.heap.size + 1) 5 IsU8 (some ⟨w1.heap.size, 0, none⟩) 1 1 (([3] : List UInt8).map cB)) := Lib.hid (Own.first w1 _ hz1 3 3 rfl)
  obtain ⟨V1, hV1⟩ : ∃ V1, w1.alloc (.cells #[.int .u8 3] 5) = V1 := ⟨_, rfl⟩
  rw [hV1] at XA HF ⊢
  have hz2 : w.heap.size + 1 ≤ V1.heap.size := Nat.le_trans hz0 XA.out.size
  obtain ⟨q0, q1, q2, q3, q4, q5, -⟩ := box6 (HBX.out _ XA.out)
  clear hV1 d0 d1 d2 d3 d4 d5 D0
  have VZ := Lib.hid (show V0.heap.size ≤ w.heap.size + 1 by rw [← HV0.out]; simp)
  go_wp2_with fail
  refine (reight_to [3] I 1 9 rfl (by omega) _ _ (w.heap.size + 1) V0 _ XA.out VZ.out HF.out hz2 (by omega)).mono ?_
  rintro e w5 ⟨A6, c6, rfl, ho, hx5⟩
  have HOx := Lib.hid ho
  have X5 := Lib.hid hx5
  obtain ⟨p0, p1, p2, p3, p4, p5, -⟩ := box6 (HBX.out _ hx5)
  clear ho hx5 q0 q1 q2 q3 q4 q5
  have HO := HOx; have X := X5
  go_wp2_with fail
  go_loopw [5, 6] (fun b i wr => ∃ (k : Nat) (A1 : Option Addr) (c1 : Nat), k ≤ n ∧ i = .int .i64 (k : Int) ∧ b = .slice A1 (9 + k) c1 ∧ Hid (Own wr (w.heap.size + 1) 5 IsU8 A1 (9 + k) c1 ((([3] ++ be I 8) ++ l.take k).map cB)) ∧ Hid (Ext V0 wr)) (fun _ i _ => n - (intOf i).toNat)
  case atStart => exact ⟨0, _, _, Nat.zero_le _, rfl, rfl, by have h := HO.out; simpa [Hid] using h, X⟩
  case round =>
    obtain ⟨k, A1, c1, hk, rfl, rfl, HO1, HX⟩ := hrel
    obtain ⟨-, -, -, -, -, k5, -⟩ := box6 (HBX.out _ HX.out)
    rcases Nat.lt_or_ge k n with hlt | hge
    · obtain ⟨bk, off, rfl, hbk, hcell⟩ := HB.out.u8all (by omega)
      have hck := (XW.out.trans HX.out).cell hbk (hcell k hlt)
      have Hst : Hid (l.take (k + 1) = l.take k ++ [l.getD k 0]) := by
        unfold Hid
        rw [List.take_succ_eq_append_getElem (by omega), List.getD_eq_getElem?_getD, List.getElem?_eq_getElem (by omega)]; rfl
      have Hlit : Hid ((#[.int .u8 ((l.getD k 0).toNat : Int)] : Array Value).toList = [l.getD k 0].map cB ++ []) := by show [_] = _; rfl
      generalize hy : l.getD k 0 = y at *
      generalize hx : y.toNat = x at *
      have Hy := Lib.hid hy; have Hx := Lib.hid hx
      have hkc : (k : Int) < (n : Int) := by omega
      have hzr : w.heap.size + 1 ≤ wr.heap.size := Nat.le_trans hz0 HX.out.size
      clear hcell hy hx hn hcap
      go_wp2_with (at_builtin
                   go_must (refine app_u8 (base := w.heap.size + 1) _ rfl (.tmp 46) (.tmp 52) rfl rfl (HO1.out.ext (Ext.alloc _ _)) rfl (Rd.of_heap (ys := []) (heap_alloc_new wr _) Hlit.out rfl) isU8_map (by omega) (Nat.le_trans hzr (Ext.alloc _ _).size) ?_)
                   intro A3 c3 w3 hown hg hbk
                   have HO3 := Lib.hid hown
                   have X3 := Lib.hid ((HX.out.trans (Ext.alloc _ _)).grown' hg (fun g hg => Nat.le_trans VZ.out (HO1.out.lt g hg).1))
                   clear hown hg hbk)
      go_roundw
      case rel => exact ⟨k + 1, A3, c3, by omega, by go_num, rfl, by have h := HO3.out; rw [← List.map_append, List.append_assoc, ← Hst.out] at h; exact h, X3⟩
      case measure => simp [intOf]; omega
    · obtain rfl : k = n := by omega
      have HO2 : Hid (Own wr (w.heap.size + 1) 5 IsU8 A1 (9 + k) c1 ((([3] ++ be I 8) ++ l).map cB)) := by have h := HO1.out; rw [List.take_of_length_le (by omega)] at h; exact h
      clear hn hcap
      go_wp2_with fail
      refine (refSeal32_any (([3] ++ be I 8) ++ l) _ _ _ _ HO2.out.rd (by omega)).mono ?_
      rintro e w7 ⟨A9, c9, rfl, ho9, hb9⟩
      have HO9 := Lib.hid ho9
      have X9 := Lib.hid (Ext.of hb9)
      clear ho9 hb9
      go_wp2_with fail
      go_ret2
      have e : (([3] ++ be I 8) ++ l : List UInt8) = 3 :: (be I 8 ++ l) := by simp
      rw [← e]
      exact RetU.seal (XW.out.trans HX.out) HO9.out X9.out

theorem rputDone (I C : Nat) (l : List UInt8) (A : Option Addr) (n c : Nat) (w : World) (hr : PacRd w ⟨4, 0, 0, I, C, l⟩ A n c) (h : checkP ⟨4, 0, 0, I, C, l⟩ = 0) (hI : I ≤ 1099511627776) (hC : C ≤ 255) (hl : l.length ≤ 1024) :
    Calls Try.prog 24 #[pacV ⟨4, 0, 0, I, C, l⟩ A n c] w (RetU w (sealF 4 (more32 0) (4 :: (be I 8 ++ [UInt8.ofNat C] ++ l))) 0) := by
  have HC := Lib.hid (rpacOk hr h)
  have HB := Lib.hid hr.body
  have hn := hr.len
  have hcap := hr.cap
  simp only at hn hcap
  clear hr h
  simp only [pacV] at HC ⊢
  have hn2 : n ≤ 1024 := by omega
  have HBX : Hid (∀ W, Ext (w.alloc (.cells #[.int .i64 4, .int .i64 0, .int .i64 0, .int .i64 (I : Int), .int .i64 (C : Int), .slice A n c] 34)) W → W.heap[w.heap.size]? = some (.cells #[.int .i64 4, .int .i64 0, .int .i64 0, .int .i64 (I : Int), .int .i64 (C : Int), .slice A n c] 34 (0, 0))) := fun W hX => hX.block (heap_alloc_new w _)
  have XW := Lib.hid (Ext.alloc w (.cells #[.int .i64 4, .int .i64 0, .int .i64 0, .int .i64 (I : Int), .int .i64 (C : Int), .slice A n c] 34))
  obtain ⟨V0, hV0⟩ : ∃ V0, (w.alloc (.cells #[.int .i64 4, .int .i64 0, .int .i64 0, .int .i64 (I : Int), .int .i64 (C : Int), .slice A n c] 34)) = V0 := ⟨_, rfl⟩
  rw [hV0] at HBX XW
  have hz0 : w.heap.size + 1 ≤ V0.heap.size := by rw [← hV0]; simp
  have HV0 := Lib.hid hV0
  clear hV0
  go_enter Try.func24, Try.ntmps24
  go_wp2_with fail
  rw [HV0.out]
  refine (HC.out V0 XW.out).mono ?_
  rintro e w1 ⟨rfl, hx1⟩
  obtain ⟨d0, d1, d2, d3, d4, d5, -⟩ := box6 (HBX.out _ hx1)
  have D0 := fun o : Obj => (box6 (HBX.out _ (hx1.trans (Ext.alloc w1 o)))).1
  have X1 := Lib.hid hx1
  have hz1 : w.heap.size + 1 ≤ w1.heap.size := Nat.le_trans hz0 hx1.size
  clear hx1
  go_wp2_with fail
  refine (rruns_any 4 false _ (by decide)).mono ?_
  rintro e v_ ⟨rfl, rfl⟩
  have XA := Lib.hid (X1.out.trans (Ext.alloc w1 (.cells #[.int .u8 4] 5)))
  have HF : Hid (Own (w1.alloc (.cells #[.int .u8 4] 5)) (w.heap.size + 1) 5 IsU8 (some ⟨w1.heap.size, 0, none⟩) 1 1 (([4] : List UInt8).map cB)) := Lib.hid (Own.first w1 _ hz1 4 4 rfl)
  obtain ⟨V1, hV1⟩ : ∃ V1, w1.alloc (.cells #[.int .u8 4] 5) = V1 := ⟨_, rfl⟩
  rw [hV1] at XA HF ⊢
  have hz2 : w.heap.size + 1 ≤ V1.heap.size := Nat.le_trans hz0 XA.out.size
  obtain ⟨q0, q1, q2, q3, q4, q5, -⟩ := box6 (HBX.out _ XA.out)
  clear hV1 d0 d1 d2 d3 d4 d5 D0
  have VZ := Lib.hid (show V0.heap.size ≤ w.heap.size + 1 by rw [← HV0.out]; simp)
  go_wp2_with fail
  refine (reight_to [4] I 1 9 rfl (by omega) _ _ (w.heap.size + 1) V0 _ XA.out VZ.out HF.out hz2 (by omega)).mono ?_
  rintro e w5 ⟨A6, c6, rfl, ho, hx5⟩
  have HOx := Lib.hid ho
  have X5 := Lib.hid hx5
  obtain ⟨p0, p1, p2, p3, p4, p5, -⟩ := box6 (HBX.out _ hx5)
  clear ho hx5 q0 q1 q2 q3 q4 q5
  have hz5 : w.heap.size + 1 ≤ w5.heap.size := Nat.le_trans hz0 X5.out.size
  have hC8 : (UInt8.ofNat C).toNat = C := by simp; omega
  have hCw : IntKind.u8.wrap (C : Int) = (C : Int) := by rw [IntKind.wrap_u8]; omega
  have HlitC : Hid ((#[.int .u8 (C : Int)] : Array Value).toList = [UInt8.ofNat C].map cB ++ []) := by show _ = _; simp only [List.map_cons, List.map_nil, cB, hC8, List.append_nil]
  clear hC8
  go_wp2_with (at_builtin
               go_must (refine app_u8 (base := w.heap.size + 1) _ rfl (.tmp 33) (.tmp 37) rfl rfl (HOx.out.ext (Ext.alloc _ _)) rfl (Rd.of_heap (ys := []) (heap_alloc_new w5 _) HlitC.out rfl) isU8_map (by omega) (Nat.le_trans hz5 (Ext.alloc _ _).size) ?_)
               intro A7 c7 w6 hown hg hbk
               rw [← List.map_append] at hown
               have HO := Lib.hid hown
               have X := Lib.hid ((X5.out.trans (Ext.alloc _ _)).grown' hg (fun g hg => Nat.le_trans VZ.out (HOx.out.lt g hg).1))
               clear hown hg hbk)
  go_loopw [5, 6] (fun b i wr => ∃ (k : Nat) (A1 : Option Addr) (c1 : Nat), k ≤ n ∧ i = .int .i64 (k : Int) ∧ b = .slice A1 (10 + k) c1 ∧ Hid (Own wr (w.heap.size + 1) 5 IsU8 A1 (10 + k) c1 ((([4] ++ be I 8 ++ [UInt8.ofNat C]) ++ l.take k).map cB)) ∧ Hid (Ext V0 wr)) (fun _ i _ => n - (intOf i).toNat)
  case atStart => exact ⟨0, _, _, Nat.zero_le _, rfl, rfl, by have h := HO.out; simpa [Hid] using h, X⟩
  case round =>
    obtain ⟨k, A1, c1, hk, rfl, rfl, HO1, HX⟩ := hrel
    obtain ⟨-, -, -, -, -, k5, -⟩ := box6 (HBX.out _ HX.out)
    rcases Nat.lt_or_ge k n with hlt | hge
    · obtain ⟨bk, off, rfl, hbk, hcell⟩ := HB.out.u8all (by omega)
      have hck := (XW.out.trans HX.out).cell hbk (hcell k hlt)
      have Hst : Hid (l.take (k + 1) = l.take k ++ [l.getD k 0]) := by
        unfold Hid
        rw [List.take_succ_eq_append_getElem (by omega), List.getD_eq_getElem?_getD, List.getElem?_eq_getElem (by omega)]; rfl
      have Hlit : Hid ((#[.int .u8 ((l.getD k 0).toNat : Int)] : Array Value).toList = [l.getD k 0].map cB ++ []) := by show [_] = _; rfl
      generalize hy : l.getD k 0 = y at *
      generalize hx : y.toNat = x at *
      have Hy := Lib.hid hy; have Hx := Lib.hid hx
      have hkc : (k : Int) < (n : Int) := by omega
      have hzr : w.heap.size + 1 ≤ wr.heap.size := Nat.le_trans hz0 HX.out.size
      clear hcell hy hx hn hcap
      go_wp2_with (at_builtin
                   go_must (refine app_u8 (base := w.heap.size + 1) _ rfl (.tmp 46) (.tmp 52) rfl rfl (HO1.out.ext (Ext.alloc _ _)) rfl (Rd.of_heap (ys := []) (heap_alloc_new wr _) Hlit.out rfl) isU8_map (by omega) (Nat.le_trans hzr (Ext.alloc _ _).size) ?_)
                   intro A3 c3 w3 hown hg hbk
                   have HO3 := Lib.hid hown
                   have X3 := Lib.hid ((HX.out.trans (Ext.alloc _ _)).grown' hg (fun g hg => Nat.le_trans VZ.out (HO1.out.lt g hg).1))
                   clear hown hg hbk)
      go_roundw
      case rel => exact ⟨k + 1, A3, c3, by omega, by go_num, rfl, by have h := HO3.out; rw [← List.map_append, List.append_assoc, ← Hst.out] at h; exact h, X3⟩
      case measure => simp [intOf]; omega
    · obtain rfl : k = n := by omega
      have HO2 : Hid (Own wr (w.heap.size + 1) 5 IsU8 A1 (10 + k) c1 ((([4] ++ be I 8 ++ [UInt8.ofNat C]) ++ l).map cB)) := by have h := HO1.out; rw [List.take_of_length_le (by omega)] at h; exact h
      clear hn hcap
      go_wp2_with fail
      refine (refSeal32_any (([4] ++ be I 8 ++ [UInt8.ofNat C]) ++ l) _ _ _ _ HO2.out.rd (by omega)).mono ?_
      rintro e w7 ⟨A9, c9, rfl, ho9, hb9⟩
      have HO9 := Lib.hid ho9
      have X9 := Lib.hid (Ext.of hb9)
      clear ho9 hb9
      go_wp2_with fail
      go_ret2
      have e : (([4] ++ be I 8 ++ [UInt8.ofNat C]) ++ l : List UInt8) = 4 :: (be I 8 ++ [UInt8.ofNat C] ++ l) := by simp
      rw [← e]
      exact RetU.seal (XW.out.trans HX.out) HO9.out X9.out

theorem rpacPut_any (p : PacD) (A : Option Addr) (n c : Nat) (w : World) (hr : PacRd w p A n c) : Calls Try.prog 24 #[pacV p A n c] w (RetU w (putP p).1 (putP p).2) := by
  by_cases h : checkP p = 0
  · rw [putP_ok h]
    rcases pac_cases h with ⟨E, S, l, h1, h2, h3, h4, h5, rfl⟩ | ⟨E, S, h1, h2, h3, rfl⟩ | ⟨I, l, h1, h2, h3, h4, rfl⟩ | ⟨I, C, h1, h2, h3, rfl⟩
    · have e : rawP ⟨1, E, S, 0, 0, l⟩ = UInt8.ofNat 1 :: ((be E 8 ++ be S 8) ++ l) := by simp [rawP, headP, runsP, be8]
      rw [e]
      exact rputRuns1 E S l A n c w hr h h2 (by omega) h5
    · have e : rawP ⟨2, E, S, 0, 0, []⟩ = UInt8.ofNat 2 :: ((be E 8 ++ be S 8) ++ []) := by simp [rawP, headP, runsP, be8]
      rw [e]
      exact rputRuns2 E S [] A n c w hr h h2 h3 (by simp)
    · have e : rawP ⟨3, 0, 0, I, 0, l⟩ = 3 :: (be I 8 ++ l) := by simp [rawP, headP, runsP, be8]
      rw [e]
      exact rputCmd I l A n c w hr h h2 (by omega)
    · have e : rawP ⟨4, 0, 0, I, C, []⟩ = 4 :: (be I 8 ++ [UInt8.ofNat C] ++ []) := by simp [rawP, headP, runsP, be8]
      rw [e]
      exact rputDone I C [] A n c w hr h h2 h3 (by simp)
  · rw [putP_no h]
    exact rputNo p A n c w hr h
end Go.Proofs.Ytjmddiffeffgnaa

namespace Go.Proofs.Ytjmddiffeffgnaa
set_option linter.unusedVariables false
set_option linter.unusedSimpArgs false
set_option maxRecDepth 100000
set_option maxHeartbeats 2000000
open Go Go.RowKit Go.Out

theorem rgetCommand_check (p : PacD) (A : Option Addr) (n c : Nat) (w : World) (hr : PacRd w p A n c) (h : checkP p ≠ 0) :
    Calls Try.prog 26 #[pacV p A n c] w (RetGC w ((0, 0, ask0), checkP p)) := by
  have hc := fun W (hX : Ext w W) => rpacCheck_any p A n c W (hr.ext hX)
  obtain ⟨k, hk⟩ : ∃ k, checkP p = k := ⟨_, rfl⟩
  simp only [hk] at hc h ⊢
  have ht : (k != 0) = true := by simpa using h
  have HC := Lib.hid hc; clear hc hr hk h
  obtain ⟨kd, ep, sq, I, cd, l⟩ := p
  simp only [pacV] at HC ⊢
  go_enter Try.func26, Try.ntmps26
  go_wp2_with fail
  refine (HC.out _ (Ext.duo _ _ _)).mono ?_
  rintro e w1 ⟨rfl, hx1⟩
  have HBR := Lib.hid (hx1.block (heap_at _ (.cells #[.int .i64 0, .int .i64 0, .int .i64 0, .int .i64 0, .int .i64 0, .slice none 0 0, .slice none 0 0, .slice none 0 0] 28) (w.heap.size + 1) (by simp)))
  obtain ⟨b0, b1, b2, b3, b4, b5, b6, b7⟩ := box8 HBR.out
  obtain ⟨f0, f1, f2, f3, f4, f5, f6, f7⟩ := box8f HBR.out
  have X1 := Lib.hid ((Ext.duo _ _ _).trans hx1)
  clear hx1
  go_wp2_with fail
  refine bodyPost_ret (v := .tuple #[cmdV 0 0 ask0 askS0, .int .i64 k]) (by simp [results, Try.results26, go_sem, cmdV, ask0, askS0, *]) rfl ⟨askS0, rfl, askOw0 _ _, ?_⟩
  repeat' (first | with_reducible exact X1.out | with_reducible refine Ext.set' ?_ (by simp) _)
theorem rgetCommand_kind (p : PacD) (A : Option Addr) (n c : Nat) (w : World) (hr : PacRd w p A n c) (h : checkP p = 0) (hk : p.kind ≠ 3) :
    Calls Try.prog 26 #[pacV p A n c] w (RetGC w ((0, 0, ask0), 28)) := by
  have hc := fun W (hX : Ext w W) => rpacCheck_any p A n c W (hr.ext hX)
  simp only [h] at hc
  have ht : (p.kind != 3) = true := by simpa using hk
  have HC := Lib.hid hc; clear hc hr hk h
  obtain ⟨kd, ep, sq, I, cd, l⟩ := p
  simp only [pacV] at HC ht ⊢
  go_enter Try.func26, Try.ntmps26
  go_wp2_with fail
  refine (HC.out _ (Ext.duo _ _ _)).mono ?_
  rintro e w1 ⟨rfl, hx1⟩
  have HBR := Lib.hid (hx1.block (heap_at _ (.cells #[.int .i64 0, .int .i64 0, .int .i64 0, .int .i64 0, .int .i64 0, .slice none 0 0, .slice none 0 0, .slice none 0 0] 28) (w.heap.size + 1) (by simp)))
  have HBP := Lib.hid (hx1.block ((Ext.alloc _ _).block (heap_alloc_new w (.cells #[.int .i64 kd, .int .i64 ep, .int .i64 sq, .int .i64 I, .int .i64 cd, .slice A n c] 34))))
  obtain ⟨b0, b1, b2, b3, b4, b5, b6, b7⟩ := box8 HBR.out
  obtain ⟨f0, f1, f2, f3, f4, f5, f6, f7⟩ := box8f HBR.out
  obtain ⟨d0, d1, d2, d3, d4, d5, -⟩ := box6 HBP.out
  have X1 := Lib.hid ((Ext.duo _ _ _).trans hx1)
  clear hx1
  go_wp2_with fail
  refine bodyPost_ret (v := .tuple #[cmdV 0 0 ask0 askS0, .int .i64 28]) (by simp [results, Try.results26, go_sem, cmdV, ask0, askS0, *]) rfl ⟨askS0, rfl, askOw0 _ _, ?_⟩
  repeat' (first | with_reducible exact X1.out | with_reducible refine Ext.set' ?_ (by simp) _)
theorem rgetCommand_unit (I : Int) (x : Nat) (l : List UInt8) (bk off n c : Nat) (w : World) (hr : PacRd w ⟨3, 0, 0, I, 0, l⟩ (some ⟨bk, off, none⟩) n c) (h : checkP ⟨3, 0, 0, I, 0, l⟩ = 0) (hn2 : 2 ≤ n) (hn : n ≤ 254) (hbk : bk < w.heap.size) (hx : (l.getD 0 0).toNat = x) (hx8 : x < 256) (hU : (x : Int) < 1 ∨ (1 ≤ (x : Int) ∧ 247 < (x : Int))) :
    Calls Try.prog 26 #[pacV ⟨3, 0, 0, I, 0, l⟩ (some ⟨bk, off, none⟩) n c] w (RetGC w ((0, 0, ask0), 24)) := by
  have hc := fun W (hX : Ext w W) => rpacCheck_any ⟨3, 0, 0, I, 0, l⟩ (some ⟨bk, off, none⟩) n c W (hr.ext hX)
  simp only [h] at hc
  have HC := Lib.hid hc
  have c0 : w.cell? ⟨bk, off, none⟩ = some (.int .u8 (x : Int)) := by
    obtain ⟨bk', off', e, -, hcell⟩ := hr.body.u8all (by omega)
    injection e with e; injection e with e1 e2; subst e1; subst e2
    have := hcell 0 (by omega)
    rw [Nat.add_zero, hx] at this
    exact this
  have HR := Lib.hid hr.body
  have HCAP := Lib.hid hr.cap
  have i0 : 0 < n := by omega
  clear hc hr h hx
  simp only [pacV] at HC ⊢
  have HU := Lib.hid hU
  clear hU
  go_enter Try.func26, Try.ntmps26
  go_wp2_with fail
  refine (HC.out _ (Ext.duo _ _ _)).mono ?_
  rintro e w1 ⟨rfl, hx1⟩
  have HBR := Lib.hid (hx1.block (heap_at _ (.cells #[.int .i64 0, .int .i64 0, .int .i64 0, .int .i64 0, .int .i64 0, .slice none 0 0, .slice none 0 0, .slice none 0 0] 28) (w.heap.size + 1) (by simp)))
  have HBP := Lib.hid (hx1.block ((Ext.alloc _ _).block (heap_alloc_new w (.cells #[.int .i64 3, .int .i64 0, .int .i64 0, .int .i64 I, .int .i64 0, .slice (some ⟨bk, off, none⟩) n c] 34))))
  obtain ⟨d0, d1, d2, d3, d4, d5, -⟩ := box6 HBP.out
  have g0 := ((Ext.duo _ _ _).trans hx1).cell hbk c0
  have X1 := Lib.hid ((Ext.duo _ _ _).trans hx1)
  clear hx1
  go_wp2_with fail
  refine (rbt_f (x : Int) 1 247 _ HU.out).mono ?_
  rintro e v_ ⟨rfl, rfl⟩
  obtain ⟨b0, b1, b2, b3, b4, b5, b6, b7⟩ := box8 HBR.out
  obtain ⟨f0, f1, f2, f3, f4, f5, f6, f7⟩ := box8f HBR.out
  go_wp2_with fail
  refine bodyPost_ret (v := .tuple #[cmdV 0 0 ask0 askS0, .int .i64 24]) (by simp [results, Try.results26, go_sem, cmdV, ask0, askS0, *]) rfl ⟨askS0, rfl, askOw0 _ _, ?_⟩
  repeat' (first | with_reducible exact X1.out | with_reducible refine Ext.set' ?_ (by simp) _)
theorem rgetCommand_get (I : Int) (x : Nat) (l : List UInt8) (bk off n c : Nat) (w : World) (hr : PacRd w ⟨3, 0, 0, I, 0, l⟩ (some ⟨bk, off, none⟩) n c) (h : checkP ⟨3, 0, 0, I, 0, l⟩ = 0) (hn2 : 2 ≤ n) (hn : n ≤ 254) (hbk : bk < w.heap.size) (hx : (l.getD 0 0).toNat = x) (hx8 : x < 256) (hU : 1 ≤ (x : Int) ∧ (x : Int) ≤ 247) (E : Int) (hG : getA (l.drop 1) = (ask0, E)) (hE : E ≠ 0) :
    Calls Try.prog 26 #[pacV ⟨3, 0, 0, I, 0, l⟩ (some ⟨bk, off, none⟩) n c] w (RetGC w ((0, 0, ask0), E)) := by
  have hc := fun W (hX : Ext w W) => rpacCheck_any ⟨3, 0, 0, I, 0, l⟩ (some ⟨bk, off, none⟩) n c W (hr.ext hX)
  simp only [h] at hc
  have HC := Lib.hid hc
  have c0 : w.cell? ⟨bk, off, none⟩ = some (.int .u8 (x : Int)) := by
    obtain ⟨bk', off', e, -, hcell⟩ := hr.body.u8all (by omega)
    injection e with e; injection e with e1 e2; subst e1; subst e2
    have := hcell 0 (by omega)
    rw [Nat.add_zero, hx] at this
    exact this
  have HR := Lib.hid hr.body
  have HCAP := Lib.hid hr.cap
  have i0 : 0 < n := by omega
  clear hc hr h hx
  simp only [pacV] at HC ⊢
  have ht : (E != 0) = true := by simpa using hE
  clear hE
  have hc1 : ¬ c = 1 := by have := HCAP.out; omega
  have q1 : (1 : Int) ≤ (n : Int) := by omega
  have q2 : (1 : Int) ≤ (c : Int) := by have := HCAP.out; omega
  have HRD := Lib.hid (HR.out.from8 (k := 1) (c := c) (by omega) HCAP.out.1)
  rw [if_neg hc1] at HRD
  have HGA : Hid (∀ W, Ext w W → Calls Try.prog 36 #[.slice (some ⟨bk, off + 1, none⟩) (n - 1) (c - 1)] W (RetGA W (getA (l.drop 1)))) := fun W hX => ref3Get_any _ _ _ _ W (HRD.out.ext hX) (by have := HCAP.out; omega) (by have := HCAP.out; omega) (by omega)
  rw [hG] at HGA
  have HU := Lib.hid hU
  clear hG hU HRD
  go_enter Try.func26, Try.ntmps26
  go_wp2_with fail
  refine (HC.out _ (Ext.duo _ _ _)).mono ?_
  rintro e w1 ⟨rfl, hx1⟩
  have HBR := Lib.hid (hx1.block (heap_at _ (.cells #[.int .i64 0, .int .i64 0, .int .i64 0, .int .i64 0, .int .i64 0, .slice none 0 0, .slice none 0 0, .slice none 0 0] 28) (w.heap.size + 1) (by simp)))
  have HBP := Lib.hid (hx1.block ((Ext.alloc _ _).block (heap_alloc_new w (.cells #[.int .i64 3, .int .i64 0, .int .i64 0, .int .i64 I, .int .i64 0, .slice (some ⟨bk, off, none⟩) n c] 34))))
  obtain ⟨d0, d1, d2, d3, d4, d5, -⟩ := box6 HBP.out
  have g0 := ((Ext.duo _ _ _).trans hx1).cell hbk c0
  have X1 := Lib.hid ((Ext.duo _ _ _).trans hx1)
  clear hx1
  go_wp2_with fail
  refine (rbt_t (x : Int) 1 247 _ HU.out).mono ?_
  rintro e v_ ⟨rfl, rfl⟩
  go_wp2_with fail
  refine (HGA.out _ X1.out).mono ?_
  rintro e w2 ⟨⟨B1, m1, k1, B2, m2, k2, B3, m3, k3⟩, rfl, hw2, hx2⟩
  simp only at hw2
  have HW2 := Lib.hid hw2
  have HBR2 := Lib.hid (hx2.block HBR.out)
  have HBP2 := Lib.hid (hx2.block HBP.out)
  have X2 := Lib.hid (X1.out.trans hx2)
  have Y2 := Lib.hid hx2
  clear hw2 hx2 d0 d1 d2 d3 d4 d5 g0
  simp only [askV, ask0]
  have XA := Lib.hid (fun o => X2.out.trans (Ext.alloc w2 o))
  have DB := fun o : Obj => box8 ((Ext.alloc w2 o).block HBR2.out)
  have DF := fun o : Obj => box8f ((Ext.alloc w2 o).block HBR2.out)
  have b0 := fun o => (DB o).1
  have f0 := fun o => (DF o).1
  have b1 := fun o => (DB o).2.1
  have f1 := fun o => (DF o).2.1
  have b2 := fun o => (DB o).2.2.1
  have f2 := fun o => (DF o).2.2.1
  have b3 := fun o => (DB o).2.2.2.1
  have f3 := fun o => (DF o).2.2.2.1
  have b4 := fun o => (DB o).2.2.2.2.1
  have f4 := fun o => (DF o).2.2.2.2.1
  have b5 := fun o => (DB o).2.2.2.2.2.1
  have f5 := fun o => (DF o).2.2.2.2.2.1
  have b6 := fun o => (DB o).2.2.2.2.2.2.1
  have f6 := fun o => (DF o).2.2.2.2.2.2.1
  have b7 := fun o => (DB o).2.2.2.2.2.2.2
  have f7 := fun o => (DF o).2.2.2.2.2.2.2
  clear DB DF
  go_wp2_with fail
  refine bodyPost_ret (v := .tuple #[cmdV 0 0 ask0 askS0, .int .i64 E]) (by simp [results, Try.results26, go_sem, cmdV, ask0, askS0, *]) rfl ⟨askS0, rfl, askOw0 _ _, ?_⟩
  repeat' (first | with_reducible exact XA.out _ | with_reducible refine Ext.set' ?_ (by simp) _)
theorem rgetCommand_read (I : Int) (x : Nat) (l : List UInt8) (bk off n c : Nat) (w : World) (hr : PacRd w ⟨3, 0, 0, I, 0, l⟩ (some ⟨bk, off, none⟩) n c) (h : checkP ⟨3, 0, 0, I, 0, l⟩ = 0) (hn2 : 2 ≤ n) (hn : n ≤ 254) (hbk : bk < w.heap.size) (hx : (l.getD 0 0).toNat = x) (hx8 : x < 256) (hU : 1 ≤ (x : Int) ∧ (x : Int) ≤ 247) (a : AskD) (hG : getA (l.drop 1) = (a, 0)) (hW : writesF a.code = false) :
    Calls Try.prog 26 #[pacV ⟨3, 0, 0, I, 0, l⟩ (some ⟨bk, off, none⟩) n c] w (RetGC w ((0, 0, ask0), 20)) := by
  have hc := fun W (hX : Ext w W) => rpacCheck_any ⟨3, 0, 0, I, 0, l⟩ (some ⟨bk, off, none⟩) n c W (hr.ext hX)
  simp only [h] at hc
  have HC := Lib.hid hc
  have c0 : w.cell? ⟨bk, off, none⟩ = some (.int .u8 (x : Int)) := by
    obtain ⟨bk', off', e, -, hcell⟩ := hr.body.u8all (by omega)
    injection e with e; injection e with e1 e2; subst e1; subst e2
    have := hcell 0 (by omega)
    rw [Nat.add_zero, hx] at this
    exact this
  have HR := Lib.hid hr.body
  have HCAP := Lib.hid hr.cap
  have i0 : 0 < n := by omega
  clear hc hr h hx
  simp only [pacV] at HC ⊢
  have HWR := Lib.hid (fun (W : World) s => refWrites_any a s W)
  rw [hW] at HWR
  clear hW
  have hc1 : ¬ c = 1 := by have := HCAP.out; omega
  have q1 : (1 : Int) ≤ (n : Int) := by omega
  have q2 : (1 : Int) ≤ (c : Int) := by have := HCAP.out; omega
  have HRD := Lib.hid (HR.out.from8 (k := 1) (c := c) (by omega) HCAP.out.1)
  rw [if_neg hc1] at HRD
  have HGA : Hid (∀ W, Ext w W → Calls Try.prog 36 #[.slice (some ⟨bk, off + 1, none⟩) (n - 1) (c - 1)] W (RetGA W (getA (l.drop 1)))) := fun W hX => ref3Get_any _ _ _ _ W (HRD.out.ext hX) (by have := HCAP.out; omega) (by have := HCAP.out; omega) (by omega)
  rw [hG] at HGA
  have HU := Lib.hid hU
  clear hG hU HRD
  go_enter Try.func26, Try.ntmps26
  go_wp2_with fail
  refine (HC.out _ (Ext.duo _ _ _)).mono ?_
  rintro e w1 ⟨rfl, hx1⟩
  have HBR := Lib.hid (hx1.block (heap_at _ (.cells #[.int .i64 0, .int .i64 0, .int .i64 0, .int .i64 0, .int .i64 0, .slice none 0 0, .slice none 0 0, .slice none 0 0] 28) (w.heap.size + 1) (by simp)))
  have HBP := Lib.hid (hx1.block ((Ext.alloc _ _).block (heap_alloc_new w (.cells #[.int .i64 3, .int .i64 0, .int .i64 0, .int .i64 I, .int .i64 0, .slice (some ⟨bk, off, none⟩) n c] 34))))
  obtain ⟨d0, d1, d2, d3, d4, d5, -⟩ := box6 HBP.out
  have g0 := ((Ext.duo _ _ _).trans hx1).cell hbk c0
  have X1 := Lib.hid ((Ext.duo _ _ _).trans hx1)
  clear hx1
  go_wp2_with fail
  refine (rbt_t (x : Int) 1 247 _ HU.out).mono ?_
  rintro e v_ ⟨rfl, rfl⟩
  go_wp2_with fail
  refine (HGA.out _ X1.out).mono ?_
  rintro e w2 ⟨⟨B1, m1, k1, B2, m2, k2, B3, m3, k3⟩, rfl, hw2, hx2⟩
  simp only at hw2
  have HW2 := Lib.hid hw2
  have HBR2 := Lib.hid (hx2.block HBR.out)
  have HBP2 := Lib.hid (hx2.block HBP.out)
  have X2 := Lib.hid (X1.out.trans hx2)
  have Y2 := Lib.hid hx2
  clear hw2 hx2 d0 d1 d2 d3 d4 d5 g0
  obtain ⟨code, addr, count, on, set, parts⟩ := a
  simp only [askV]
  have HWR2 := Lib.hid (fun W => HWR.out W ⟨B1, m1, k1, B2, m2, k2, B3, m3, k3⟩)
  simp only [askV] at HWR2
  clear HWR
  go_wp2_with fail
  refine (HWR2.out _).mono ?_
  rintro e w3 ⟨rfl, hx3⟩
  have HBR3 := Lib.hid (hx3.block ((Ext.alloc _ _).block HBR2.out))
  obtain ⟨b0, b1, b2, b3, b4, b5, b6, b7⟩ := box8 HBR3.out
  obtain ⟨f0, f1, f2, f3, f4, f5, f6, f7⟩ := box8f HBR3.out
  have X3 := Lib.hid (X2.out.trans ((Ext.alloc _ _).trans hx3))
  clear hx3
  go_wp2_with fail
  refine bodyPost_ret (v := .tuple #[cmdV 0 0 ask0 askS0, .int .i64 20]) (by simp [results, Try.results26, go_sem, cmdV, ask0, askS0, *]) rfl ⟨askS0, rfl, askOw0 _ _, ?_⟩
  repeat' (first | with_reducible exact X3.out | with_reducible refine Ext.set' ?_ (by simp) _)
theorem rgetCommand_ok (I : Int) (x : Nat) (l : List UInt8) (bk off n c : Nat) (w : World) (hr : PacRd w ⟨3, 0, 0, I, 0, l⟩ (some ⟨bk, off, none⟩) n c) (h : checkP ⟨3, 0, 0, I, 0, l⟩ = 0) (hn2 : 2 ≤ n) (hn : n ≤ 254) (hbk : bk < w.heap.size) (hx : (l.getD 0 0).toNat = x) (hx8 : x < 256) (hU : 1 ≤ (x : Int) ∧ (x : Int) ≤ 247) (a : AskD) (hG : getA (l.drop 1) = (a, 0)) (hW : writesF a.code = true) :
    Calls Try.prog 26 #[pacV ⟨3, 0, 0, I, 0, l⟩ (some ⟨bk, off, none⟩) n c] w (RetGC w ((I, (x : Int), a), 0)) := by
  have hc := fun W (hX : Ext w W) => rpacCheck_any ⟨3, 0, 0, I, 0, l⟩ (some ⟨bk, off, none⟩) n c W (hr.ext hX)
  simp only [h] at hc
  have HC := Lib.hid hc
  have c0 : w.cell? ⟨bk, off, none⟩ = some (.int .u8 (x : Int)) := by
    obtain ⟨bk', off', e, -, hcell⟩ := hr.body.u8all (by omega)
    injection e with e; injection e with e1 e2; subst e1; subst e2
    have := hcell 0 (by omega)
    rw [Nat.add_zero, hx] at this
    exact this
  have HR := Lib.hid hr.body
  have HCAP := Lib.hid hr.cap
  have i0 : 0 < n := by omega
  clear hc hr h hx
  simp only [pacV] at HC ⊢
  have HWR := Lib.hid (fun (W : World) s => refWrites_any a s W)
  rw [hW] at HWR
  clear hW
  have hc1 : ¬ c = 1 := by have := HCAP.out; omega
  have q1 : (1 : Int) ≤ (n : Int) := by omega
  have q2 : (1 : Int) ≤ (c : Int) := by have := HCAP.out; omega
  have HRD := Lib.hid (HR.out.from8 (k := 1) (c := c) (by omega) HCAP.out.1)
  rw [if_neg hc1] at HRD
  have HGA : Hid (∀ W, Ext w W → Calls Try.prog 36 #[.slice (some ⟨bk, off + 1, none⟩) (n - 1) (c - 1)] W (RetGA W (getA (l.drop 1)))) := fun W hX => ref3Get_any _ _ _ _ W (HRD.out.ext hX) (by have := HCAP.out; omega) (by have := HCAP.out; omega) (by omega)
  rw [hG] at HGA
  have HU := Lib.hid hU
  clear hG hU HRD
  go_enter Try.func26, Try.ntmps26
  go_wp2_with fail
  refine (HC.out _ (Ext.duo _ _ _)).mono ?_
  rintro e w1 ⟨rfl, hx1⟩
  have HBR := Lib.hid (hx1.block (heap_at _ (.cells #[.int .i64 0, .int .i64 0, .int .i64 0, .int .i64 0, .int .i64 0, .slice none 0 0, .slice none 0 0, .slice none 0 0] 28) (w.heap.size + 1) (by simp)))
  have HBP := Lib.hid (hx1.block ((Ext.alloc _ _).block (heap_alloc_new w (.cells #[.int .i64 3, .int .i64 0, .int .i64 0, .int .i64 I, .int .i64 0, .slice (some ⟨bk, off, none⟩) n c] 34))))
  obtain ⟨d0, d1, d2, d3, d4, d5, -⟩ := box6 HBP.out
  have g0 := ((Ext.duo _ _ _).trans hx1).cell hbk c0
  have X1 := Lib.hid ((Ext.duo _ _ _).trans hx1)
  clear hx1
  go_wp2_with fail
  refine (rbt_t (x : Int) 1 247 _ HU.out).mono ?_
  rintro e v_ ⟨rfl, rfl⟩
  go_wp2_with fail
  refine (HGA.out _ X1.out).mono ?_
  rintro e w2 ⟨⟨B1, m1, k1, B2, m2, k2, B3, m3, k3⟩, rfl, hw2, hx2⟩
  simp only at hw2
  have HW2 := Lib.hid hw2
  have HBR2 := Lib.hid (hx2.block HBR.out)
  have HBP2 := Lib.hid (hx2.block HBP.out)
  have X2 := Lib.hid (X1.out.trans hx2)
  have Y2 := Lib.hid hx2
  clear hw2 hx2 d0 d1 d2 d3 d4 d5 g0
  obtain ⟨code, addr, count, on, set, parts⟩ := a
  simp only [askV]
  have HWR2 := Lib.hid (fun W => HWR.out W ⟨B1, m1, k1, B2, m2, k2, B3, m3, k3⟩)
  simp only [askV] at HWR2
  clear HWR
  go_wp2_with fail
  refine (HWR2.out _).mono ?_
  rintro e w3 ⟨rfl, hx3⟩
  have HBR3 := Lib.hid (hx3.block ((Ext.alloc _ _).block HBR2.out))
  obtain ⟨b0, b1, b2, b3, b4, b5, b6, b7⟩ := box8 HBR3.out
  obtain ⟨f0, f1, f2, f3, f4, f5, f6, f7⟩ := box8f HBR3.out
  have X3 := Lib.hid (X2.out.trans ((Ext.alloc _ _).trans hx3))
  have HBP3 := hx3.block ((Ext.alloc _ _).block HBP2.out)
  obtain ⟨d0, d1, d2, d3, d4, d5, -⟩ := box6 HBP3
  obtain ⟨e0, e1, e2, e3, e4, e5⟩ := ask_cells _ hx3
  have g0 := X3.out.cell hbk c0
  have HW3 := Lib.hid ((HW2.out.mono (base' := w.heap.size + 2) (by have := lt_of_heap HBR.out; omega)).ext ((Ext.alloc _ _).trans hx3))
  clear hx3 HBP3
  go_wp2_with fail
  go_still_tail 9, (by kernel_rfl)
  go_wp2_with fail
  refine bodyPost_ret (v := .tuple #[cmdV I (x : Int) ⟨code, addr, count, on, set, parts⟩ ⟨B1, m1, k1, B2, m2, k2, B3, m3, k3⟩, .int .i64 0]) (by simp [results, Try.results26, go_sem, cmdV, *]) rfl ⟨_, rfl, ?_, ?_⟩
  · simp only
    refine AskOw.mono (base := w.heap.size + 2) ?_ (by omega)
    repeat' (first | with_reducible exact HW3.out | with_reducible refine AskOw.drew' ?_ | with_reducible refine AskOw.set_below ?_ (by simp) _)
  · repeat' (first | with_reducible exact X3.out | with_reducible refine Ext.drew' ?_ | with_reducible refine Ext.set' ?_ (by simp) _)
theorem rgetCommand_any (p : PacD) (A : Option Addr) (n c : Nat) (w : World) (hr : PacRd w p A n c) :
    Calls Try.prog 26 #[pacV p A n c] w (RetGC w (getC p)) := by
  unfold getC
  by_cases h1 : checkP p ≠ 0
  · rw [if_pos h1]; exact rgetCommand_check p A n c w hr h1
  · rw [if_neg h1]
    have h1' : checkP p = 0 := by simpa using h1
    by_cases h2 : p.kind ≠ 3
    · rw [if_pos h2]; exact rgetCommand_kind p A n c w hr h1' h2
    · rw [if_neg h2]
      have hp3 : ∃ I l, p = ⟨3, 0, 0, I, 0, l⟩ ∧ 2 ≤ l.length ∧ l.length ≤ 254 := by
        rcases pac_cases h1' with ⟨E, S, l, q1, q2, q3, q4, q5, rfl⟩ | ⟨E, S, q1, q2, q3, rfl⟩ | ⟨I, l, q1, q2, q3, q4, rfl⟩ | ⟨I, C, q1, q2, q3, rfl⟩
        · simp at h2
        · simp at h2
        · exact ⟨_, l, rfl, q3, q4⟩
        · simp at h2
      obtain ⟨I, l, rfl, hl2, hl⟩ := hp3
      have hln := hr.len
      simp only at hln
      obtain ⟨bk, off, rfl, hbk, -⟩ := hr.body.u8all (by omega)
      have hx8 := (l.getD 0 0).toNat_lt
      simp only at h1' ⊢
      by_cases h3 : (l.getD 0 0).toNat < 1 ∨ 247 < (l.getD 0 0).toNat
      · rw [if_pos h3]; exact rgetCommand_unit I _ l bk off n c w hr h1' (by omega) (by omega) hbk rfl (by omega) (by omega)
      · rw [if_neg h3]
        by_cases h4 : (getA (l.drop 1)).2 ≠ 0
        · rw [if_pos h4]
          exact rgetCommand_get I _ l bk off n c w hr h1' (by omega) (by omega) hbk rfl (by omega) (by omega) _ (by rw [← getA_err h4]) h4
        · rw [if_neg h4]
          have h4' : (getA (l.drop 1)).2 = 0 := by simpa using h4
          by_cases h5 : writesF (getA (l.drop 1)).1.code = false
          · rw [if_pos h5]; exact rgetCommand_read I _ l bk off n c w hr h1' (by omega) (by omega) hbk rfl (by omega) (by omega) _ (by rw [← h4']) h5
          · rw [if_neg h5]; exact rgetCommand_ok I _ l bk off n c w hr h1' (by omega) (by omega) hbk rfl (by omega) (by omega) _ (by rw [← h4']) (by simpa using h5)
end Go.Proofs.Ytjmddiffeffgnaa

namespace Go.Proofs.Ytjmddiffeffgnaa
set_option linter.unusedVariables false
set_option linter.unusedSimpArgs false
set_option maxRecDepth 100000
set_option maxHeartbeats 2000000
open Go Go.RowKit Go.Out

theorem box6c {W : World} {g : Nat} {t : TypeId} {v0 v1 v2 v3 v4 v5 : Value} (h : W.heap[g]? = some (.cells #[v0, v1, v2, v3, v4, v5] t (0, 0))) :
    W.cell? ⟨g, 0, none⟩ = some v0 ∧ W.cell? ⟨g, 1, none⟩ = some v1 ∧ W.cell? ⟨g, 2, none⟩ = some v2 ∧ W.cell? ⟨g, 3, none⟩ = some v3 ∧ W.cell? ⟨g, 4, none⟩ = some v4 ∧ W.cell? ⟨g, 5, none⟩ = some v5 := by
  obtain ⟨q0, q1, q2, q3, q4, q5, -⟩ := box6 h
  exact ⟨q0, q1, q2, q3, q4, q5⟩

theorem lawPacketPuts (p : PacD) (A : Option Addr) (n c : Nat) (w : World) (hr : PacRd w p A n c) (hbb : c * 1 ≤ 140737488351232) : Calls Try.prog 4 #[pacV p A n c] w (RetQ w true) := by
  have hcap := hr.cap
  have Hr := Lib.hid hr; clear hr
  have HPL := Lib.hid (getC_parts p)
  have HP1 := Lib.hid (fun (W : World) A n c (h : PacRd W p A n c) => pacPut_any p A n c W h)
  have HP2 := Lib.hid (fun (W : World) A n c (h : PacRd W p A n c) => rpacPut_any p A n c W h)
  have HG1 := Lib.hid (fun (W : World) A n c (h : PacRd W p A n c) => getCommand_any p A n c W h)
  have HG2 := Lib.hid (fun (W : World) A n c (h : PacRd W p A n c) => rgetCommand_any p A n c W h)
  have HC1 := Lib.hid (fun (W : World) A n c (h : PacRd W p A n c) => pacCheck_any p A n c W h)
  have HC2 := Lib.hid (fun (W : World) A n c (h : PacRd W p A n c) => rpacCheck_any p A n c W h)
  generalize putP p = U at HP1 HP2
  generalize getC p = V at HG1 HG2 HPL
  generalize checkP p = K at HC1 HC2
  obtain ⟨B, E1⟩ := U
  obtain ⟨⟨ci, cu, a⟩, E2⟩ := V
  have hk1 : (K != K) = false := by simp
  have hk2 : (E1 != E1) = false := by simp
  have hk3 : (E2 != E2) = false := by simp
  obtain ⟨kd, ep, sq, I, cd, l⟩ := p
  obtain ⟨code, addr, count, on, set, parts⟩ := a
  simp only [pacV] at HP1 HP2 HG1 HG2 HC1 HC2
  simp only [pacV, cmdV] at *
  have HBP := Lib.hid (heap_alloc_new w (.cells #[.int .i64 kd, .int .i64 ep, .int .i64 sq, .int .i64 I, .int .i64 cd, .slice A n c] 34))
  go_enter Try.func4, Try.ntmps4
  go_wp2_with fail
  refine (lent_any l A n c _ (Hr.out.body.ext (Ext.duo _ _ _)) (by omega)).mono ?_
  rintro e w1 ⟨gx, curx, rfl, hgx, hhx, hcurx, hb1⟩
  have hb1' := Ext.of hb1
  have HGX := Lib.hid (show w.heap.size + 2 ≤ gx by simpa using hgx)
  have HOL := Lib.hid (lent_own (base := w.heap.size + 2) (by simpa using hgx) hhx hcurx Hr.out.body.length (by omega))
  have Hhx := Lib.hid hhx; have Hcx := Lib.hid hcurx
  have hpb := hb1'.block ((Ext.alloc _ _).block HBP.out)
  have hib := hb1'.block (heap_at (w.alloc (.cells #[.int .i64 kd, .int .i64 ep, .int .i64 sq, .int .i64 I, .int .i64 cd, .slice A n c] 34)) (.cells #[.int .i64 kd, .int .i64 ep, .int .i64 sq, .int .i64 I, .int .i64 cd, .slice A n c] 34) (w.heap.size + 1) (by simp))
  have X0 := Lib.hid ((Ext.duo w _ _).trans hb1')
  have Hpb := Lib.hid hpb; have Hib := Lib.hid hib
  obtain ⟨i0, i1, i2, i3, i4, i5, f0, f1, f2, f3, f4, f5⟩ := box6 hib
  have hgx2 : gx ≠ w.heap.size + 1 := by have := HGX.out; omega
  have hz1 : gx < w1.heap.size := lt_of_heap hhx
  clear hgx hhx hcurx hb1 hb1' hpb hib
  go_wp2_with fail
  obtain ⟨V1, hV1⟩ : ∃ V1, w1.setCell ⟨w.heap.size + 1, 5, none⟩ (.slice (some ⟨gx, 0, none⟩) n (n + 5)) = V1 := ⟨_, rfl⟩
  have hpb : V1.heap[w.heap.size]? = some (.cells #[.int .i64 kd, .int .i64 ep, .int .i64 sq, .int .i64 I, .int .i64 cd, .slice A n c] 34 (0, 0)) := by rw [← hV1, Below.heap_setCell _ _ _ _ (by simp)]; exact Hpb.out
  have hib : V1.heap[w.heap.size + 1]? = some (.cells #[.int .i64 kd, .int .i64 ep, .int .i64 sq, .int .i64 I, .int .i64 cd, .slice (some ⟨gx, 0, none⟩) n (n + 5)] 34 (0, 0)) := by rw [← hV1]; exact heap_setCell_same _ _ _ _ _ _ Hib.out
  have hgb : V1.heap[gx]? = some (.cells curx 5 (0, 0)) := by rw [← hV1, Below.heap_setCell _ _ _ _ hgx2]; exact Hhx.out
  have hx01 : Ext w V1 := by rw [← hV1]; exact Ext.set' X0.out (by simp) _
  have hrl : Rd V1 (some ⟨gx, 0, none⟩) n (l.map cB) := by rw [← hV1]; exact (Own.set_below HOL.out (by simp) _).rd
  rw [hV1]
  have HPB := Lib.hid (fun W (hX : Ext V1 W) => hX.block hpb)
  have HIB := Lib.hid (fun W (hX : Ext V1 W) => hX.block hib)
  have HGB := Lib.hid (fun W (hX : Ext V1 W) => hX.block hgb)
  have HR2 := Lib.hid (fun W (hX : Ext V1 W) => Hr.out.ext (hx01.trans hX))
  have HR1 : Hid (∀ W, Ext V1 W → PacRd W ⟨kd, ep, sq, I, cd, l⟩ (some ⟨gx, 0, none⟩) n (n + 5)) := fun W hX => ⟨hrl.ext hX, Hr.out.kind, Hr.out.epoch, Hr.out.seq, Hr.out.id, Hr.out.code, by omega, by omega⟩
  have X1 := Lib.hid hx01
  have hzV := lt_of_heap hgb
  clear hV1 hpb hib hgb hrl hx01 i0 i1 i2 i3 i4 i5 f0 f1 f2 f3 f4 f5 Hpb Hib Hhx X0 hgx2 hz1
  refine (HP1.out V1 _ _ _ (HR1.out V1 (Ext.refl _))).mono ?_
  rintro e w2 ⟨A2, n2, c2, rfl, ho2, hx2⟩
  have HO2 := Lib.hid ho2
  have X2 := Lib.hid hx2
  obtain ⟨d0, d1, d2, d3, d4, d5, -⟩ := box6 (HPB.out _ hx2)
  clear ho2 hx2
  go_wp2_with fail
  refine (HP2.out w2 _ _ _ (HR2.out w2 X2.out)).mono ?_
  rintro e w3 ⟨A3, n3, c3, rfl, ho3, hx3⟩
  have HO3 := Lib.hid ho3
  have X3 := Lib.hid (X2.out.trans hx3)
  have Z3 := Lib.hid hx3
  clear d0 d1 d2 d3 d4 d5
  obtain ⟨i0, i1, i2, i3, i4, i5, -⟩ := box6 (HIB.out _ X3.out)
  clear ho3 hx3
  go_wp2_with fail
  refine (HG1.out w3 _ _ _ (HR1.out w3 X3.out)).mono ?_
  rintro e w4 ⟨⟨B1, m1, k1, B2, m2, k2, B3, m3, k3⟩, rfl, hw4, hx4⟩
  simp only [cmdV] at hw4 ⊢
  have HW4 := Lib.hid hw4
  have X4 := Lib.hid (X3.out.trans hx4)
  have Z4 := Lib.hid hx4
  have DD := fun o : Obj => box6 (HPB.out _ (X4.out.trans (Ext.alloc w4 o)))
  clear hw4 hx4 i0 i1 i2 i3 i4 i5
  have d0 := fun o => (DD o).1
  have d1 := fun o => (DD o).2.1
  have d2 := fun o => (DD o).2.2.1
  have d3 := fun o => (DD o).2.2.2.1
  have d4 := fun o => (DD o).2.2.2.2.1
  have d5 := fun o => (DD o).2.2.2.2.2.1
  have HG22 := Lib.hid (fun o => HG2.out (w4.alloc o) _ _ _ (HR2.out _ (X4.out.trans (Ext.alloc w4 o))))
  clear DD
  go_wp2_with fail
  refine (HG22.out _).mono ?_
  rintro e w5 ⟨⟨C1, p1, q1, C2, p2, q2, C3, p3, q3⟩, rfl, hw5, hx5⟩
  simp only [cmdV] at hw5 ⊢
  have HW5 := Lib.hid (hw5.ext (Ext.alloc w5 (.cells #[.int .i64 ci, .int .i64 cu, .int .i64 code, .int .i64 addr, .int .i64 count, .slice C1 p1 q1, .slice C2 p2 q2, .slice C3 p3 q3] 28)))
  have Z5 := Lib.hid ((Ext.alloc _ _).trans (hx5.trans (Ext.alloc w5 (.cells #[.int .i64 ci, .int .i64 cu, .int .i64 code, .int .i64 addr, .int .i64 count, .slice C1 p1 q1, .slice C2 p2 q2, .slice C3 p3 q3] 28))))
  have X5 := Lib.hid (X4.out.trans Z5.out)
  have HXB := hx5.block (heap_alloc_new w4 (.cells #[.int .i64 ci, .int .i64 cu, .int .i64 code, .int .i64 addr, .int .i64 count, .slice B1 m1 k1, .slice B2 m2 k2, .slice B3 m3 k3] 28))
  have HSS : Hid (∀ W, Ext (w5.alloc (.cells #[.int .i64 ci, .int .i64 cu, .int .i64 code, .int .i64 addr, .int .i64 count, .slice C1 p1 q1, .slice C2 p2 q2, .slice C3 p3 q3] 28)) W → ((W.cell? ⟨w.heap.size, 0, none⟩ = some (.int .i64 kd) ∧ W.cell? ⟨w.heap.size, 1, none⟩ = some (.int .i64 ep) ∧ W.cell? ⟨w.heap.size, 2, none⟩ = some (.int .i64 sq) ∧ W.cell? ⟨w.heap.size, 3, none⟩ = some (.int .i64 I) ∧ W.cell? ⟨w.heap.size, 4, none⟩ = some (.int .i64 cd) ∧ W.cell? ⟨w.heap.size, 5, none⟩ = some (.slice A n c)) ∧ (W.cell? ⟨w.heap.size + 1, 0, none⟩ = some (.int .i64 kd) ∧ W.cell? ⟨w.heap.size + 1, 1, none⟩ = some (.int .i64 ep) ∧ W.cell? ⟨w.heap.size + 1, 2, none⟩ = some (.int .i64 sq) ∧ W.cell? ⟨w.heap.size + 1, 3, none⟩ = some (.int .i64 I) ∧ W.cell? ⟨w.heap.size + 1, 4, none⟩ = some (.int .i64 cd) ∧ W.cell? ⟨w.heap.size + 1, 5, none⟩ = some (.slice (some ⟨gx, 0, none⟩) n (n + 5))) ∧ (W.cell? ⟨w4.heap.size, 0, none⟩ = some (.int .i64 ci) ∧ W.cell? ⟨w4.heap.size, 1, none⟩ = some (.int .i64 cu) ∧ W.cell? ⟨w4.heap.size, 2, none⟩ = some (.int .i64 code) ∧ W.cell? ⟨w4.heap.size, 3, none⟩ = some (.int .i64 addr) ∧ W.cell? ⟨w4.heap.size, 4, none⟩ = some (.int .i64 count) ∧ W.cell? ⟨w4.heap.size, 5, none⟩ = some (.slice B1 m1 k1) ∧ W.cell? ⟨w4.heap.size, 6, none⟩ = some (.slice B2 m2 k2) ∧ W.cell? ⟨w4.heap.size, 7, none⟩ = some (.slice B3 m3 k3)) ∧ (W.cell? ⟨w5.heap.size, 0, none⟩ = some (.int .i64 ci) ∧ W.cell? ⟨w5.heap.size, 1, none⟩ = some (.int .i64 cu) ∧ W.cell? ⟨w5.heap.size, 2, none⟩ = some (.int .i64 code) ∧ W.cell? ⟨w5.heap.size, 3, none⟩ = some (.int .i64 addr) ∧ W.cell? ⟨w5.heap.size, 4, none⟩ = some (.int .i64 count) ∧ W.cell? ⟨w5.heap.size, 5, none⟩ = some (.slice C1 p1 q1) ∧ W.cell? ⟨w5.heap.size, 6, none⟩ = some (.slice C2 p2 q2) ∧ W.cell? ⟨w5.heap.size, 7, none⟩ = some (.slice C3 p3 q3)))) := fun W hX => ⟨box6c (HPB.out W (X5.out.trans hX)), box6c (HIB.out W (X5.out.trans hX)), box8 (((Ext.alloc _ _).trans hX).block HXB), box8 (hX.block (heap_alloc_new w5 _))⟩
  have hz0 := X1.out.size
  have hz4 := X4.out.size
  have hz5 := hx5.size
  clear hw5 hx5 d0 d1 d2 d3 d4 d5 HG22 HXB
  go_wp2_with fail
  obtain ⟨V5, hV5⟩ : ∃ V5, w5.alloc (.cells #[.int .i64 ci, .int .i64 cu, .int .i64 code, .int .i64 addr, .int .i64 count, .slice C1 p1 q1, .slice C2 p2 q2, .slice C3 p3 q3] 28) = V5 := ⟨_, rfl⟩
  rw [hV5] at HW5 Z5 X5 HSS ⊢
  have hz5' : w5.heap.size < V5.heap.size := by rw [← hV5]; simp
  clear hV5
  have HCC1 := Lib.hid (fun W (hX : Ext V5 W) => HC1.out W _ _ _ (HR1.out W (X5.out.trans hX)))
  have HCC2 := Lib.hid (fun W (hX : Ext V5 W) => HC2.out W _ _ _ (HR2.out W (X5.out.trans hX)))
  have HSB : Hid (∀ W, Ext V5 W → Calls Try.prog 29 #[.slice A2 n2 c2, .slice A3 n3 c3] W (RetQ W true)) := fun W hX => (same_any B B A2 A3 n2 n3 c2 c3 W (HO2.out.rd.ext (Z3.out.trans (Z4.out.trans (Z5.out.trans hX)))) (HO3.out.rd.ext (Z4.out.trans (Z5.out.trans hX))) (Nat.le_trans HO2.out.cap HO2.out.capLe)).mono (fun e w' ⟨h1, h2⟩ => ⟨by rw [h1, decide_eq_true rfl], Ext.of h2⟩)
  have HSC := Lib.hid (fun W (hX : Ext V5 W) => sameCommand_eq ci cu ⟨code, addr, count, on, set, parts⟩ ⟨B1, m1, k1, B2, m2, k2, B3, m3, k3⟩ ⟨C1, p1, q1, C2, p2, q2, C3, p3, q3⟩ W (HW4.out.rd.ext (Z5.out.trans hX)) (HW5.out.rd.ext hX) (Nat.le_trans HPL.out (by decide)))
  simp only [cmdV] at HSC
  obtain ⟨⟨d0, d1, d2, d3, d4, d5⟩, ⟨i0, i1, i2, i3, i4, i5⟩, ⟨j0, j1, j2, j3, j4, j5, j6, j7⟩, ⟨y0, y1, y2, y3, y4, y5, y6, y7⟩⟩ := HSS.out _ (Ext.refl _)
  go_region_held3 (fun W => (W.cell? ⟨w.heap.size, 0, none⟩ = some (.int .i64 kd) ∧ W.cell? ⟨w.heap.size, 1, none⟩ = some (.int .i64 ep) ∧ W.cell? ⟨w.heap.size, 2, none⟩ = some (.int .i64 sq) ∧ W.cell? ⟨w.heap.size, 3, none⟩ = some (.int .i64 I) ∧ W.cell? ⟨w.heap.size, 4, none⟩ = some (.int .i64 cd) ∧ W.cell? ⟨w.heap.size, 5, none⟩ = some (.slice A n c)) ∧ (W.cell? ⟨w.heap.size + 1, 0, none⟩ = some (.int .i64 kd) ∧ W.cell? ⟨w.heap.size + 1, 1, none⟩ = some (.int .i64 ep) ∧ W.cell? ⟨w.heap.size + 1, 2, none⟩ = some (.int .i64 sq) ∧ W.cell? ⟨w.heap.size + 1, 3, none⟩ = some (.int .i64 I) ∧ W.cell? ⟨w.heap.size + 1, 4, none⟩ = some (.int .i64 cd) ∧ W.cell? ⟨w.heap.size + 1, 5, none⟩ = some (.slice (some ⟨gx, 0, none⟩) n (n + 5))) ∧ (W.cell? ⟨w4.heap.size, 0, none⟩ = some (.int .i64 ci) ∧ W.cell? ⟨w4.heap.size, 1, none⟩ = some (.int .i64 cu) ∧ W.cell? ⟨w4.heap.size, 2, none⟩ = some (.int .i64 code) ∧ W.cell? ⟨w4.heap.size, 3, none⟩ = some (.int .i64 addr) ∧ W.cell? ⟨w4.heap.size, 4, none⟩ = some (.int .i64 count) ∧ W.cell? ⟨w4.heap.size, 5, none⟩ = some (.slice B1 m1 k1) ∧ W.cell? ⟨w4.heap.size, 6, none⟩ = some (.slice B2 m2 k2) ∧ W.cell? ⟨w4.heap.size, 7, none⟩ = some (.slice B3 m3 k3)) ∧ (W.cell? ⟨w5.heap.size, 0, none⟩ = some (.int .i64 ci) ∧ W.cell? ⟨w5.heap.size, 1, none⟩ = some (.int .i64 cu) ∧ W.cell? ⟨w5.heap.size, 2, none⟩ = some (.int .i64 code) ∧ W.cell? ⟨w5.heap.size, 3, none⟩ = some (.int .i64 addr) ∧ W.cell? ⟨w5.heap.size, 4, none⟩ = some (.int .i64 count) ∧ W.cell? ⟨w5.heap.size, 5, none⟩ = some (.slice C1 p1 q1) ∧ W.cell? ⟨w5.heap.size, 6, none⟩ = some (.slice C2 p2 q2) ∧ W.cell? ⟨w5.heap.size, 7, none⟩ = some (.slice C3 p3 q3))) (first | go_keep | exact HSS.out _ X6.out | exact HSS.out _ X7.out | exact HSS.out _ X8.out | exact HSS.out _ X9.out) ((first
      | (go_at_call 27
         with_reducible refine Calls.mono (HCC1.out _ (by repeat' (first | with_reducible exact Ext.refl _ | with_reducible refine Ext.drew' ?_ | with_reducible refine Ext.alloc' ?_ _))) ?_
         rintro e w6 ⟨rfl, hx6⟩
         have X6 : Hid (Ext V5 w6) := Ext.trans (by repeat' (first | with_reducible exact Ext.refl _ | with_reducible refine Ext.drew' ?_ | with_reducible refine Ext.alloc' ?_ _)) hx6
         clear hx6)
      | (go_at_call 28
         with_reducible refine Calls.mono (HCC2.out _ (by repeat' (first | with_reducible exact X6.out | with_reducible refine Ext.drew' ?_ | with_reducible refine Ext.alloc' ?_ _))) ?_
         rintro e w7 ⟨rfl, hx7⟩
         have X7 : Hid (Ext V5 w7) := Ext.trans (by repeat' (first | with_reducible exact X6.out | with_reducible refine Ext.drew' ?_ | with_reducible refine Ext.alloc' ?_ _)) hx7
         clear hx7)
      | (go_at_call 29
         with_reducible refine Calls.mono (HSB.out _ (by repeat' (first | with_reducible exact X7.out | with_reducible refine Ext.drew' ?_ | with_reducible refine Ext.alloc' ?_ _))) ?_
         rintro e w8 ⟨rfl, hx8⟩
         have X8 : Hid (Ext V5 w8) := Ext.trans (by repeat' (first | with_reducible exact X7.out | with_reducible refine Ext.drew' ?_ | with_reducible refine Ext.alloc' ?_ _)) hx8
         clear hx8)
      | (go_at_call 30
         with_reducible refine Calls.mono (HSC.out _ (by repeat' (first | with_reducible exact X8.out | with_reducible refine Ext.drew' ?_ | with_reducible refine Ext.alloc' ?_ _))) ?_
         rintro e w9 ⟨rfl, hx9⟩
         have X9 : Hid (Ext V5 w9) := Ext.trans (by repeat' (first | with_reducible exact X8.out | with_reducible refine Ext.drew' ?_ | with_reducible refine Ext.alloc' ?_ _)) hx9
         clear hx9)))
  clear d0 d1 d2 d3 d4 d5 i0 i1 i2 i3 i4 i5 j0 j1 j2 j3 j4 j5 j6 j7 y0 y1 y2 y3 y4 y5 y6 y7
  obtain ⟨-, -, ⟨j0, j1, j2, j3, j4, j5, j6, j7⟩, -⟩ := HSS.out _ X9.out
  go_wp2_with fail
  have hz3 := Z4.out.size
  have hz9 := (Z5.out.trans X9.out).size
  have hsp := spoilAsk_any ⟨code, addr, count, on, set, parts⟩ ⟨B1, m1, k1, B2, m2, k2, B3, m3, k3⟩ w3.heap.size w9 (HW4.out.ext (Z5.out.trans X9.out)) (by omega)
  simp only [askV] at hsp
  refine hsp.mono ?_
  clear hsp
  rintro e w10 ⟨rfl, hb10⟩
  have Y10 := Lib.hid (show Ext w3 w10 from (Z4.out.trans (Z5.out.trans X9.out)).below.trans hb10)
  clear hb10 j0 j1 j2 j3 j4 j5 j6 j7
  go_wp2_with fail
  refine (spoil_any _ _ _ _ _ _ (HO2.out.ext (Z3.out.trans Y10.out))).mono ?_
  rintro e w11 ⟨rfl, ho11, hg11⟩
  clear ho11
  have Y11 := Lib.hid ((X2.out.trans (Z3.out.trans Y10.out)).grown' hg11 (fun g hg => (HO2.out.lt g hg).1))
  clear hg11
  obtain ⟨i0, i1, i2, i3, i4, i5, -⟩ := box6 (HIB.out _ Y11.out)
  obtain ⟨d0, d1, d2, d3, d4, d5, -⟩ := box6 (HPB.out _ Y11.out)
  go_wp2_with fail
  refine (kept_any l _ _ _ gx curx _ (HR2.out _ Y11.out).body (HGB.out _ Y11.out) Hcx.out (by omega)).mono ?_
  rintro e w12 ⟨rfl, hb12⟩
  go_wp2_with fail
  go_ret
  exact ⟨rfl, X1.out.trans (Y11.out.trans (Ext.of hb12))⟩
end Go.Proofs.Ytjmddiffeffgnaa
