/- Contracts of outstationref21.eight and outstationref21.Put, whatever the packet (the first part of XPutL, alone). -/
import Derived.Test.YtifojmmggcenkaaPac3
import Derived.Test.YtifojmmggcenkaaPacR
import Derived.Test.YtifojmmggcenkaaPacR3
namespace Go.Proofs.Ytifojmmggcenkaa
set_option linter.unusedVariables false
set_option linter.unusedSimpArgs false
set_option maxRecDepth 100000
set_option maxHeartbeats 2000000
open Go Go.RowKit Go.Out

theorem reight_any (xs : List UInt8) (v n : Nat) (hv : v < 4611686018427387904) (A : Option Addr) (c base : Nat) (w : World) (ho : Own w base 5 IsU8 A n c (xs.map cB)) (hbase : base ≤ w.heap.size) (hn : n ≤ 140737488300000) :
    Calls Try.prog 43 #[.slice A n c, .int .i64 (v : Int)] w (RetP w base A (xs ++ be v 8)) := by
  have Hlen := Lib.hid (show (xs ++ be v 8).length = n + 8 by have := ho.len; simp [be_length] at this ⊢; omega)
  have Ho := Lib.hid ho; have Hbase := Lib.hid hbase; clear ho hbase
  have hv64 : IntKind.u64.wrap (v : Int) = (v : Int) := by rw [IntKind.wrap_u64]; omega
  go_enter Try.func43, Try.ntmps43
  go_wp2_with fail
  go_loopw [0, 6] (fun b i wr => ∃ (q : Nat) (x : Int) (A2 : Option Addr) (c2 : Nat), q ≤ 8 ∧ x = (q : Int) - 1 ∧ i = .int .i64 x ∧ b = .slice A2 (n + (8 - q)) c2 ∧ Hid (Own wr base 5 IsU8 A2 (n + (8 - q)) c2 ((xs ++ beTop v 8 q).map cB)) ∧ Hid (Grow w wr A A2)) (fun _ i _ => ((intOf i) + 1).toNat)
  case atStart => exact ⟨8, 7, A, c, by omega, by omega, rfl, rfl, by simpa [Hid, beTop_zero] using Ho.out, Lib.hid (Grow.refl _ _)⟩
  case round =>
    obtain ⟨q, x, A2, c2, hq, hx, rfl, rfl, HO2, HG2⟩ := hrel
    rcases q with _ | q
    · obtain rfl : x = -1 := by omega
      clear hx
      go_wp2_with fail
      go_ret
      have h := HO2.out
      rw [beTop_all] at h
      exact ⟨A2, c2, by rw [Hlen.out]; rfl, by rw [Hlen.out]; exact h, HG2.out⟩
    · obtain rfl : x = (q : Int) := by omega
      clear hx
      have q0 : 0 ≤ 8 * (q : Int) := by omega
      have q1 : (8 * (q : Int)).toNat = 8 * q := by omega
      have q3 : min (8 * q) 64 = 8 * q := by omega
      have q4 : IntKind.i64.wrap (8 * (q : Int)) = 8 * (q : Int) := IntWalk.i64_in _ (by omega)
      have q5 : IntKind.u64.wrap (8 * (q : Int)) = 8 * (q : Int) := by rw [IntKind.wrap_u64]; omega
      have Hlit : Hid ((#[.int .u8 ((v : Int) / 2 ^ (8 * q) % 256)] : Array Value).toList = [UInt8.ofNat (v / 256 ^ q)].map cB ++ []) := by
        show [_] = _
        rw [be_cell]
        rfl
      have Hbt := Lib.hid (beTop_step v 8 q (by omega))
      go_wp2_with (at_builtin; go_must (refine app_u8 _ rfl (.tmp 13) (.tmp 20) rfl rfl (HO2.out.ext (Ext.alloc _ _)) rfl (Rd.of_heap (ys := []) (heap_alloc_new wr _) Hlit.out rfl) isU8_map (by omega) (Nat.le_trans (Nat.le_trans Hbase.out HG2.out.1.size) (Ext.alloc _ _).size) ?_); intro A3 c3 w2 hown2 hg2 hb2; have HO3 := Lib.hid hown2; have HG3 := Lib.hid (Grow.of_alloc hg2 hb2); clear hown2 hg2 hb2)
      go_roundw
      case rel => exact ⟨q, (q : Int) - 1, A3, c3, by omega, rfl, by go_num, by congr 1; omega, by have h := HO3.out; rw [← List.map_append, List.append_assoc, ← Hbt.out, show n + (8 - (q + 1)) + 1 = n + (8 - q) by omega] at h; exact h, Lib.hid (HG2.out.trans HG3.out)⟩
      case measure => simp [intOf]

/-- As reight_any, the length of what is handed back by name. -/
theorem reight_to (xs : List UInt8) (v n N : Nat) (hN : n + 8 = N) (hv : v < 4611686018427387904) (A : Option Addr) (c base : Nat) (w V : World) (hX : Ext w V) (hbw : w.heap.size ≤ base) (ho : Own V base 5 IsU8 A n c (xs.map cB)) (hbase : base ≤ V.heap.size) (hn : n ≤ 140737488300000) :
    Calls Try.prog 43 #[.slice A n c, .int .i64 (v : Int)] V fun e w' => ∃ A' c', e = .returned (.slice A' N c') ∧ Own w' base 5 IsU8 A' N c' ((xs ++ be v 8).map cB) ∧ Ext w w' := by
  have hl : (xs ++ be v 8).length = N := by have := ho.len; simp [be_length] at this ⊢; omega
  refine (reight_any xs v n hv A c base V ho hbase hn).mono ?_
  rintro e w' ⟨A', c', rfl, ho', hG⟩
  rw [hl] at ho' ⊢
  exact ⟨A', c', rfl, ho', hX.grown' hG.1 (fun g hg => Nat.le_trans hbw (ho.lt g hg).1)⟩

theorem rpacOk {p : PacD} {A : Option Addr} {n c : Nat} {w : World} (hr : PacRd w p A n c) (h : checkP p = 0) : ∀ W, Ext w W → Calls Try.prog 42 #[pacV p A n c] W (RetI W 0) := by
  intro W hX
  have := rpacCheck_any p A n c W (hr.ext hX)
  rwa [h] at this
theorem rputNo (p : PacD) (A : Option Addr) (n c : Nat) (w : World) (hr : PacRd w p A n c) (h : checkP p ≠ 0) : Calls Try.prog 32 #[pacV p A n c] w (RetU w [] (checkP p)) := by
  have hc := fun W (hX : Ext w W) => rpacCheck_any p A n c W (hr.ext hX)
  obtain ⟨k, hk⟩ : ∃ k, checkP p = k := ⟨_, rfl⟩
  simp only [hk] at hc h ⊢
  have ht : (k != 0) = true := by simpa using h
  have HC := Lib.hid hc; clear hc hr hk h
  obtain ⟨kd, e, s, i, cd, l⟩ := p
  simp only [pacV] at HC ⊢
  go_enter Try.func32, Try.ntmps32
  go_wp2_with fail
  refine (HC.out _ (Ext.alloc _ _)).mono ?_
  rintro e w1 ⟨rfl, hb⟩
  go_wp2_with fail
  go_ret2
  exact ⟨none, 0, 0, rfl, Own.nil_ _ _ _ _, (Ext.alloc _ _).trans hb⟩

theorem rputRuns1 (E S : Nat) (l : List UInt8) (A : Option Addr) (n c : Nat) (w : World) (hr : PacRd w ⟨1, E, S, 0, 0, l⟩ A n c) (h : checkP ⟨1, E, S, 0, 0, l⟩ = 0) (hE : E ≤ 1099511627776) (hS : S ≤ 1099511627776) (hl : l.length ≤ 1024) :
    Calls Try.prog 32 #[pacV ⟨1, E, S, 0, 0, l⟩ A n c] w (RetU w (sealF 4 (more32 0) (UInt8.ofNat 1 :: ((be E 8 ++ be S 8) ++ l))) 0) := by
  have HC := Lib.hid (rpacOk hr h)
  have HB := Lib.hid hr.body
  have hn := hr.len
  have hcap := hr.cap
  simp only at hn hcap
  clear hr h
  simp only [pacV] at HC ⊢
  have hn2 : n ≤ 1024 := by omega
  have HBX : Hid (∀ W, Ext (w.alloc (.cells #[.int .i64 1, .int .i64 (E : Int), .int .i64 (S : Int), .int .i64 0, .int .i64 0, .slice A n c] 32)) W → W.heap[w.heap.size]? = some (.cells #[.int .i64 1, .int .i64 (E : Int), .int .i64 (S : Int), .int .i64 0, .int .i64 0, .slice A n c] 32 (0, 0))) := fun W hX => hX.block (heap_alloc_new w _)
  have XW := Lib.hid (Ext.alloc w (.cells #[.int .i64 1, .int .i64 (E : Int), .int .i64 (S : Int), .int .i64 0, .int .i64 0, .slice A n c] 32))
  obtain ⟨V0, hV0⟩ : ∃ V0, (w.alloc (.cells #[.int .i64 1, .int .i64 (E : Int), .int .i64 (S : Int), .int .i64 0, .int .i64 0, .slice A n c] 32)) = V0 := ⟨_, rfl⟩
  rw [hV0] at HBX XW
  have hz0 : w.heap.size + 1 ≤ V0.heap.size := by rw [← hV0]; simp
  have HV0 := Lib.hid hV0
  clear hV0
  go_enter Try.func32, Try.ntmps32
  go_wp2_with fail
  rw [HV0.out]
  refine (HC.out V0 XW.out).mono ?_
  rintro e w1 ⟨rfl, hx1⟩
  obtain ⟨d0, d1, d2, d3, d4, d5, -⟩ := box6 (HBX.out _ hx1)
  have D0 := fun o : Obj => (box6 (HBX.out _ (hx1.trans (Ext.alloc w1 o)))).1
  have X1 := Lib.hid hx1
  have hz1 : w.heap.size + 1 ≤ w1.heap.size := Nat.le_trans hz0 hx1.size
  clear hx1
  go_wp2_with fail
  refine (rruns_any 1 true _ (by decide)).mono ?_
  rintro e v_ ⟨rfl, rfl⟩
  have XA := Lib.hid (X1.out.trans (Ext.alloc w1 (.cells #[.int .u8 1] 5)))
  have HF : Hid (Own (w1.alloc (.cells #[.int .u8 1] 5)) (w.heap.size + 1) 5 IsU8 (some ⟨w1.heap.size, 0, none⟩) 1 1 (([1] : List UInt8).map cB)) := Lib.hid (Own.first w1 _ hz1 1 1 rfl)
  obtain ⟨V1, hV1⟩ : ∃ V1, w1.alloc (.cells #[.int .u8 1] 5) = V1 := ⟨_, rfl⟩
  rw [hV1] at XA HF ⊢
  have hz2 : w.heap.size + 1 ≤ V1.heap.size := Nat.le_trans hz0 XA.out.size
  obtain ⟨q0, q1, q2, q3, q4, q5, -⟩ := box6 (HBX.out _ XA.out)
  clear hV1 d0 d1 d2 d3 d4 d5 D0
  have VZ := Lib.hid (show V0.heap.size ≤ w.heap.size + 1 by rw [← HV0.out]; simp)
  have HKK : Hid (∀ W, Ext V0 W → W.cell? ⟨w.heap.size, 1, none⟩ = some (.int .i64 (E : Int)) ∧ W.cell? ⟨w.heap.size, 2, none⟩ = some (.int .i64 (S : Int))) := fun W hX => by
    obtain ⟨-, q1, q2, -⟩ := box6 (HBX.out _ hX)
    exact ⟨q1, q2⟩
  have hzV : w.heap.size < V1.heap.size := by omega
  go_wp2_with fail
  go_region_held3 (fun w' => w'.cell? ⟨w.heap.size, 1, none⟩ = some (.int .i64 (E : Int)) ∧ w'.cell? ⟨w.heap.size, 2, none⟩ = some (.int .i64 (S : Int))) (go_keep) ((first
    | (go_at_call_of 43 (Value.int .i64 (E : Int))
       with_reducible refine Calls.mono (reight_to [1] E 1 9 rfl (by omega) _ _ (w.heap.size + 1) V0 _ ?_ VZ.out ?_ ?_ (by omega)) ?_
       · repeat' (first | with_reducible exact XA.out | with_reducible refine Ext.drew' ?_)
       · repeat' (first | with_reducible exact HF.out | with_reducible refine Own.drew ?_)
       · simp; omega
       rintro e w4 ⟨A5, c5, rfl, ho, hx4⟩
       obtain ⟨k1, k2⟩ := HKK.out _ hx4
       have hz4 : w.heap.size + 1 ≤ w4.heap.size := Nat.le_trans hz0 hx4.size
       have HO4 := Lib.hid ho
       have X4 := Lib.hid hx4
       clear ho hx4)
    | (go_at_call_of 43 (Value.int .i64 (S : Int))
       with_reducible refine Calls.mono (reight_to _ S 9 17 rfl (by omega) _ _ (w.heap.size + 1) V0 _ X4.out VZ.out HO4.out hz4 (by omega)) ?_
       rintro e w5 ⟨A6, c6, rfl, ho, hx5⟩
       obtain ⟨h1, h2⟩ := HKK.out _ hx5
       have HO := Lib.hid ho
       have X := Lib.hid hx5
       clear ho hx5)
    | fail "no arm"))
  obtain ⟨p0, p1, p2, p3, p4, p5, -⟩ := box6 (HBX.out _ X.out)
  clear q0 q1 q2 q3 q4 q5
  go_wp2_with fail
  go_loopw [5, 6] (fun b i wr => ∃ (k : Nat) (A1 : Option Addr) (c1 : Nat), k ≤ n ∧ i = .int .i64 (k : Int) ∧ b = .slice A1 (17 + k) c1 ∧ Hid (Own wr (w.heap.size + 1) 5 IsU8 A1 (17 + k) c1 ((([1] ++ be E 8 ++ be S 8) ++ l.take k).map cB)) ∧ Hid (Ext V0 wr)) (fun _ i _ => n - (intOf i).toNat)
  case atStart => exact ⟨0, _, _, Nat.zero_le _, rfl, rfl, by have h := HO.out; simpa [Hid] using h, X⟩
  case round =>
    obtain ⟨k, A1, c1, hk, rfl, rfl, HO1, HX⟩ := hrel
    obtain ⟨-, -, -, -, -, k5, -⟩ := box6 (HBX.out _ HX.out)
    rcases Nat.lt_or_ge k n with hlt | hge
    · obtain ⟨bk, off, rfl, hbk, hcell⟩ := HB.out.u8all (by omega)
      have hck := (XW.out.trans HX.out).cell hbk (hcell k hlt)
      have Hst : Hid (l.take (k + 1) = l.take k ++ [l.getD k 0]) := by
        unfold Hid
        rw [List.take_succ_eq_append_getElem (by omega), List.getD_eq_getElem?_getD, List.getElem?_eq_getElem (by omega)]; rfl
      have Hlit : Hid ((#[.int .u8 ((l.getD k 0).toNat : Int)] : Array Value).toList = [l.getD k 0].map cB ++ []) := by show [_] = _; rfl
      generalize hy : l.getD k 0 = y at *
      generalize hx : y.toNat = x at *
      have Hy := Lib.hid hy; have Hx := Lib.hid hx
      have hkc : (k : Int) < (n : Int) := by omega
      have hzr : w.heap.size + 1 ≤ wr.heap.size := Nat.le_trans hz0 HX.out.size
      clear hcell hy hx hn hcap
      go_wp2_with (at_builtin
                   go_must (refine app_u8 (base := w.heap.size + 1) _ rfl (.tmp 46) (.tmp 52) rfl rfl (HO1.out.ext (Ext.alloc _ _)) rfl (Rd.of_heap (ys := []) (heap_alloc_new wr _) Hlit.out rfl) isU8_map (by omega) (Nat.le_trans hzr (Ext.alloc _ _).size) ?_)
                   intro A3 c3 w3 hown hg hbk
                   have HO3 := Lib.hid hown
                   have X3 := Lib.hid ((HX.out.trans (Ext.alloc _ _)).grown' hg (fun g hg => Nat.le_trans VZ.out (HO1.out.lt g hg).1))
                   clear hown hg hbk)
      go_roundw
      case rel => exact ⟨k + 1, A3, c3, by omega, by go_num, rfl, by have h := HO3.out; rw [← List.map_append, List.append_assoc, ← Hst.out] at h; exact h, X3⟩
      case measure => simp [intOf]; omega
    · obtain rfl : k = n := by omega
      have HO2 : Hid (Own wr (w.heap.size + 1) 5 IsU8 A1 (17 + k) c1 ((([1] ++ be E 8 ++ be S 8) ++ l).map cB)) := by have h := HO1.out; rw [List.take_of_length_le (by omega)] at h; exact h
      clear hn hcap
      go_wp2_with fail
      refine (refSeal32_any (([1] ++ be E 8 ++ be S 8) ++ l) _ _ _ _ HO2.out.rd (by omega)).mono ?_
      rintro e w7 ⟨A9, c9, rfl, ho9, hb9⟩
      have HO9 := Lib.hid ho9
      have X9 := Lib.hid (Ext.of hb9)
      clear ho9 hb9
      go_wp2_with fail
      go_ret2
      have e : (([1] ++ be E 8 ++ be S 8) ++ l : List UInt8) = UInt8.ofNat 1 :: ((be E 8 ++ be S 8) ++ l) := by simp
      rw [← e]
      exact RetU.seal (XW.out.trans HX.out) HO9.out X9.out

theorem rputRuns2 (E S : Nat) (l : List UInt8) (A : Option Addr) (n c : Nat) (w : World) (hr : PacRd w ⟨2, E, S, 0, 0, l⟩ A n c) (h : checkP ⟨2, E, S, 0, 0, l⟩ = 0) (hE : E ≤ 1099511627776) (hS : S ≤ 1099511627776) (hl : l.length ≤ 1024) :
    Calls Try.prog 32 #[pacV ⟨2, E, S, 0, 0, l⟩ A n c] w (RetU w (sealF 4 (more32 0) (UInt8.ofNat 2 :: ((be E 8 ++ be S 8) ++ l))) 0) := by
  have HC := Lib.hid (rpacOk hr h)
  have HB := Lib.hid hr.body
  have hn := hr.len
  have hcap := hr.cap
  simp only at hn hcap
  clear hr h
  simp only [pacV] at HC ⊢
  have hn2 : n ≤ 1024 := by omega
  have HBX : Hid (∀ W, Ext (w.alloc (.cells #[.int .i64 2, .int .i64 (E : Int), .int .i64 (S : Int), .int .i64 0, .int .i64 0, .slice A n c] 32)) W → W.heap[w.heap.size]? = some (.cells #[.int .i64 2, .int .i64 (E : Int), .int .i64 (S : Int), .int .i64 0, .int .i64 0, .slice A n c] 32 (0, 0))) := fun W hX => hX.block (heap_alloc_new w _)
  have XW := Lib.hid (Ext.alloc w (.cells #[.int .i64 2, .int .i64 (E : Int), .int .i64 (S : Int), .int .i64 0, .int .i64 0, .slice A n c] 32))
  obtain ⟨V0, hV0⟩ : ∃ V0, (w.alloc (.cells #[.int .i64 2, .int .i64 (E : Int), .int .i64 (S : Int), .int .i64 0, .int .i64 0, .slice A n c] 32)) = V0 := ⟨_, rfl⟩
  rw [hV0] at HBX XW
  have hz0 : w.heap.size + 1 ≤ V0.heap.size := by rw [← hV0]; simp
  have HV0 := Lib.hid hV0
  clear hV0
  go_enter Try.func32, Try.ntmps32
  go_wp2_with fail
  rw [HV0.out]
  refine (HC.out V0 XW.out).mono ?_
  rintro e w1 ⟨rfl, hx1⟩
  obtain ⟨d0, d1, d2, d3, d4, d5, -⟩ := box6 (HBX.out _ hx1)
  have D0 := fun o : Obj => (box6 (HBX.out _ (hx1.trans (Ext.alloc w1 o)))).1
  have X1 := Lib.hid hx1
  have hz1 : w.heap.size + 1 ≤ w1.heap.size := Nat.le_trans hz0 hx1.size
  clear hx1
  go_wp2_with fail
  refine (rruns_any 2 true _ (by decide)).mono ?_
  rintro e v_ ⟨rfl, rfl⟩
  have XA := Lib.hid (X1.out.trans (Ext.alloc w1 (.cells #[.int .u8 2] 5)))
  have HF : Hid (Own (w1.alloc (.cells #[.int .u8 2] 5)) (w.heap.size + 1) 5 IsU8 (some ⟨w1.heap.size, 0, none⟩) 1 1 (([2] : List UInt8).map cB)) := Lib.hid (Own.first w1 _ hz1 2 2 rfl)
  obtain ⟨V1, hV1⟩ : ∃ V1, w1.alloc (.cells #[.int .u8 2] 5) = V1 := ⟨_, rfl⟩
  rw [hV1] at XA HF ⊢
  have hz2 : w.heap.size + 1 ≤ V1.heap.size := Nat.le_trans hz0 XA.out.size
  obtain ⟨q0, q1, q2, q3, q4, q5, -⟩ := box6 (HBX.out _ XA.out)
  clear hV1 d0 d1 d2 d3 d4 d5 D0
  have VZ := Lib.hid (show V0.heap.size ≤ w.heap.size + 1 by rw [← HV0.out]; simp)
  have HKK : Hid (∀ W, Ext V0 W → W.cell? ⟨w.heap.size, 1, none⟩ = some (.int .i64 (E : Int)) ∧ W.cell? ⟨w.heap.size, 2, none⟩ = some (.int .i64 (S : Int))) := fun W hX => by
    obtain ⟨-, q1, q2, -⟩ := box6 (HBX.out _ hX)
    exact ⟨q1, q2⟩
  have hzV : w.heap.size < V1.heap.size := by omega
  go_wp2_with fail
  go_region_held3 (fun w' => w'.cell? ⟨w.heap.size, 1, none⟩ = some (.int .i64 (E : Int)) ∧ w'.cell? ⟨w.heap.size, 2, none⟩ = some (.int .i64 (S : Int))) (go_keep) ((first
    | (go_at_call_of 43 (Value.int .i64 (E : Int))
       with_reducible refine Calls.mono (reight_to [2] E 1 9 rfl (by omega) _ _ (w.heap.size + 1) V0 _ ?_ VZ.out ?_ ?_ (by omega)) ?_
       · repeat' (first | with_reducible exact XA.out | with_reducible refine Ext.drew' ?_)
       · repeat' (first | with_reducible exact HF.out | with_reducible refine Own.drew ?_)
       · simp; omega
       rintro e w4 ⟨A5, c5, rfl, ho, hx4⟩
       obtain ⟨k1, k2⟩ := HKK.out _ hx4
       have hz4 : w.heap.size + 1 ≤ w4.heap.size := Nat.le_trans hz0 hx4.size
       have HO4 := Lib.hid ho
       have X4 := Lib.hid hx4
       clear ho hx4)
    | (go_at_call_of 43 (Value.int .i64 (S : Int))
       with_reducible refine Calls.mono (reight_to _ S 9 17 rfl (by omega) _ _ (w.heap.size + 1) V0 _ X4.out VZ.out HO4.out hz4 (by omega)) ?_
       rintro e w5 ⟨A6, c6, rfl, ho, hx5⟩
       obtain ⟨h1, h2⟩ := HKK.out _ hx5
       have HO := Lib.hid ho
       have X := Lib.hid hx5
       clear ho hx5)
    | fail "no arm"))
  obtain ⟨p0, p1, p2, p3, p4, p5, -⟩ := box6 (HBX.out _ X.out)
  clear q0 q1 q2 q3 q4 q5
  go_wp2_with fail
  go_loopw [5, 6] (fun b i wr => ∃ (k : Nat) (A1 : Option Addr) (c1 : Nat), k ≤ n ∧ i = .int .i64 (k : Int) ∧ b = .slice A1 (17 + k) c1 ∧ Hid (Own wr (w.heap.size + 1) 5 IsU8 A1 (17 + k) c1 ((([2] ++ be E 8 ++ be S 8) ++ l.take k).map cB)) ∧ Hid (Ext V0 wr)) (fun _ i _ => n - (intOf i).toNat)
  case atStart => exact ⟨0, _, _, Nat.zero_le _, rfl, rfl, by have h := HO.out; simpa [Hid] using h, X⟩
  case round =>
    obtain ⟨k, A1, c1, hk, rfl, rfl, HO1, HX⟩ := hrel
    obtain ⟨-, -, -, -, -, k5, -⟩ := box6 (HBX.out _ HX.out)
    rcases Nat.lt_or_ge k n with hlt | hge
    · obtain ⟨bk, off, rfl, hbk, hcell⟩ := HB.out.u8all (by omega)
      have hck := (XW.out.trans HX.out).cell hbk (hcell k hlt)
      have Hst : Hid (l.take (k + 1) = l.take k ++ [l.getD k 0]) := by
        unfold Hid
        rw [List.take_succ_eq_append_getElem (by omega), List.getD_eq_getElem?_getD, List.getElem?_eq_getElem (by omega)]; rfl
      have Hlit : Hid ((#[.int .u8 ((l.getD k 0).toNat : Int)] : Array Value).toList = [l.getD k 0].map cB ++ []) := by show [_] = _; rfl
      generalize hy : l.getD k 0 = y at *
      generalize hx : y.toNat = x at *
      have Hy := Lib.hid hy; have Hx := Lib.hid hx
      have hkc : (k : Int) < (n : Int) := by omega
      have hzr : w.heap.size + 1 ≤ wr.heap.size := Nat.le_trans hz0 HX.out.size
      clear hcell hy hx hn hcap
      go_wp2_with (at_builtin
                   go_must (refine app_u8 (base := w.heap.size + 1) _ rfl (.tmp 46) (.tmp 52) rfl rfl (HO1.out.ext (Ext.alloc _ _)) rfl (Rd.of_heap (ys := []) (heap_alloc_new wr _) Hlit.out rfl) isU8_map (by omega) (Nat.le_trans hzr (Ext.alloc _ _).size) ?_)
                   intro A3 c3 w3 hown hg hbk
                   have HO3 := Lib.hid hown
                   have X3 := Lib.hid ((HX.out.trans (Ext.alloc _ _)).grown' hg (fun g hg => Nat.le_trans VZ.out (HO1.out.lt g hg).1))
                   clear hown hg hbk)
      go_roundw
      case rel => exact ⟨k + 1, A3, c3, by omega, by go_num, rfl, by have h := HO3.out; rw [← List.map_append, List.append_assoc, ← Hst.out] at h; exact h, X3⟩
      case measure => simp [intOf]; omega
    · obtain rfl : k = n := by omega
      have HO2 : Hid (Own wr (w.heap.size + 1) 5 IsU8 A1 (17 + k) c1 ((([2] ++ be E 8 ++ be S 8) ++ l).map cB)) := by have h := HO1.out; rw [List.take_of_length_le (by omega)] at h; exact h
      clear hn hcap
      go_wp2_with fail
      refine (refSeal32_any (([2] ++ be E 8 ++ be S 8) ++ l) _ _ _ _ HO2.out.rd (by omega)).mono ?_
      rintro e w7 ⟨A9, c9, rfl, ho9, hb9⟩
      have HO9 := Lib.hid ho9
      have X9 := Lib.hid (Ext.of hb9)
      clear ho9 hb9
      go_wp2_with fail
      go_ret2
      have e : (([2] ++ be E 8 ++ be S 8) ++ l : List UInt8) = UInt8.ofNat 2 :: ((be E 8 ++ be S 8) ++ l) := by simp
      rw [← e]
      exact RetU.seal (XW.out.trans HX.out) HO9.out X9.out

theorem rputCmd (I : Nat) (l : List UInt8) (A : Option Addr) (n c : Nat) (w : World) (hr : PacRd w ⟨3, 0, 0, I, 0, l⟩ A n c) (h : checkP ⟨3, 0, 0, I, 0, l⟩ = 0) (hI : I ≤ 1099511627776) (hl : l.length ≤ 1024) :
    Calls Try.prog 32 #[pacV ⟨3, 0, 0, I, 0, l⟩ A n c] w (RetU w (sealF 4 (more32 0) (3 :: (be I 8 ++ l))) 0) := by
  have HC := Lib.hid (rpacOk hr h)
  have HB := Lib.hid hr.body
  have hn := hr.len
  have hcap := hr.cap
  simp only at hn hcap
  clear hr h
  simp only [pacV] at HC ⊢
  have hn2 : n ≤ 1024 := by omega
  have HBX : Hid (∀ W, Ext (w.alloc (.cells #[.int .i64 3, .int .i64 0, .int .i64 0, .int .i64 (I : Int), .int .i64 0, .slice A n c] 32)) W → W.heap[w.heap.size]? = some (.cells #[.int .i64 3, .int .i64 0, .int .i64 0, .int .i64 (I : Int), .int .i64 0, .slice A n c] 32 (0, 0))) := fun W hX => hX.block (heap_alloc_new w _)
  have XW := Lib.hid (Ext.alloc w (.cells #[.int .i64 3, .int .i64 0, .int .i64 0, .int .i64 (I : Int), .int .i64 0, .slice A n c] 32))
  obtain ⟨V0, hV0⟩ : ∃ V0, (w.alloc (.cells #[.int .i64 3, .int .i64 0, .int .i64 0, .int .i64 (I : Int), .int .i64 0, .slice A n c] 32)) = V0 := ⟨_, rfl⟩
  rw [hV0] at HBX XW
  have hz0 : w.heap.size + 1 ≤ V0.heap.size := by rw [← hV0]; simp
  have HV0 := Lib.hid hV0
  clear hV0
  go_enter Try.func32, Try.ntmps32
  go_wp2_with fail
  rw [HV0.out]
  refine (HC.out V0 XW.out).mono ?_
  rintro e w1 ⟨rfl, hx1⟩
  obtain ⟨d0, d1, d2, d3, d4, d5, -⟩ := box6 (HBX.out _ hx1)
  have D0 := fun o : Obj => (box6 (HBX.out _ (hx1.trans (Ext.alloc w1 o)))).1
  have X1 := Lib.hid hx1
  have hz1 : w.heap.size + 1 ≤ w1.heap.size := Nat.le_trans hz0 hx1.size
  clear hx1
  go_wp2_with fail
  refine (rruns_any 3 false _ (by decide)).mono ?_
  rintro e v_ ⟨rfl, rfl⟩
  have XA := Lib.hid (X1.out.trans (Ext.alloc w1 (.cells #[.int .u8 3] 5)))
  have HF : Hid (Own (w1.alloc (.cells #[.int .u8 3] 5)) (w.heap.size + 1) 5 IsU8 (some ⟨w1.heap.size, 0, none⟩) 1 1 (([3] : List UInt8).map cB)) := Lib.hid (Own.first w1 _ hz1 3 3 rfl)
  obtain ⟨V1, hV1⟩ : ∃ V1, w1.alloc (.cells #[.int .u8 3] 5) = V1 := ⟨_, rfl⟩
  rw [hV1] at XA HF ⊢
  have hz2 : w.heap.size + 1 ≤ V1.heap.size := Nat.le_trans hz0 XA.out.size
  obtain ⟨q0, q1, q2, q3, q4, q5, -⟩ := box6 (HBX.out _ XA.out)
  clear hV1 d0 d1 d2 d3 d4 d5 D0
  have VZ := Lib.hid (show V0.heap.size ≤ w.heap.size + 1 by rw [← HV0.out]; simp)
  go_wp2_with fail
  refine (reight_to [3] I 1 9 rfl (by omega) _ _ (w.heap.size + 1) V0 _ XA.out VZ.out HF.out hz2 (by omega)).mono ?_
  rintro e w5 ⟨A6, c6, rfl, ho, hx5⟩
  have HOx := Lib.hid ho
  have X5 := Lib.hid hx5
  obtain ⟨p0, p1, p2, p3, p4, p5, -⟩ := box6 (HBX.out _ hx5)
  clear ho hx5 q0 q1 q2 q3 q4 q5
  have HO := HOx; have X := X5
  go_wp2_with fail
  go_loopw [5, 6] (fun b i wr => ∃ (k : Nat) (A1 : Option Addr) (c1 : Nat), k ≤ n ∧ i = .int .i64 (k : Int) ∧ b = .slice A1 (9 + k) c1 ∧ Hid (Own wr (w.heap.size + 1) 5 IsU8 A1 (9 + k) c1 ((([3] ++ be I 8) ++ l.take k).map cB)) ∧ Hid (Ext V0 wr)) (fun _ i _ => n - (intOf i).toNat)
  case atStart => exact ⟨0, _, _, Nat.zero_le _, rfl, rfl, by have h := HO.out; simpa [Hid] using h, X⟩
  case round =>
    obtain ⟨k, A1, c1, hk, rfl, rfl, HO1, HX⟩ := hrel
    obtain ⟨-, -, -, -, -, k5, -⟩ := box6 (HBX.out _ HX.out)
    rcases Nat.lt_or_ge k n with hlt | hge
    · obtain ⟨bk, off, rfl, hbk, hcell⟩ := HB.out.u8all (by omega)
      have hck := (XW.out.trans HX.out).cell hbk (hcell k hlt)
      have Hst : Hid (l.take (k + 1) = l.take k ++ [l.getD k 0]) := by
        unfold Hid
        rw [List.take_succ_eq_append_getElem (by omega), List.getD_eq_getElem?_getD, List.getElem?_eq_getElem (by omega)]; rfl
      have Hlit : Hid ((#[.int .u8 ((l.getD k 0).toNat : Int)] : Array Value).toList = [l.getD k 0].map cB ++ []) := by show [_] = _; rfl
      generalize hy : l.getD k 0 = y at *
      generalize hx : y.toNat = x at *
      have Hy := Lib.hid hy; have Hx := Lib.hid hx
      have hkc : (k : Int) < (n : Int) := by omega
      have hzr : w.heap.size + 1 ≤ wr.heap.size := Nat.le_trans hz0 HX.out.size
      clear hcell hy hx hn hcap
      go_wp2_with (at_builtin
                   go_must (refine app_u8 (base := w.heap.size + 1) _ rfl (.tmp 46) (.tmp 52) rfl rfl (HO1.out.ext (Ext.alloc _ _)) rfl (Rd.of_heap (ys := []) (heap_alloc_new wr _) Hlit.out rfl) isU8_map (by omega) (Nat.le_trans hzr (Ext.alloc _ _).size) ?_)
                   intro A3 c3 w3 hown hg hbk
                   have HO3 := Lib.hid hown
                   have X3 := Lib.hid ((HX.out.trans (Ext.alloc _ _)).grown' hg (fun g hg => Nat.le_trans VZ.out (HO1.out.lt g hg).1))
                   clear hown hg hbk)
      go_roundw
      case rel => exact ⟨k + 1, A3, c3, by omega, by go_num, rfl, by have h := HO3.out; rw [← List.map_append, List.append_assoc, ← Hst.out] at h; exact h, X3⟩
      case measure => simp [intOf]; omega
    · obtain rfl : k = n := by omega
      have HO2 : Hid (Own wr (w.heap.size + 1) 5 IsU8 A1 (9 + k) c1 ((([3] ++ be I 8) ++ l).map cB)) := by have h := HO1.out; rw [List.take_of_length_le (by omega)] at h; exact h
      clear hn hcap
      go_wp2_with fail
      refine (refSeal32_any (([3] ++ be I 8) ++ l) _ _ _ _ HO2.out.rd (by omega)).mono ?_
      rintro e w7 ⟨A9, c9, rfl, ho9, hb9⟩
      have HO9 := Lib.hid ho9
      have X9 := Lib.hid (Ext.of hb9)
      clear ho9 hb9
      go_wp2_with fail
      go_ret2
      have e : (([3] ++ be I 8) ++ l : List UInt8) = 3 :: (be I 8 ++ l) := by simp
      rw [← e]
      exact RetU.seal (XW.out.trans HX.out) HO9.out X9.out

theorem rputDone (I C : Nat) (l : List UInt8) (A : Option Addr) (n c : Nat) (w : World) (hr : PacRd w ⟨4, 0, 0, I, C, l⟩ A n c) (h : checkP ⟨4, 0, 0, I, C, l⟩ = 0) (hI : I ≤ 1099511627776) (hC : C ≤ 255) (hl : l.length ≤ 1024) :
    Calls Try.prog 32 #[pacV ⟨4, 0, 0, I, C, l⟩ A n c] w (RetU w (sealF 4 (more32 0) (4 :: (be I 8 ++ [UInt8.ofNat C] ++ l))) 0) := by
  have HC := Lib.hid (rpacOk hr h)
  have HB := Lib.hid hr.body
  have hn := hr.len
  have hcap := hr.cap
  simp only at hn hcap
  clear hr h
  simp only [pacV] at HC ⊢
  have hn2 : n ≤ 1024 := by omega
  have HBX : Hid (∀ W, Ext (w.alloc (.cells #[.int .i64 4, .int .i64 0, .int .i64 0, .int .i64 (I : Int), .int .i64 (C : Int), .slice A n c] 32)) W → W.heap[w.heap.size]? = some (.cells #[.int .i64 4, .int .i64 0, .int .i64 0, .int .i64 (I : Int), .int .i64 (C : Int), .slice A n c] 32 (0, 0))) := fun W hX => hX.block (heap_alloc_new w _)
  have XW := Lib.hid (Ext.alloc w (.cells #[.int .i64 4, .int .i64 0, .int .i64 0, .int .i64 (I : Int), .int .i64 (C : Int), .slice A n c] 32))
  obtain ⟨V0, hV0⟩ : ∃ V0, (w.alloc (.cells #[.int .i64 4, .int .i64 0, .int .i64 0, .int .i64 (I : Int), .int .i64 (C : Int), .slice A n c] 32)) = V0 := ⟨_, rfl⟩
  rw [hV0] at HBX XW
  have hz0 : w.heap.size + 1 ≤ V0.heap.size := by rw [← hV0]; simp
  have HV0 := Lib.hid hV0
  clear hV0
  go_enter Try.func32, Try.ntmps32
  go_wp2_with fail
  rw [HV0.out]
  refine (HC.out V0 XW.out).mono ?_
  rintro e w1 ⟨rfl, hx1⟩
  obtain ⟨d0, d1, d2, d3, d4, d5, -⟩ := box6 (HBX.out _ hx1)
  have D0 := fun o : Obj => (box6 (HBX.out _ (hx1.trans (Ext.alloc w1 o)))).1
  have X1 := Lib.hid hx1
  have hz1 : w.heap.size + 1 ≤ w1.heap.size := Nat.le_trans hz0 hx1.size
  clear hx1
  go_wp2_with fail
  refine (rruns_any 4 false _ (by decide)).mono ?_
  rintro e v_ ⟨rfl, rfl⟩
  have XA := Lib.hid (X1.out.trans (Ext.alloc w1 (.cells #[.int .u8 4] 5)))
  have HF : Hid (Own (w1.alloc (.cells #[.int .u8 4] 5)) (w.heap.size + 1) 5 IsU8 (some ⟨w1.heap.size, 0, none⟩) 1 1 (([4] : List UInt8).map cB)) := Lib.hid (Own.first w1 _ hz1 4 4 rfl)
  obtain ⟨V1, hV1⟩ : ∃ V1, w1.alloc (.cells #[.int .u8 4] 5) = V1 := ⟨_, rfl⟩
  rw [hV1] at XA HF ⊢
  have hz2 : w.heap.size + 1 ≤ V1.heap.size := Nat.le_trans hz0 XA.out.size
  obtain ⟨q0, q1, q2, q3, q4, q5, -⟩ := box6 (HBX.out _ XA.out)
  clear hV1 d0 d1 d2 d3 d4 d5 D0
  have VZ := Lib.hid (show V0.heap.size ≤ w.heap.size + 1 by rw [← HV0.out]; simp)
  go_wp2_with fail
  refine (reight_to [4] I 1 9 rfl (by omega) _ _ (w.heap.size + 1) V0 _ XA.out VZ.out HF.out hz2 (by omega)).mono ?_
  rintro e w5 ⟨A6, c6, rfl, ho, hx5⟩
  have HOx := Lib.hid ho
  have X5 := Lib.hid hx5
  obtain ⟨p0, p1, p2, p3, p4, p5, -⟩ := box6 (HBX.out _ hx5)
  clear ho hx5 q0 q1 q2 q3 q4 q5
  have hz5 : w.heap.size + 1 ≤ w5.heap.size := Nat.le_trans hz0 X5.out.size
  have hC8 : (UInt8.ofNat C).toNat = C := by simp; omega
  have hCw : IntKind.u8.wrap (C : Int) = (C : Int) := by rw [IntKind.wrap_u8]; omega
  have HlitC : Hid ((#[.int .u8 (C : Int)] : Array Value).toList = [UInt8.ofNat C].map cB ++ []) := by show _ = _; simp only [List.map_cons, List.map_nil, cB, hC8, List.append_nil]
  clear hC8
  go_wp2_with (at_builtin
               go_must (refine app_u8 (base := w.heap.size + 1) _ rfl (.tmp 33) (.tmp 37) rfl rfl (HOx.out.ext (Ext.alloc _ _)) rfl (Rd.of_heap (ys := []) (heap_alloc_new w5 _) HlitC.out rfl) isU8_map (by omega) (Nat.le_trans hz5 (Ext.alloc _ _).size) ?_)
               intro A7 c7 w6 hown hg hbk
               rw [← List.map_append] at hown
               have HO := Lib.hid hown
               have X := Lib.hid ((X5.out.trans (Ext.alloc _ _)).grown' hg (fun g hg => Nat.le_trans VZ.out (HOx.out.lt g hg).1))
               clear hown hg hbk)
  go_loopw [5, 6] (fun b i wr => ∃ (k : Nat) (A1 : Option Addr) (c1 : Nat), k ≤ n ∧ i = .int .i64 (k : Int) ∧ b = .slice A1 (10 + k) c1 ∧ Hid (Own wr (w.heap.size + 1) 5 IsU8 A1 (10 + k) c1 ((([4] ++ be I 8 ++ [UInt8.ofNat C]) ++ l.take k).map cB)) ∧ Hid (Ext V0 wr)) (fun _ i _ => n - (intOf i).toNat)
  case atStart => exact ⟨0, _, _, Nat.zero_le _, rfl, rfl, by have h := HO.out; simpa [Hid] using h, X⟩
  case round =>
    obtain ⟨k, A1, c1, hk, rfl, rfl, HO1, HX⟩ := hrel
    obtain ⟨-, -, -, -, -, k5, -⟩ := box6 (HBX.out _ HX.out)
    rcases Nat.lt_or_ge k n with hlt | hge
    · obtain ⟨bk, off, rfl, hbk, hcell⟩ := HB.out.u8all (by omega)
      have hck := (XW.out.trans HX.out).cell hbk (hcell k hlt)
      have Hst : Hid (l.take (k + 1) = l.take k ++ [l.getD k 0]) := by
        unfold Hid
        rw [List.take_succ_eq_append_getElem (by omega), List.getD_eq_getElem?_getD, List.getElem?_eq_getElem (by omega)]; rfl
      have Hlit : Hid ((#[.int .u8 ((l.getD k 0).toNat : Int)] : Array Value).toList = [l.getD k 0].map cB ++ []) := by show [_] = _; rfl
      generalize hy : l.getD k 0 = y at *
      generalize hx : y.toNat = x at *
      have Hy := Lib.hid hy; have Hx := Lib.hid hx
      have hkc : (k : Int) < (n : Int) := by omega
      have hzr : w.heap.size + 1 ≤ wr.heap.size := Nat.le_trans hz0 HX.out.size
      clear hcell hy hx hn hcap
      go_wp2_with (at_builtin
                   go_must (refine app_u8 (base := w.heap.size + 1) _ rfl (.tmp 46) (.tmp 52) rfl rfl (HO1.out.ext (Ext.alloc _ _)) rfl (Rd.of_heap (ys := []) (heap_alloc_new wr _) Hlit.out rfl) isU8_map (by omega) (Nat.le_trans hzr (Ext.alloc _ _).size) ?_)
                   intro A3 c3 w3 hown hg hbk
                   have HO3 := Lib.hid hown
                   have X3 := Lib.hid ((HX.out.trans (Ext.alloc _ _)).grown' hg (fun g hg => Nat.le_trans VZ.out (HO1.out.lt g hg).1))
                   clear hown hg hbk)
      go_roundw
      case rel => exact ⟨k + 1, A3, c3, by omega, by go_num, rfl, by have h := HO3.out; rw [← List.map_append, List.append_assoc, ← Hst.out] at h; exact h, X3⟩
      case measure => simp [intOf]; omega
    · obtain rfl : k = n := by omega
      have HO2 : Hid (Own wr (w.heap.size + 1) 5 IsU8 A1 (10 + k) c1 ((([4] ++ be I 8 ++ [UInt8.ofNat C]) ++ l).map cB)) := by have h := HO1.out; rw [List.take_of_length_le (by omega)] at h; exact h
      clear hn hcap
      go_wp2_with fail
      refine (refSeal32_any (([4] ++ be I 8 ++ [UInt8.ofNat C]) ++ l) _ _ _ _ HO2.out.rd (by omega)).mono ?_
      rintro e w7 ⟨A9, c9, rfl, ho9, hb9⟩
      have HO9 := Lib.hid ho9
      have X9 := Lib.hid (Ext.of hb9)
      clear ho9 hb9
      go_wp2_with fail
      go_ret2
      have e : (([4] ++ be I 8 ++ [UInt8.ofNat C]) ++ l : List UInt8) = 4 :: (be I 8 ++ [UInt8.ofNat C] ++ l) := by simp
      rw [← e]
      exact RetU.seal (XW.out.trans HX.out) HO9.out X9.out

theorem rpacPut_any (p : PacD) (A : Option Addr) (n c : Nat) (w : World) (hr : PacRd w p A n c) : Calls Try.prog 32 #[pacV p A n c] w (RetU w (putP p).1 (putP p).2) := by
  by_cases h : checkP p = 0
  · rw [putP_ok h]
    rcases pac_cases h with ⟨E, S, l, h1, h2, h3, h4, h5, rfl⟩ | ⟨E, S, h1, h2, h3, rfl⟩ | ⟨I, l, h1, h2, h3, h4, rfl⟩ | ⟨I, C, h1, h2, h3, rfl⟩
    · have e : rawP ⟨1, E, S, 0, 0, l⟩ = UInt8.ofNat 1 :: ((be E 8 ++ be S 8) ++ l) := by simp [rawP, headP, runsP, be8]
      rw [e]
      exact rputRuns1 E S l A n c w hr h h2 (by omega) h5
    · have e : rawP ⟨2, E, S, 0, 0, []⟩ = UInt8.ofNat 2 :: ((be E 8 ++ be S 8) ++ []) := by simp [rawP, headP, runsP, be8]
      rw [e]
      exact rputRuns2 E S [] A n c w hr h h2 h3 (by simp)
    · have e : rawP ⟨3, 0, 0, I, 0, l⟩ = 3 :: (be I 8 ++ l) := by simp [rawP, headP, runsP, be8]
      rw [e]
      exact rputCmd I l A n c w hr h h2 (by omega)
    · have e : rawP ⟨4, 0, 0, I, C, []⟩ = 4 :: (be I 8 ++ [UInt8.ofNat C] ++ []) := by simp [rawP, headP, runsP, be8]
      rw [e]
      exact rputDone I C [] A n c w hr h h2 h3 (by simp)
  · rw [putP_no h]
    exact rputNo p A n c w hr h
end Go.Proofs.Ytifojmmggcenkaa
