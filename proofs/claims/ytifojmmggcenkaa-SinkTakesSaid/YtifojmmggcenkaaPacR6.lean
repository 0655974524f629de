/- outstationref21.Get: the kinds with a body, read whole. Printed by wip/genpacr6.py. -/
import Derived.Test.YtifojmmggcenkaaPacR5
namespace Go.Proofs.Ytifojmmggcenkaa
set_option linter.unusedVariables false
set_option linter.unusedSimpArgs false
set_option maxRecDepth 100000
set_option maxHeartbeats 4000000
open Go Go.RowKit Go.Out

theorem rget_k1 (b inn : List UInt8) (A : Option Addr) (m c : Nat) (w : World) (hr : Rd w A m (b.map cB)) (hc : m ≤ c) (hm : m ≤ 140737488355300) (h5 : 5 ≤ m) (ho : openF 4 (more32 0) b = (inn, 0)) (hin : 1 ≤ inn.length) (hk : kindN inn = 1) (hh : 17 ≤ inn.length) :
    Calls Try.prog 31 #[.slice A m c] w (RetGP w (retP ⟨1, numAt inn 1, numAt inn 9, 0, 0, inn.drop 17⟩)) := by
  have h5' : ¬ (m : Int) < 5 := by omega
  have hl0 := hr.length
  have HO : Hid (∀ (W : World), Ext w W → Calls Try.prog 37 #[.slice A m c] W (RetS W 5 (inn, 0))) := fun W hX => by
    have h := refOpen32_any b A m c W (hr.ext hX) hc hm
    rwa [ho] at h
  have hsm : inn.length ≤ 140737488355300 := by
    have hs := openF_zero (show (openF 4 (more32 0) b).2 = 0 by rw [ho])
    rw [ho] at hs
    have := congrArg List.length hs
    rw [sealF_length] at this
    simp only at this
    omega
  clear hr ho
  obtain ⟨K, hK⟩ : ∃ K, checkP ⟨1, numAt inn 1, numAt inn 9, 0, 0, inn.drop 17⟩ = K := ⟨_, rfl⟩
  have HH := Lib.hid hh
  clear hh
  have HN1X := Lib.hid (fun (w1 : World) (base bk off n c1 : Nat) (hown : Own w1 base 5 IsU8 (some ⟨bk, off, none⟩) n c1 (inn.map cB)) => rat_at 1 hown)
  have HN9X := Lib.hid (fun (w1 : World) (base bk off n c1 : Nat) (hown : Own w1 base 5 IsU8 (some ⟨bk, off, none⟩) n c1 (inn.map cB)) => rat_at 9 hown)
  have hE := numAt_i64 inn 1
  have hS := numAt_i64 inn 9
  have HLB := Lib.hid (show (inn.drop 17).length = inn.length - 17 by rw [List.length_drop])
  have HLX := Lib.hid (fun (w1 : World) (base bk off n c1 : Nat) (hown : Own w1 base 5 IsU8 (some ⟨bk, off, none⟩) n c1 (inn.map cB)) => own_rd8 hown (k := 17))
  generalize numAt inn 1 = E at *
  generalize numAt inn 9 = S at *
  generalize inn.drop 17 = l at *
  go_enter Try.func31, Try.ntmps31
  go_wp2_with fail
  refine (HO.out _ (Ext.alloc _ _)).mono ?_
  rintro e w1 ⟨A1, n, c1, rfl, hown, hb⟩
  simp only at hown
  have hn : inn.length = n := by have := hown.len; simpa using this
  obtain ⟨bk, off, rfl, hbk, hcell⟩ := hown.rd.u8all (by have := HH.out; omega)
  have hcap := hown.cap
  have hcap2 := hown.capLe
  have c0 := hcell 0 (by have := HH.out; omega)
  rw [Nat.add_zero, show (inn.getD 0 0).toNat = kindN inn from rfl, hk] at c0
  have hnh : 17 ≤ n := by have := HH.out; omega
  have i0 : 0 < n := by omega
  have i0' : (0 : Int) < (n : Int) := by omega
  have hx := Ext.of hb
  have HX := Lib.hid hx
  have HX1 := Lib.hid ((Ext.alloc _ _).trans hx)
  have hsz1 : w.heap.size + 1 ≤ w1.heap.size := by have := hx.size; simpa using this
  have HN1 := Lib.hid (HN1X.out _ _ _ _ _ _ hown (by omega))
  have hlt : ¬ (n : Int) < 17 := by omega
  have hqh : (17 : Int) ≤ (n : Int) := by omega
  have HN9 := Lib.hid (HN9X.out _ _ _ _ _ _ hown (by omega))
  have HBD := Lib.hid ((HLX.out _ _ _ _ _ _ hown (by omega)))
  have hlb : l.length = n - 17 := by rw [HLB.out, hn]
  have hnm : n ≤ 140737488355300 := by omega
  have XA := Lib.hid (fun o => Ext.alloc w1 o)
  have XA2 := Lib.hid (fun o o2 => (Ext.alloc w1 o).trans (Ext.alloc _ o2))
  have HLE := Lib.hid hlb
  have HPK : Hid (∀ (W : World) (base c2 : Nat) (A2 : Option Addr), Own W base 5 IsU8 A2 (n - 17) c2 (l.map cB) → PacOw W base ⟨1, E, S, 0, 0, l⟩ A2 (n - 17) c2) := fun W base c2 A2 h => ⟨h, i64P_lit 1 (by omega), hE, hS, i64P_lit 0 (by omega), i64P_lit 0 (by omega)⟩
  have Hsz1 := Lib.hid hsz1
  have HK := Lib.hid hK
  clear hown hb hx hcell hE hS hn HN1X HN9X HLB HLX hlb hK hsm hl0
  obtain ⟨q, hq⟩ : ∃ q, n - 17 = q := ⟨_, rfl⟩
  have hq2 : n = q + 17 := by omega
  have hOwn0 : Hid (Own ((w1.alloc (.cells #[.int .i64 1, .int .i64 E, .int .i64 S, .int .i64 0, .int .i64 0, .slice none 0 0] 32)).alloc (.cells #[] 5)) (w1.alloc (.cells #[.int .i64 1, .int .i64 E, .int .i64 S, .int .i64 0, .int .i64 0, .slice none 0 0] 32)).heap.size 5 IsU8 (some ⟨w1.heap.size + 1, 0, none⟩) 0 0 []) := by
    have h := Own.new (w1.alloc (.cells #[.int .i64 1, .int .i64 E, .int .i64 S, .int .i64 0, .int .i64 0, .slice none 0 0] 32)) (Nat.le_refl _) 5 (p := IsU8) #[] 0 (by simp) (by simp) (by simp)
    simpa [Hid] using h
  have hcs : (c1 = 17 ∧ n = 17) ∨ (¬ c1 = 17 ∧ n = 17) ∨ (¬ c1 = 17 ∧ 17 < n) := by omega
  rcases hcs with ⟨hc1, hn1⟩ | ⟨hc1, hn1⟩ | ⟨hc1, hn1⟩
  · subst hc1 hn1
    have HRd : Hid (∀ W, Ext w1 W → Rd W (some ⟨bk, off, none⟩) (17 - 17) (l.map cB)) := fun W hX => by
      have h := HLE.out
      obtain rfl : l = [] := List.eq_nil_of_length_eq_zero (by omega)
      exact Rd.empty_ _ _
    clear HBD hq hq2
    go_wp2_with fail
    refine (rbt_t 1 1 4 _ (by omega)).mono ?_
    rintro e v_ ⟨rfl, rfl⟩
    go_wp2_with fail
    refine (rruns_any 1 true _ (by decide)).mono ?_
    rintro e v_ ⟨rfl, rfl⟩
    go_wp2_with fail
    refine (rruns_any 1 true _ (by decide)).mono ?_
    rintro e v_ ⟨rfl, rfl⟩
    go_wp2_with fail
    refine (HN1.out _ (XA.out _)).mono ?_
    rintro e v_ ⟨rfl, rfl⟩
    go_wp2_with fail
    refine (HN9.out _ (XA.out _)).mono ?_
    rintro e v_ ⟨rfl, rfl⟩
    go_wp2_with fail
    refine (rfull_any 1 true _ (by decide)).mono ?_
    rintro e v_ ⟨rfl, rfl⟩
    go_wp2_with (at_builtin; go_must (refine app_u8 _ rfl (.tmp 77) (.tmp 80) rfl rfl hOwn0.out rfl (HRd.out _ (XA2.out _ _)) isU8_map (by omega) (Ext.alloc _ _).size ?_); intro A2 c2 w2 hown2 hg2 hbk2; rw [List.nil_append, Nat.zero_add] at hown2; rw [Nat.zero_add]; have XE := Lib.hid ((Ext.alloc _ _).grown' hg2 (fun g hg => (hOwn0.out.lt g hg).1)); have HP2 := Lib.hid (HPK.out _ _ _ _ hown2); obtain ⟨g0, g1, g2, g3, g4, g5, f0, f1, f2, f3, f4, f5⟩ := box6 (XE.out.block (heap_alloc_new w1 _)); have HB2 := Lib.hid (XE.out.block (heap_alloc_new w1 _)); clear hown2 hg2 hbk2)
    clear g0 g1 g2 g3 g4 g5 f0 f1 f2 f3 f4 f5
    have HP3 : PacOw (w2.setCell ⟨w1.heap.size, 5, none⟩ (.slice A2 0 c2)) (w1.heap.size + 1) ⟨1, E, S, 0, 0, l⟩ A2 0 c2 := PacOw.set_below ((HP2.out).mono (by simp)) (by simp) _
    have hbx3 : (w2.setCell ⟨w1.heap.size, 5, none⟩ (.slice A2 0 c2)).heap[w1.heap.size]? = some (.cells #[.int .i64 1, .int .i64 E, .int .i64 S, .int .i64 0, .int .i64 0, .slice A2 0 c2] 32 (0, 0)) := heap_setCell_same _ _ _ _ _ _ HB2.out
    have hcall := rpacCheck_any ⟨1, E, S, 0, 0, l⟩ A2 0 c2 (w2.setCell ⟨w1.heap.size, 5, none⟩ (.slice A2 0 c2)) HP3.rd
    rw [HK.out] at hcall
    simp only [pacV] at hcall
    refine hcall.mono ?_
    clear hcall
    rintro e w4 ⟨rfl, hx4⟩
    obtain ⟨d0, d1, d2, d3, d4, d5, -⟩ := box6 (hx4.block hbx3)
    obtain ⟨b0, b1, b2, b3, b4, b5, e0, e1, e2, e3, e4, e5⟩ := box6 (((((HX.out.trans (XA.out _)).trans XE.out).set' (by simpa using Hsz1.out) _).trans hx4).block (heap_alloc_new w _))
    have HX4 := Lib.hid ((((HX1.out.trans (XA.out _)).trans XE.out).set' (show w.heap.size ≤ w1.heap.size by have := Hsz1.out; omega) _).trans hx4)
    have HP4 := Lib.hid (HP3.ext hx4)
    have hbb : w.heap.size < w1.heap.size + 1 := by omega
    clear hx4 hbx3 HP3
    by_cases hK0 : K = 0
    · subst hK0
      go_wp2_with fail
      refine bodyPost_ret (v := .tuple #[pacV ⟨1, E, S, 0, 0, l⟩ A2 0 c2, .int .i64 0]) (by simp [results, Try.results31, go_sem, pacV, *]) rfl ?_
      rw [retP_ok HK.out]
      refine ⟨_, _, _, rfl, ?_, ?_⟩
      · refine PacOw.mono (base := w1.heap.size + 1) ?_ (by omega)
        repeat' (first | with_reducible exact HP4.out | with_reducible refine PacOw.set_below ?_ (by simpa using hbb) _)
      · repeat' (first | with_reducible exact HX4.out | with_reducible refine Ext.set' ?_ (by simp) _)
    · have hne : (K != 0) = true := by simpa using hK0
      go_wp2_with fail
      refine bodyPost_ret (v := .tuple #[pacV pac0 none 0 0, .int .i64 K]) (by simp [results, Try.results31, go_sem, pacV, pac0, *]) rfl ?_
      rw [retP_no HK.out hK0]
      refine ⟨none, 0, 0, rfl, pacOw0 _ _, ?_⟩
      repeat' (first | with_reducible exact HX4.out | with_reducible refine Ext.set' ?_ (by simp) _)
  · subst hn1
    have HRd : Hid (∀ W, Ext w1 W → Rd W (some ⟨bk, off + 17, none⟩) (17 - 17) (l.map cB)) := fun W hX => HBD.out.rd.ext hX
    clear HBD hq hq2
    go_wp2_with fail
    refine (rbt_t 1 1 4 _ (by omega)).mono ?_
    rintro e v_ ⟨rfl, rfl⟩
    go_wp2_with fail
    refine (rruns_any 1 true _ (by decide)).mono ?_
    rintro e v_ ⟨rfl, rfl⟩
    go_wp2_with fail
    refine (rruns_any 1 true _ (by decide)).mono ?_
    rintro e v_ ⟨rfl, rfl⟩
    go_wp2_with fail
    refine (HN1.out _ (XA.out _)).mono ?_
    rintro e v_ ⟨rfl, rfl⟩
    go_wp2_with fail
    refine (HN9.out _ (XA.out _)).mono ?_
    rintro e v_ ⟨rfl, rfl⟩
    go_wp2_with fail
    refine (rfull_any 1 true _ (by decide)).mono ?_
    rintro e v_ ⟨rfl, rfl⟩
    go_wp2_with (at_builtin; go_must (refine app_u8 _ rfl (.tmp 77) (.tmp 80) rfl rfl hOwn0.out rfl (HRd.out _ (XA2.out _ _)) isU8_map (by omega) (Ext.alloc _ _).size ?_); intro A2 c2 w2 hown2 hg2 hbk2; rw [List.nil_append, Nat.zero_add] at hown2; rw [Nat.zero_add]; have XE := Lib.hid ((Ext.alloc _ _).grown' hg2 (fun g hg => (hOwn0.out.lt g hg).1)); have HP2 := Lib.hid (HPK.out _ _ _ _ hown2); obtain ⟨g0, g1, g2, g3, g4, g5, f0, f1, f2, f3, f4, f5⟩ := box6 (XE.out.block (heap_alloc_new w1 _)); have HB2 := Lib.hid (XE.out.block (heap_alloc_new w1 _)); clear hown2 hg2 hbk2)
    clear g0 g1 g2 g3 g4 g5 f0 f1 f2 f3 f4 f5
    have HP3 : PacOw (w2.setCell ⟨w1.heap.size, 5, none⟩ (.slice A2 0 c2)) (w1.heap.size + 1) ⟨1, E, S, 0, 0, l⟩ A2 0 c2 := PacOw.set_below ((HP2.out).mono (by simp)) (by simp) _
    have hbx3 : (w2.setCell ⟨w1.heap.size, 5, none⟩ (.slice A2 0 c2)).heap[w1.heap.size]? = some (.cells #[.int .i64 1, .int .i64 E, .int .i64 S, .int .i64 0, .int .i64 0, .slice A2 0 c2] 32 (0, 0)) := heap_setCell_same _ _ _ _ _ _ HB2.out
    have hcall := rpacCheck_any ⟨1, E, S, 0, 0, l⟩ A2 0 c2 (w2.setCell ⟨w1.heap.size, 5, none⟩ (.slice A2 0 c2)) HP3.rd
    rw [HK.out] at hcall
    simp only [pacV] at hcall
    refine hcall.mono ?_
    clear hcall
    rintro e w4 ⟨rfl, hx4⟩
    obtain ⟨d0, d1, d2, d3, d4, d5, -⟩ := box6 (hx4.block hbx3)
    obtain ⟨b0, b1, b2, b3, b4, b5, e0, e1, e2, e3, e4, e5⟩ := box6 (((((HX.out.trans (XA.out _)).trans XE.out).set' (by simpa using Hsz1.out) _).trans hx4).block (heap_alloc_new w _))
    have HX4 := Lib.hid ((((HX1.out.trans (XA.out _)).trans XE.out).set' (show w.heap.size ≤ w1.heap.size by have := Hsz1.out; omega) _).trans hx4)
    have HP4 := Lib.hid (HP3.ext hx4)
    have hbb : w.heap.size < w1.heap.size + 1 := by omega
    clear hx4 hbx3 HP3
    by_cases hK0 : K = 0
    · subst hK0
      go_wp2_with fail
      refine bodyPost_ret (v := .tuple #[pacV ⟨1, E, S, 0, 0, l⟩ A2 0 c2, .int .i64 0]) (by simp [results, Try.results31, go_sem, pacV, *]) rfl ?_
      rw [retP_ok HK.out]
      refine ⟨_, _, _, rfl, ?_, ?_⟩
      · refine PacOw.mono (base := w1.heap.size + 1) ?_ (by omega)
        repeat' (first | with_reducible exact HP4.out | with_reducible refine PacOw.set_below ?_ (by simpa using hbb) _)
      · repeat' (first | with_reducible exact HX4.out | with_reducible refine Ext.set' ?_ (by simp) _)
    · have hne : (K != 0) = true := by simpa using hK0
      go_wp2_with fail
      refine bodyPost_ret (v := .tuple #[pacV pac0 none 0 0, .int .i64 K]) (by simp [results, Try.results31, go_sem, pacV, pac0, *]) rfl ?_
      rw [retP_no HK.out hK0]
      refine ⟨none, 0, 0, rfl, pacOw0 _ _, ?_⟩
      repeat' (first | with_reducible exact HX4.out | with_reducible refine Ext.set' ?_ (by simp) _)
  · have hgt : (17 : Int) < (n : Int) := by omega
    have HRd : Hid (∀ W, Ext w1 W → Rd W (some ⟨bk, off + 17, none⟩) (n - 17) (l.map cB)) := fun W hX => HBD.out.rd.ext hX
    clear HBD hq hq2
    go_wp2_with fail
    refine (rbt_t 1 1 4 _ (by omega)).mono ?_
    rintro e v_ ⟨rfl, rfl⟩
    go_wp2_with fail
    refine (rruns_any 1 true _ (by decide)).mono ?_
    rintro e v_ ⟨rfl, rfl⟩
    go_wp2_with fail
    refine (rfull_any 1 true _ (by decide)).mono ?_
    rintro e v_ ⟨rfl, rfl⟩
    go_wp2_with fail
    refine (rruns_any 1 true _ (by decide)).mono ?_
    rintro e v_ ⟨rfl, rfl⟩
    go_wp2_with fail
    refine (HN1.out _ (XA.out _)).mono ?_
    rintro e v_ ⟨rfl, rfl⟩
    go_wp2_with fail
    refine (HN9.out _ (XA.out _)).mono ?_
    rintro e v_ ⟨rfl, rfl⟩
    go_wp2_with fail
    refine (rfull_any 1 true _ (by decide)).mono ?_
    rintro e v_ ⟨rfl, rfl⟩
    go_wp2_with (at_builtin; go_must (refine app_u8 _ rfl (.tmp 77) (.tmp 80) rfl rfl hOwn0.out rfl (HRd.out _ (XA2.out _ _)) isU8_map (by omega) (Ext.alloc _ _).size ?_); intro A2 c2 w2 hown2 hg2 hbk2; rw [List.nil_append, Nat.zero_add] at hown2; rw [Nat.zero_add]; have XE := Lib.hid ((Ext.alloc _ _).grown' hg2 (fun g hg => (hOwn0.out.lt g hg).1)); have HP2 := Lib.hid (HPK.out _ _ _ _ hown2); obtain ⟨g0, g1, g2, g3, g4, g5, f0, f1, f2, f3, f4, f5⟩ := box6 (XE.out.block (heap_alloc_new w1 _)); have HB2 := Lib.hid (XE.out.block (heap_alloc_new w1 _)); clear hown2 hg2 hbk2)
    clear g0 g1 g2 g3 g4 g5 f0 f1 f2 f3 f4 f5
    have HP3 : PacOw (w2.setCell ⟨w1.heap.size, 5, none⟩ (.slice A2 (n - 17) c2)) (w1.heap.size + 1) ⟨1, E, S, 0, 0, l⟩ A2 (n - 17) c2 := PacOw.set_below ((HP2.out).mono (by simp)) (by simp) _
    have hbx3 : (w2.setCell ⟨w1.heap.size, 5, none⟩ (.slice A2 (n - 17) c2)).heap[w1.heap.size]? = some (.cells #[.int .i64 1, .int .i64 E, .int .i64 S, .int .i64 0, .int .i64 0, .slice A2 (n - 17) c2] 32 (0, 0)) := heap_setCell_same _ _ _ _ _ _ HB2.out
    have hcall := rpacCheck_any ⟨1, E, S, 0, 0, l⟩ A2 (n - 17) c2 (w2.setCell ⟨w1.heap.size, 5, none⟩ (.slice A2 (n - 17) c2)) HP3.rd
    rw [HK.out] at hcall
    simp only [pacV] at hcall
    refine hcall.mono ?_
    clear hcall
    rintro e w4 ⟨rfl, hx4⟩
    obtain ⟨d0, d1, d2, d3, d4, d5, -⟩ := box6 (hx4.block hbx3)
    obtain ⟨b0, b1, b2, b3, b4, b5, e0, e1, e2, e3, e4, e5⟩ := box6 (((((HX.out.trans (XA.out _)).trans XE.out).set' (by simpa using Hsz1.out) _).trans hx4).block (heap_alloc_new w _))
    have HX4 := Lib.hid ((((HX1.out.trans (XA.out _)).trans XE.out).set' (show w.heap.size ≤ w1.heap.size by have := Hsz1.out; omega) _).trans hx4)
    have HP4 := Lib.hid (HP3.ext hx4)
    have hbb : w.heap.size < w1.heap.size + 1 := by omega
    clear hx4 hbx3 HP3
    by_cases hK0 : K = 0
    · subst hK0
      go_wp2_with fail
      refine bodyPost_ret (v := .tuple #[pacV ⟨1, E, S, 0, 0, l⟩ A2 (n - 17) c2, .int .i64 0]) (by simp [results, Try.results31, go_sem, pacV, *]) rfl ?_
      rw [retP_ok HK.out]
      refine ⟨_, _, _, rfl, ?_, ?_⟩
      · refine PacOw.mono (base := w1.heap.size + 1) ?_ (by omega)
        repeat' (first | with_reducible exact HP4.out | with_reducible refine PacOw.set_below ?_ (by simpa using hbb) _)
      · repeat' (first | with_reducible exact HX4.out | with_reducible refine Ext.set' ?_ (by simp) _)
    · have hne : (K != 0) = true := by simpa using hK0
      go_wp2_with fail
      refine bodyPost_ret (v := .tuple #[pacV pac0 none 0 0, .int .i64 K]) (by simp [results, Try.results31, go_sem, pacV, pac0, *]) rfl ?_
      rw [retP_no HK.out hK0]
      refine ⟨none, 0, 0, rfl, pacOw0 _ _, ?_⟩
      repeat' (first | with_reducible exact HX4.out | with_reducible refine Ext.set' ?_ (by simp) _)
theorem rget_k3 (b inn : List UInt8) (A : Option Addr) (m c : Nat) (w : World) (hr : Rd w A m (b.map cB)) (hc : m ≤ c) (hm : m ≤ 140737488355300) (h5 : 5 ≤ m) (ho : openF 4 (more32 0) b = (inn, 0)) (hin : 1 ≤ inn.length) (hk : kindN inn = 3) (hh : 9 ≤ inn.length) :
    Calls Try.prog 31 #[.slice A m c] w (RetGP w (retP ⟨3, 0, 0, numAt inn 1, 0, inn.drop 9⟩)) := by
  have h5' : ¬ (m : Int) < 5 := by omega
  have hl0 := hr.length
  have HO : Hid (∀ (W : World), Ext w W → Calls Try.prog 37 #[.slice A m c] W (RetS W 5 (inn, 0))) := fun W hX => by
    have h := refOpen32_any b A m c W (hr.ext hX) hc hm
    rwa [ho] at h
  have hsm : inn.length ≤ 140737488355300 := by
    have hs := openF_zero (show (openF 4 (more32 0) b).2 = 0 by rw [ho])
    rw [ho] at hs
    have := congrArg List.length hs
    rw [sealF_length] at this
    simp only at this
    omega
  clear hr ho
  obtain ⟨K, hK⟩ : ∃ K, checkP ⟨3, 0, 0, numAt inn 1, 0, inn.drop 9⟩ = K := ⟨_, rfl⟩
  have HH := Lib.hid hh
  clear hh
  have HN1X := Lib.hid (fun (w1 : World) (base bk off n c1 : Nat) (hown : Own w1 base 5 IsU8 (some ⟨bk, off, none⟩) n c1 (inn.map cB)) => rat_at 1 hown)
  have HN9X := Lib.hid (fun (w1 : World) (base bk off n c1 : Nat) (hown : Own w1 base 5 IsU8 (some ⟨bk, off, none⟩) n c1 (inn.map cB)) => rat_at 9 hown)
  have hE := numAt_i64 inn 1
  have hS := numAt_i64 inn 9
  have HLB := Lib.hid (show (inn.drop 9).length = inn.length - 9 by rw [List.length_drop])
  have HLX := Lib.hid (fun (w1 : World) (base bk off n c1 : Nat) (hown : Own w1 base 5 IsU8 (some ⟨bk, off, none⟩) n c1 (inn.map cB)) => own_rd8 hown (k := 9))
  generalize numAt inn 1 = E at *
  generalize numAt inn 9 = S at *
  generalize inn.drop 9 = l at *
  go_enter Try.func31, Try.ntmps31
  go_wp2_with fail
  refine (HO.out _ (Ext.alloc _ _)).mono ?_
  rintro e w1 ⟨A1, n, c1, rfl, hown, hb⟩
  simp only at hown
  have hn : inn.length = n := by have := hown.len; simpa using this
  obtain ⟨bk, off, rfl, hbk, hcell⟩ := hown.rd.u8all (by have := HH.out; omega)
  have hcap := hown.cap
  have hcap2 := hown.capLe
  have c0 := hcell 0 (by have := HH.out; omega)
  rw [Nat.add_zero, show (inn.getD 0 0).toNat = kindN inn from rfl, hk] at c0
  have hnh : 9 ≤ n := by have := HH.out; omega
  have i0 : 0 < n := by omega
  have i0' : (0 : Int) < (n : Int) := by omega
  have hx := Ext.of hb
  have HX := Lib.hid hx
  have HX1 := Lib.hid ((Ext.alloc _ _).trans hx)
  have hsz1 : w.heap.size + 1 ≤ w1.heap.size := by have := hx.size; simpa using this
  have HN1 := Lib.hid (HN1X.out _ _ _ _ _ _ hown (by omega))
  have hlt : ¬ (n : Int) < 9 := by omega
  have hqh : (9 : Int) ≤ (n : Int) := by omega
  have HBD := Lib.hid ((HLX.out _ _ _ _ _ _ hown (by omega)))
  have hlb : l.length = n - 9 := by rw [HLB.out, hn]
  have hnm : n ≤ 140737488355300 := by omega
  have XA := Lib.hid (fun o => Ext.alloc w1 o)
  have XA2 := Lib.hid (fun o o2 => (Ext.alloc w1 o).trans (Ext.alloc _ o2))
  have HLE := Lib.hid hlb
  have HPK : Hid (∀ (W : World) (base c2 : Nat) (A2 : Option Addr), Own W base 5 IsU8 A2 (n - 9) c2 (l.map cB) → PacOw W base ⟨3, 0, 0, E, 0, l⟩ A2 (n - 9) c2) := fun W base c2 A2 h => ⟨h, i64P_lit 3 (by omega), i64P_lit 0 (by omega), i64P_lit 0 (by omega), hE, i64P_lit 0 (by omega)⟩
  have Hsz1 := Lib.hid hsz1
  have HK := Lib.hid hK
  clear hown hb hx hcell hE hS hn HN1X HN9X HLB HLX hlb hK hsm hl0
  obtain ⟨q, hq⟩ : ∃ q, n - 9 = q := ⟨_, rfl⟩
  have hq2 : n = q + 9 := by omega
  have hOwn0 : Hid (Own ((w1.alloc (.cells #[.int .i64 3, .int .i64 0, .int .i64 0, .int .i64 E, .int .i64 0, .slice none 0 0] 32)).alloc (.cells #[] 5)) (w1.alloc (.cells #[.int .i64 3, .int .i64 0, .int .i64 0, .int .i64 E, .int .i64 0, .slice none 0 0] 32)).heap.size 5 IsU8 (some ⟨w1.heap.size + 1, 0, none⟩) 0 0 []) := by
    have h := Own.new (w1.alloc (.cells #[.int .i64 3, .int .i64 0, .int .i64 0, .int .i64 E, .int .i64 0, .slice none 0 0] 32)) (Nat.le_refl _) 5 (p := IsU8) #[] 0 (by simp) (by simp) (by simp)
    simpa [Hid] using h
  have hcs : (c1 = 9 ∧ n = 9) ∨ (¬ c1 = 9 ∧ n = 9) ∨ (¬ c1 = 9 ∧ 9 < n) := by omega
  rcases hcs with ⟨hc1, hn1⟩ | ⟨hc1, hn1⟩ | ⟨hc1, hn1⟩
  · subst hc1 hn1
    have HRd : Hid (∀ W, Ext w1 W → Rd W (some ⟨bk, off, none⟩) (9 - 9) (l.map cB)) := fun W hX => by
      have h := HLE.out
      obtain rfl : l = [] := List.eq_nil_of_length_eq_zero (by omega)
      exact Rd.empty_ _ _
    clear HBD hq hq2
    go_wp2_with fail
    refine (rbt_t 3 1 4 _ (by omega)).mono ?_
    rintro e v_ ⟨rfl, rfl⟩
    go_wp2_with fail
    refine (rruns_any 3 false _ (by decide)).mono ?_
    rintro e v_ ⟨rfl, rfl⟩
    go_wp2_with fail
    refine (rruns_any 3 false _ (by decide)).mono ?_
    rintro e v_ ⟨rfl, rfl⟩
    go_wp2_with fail
    refine (HN1.out _ (XA.out _)).mono ?_
    rintro e v_ ⟨rfl, rfl⟩
    go_wp2_with fail
    refine (rfull_any 3 true _ (by decide)).mono ?_
    rintro e v_ ⟨rfl, rfl⟩
    go_wp2_with (at_builtin; go_must (refine app_u8 _ rfl (.tmp 77) (.tmp 80) rfl rfl hOwn0.out rfl (HRd.out _ (XA2.out _ _)) isU8_map (by omega) (Ext.alloc _ _).size ?_); intro A2 c2 w2 hown2 hg2 hbk2; rw [List.nil_append, Nat.zero_add] at hown2; rw [Nat.zero_add]; have XE := Lib.hid ((Ext.alloc _ _).grown' hg2 (fun g hg => (hOwn0.out.lt g hg).1)); have HP2 := Lib.hid (HPK.out _ _ _ _ hown2); obtain ⟨g0, g1, g2, g3, g4, g5, f0, f1, f2, f3, f4, f5⟩ := box6 (XE.out.block (heap_alloc_new w1 _)); have HB2 := Lib.hid (XE.out.block (heap_alloc_new w1 _)); clear hown2 hg2 hbk2)
    clear g0 g1 g2 g3 g4 g5 f0 f1 f2 f3 f4 f5
    have HP3 : PacOw (w2.setCell ⟨w1.heap.size, 5, none⟩ (.slice A2 0 c2)) (w1.heap.size + 1) ⟨3, 0, 0, E, 0, l⟩ A2 0 c2 := PacOw.set_below ((HP2.out).mono (by simp)) (by simp) _
    have hbx3 : (w2.setCell ⟨w1.heap.size, 5, none⟩ (.slice A2 0 c2)).heap[w1.heap.size]? = some (.cells #[.int .i64 3, .int .i64 0, .int .i64 0, .int .i64 E, .int .i64 0, .slice A2 0 c2] 32 (0, 0)) := heap_setCell_same _ _ _ _ _ _ HB2.out
    have hcall := rpacCheck_any ⟨3, 0, 0, E, 0, l⟩ A2 0 c2 (w2.setCell ⟨w1.heap.size, 5, none⟩ (.slice A2 0 c2)) HP3.rd
    rw [HK.out] at hcall
    simp only [pacV] at hcall
    refine hcall.mono ?_
    clear hcall
    rintro e w4 ⟨rfl, hx4⟩
    obtain ⟨d0, d1, d2, d3, d4, d5, -⟩ := box6 (hx4.block hbx3)
    obtain ⟨b0, b1, b2, b3, b4, b5, e0, e1, e2, e3, e4, e5⟩ := box6 (((((HX.out.trans (XA.out _)).trans XE.out).set' (by simpa using Hsz1.out) _).trans hx4).block (heap_alloc_new w _))
    have HX4 := Lib.hid ((((HX1.out.trans (XA.out _)).trans XE.out).set' (show w.heap.size ≤ w1.heap.size by have := Hsz1.out; omega) _).trans hx4)
    have HP4 := Lib.hid (HP3.ext hx4)
    have hbb : w.heap.size < w1.heap.size + 1 := by omega
    clear hx4 hbx3 HP3
    by_cases hK0 : K = 0
    · subst hK0
      go_wp2_with fail
      refine bodyPost_ret (v := .tuple #[pacV ⟨3, 0, 0, E, 0, l⟩ A2 0 c2, .int .i64 0]) (by simp [results, Try.results31, go_sem, pacV, *]) rfl ?_
      rw [retP_ok HK.out]
      refine ⟨_, _, _, rfl, ?_, ?_⟩
      · refine PacOw.mono (base := w1.heap.size + 1) ?_ (by omega)
        repeat' (first | with_reducible exact HP4.out | with_reducible refine PacOw.set_below ?_ (by simpa using hbb) _)
      · repeat' (first | with_reducible exact HX4.out | with_reducible refine Ext.set' ?_ (by simp) _)
    · have hne : (K != 0) = true := by simpa using hK0
      go_wp2_with fail
      refine bodyPost_ret (v := .tuple #[pacV pac0 none 0 0, .int .i64 K]) (by simp [results, Try.results31, go_sem, pacV, pac0, *]) rfl ?_
      rw [retP_no HK.out hK0]
      refine ⟨none, 0, 0, rfl, pacOw0 _ _, ?_⟩
      repeat' (first | with_reducible exact HX4.out | with_reducible refine Ext.set' ?_ (by simp) _)
  · subst hn1
    have HRd : Hid (∀ W, Ext w1 W → Rd W (some ⟨bk, off + 9, none⟩) (9 - 9) (l.map cB)) := fun W hX => HBD.out.rd.ext hX
    clear HBD hq hq2
    go_wp2_with fail
    refine (rbt_t 3 1 4 _ (by omega)).mono ?_
    rintro e v_ ⟨rfl, rfl⟩
    go_wp2_with fail
    refine (rruns_any 3 false _ (by decide)).mono ?_
    rintro e v_ ⟨rfl, rfl⟩
    go_wp2_with fail
    refine (rruns_any 3 false _ (by decide)).mono ?_
    rintro e v_ ⟨rfl, rfl⟩
    go_wp2_with fail
    refine (HN1.out _ (XA.out _)).mono ?_
    rintro e v_ ⟨rfl, rfl⟩
    go_wp2_with fail
    refine (rfull_any 3 true _ (by decide)).mono ?_
    rintro e v_ ⟨rfl, rfl⟩
    go_wp2_with (at_builtin; go_must (refine app_u8 _ rfl (.tmp 77) (.tmp 80) rfl rfl hOwn0.out rfl (HRd.out _ (XA2.out _ _)) isU8_map (by omega) (Ext.alloc _ _).size ?_); intro A2 c2 w2 hown2 hg2 hbk2; rw [List.nil_append, Nat.zero_add] at hown2; rw [Nat.zero_add]; have XE := Lib.hid ((Ext.alloc _ _).grown' hg2 (fun g hg => (hOwn0.out.lt g hg).1)); have HP2 := Lib.hid (HPK.out _ _ _ _ hown2); obtain ⟨g0, g1, g2, g3, g4, g5, f0, f1, f2, f3, f4, f5⟩ := box6 (XE.out.block (heap_alloc_new w1 _)); have HB2 := Lib.hid (XE.out.block (heap_alloc_new w1 _)); clear hown2 hg2 hbk2)
    clear g0 g1 g2 g3 g4 g5 f0 f1 f2 f3 f4 f5
    have HP3 : PacOw (w2.setCell ⟨w1.heap.size, 5, none⟩ (.slice A2 0 c2)) (w1.heap.size + 1) ⟨3, 0, 0, E, 0, l⟩ A2 0 c2 := PacOw.set_below ((HP2.out).mono (by simp)) (by simp) _
    have hbx3 : (w2.setCell ⟨w1.heap.size, 5, none⟩ (.slice A2 0 c2)).heap[w1.heap.size]? = some (.cells #[.int .i64 3, .int .i64 0, .int .i64 0, .int .i64 E, .int .i64 0, .slice A2 0 c2] 32 (0, 0)) := heap_setCell_same _ _ _ _ _ _ HB2.out
    have hcall := rpacCheck_any ⟨3, 0, 0, E, 0, l⟩ A2 0 c2 (w2.setCell ⟨w1.heap.size, 5, none⟩ (.slice A2 0 c2)) HP3.rd
    rw [HK.out] at hcall
    simp only [pacV] at hcall
    refine hcall.mono ?_
    clear hcall
    rintro e w4 ⟨rfl, hx4⟩
    obtain ⟨d0, d1, d2, d3, d4, d5, -⟩ := box6 (hx4.block hbx3)
    obtain ⟨b0, b1, b2, b3, b4, b5, e0, e1, e2, e3, e4, e5⟩ := box6 (((((HX.out.trans (XA.out _)).trans XE.out).set' (by simpa using Hsz1.out) _).trans hx4).block (heap_alloc_new w _))
    have HX4 := Lib.hid ((((HX1.out.trans (XA.out _)).trans XE.out).set' (show w.heap.size ≤ w1.heap.size by have := Hsz1.out; omega) _).trans hx4)
    have HP4 := Lib.hid (HP3.ext hx4)
    have hbb : w.heap.size < w1.heap.size + 1 := by omega
    clear hx4 hbx3 HP3
    by_cases hK0 : K = 0
    · subst hK0
      go_wp2_with fail
      refine bodyPost_ret (v := .tuple #[pacV ⟨3, 0, 0, E, 0, l⟩ A2 0 c2, .int .i64 0]) (by simp [results, Try.results31, go_sem, pacV, *]) rfl ?_
      rw [retP_ok HK.out]
      refine ⟨_, _, _, rfl, ?_, ?_⟩
      · refine PacOw.mono (base := w1.heap.size + 1) ?_ (by omega)
        repeat' (first | with_reducible exact HP4.out | with_reducible refine PacOw.set_below ?_ (by simpa using hbb) _)
      · repeat' (first | with_reducible exact HX4.out | with_reducible refine Ext.set' ?_ (by simp) _)
    · have hne : (K != 0) = true := by simpa using hK0
      go_wp2_with fail
      refine bodyPost_ret (v := .tuple #[pacV pac0 none 0 0, .int .i64 K]) (by simp [results, Try.results31, go_sem, pacV, pac0, *]) rfl ?_
      rw [retP_no HK.out hK0]
      refine ⟨none, 0, 0, rfl, pacOw0 _ _, ?_⟩
      repeat' (first | with_reducible exact HX4.out | with_reducible refine Ext.set' ?_ (by simp) _)
  · have hgt : (9 : Int) < (n : Int) := by omega
    have HRd : Hid (∀ W, Ext w1 W → Rd W (some ⟨bk, off + 9, none⟩) (n - 9) (l.map cB)) := fun W hX => HBD.out.rd.ext hX
    clear HBD hq hq2
    go_wp2_with fail
    refine (rbt_t 3 1 4 _ (by omega)).mono ?_
    rintro e v_ ⟨rfl, rfl⟩
    go_wp2_with fail
    refine (rruns_any 3 false _ (by decide)).mono ?_
    rintro e v_ ⟨rfl, rfl⟩
    go_wp2_with fail
    refine (rfull_any 3 true _ (by decide)).mono ?_
    rintro e v_ ⟨rfl, rfl⟩
    go_wp2_with fail
    refine (rruns_any 3 false _ (by decide)).mono ?_
    rintro e v_ ⟨rfl, rfl⟩
    go_wp2_with fail
    refine (HN1.out _ (XA.out _)).mono ?_
    rintro e v_ ⟨rfl, rfl⟩
    go_wp2_with fail
    refine (rfull_any 3 true _ (by decide)).mono ?_
    rintro e v_ ⟨rfl, rfl⟩
    go_wp2_with (at_builtin; go_must (refine app_u8 _ rfl (.tmp 77) (.tmp 80) rfl rfl hOwn0.out rfl (HRd.out _ (XA2.out _ _)) isU8_map (by omega) (Ext.alloc _ _).size ?_); intro A2 c2 w2 hown2 hg2 hbk2; rw [List.nil_append, Nat.zero_add] at hown2; rw [Nat.zero_add]; have XE := Lib.hid ((Ext.alloc _ _).grown' hg2 (fun g hg => (hOwn0.out.lt g hg).1)); have HP2 := Lib.hid (HPK.out _ _ _ _ hown2); obtain ⟨g0, g1, g2, g3, g4, g5, f0, f1, f2, f3, f4, f5⟩ := box6 (XE.out.block (heap_alloc_new w1 _)); have HB2 := Lib.hid (XE.out.block (heap_alloc_new w1 _)); clear hown2 hg2 hbk2)
    clear g0 g1 g2 g3 g4 g5 f0 f1 f2 f3 f4 f5
    have HP3 : PacOw (w2.setCell ⟨w1.heap.size, 5, none⟩ (.slice A2 (n - 9) c2)) (w1.heap.size + 1) ⟨3, 0, 0, E, 0, l⟩ A2 (n - 9) c2 := PacOw.set_below ((HP2.out).mono (by simp)) (by simp) _
    have hbx3 : (w2.setCell ⟨w1.heap.size, 5, none⟩ (.slice A2 (n - 9) c2)).heap[w1.heap.size]? = some (.cells #[.int .i64 3, .int .i64 0, .int .i64 0, .int .i64 E, .int .i64 0, .slice A2 (n - 9) c2] 32 (0, 0)) := heap_setCell_same _ _ _ _ _ _ HB2.out
    have hcall := rpacCheck_any ⟨3, 0, 0, E, 0, l⟩ A2 (n - 9) c2 (w2.setCell ⟨w1.heap.size, 5, none⟩ (.slice A2 (n - 9) c2)) HP3.rd
    rw [HK.out] at hcall
    simp only [pacV] at hcall
    refine hcall.mono ?_
    clear hcall
    rintro e w4 ⟨rfl, hx4⟩
    obtain ⟨d0, d1, d2, d3, d4, d5, -⟩ := box6 (hx4.block hbx3)
    obtain ⟨b0, b1, b2, b3, b4, b5, e0, e1, e2, e3, e4, e5⟩ := box6 (((((HX.out.trans (XA.out _)).trans XE.out).set' (by simpa using Hsz1.out) _).trans hx4).block (heap_alloc_new w _))
    have HX4 := Lib.hid ((((HX1.out.trans (XA.out _)).trans XE.out).set' (show w.heap.size ≤ w1.heap.size by have := Hsz1.out; omega) _).trans hx4)
    have HP4 := Lib.hid (HP3.ext hx4)
    have hbb : w.heap.size < w1.heap.size + 1 := by omega
    clear hx4 hbx3 HP3
    by_cases hK0 : K = 0
    · subst hK0
      go_wp2_with fail
      refine bodyPost_ret (v := .tuple #[pacV ⟨3, 0, 0, E, 0, l⟩ A2 (n - 9) c2, .int .i64 0]) (by simp [results, Try.results31, go_sem, pacV, *]) rfl ?_
      rw [retP_ok HK.out]
      refine ⟨_, _, _, rfl, ?_, ?_⟩
      · refine PacOw.mono (base := w1.heap.size + 1) ?_ (by omega)
        repeat' (first | with_reducible exact HP4.out | with_reducible refine PacOw.set_below ?_ (by simpa using hbb) _)
      · repeat' (first | with_reducible exact HX4.out | with_reducible refine Ext.set' ?_ (by simp) _)
    · have hne : (K != 0) = true := by simpa using hK0
      go_wp2_with fail
      refine bodyPost_ret (v := .tuple #[pacV pac0 none 0 0, .int .i64 K]) (by simp [results, Try.results31, go_sem, pacV, pac0, *]) rfl ?_
      rw [retP_no HK.out hK0]
      refine ⟨none, 0, 0, rfl, pacOw0 _ _, ?_⟩
      repeat' (first | with_reducible exact HX4.out | with_reducible refine Ext.set' ?_ (by simp) _)
end Go.Proofs.Ytifojmmggcenkaa
