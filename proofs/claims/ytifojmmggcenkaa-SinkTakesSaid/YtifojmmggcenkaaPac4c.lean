/- Contract of packet.Get: kind 1. -/
import Derived.Test.YtifojmmggcenkaaPac4
namespace Go.Proofs.Ytifojmmggcenkaa
set_option linter.unusedVariables false
set_option linter.unusedSimpArgs false
set_option maxRecDepth 100000
set_option maxHeartbeats 2000000
open Go Go.RowKit Go.Out

theorem pget_k1 (b inn : List UInt8) (A : Option Addr) (m c : Nat) (w : World) (hr : Rd w A m (b.map cB)) (hc : m ≤ c) (hm : m ≤ 140737488355300) (h5 : 5 ≤ m) (ho : openF 4 (more32 0) b = (inn, 0)) (hin : 1 ≤ inn.length) (hk : kindN inn = 1) (hh : 17 ≤ inn.length) :
    Calls Try.prog 10 #[.slice A m c] w (RetGP w (retP ⟨1, numAt inn 1, numAt inn 9, 0, 0, inn.drop 17⟩)) := by
  have h5' : ¬ (m : Int) < 5 := by omega
  have HO : Hid (∀ (W : World), Ext w W → Calls Try.prog 26 #[.slice A m c] W (RetS W 5 (inn, 0))) := fun W hX => by
    have h := open32_any b A m c W (hr.ext hX) hc hm
    rwa [ho] at h
  clear hr ho
  have hidx := index5 1 17 (by omega)
  have hgt : ¬ (17 : Int) < (17 : Int) := by omega
  obtain ⟨K, hK⟩ : ∃ K, checkP ⟨1, numAt inn 1, numAt inn 9, 0, 0, inn.drop 17⟩ = K := ⟨_, rfl⟩
  have HH := Lib.hid hh
  clear hh
  have HCE := Lib.hid (fun (w1 : World) (bk off n : Nat) (hcell : ∀ j, j < n → w1.cell? ⟨bk, off + j, none⟩ = some (.int .u8 ((inn.getD j 0).toNat : Int))) => hcell 9)
  have HN1X := Lib.hid (fun (w1 : World) (base bk off n c1 : Nat) (hown : Own w1 base 5 IsU8 (some ⟨bk, off, none⟩) n c1 (inn.map cB)) => num_at 1 hown)
  have HN9X := Lib.hid (fun (w1 : World) (base bk off n c1 : Nat) (hown : Own w1 base 5 IsU8 (some ⟨bk, off, none⟩) n c1 (inn.map cB)) => num_at 9 hown)
  have hE := numAt_i64 inn 1
  have hS := numAt_i64 inn 9
  have hC := (inn.getD 9 0).toNat_lt
  have HLB := Lib.hid (show (inn.drop 17).length = inn.length - 17 by rw [List.length_drop])
  have HLX := Lib.hid (fun (w1 : World) (base bk off n c1 : Nat) (hown : Own w1 base 5 IsU8 (some ⟨bk, off, none⟩) n c1 (inn.map cB)) => own_rd8 hown (k := 17))
  generalize numAt inn 1 = E at *
  generalize numAt inn 9 = S at *
  generalize (inn.getD 9 0).toNat = C at *
  generalize inn.drop 17 = l at *
  by_cases hK0 : K = 0
  · subst hK0
    rw [retP_ok hK]
    go_enter Try.func10, Try.ntmps10
    go_wp2_with fail
    refine (HO.out _ (Ext.alloc _ _)).mono ?_
    rintro e w1 ⟨A1, n, c1, rfl, hown, hb⟩
    simp only at hown
    have hn : inn.length = n := by have := hown.len; simpa using this
    obtain ⟨bk, off, rfl, hbk, hcell⟩ := hown.rd.u8all (by have := HH.out; omega)
    have hcap := hown.cap
    have hcap2 := hown.capLe
    have c0 := hcell 0 (by have := HH.out; omega)
    rw [Nat.add_zero, show (inn.getD 0 0).toNat = kindN inn from rfl, hk] at c0
    have i0 : 0 < n := by omega
    have i0' : (0 : Int) < (n : Int) := by omega
    have hx := Ext.of hb
    have HOW := Lib.hid hown
    have HX := Lib.hid hx
    have HX1 := Lib.hid ((Ext.alloc _ _).trans hx)
    have hsz1 : w.heap.size + 1 ≤ w1.heap.size := by have := hx.size; simpa using this
    have HN1 := Lib.hid (HN1X.out _ _ _ _ _ _ hown (by have := HH.out; omega))
    have HN9 := Lib.hid (HN9X.out _ _ _ _ _ _ hown (by have := HH.out; omega))
    have hlt : ¬ (n : Int) < 17 := by have := HH.out; omega
    have q1 : (1 : Int) ≤ (n : Int) := by have := HH.out; omega
    have q9 : (9 : Int) ≤ (n : Int) := by have := HH.out; omega
    have hc1 : ¬ c1 = 1 := by have := HH.out; omega
    have hc9 : ¬ c1 = 9 := by have := HH.out; omega
    have HBD := Lib.hid (show Own w1 (w.heap.size + 1) 5 IsU8 (some ⟨bk, off + 17, none⟩) (n - 17) (c1 - 17) (l.map cB) from (HLX.out _ _ _ _ _ _ hown (by have := HH.out; omega)).mono (by simp))
    have hlb : l.length = n - 17 := by rw [HLB.out, hn]
    have hqh : (17 : Int) ≤ (n : Int) := by have := HH.out; omega
    clear hown hb hx hcell
    have hch : ¬ c1 = 17 := by
      intro e
      have := (kind_cases hK).2.2.2.1
      simp [leastF] at this
      omega
    have HCK : Hid (∀ W, Ext w1 W → Calls Try.prog 29 #[pacV ⟨1, E, S, 0, 0, l⟩ (some ⟨bk, off + 17, none⟩) (n - 17) (c1 - 17)] W (RetI W 0)) := fun W hX => by
      have hcc := pacCheck_any ⟨1, E, S, 0, 0, l⟩ (some ⟨bk, off + 17, none⟩) (n - 17) (c1 - 17) W ⟨HBD.out.rd.ext hX, i64P_lit 1 (by omega), hE, hS, i64P_lit 0 (by omega), i64P_lit 0 (by omega), ⟨by omega, by omega⟩⟩
      rwa [hK] at hcc
    have HPO : Hid (PacOw w1 (w.heap.size + 1) ⟨1, E, S, 0, 0, l⟩ (some ⟨bk, off + 17, none⟩) (n - 17) (c1 - 17)) := ⟨HBD.out, i64P_lit 1 (by omega), hE, hS, i64P_lit 0 (by omega), i64P_lit 0 (by omega)⟩
    clear hE hK hS HBD
    simp only [pacV] at HCK
    go_wp2_with fail
    refine (out_f 1 1 4 _ (by omega)).mono ?_
    rintro e v_ ⟨rfl, rfl⟩
    go_wp2_with fail
    have XD := Lib.hid (fun o => Ext.drew' (Ext.alloc w1 o))
    go_region_law ((
      go_simp
      go_at_call 28
      first
        | (with_reducible refine Calls.mono (HN1.out _ ?_) ?_
           · exact XD.out _)
        | (with_reducible refine Calls.mono (HN9.out _ ?_) ?_
           · exact XD.out _)
        | fail "no call"
      rintro e v_ ⟨rfl, rfl⟩))
    all_goals
      go_wp2_with fail
      have hbx : (w1.alloc (.cells #[.int .i64 1, .int .i64 E, .int .i64 S, .int .i64 0, .int .i64 0, .slice (some ⟨bk, off + 17, none⟩) (n - 17) (c1 - 17)] 32)).drew.heap[w1.heap.size]? = some (.cells #[.int .i64 1, .int .i64 E, .int .i64 S, .int .i64 0, .int .i64 0, .slice (some ⟨bk, off + 17, none⟩) (n - 17) (c1 - 17)] 32 (0, 0)) := heap_alloc_new w1 _
      have HEX : Hid (Ext w1 (w1.alloc (.cells #[.int .i64 1, .int .i64 E, .int .i64 S, .int .i64 0, .int .i64 0, .slice (some ⟨bk, off + 17, none⟩) (n - 17) (c1 - 17)] 32)).drew) := Ext.drew' (Ext.alloc _ _)
      refine (HCK.out _ HEX.out).mono ?_
      rintro e w4 ⟨rfl, hx4⟩
      obtain ⟨b0, b1, b2, b3, b4, b5, e0, e1, e2, e3, e4, e5⟩ := box6 ((HX.out.trans (HEX.out.trans hx4)).block (heap_alloc_new w _))
      obtain ⟨d0, d1, d2, d3, d4, d5, -⟩ := box6 (hx4.block hbx)
      have HX4 := Lib.hid (HX1.out.trans (HEX.out.trans hx4))
      have HO4 := Lib.hid (HPO.out.ext (HEX.out.trans hx4))
      clear hx4 hbx
      go_wp2_with fail
      refine bodyPost_ret (v := .tuple #[pacV ⟨1, E, S, 0, 0, l⟩ (some ⟨bk, off + 17, none⟩) (n - 17) (c1 - 17), .int .i64 0]) (by simp [results, Try.results10, go_sem, pacV, *]) rfl ⟨_, _, _, rfl, ?_, ?_⟩
      · refine PacOw.mono (base := w.heap.size + 1) ?_ (by omega)
        repeat' (first | with_reducible exact HO4.out | with_reducible refine PacOw.set_below ?_ (by simp) _)
      · repeat' (first | with_reducible exact HX4.out | with_reducible refine Ext.set' ?_ (by simp) _)
  · have hne : (K != 0) = true := by simpa using hK0
    rw [retP_no hK hK0]
    go_enter Try.func10, Try.ntmps10
    go_wp2_with fail
    refine (HO.out _ (Ext.alloc _ _)).mono ?_
    rintro e w1 ⟨A1, n, c1, rfl, hown, hb⟩
    simp only at hown
    have hn : inn.length = n := by have := hown.len; simpa using this
    obtain ⟨bk, off, rfl, hbk, hcell⟩ := hown.rd.u8all (by have := HH.out; omega)
    have hcap := hown.cap
    have hcap2 := hown.capLe
    have c0 := hcell 0 (by have := HH.out; omega)
    rw [Nat.add_zero, show (inn.getD 0 0).toNat = kindN inn from rfl, hk] at c0
    have i0 : 0 < n := by omega
    have i0' : (0 : Int) < (n : Int) := by omega
    have hx := Ext.of hb
    have HOW := Lib.hid hown
    have HX := Lib.hid hx
    have HX1 := Lib.hid ((Ext.alloc _ _).trans hx)
    have hsz1 : w.heap.size + 1 ≤ w1.heap.size := by have := hx.size; simpa using this
    have HN1 := Lib.hid (HN1X.out _ _ _ _ _ _ hown (by have := HH.out; omega))
    have HN9 := Lib.hid (HN9X.out _ _ _ _ _ _ hown (by have := HH.out; omega))
    have hlt : ¬ (n : Int) < 17 := by have := HH.out; omega
    have q1 : (1 : Int) ≤ (n : Int) := by have := HH.out; omega
    have q9 : (9 : Int) ≤ (n : Int) := by have := HH.out; omega
    have hc1 : ¬ c1 = 1 := by have := HH.out; omega
    have hc9 : ¬ c1 = 9 := by have := HH.out; omega
    have HBD := Lib.hid (show Own w1 (w.heap.size + 1) 5 IsU8 (some ⟨bk, off + 17, none⟩) (n - 17) (c1 - 17) (l.map cB) from (HLX.out _ _ _ _ _ _ hown (by have := HH.out; omega)).mono (by simp))
    have hlb : l.length = n - 17 := by rw [HLB.out, hn]
    have hqh : (17 : Int) ≤ (n : Int) := by have := HH.out; omega
    clear hown hb hx hcell
    by_cases hch : c1 = 17
    · subst hch
      obtain rfl : n = 17 := by omega
      have hl0 : l = [] := List.length_eq_zero_iff.1 (by omega)
      have HCK : Hid (∀ W, Ext w1 W → Calls Try.prog 29 #[pacV ⟨1, E, S, 0, 0, l⟩ (some ⟨bk, off, none⟩) 0 0] W (RetI W K)) := fun W hX => by
        have hcc := pacCheck_any ⟨1, E, S, 0, 0, l⟩ (some ⟨bk, off, none⟩) 0 0 W ⟨by rw [hl0]; exact Rd.empty_ _ _, i64P_lit 1 (by omega), hE, hS, i64P_lit 0 (by omega), i64P_lit 0 (by omega), ⟨Nat.le_refl _, Nat.zero_le _⟩⟩
        rwa [hK] at hcc
      clear hE hK hS hl0 hK0 HBD
      simp only [pacV] at HCK
      go_wp2_with fail
      refine (out_f 1 1 4 _ (by omega)).mono ?_
      rintro e v_ ⟨rfl, rfl⟩
      go_wp2_with fail
      have XD := Lib.hid (fun o => Ext.drew' (Ext.alloc w1 o))
      go_region_law ((
        go_simp
        go_at_call 28
        first
          | (with_reducible refine Calls.mono (HN1.out _ ?_) ?_
             · exact XD.out _)
          | (with_reducible refine Calls.mono (HN9.out _ ?_) ?_
             · exact XD.out _)
          | fail "no call"
        rintro e v_ ⟨rfl, rfl⟩))
      all_goals
        go_wp2_with fail
        have hbx : (w1.alloc (.cells #[.int .i64 1, .int .i64 E, .int .i64 S, .int .i64 0, .int .i64 0, .slice (some ⟨bk, off, none⟩) 0 0] 32)).drew.heap[w1.heap.size]? = some (.cells #[.int .i64 1, .int .i64 E, .int .i64 S, .int .i64 0, .int .i64 0, .slice (some ⟨bk, off, none⟩) 0 0] 32 (0, 0)) := heap_alloc_new w1 _
        have HEX : Hid (Ext w1 (w1.alloc (.cells #[.int .i64 1, .int .i64 E, .int .i64 S, .int .i64 0, .int .i64 0, .slice (some ⟨bk, off, none⟩) 0 0] 32)).drew) := Ext.drew' (Ext.alloc _ _)
        refine (HCK.out _ HEX.out).mono ?_
        rintro e w4 ⟨rfl, hx4⟩
        obtain ⟨b0, b1, b2, b3, b4, b5, e0, e1, e2, e3, e4, e5⟩ := box6 ((HX.out.trans (HEX.out.trans hx4)).block (heap_alloc_new w _))
        obtain ⟨d0, d1, d2, d3, d4, d5, -⟩ := box6 (hx4.block hbx)
        have HX4 := Lib.hid (HX1.out.trans (HEX.out.trans hx4))
        clear hx4 hbx
        go_wp2_with fail
        refine bodyPost_ret (v := .tuple #[pacV pac0 none 0 0, .int .i64 K]) (by simp [results, Try.results10, go_sem, pacV, pac0, *]) rfl ⟨none, 0, 0, rfl, pacOw0 _ _, ?_⟩
        repeat' (first | with_reducible exact HX4.out | with_reducible refine Ext.set' ?_ (by simp) _)
    · have HCK : Hid (∀ W, Ext w1 W → Calls Try.prog 29 #[pacV ⟨1, E, S, 0, 0, l⟩ (some ⟨bk, off + 17, none⟩) (n - 17) (c1 - 17)] W (RetI W K)) := fun W hX => by
        have hcc := pacCheck_any ⟨1, E, S, 0, 0, l⟩ (some ⟨bk, off + 17, none⟩) (n - 17) (c1 - 17) W ⟨HBD.out.rd.ext hX, i64P_lit 1 (by omega), hE, hS, i64P_lit 0 (by omega), i64P_lit 0 (by omega), ⟨by omega, by omega⟩⟩
        rwa [hK] at hcc
      clear hE hK hS HBD hK0
      simp only [pacV] at HCK
      go_wp2_with fail
      refine (out_f 1 1 4 _ (by omega)).mono ?_
      rintro e v_ ⟨rfl, rfl⟩
      go_wp2_with fail
      have XD := Lib.hid (fun o => Ext.drew' (Ext.alloc w1 o))
      go_region_law ((
        go_simp
        go_at_call 28
        first
          | (with_reducible refine Calls.mono (HN1.out _ ?_) ?_
             · exact XD.out _)
          | (with_reducible refine Calls.mono (HN9.out _ ?_) ?_
             · exact XD.out _)
          | fail "no call"
        rintro e v_ ⟨rfl, rfl⟩))
      all_goals
        go_wp2_with fail
        have hbx : (w1.alloc (.cells #[.int .i64 1, .int .i64 E, .int .i64 S, .int .i64 0, .int .i64 0, .slice (some ⟨bk, off + 17, none⟩) (n - 17) (c1 - 17)] 32)).drew.heap[w1.heap.size]? = some (.cells #[.int .i64 1, .int .i64 E, .int .i64 S, .int .i64 0, .int .i64 0, .slice (some ⟨bk, off + 17, none⟩) (n - 17) (c1 - 17)] 32 (0, 0)) := heap_alloc_new w1 _
        have HEX : Hid (Ext w1 (w1.alloc (.cells #[.int .i64 1, .int .i64 E, .int .i64 S, .int .i64 0, .int .i64 0, .slice (some ⟨bk, off + 17, none⟩) (n - 17) (c1 - 17)] 32)).drew) := Ext.drew' (Ext.alloc _ _)
        refine (HCK.out _ HEX.out).mono ?_
        rintro e w4 ⟨rfl, hx4⟩
        obtain ⟨b0, b1, b2, b3, b4, b5, e0, e1, e2, e3, e4, e5⟩ := box6 ((HX.out.trans (HEX.out.trans hx4)).block (heap_alloc_new w _))
        obtain ⟨d0, d1, d2, d3, d4, d5, -⟩ := box6 (hx4.block hbx)
        have HX4 := Lib.hid (HX1.out.trans (HEX.out.trans hx4))
        clear hx4 hbx
        go_wp2_with fail
        refine bodyPost_ret (v := .tuple #[pacV pac0 none 0 0, .int .i64 K]) (by simp [results, Try.results10, go_sem, pacV, pac0, *]) rfl ⟨none, 0, 0, rfl, pacOw0 _ _, ?_⟩
        repeat' (first | with_reducible exact HX4.out | with_reducible refine Ext.set' ?_ (by simp) _)

end Go.Proofs.Ytifojmmggcenkaa

namespace Go.Proofs.Ytifojmmggcenkaa
set_option linter.unusedVariables false
set_option linter.unusedSimpArgs false
set_option maxRecDepth 100000
set_option maxHeartbeats 2000000
open Go Go.RowKit Go.Out

theorem pget_k3 (b inn : List UInt8) (A : Option Addr) (m c : Nat) (w : World) (hr : Rd w A m (b.map cB)) (hc : m ≤ c) (hm : m ≤ 140737488355300) (h5 : 5 ≤ m) (ho : openF 4 (more32 0) b = (inn, 0)) (hin : 1 ≤ inn.length) (hk : kindN inn = 3) (hh : 9 ≤ inn.length) :
    Calls Try.prog 10 #[.slice A m c] w (RetGP w (retP ⟨3, 0, 0, numAt inn 1, 0, inn.drop 9⟩)) := by
  have h5' : ¬ (m : Int) < 5 := by omega
  have HO : Hid (∀ (W : World), Ext w W → Calls Try.prog 26 #[.slice A m c] W (RetS W 5 (inn, 0))) := fun W hX => by
    have h := open32_any b A m c W (hr.ext hX) hc hm
    rwa [ho] at h
  clear hr ho
  have hidx := index5 3 9 (by omega)
  have hgt : ¬ (9 : Int) < (9 : Int) := by omega
  obtain ⟨K, hK⟩ : ∃ K, checkP ⟨3, 0, 0, numAt inn 1, 0, inn.drop 9⟩ = K := ⟨_, rfl⟩
  have HH := Lib.hid hh
  clear hh
  have HCE := Lib.hid (fun (w1 : World) (bk off n : Nat) (hcell : ∀ j, j < n → w1.cell? ⟨bk, off + j, none⟩ = some (.int .u8 ((inn.getD j 0).toNat : Int))) => hcell 9)
  have HN1X := Lib.hid (fun (w1 : World) (base bk off n c1 : Nat) (hown : Own w1 base 5 IsU8 (some ⟨bk, off, none⟩) n c1 (inn.map cB)) => num_at 1 hown)
  have HN9X := Lib.hid (fun (w1 : World) (base bk off n c1 : Nat) (hown : Own w1 base 5 IsU8 (some ⟨bk, off, none⟩) n c1 (inn.map cB)) => num_at 9 hown)
  have hE := numAt_i64 inn 1
  have hS := numAt_i64 inn 9
  have hC := (inn.getD 9 0).toNat_lt
  have HLB := Lib.hid (show (inn.drop 9).length = inn.length - 9 by rw [List.length_drop])
  have HLX := Lib.hid (fun (w1 : World) (base bk off n c1 : Nat) (hown : Own w1 base 5 IsU8 (some ⟨bk, off, none⟩) n c1 (inn.map cB)) => own_rd8 hown (k := 9))
  generalize numAt inn 1 = E at *
  generalize numAt inn 9 = S at *
  generalize (inn.getD 9 0).toNat = C at *
  generalize inn.drop 9 = l at *
  by_cases hK0 : K = 0
  · subst hK0
    rw [retP_ok hK]
    go_enter Try.func10, Try.ntmps10
    go_wp2_with fail
    refine (HO.out _ (Ext.alloc _ _)).mono ?_
    rintro e w1 ⟨A1, n, c1, rfl, hown, hb⟩
    simp only at hown
    have hn : inn.length = n := by have := hown.len; simpa using this
    obtain ⟨bk, off, rfl, hbk, hcell⟩ := hown.rd.u8all (by have := HH.out; omega)
    have hcap := hown.cap
    have hcap2 := hown.capLe
    have c0 := hcell 0 (by have := HH.out; omega)
    rw [Nat.add_zero, show (inn.getD 0 0).toNat = kindN inn from rfl, hk] at c0
    have i0 : 0 < n := by omega
    have i0' : (0 : Int) < (n : Int) := by omega
    have hx := Ext.of hb
    have HOW := Lib.hid hown
    have HX := Lib.hid hx
    have HX1 := Lib.hid ((Ext.alloc _ _).trans hx)
    have hsz1 : w.heap.size + 1 ≤ w1.heap.size := by have := hx.size; simpa using this
    have HN1 := Lib.hid (HN1X.out _ _ _ _ _ _ hown (by have := HH.out; omega))
    have hlt : ¬ (n : Int) < 9 := by have := HH.out; omega
    have q1 : (1 : Int) ≤ (n : Int) := by have := HH.out; omega
    have q9 : (9 : Int) ≤ (n : Int) := by have := HH.out; omega
    have hc1 : ¬ c1 = 1 := by have := HH.out; omega
    have HBD := Lib.hid (show Own w1 (w.heap.size + 1) 5 IsU8 (some ⟨bk, off + 9, none⟩) (n - 9) (c1 - 9) (l.map cB) from (HLX.out _ _ _ _ _ _ hown (by have := HH.out; omega)).mono (by simp))
    have hlb : l.length = n - 9 := by rw [HLB.out, hn]
    have hqh : (9 : Int) ≤ (n : Int) := by have := HH.out; omega
    clear hown hb hx hcell
    have hch : ¬ c1 = 9 := by
      intro e
      have := (kind_cases hK).2.2.2.1
      simp [leastF] at this
      omega
    have HCK : Hid (∀ W, Ext w1 W → Calls Try.prog 29 #[pacV ⟨3, 0, 0, E, 0, l⟩ (some ⟨bk, off + 9, none⟩) (n - 9) (c1 - 9)] W (RetI W 0)) := fun W hX => by
      have hcc := pacCheck_any ⟨3, 0, 0, E, 0, l⟩ (some ⟨bk, off + 9, none⟩) (n - 9) (c1 - 9) W ⟨HBD.out.rd.ext hX, i64P_lit 3 (by omega), i64P_lit 0 (by omega), i64P_lit 0 (by omega), hE, i64P_lit 0 (by omega), ⟨by omega, by omega⟩⟩
      rwa [hK] at hcc
    have HPO : Hid (PacOw w1 (w.heap.size + 1) ⟨3, 0, 0, E, 0, l⟩ (some ⟨bk, off + 9, none⟩) (n - 9) (c1 - 9)) := ⟨HBD.out, i64P_lit 3 (by omega), i64P_lit 0 (by omega), i64P_lit 0 (by omega), hE, i64P_lit 0 (by omega)⟩
    clear hE hK hS HBD
    simp only [pacV] at HCK
    go_wp2_with fail
    refine (out_f 3 1 4 _ (by omega)).mono ?_
    rintro e v_ ⟨rfl, rfl⟩
    go_wp2_with fail
    refine Calls.mono (HN1.out _ (Ext.alloc _ _)) ?_
    rintro e v_ ⟨rfl, rfl⟩
    go_wp2_with fail
    have hbx : (w1.alloc (.cells #[.int .i64 3, .int .i64 0, .int .i64 0, .int .i64 E, .int .i64 0, .slice (some ⟨bk, off + 9, none⟩) (n - 9) (c1 - 9)] 32)).heap[w1.heap.size]? = some (.cells #[.int .i64 3, .int .i64 0, .int .i64 0, .int .i64 E, .int .i64 0, .slice (some ⟨bk, off + 9, none⟩) (n - 9) (c1 - 9)] 32 (0, 0)) := heap_alloc_new w1 _
    have HEX : Hid (Ext w1 (w1.alloc (.cells #[.int .i64 3, .int .i64 0, .int .i64 0, .int .i64 E, .int .i64 0, .slice (some ⟨bk, off + 9, none⟩) (n - 9) (c1 - 9)] 32))) := Ext.alloc _ _
    refine (HCK.out _ HEX.out).mono ?_
    rintro e w4 ⟨rfl, hx4⟩
    obtain ⟨b0, b1, b2, b3, b4, b5, e0, e1, e2, e3, e4, e5⟩ := box6 ((HX.out.trans (HEX.out.trans hx4)).block (heap_alloc_new w _))
    obtain ⟨d0, d1, d2, d3, d4, d5, -⟩ := box6 (hx4.block hbx)
    have HX4 := Lib.hid (HX1.out.trans (HEX.out.trans hx4))
    have HO4 := Lib.hid (HPO.out.ext (HEX.out.trans hx4))
    clear hx4 hbx
    go_wp2_with fail
    refine bodyPost_ret (v := .tuple #[pacV ⟨3, 0, 0, E, 0, l⟩ (some ⟨bk, off + 9, none⟩) (n - 9) (c1 - 9), .int .i64 0]) (by simp [results, Try.results10, go_sem, pacV, *]) rfl ⟨_, _, _, rfl, ?_, ?_⟩
    · refine PacOw.mono (base := w.heap.size + 1) ?_ (by omega)
      repeat' (first | with_reducible exact HO4.out | with_reducible refine PacOw.set_below ?_ (by simp) _)
    · repeat' (first | with_reducible exact HX4.out | with_reducible refine Ext.set' ?_ (by simp) _)
  · have hne : (K != 0) = true := by simpa using hK0
    rw [retP_no hK hK0]
    go_enter Try.func10, Try.ntmps10
    go_wp2_with fail
    refine (HO.out _ (Ext.alloc _ _)).mono ?_
    rintro e w1 ⟨A1, n, c1, rfl, hown, hb⟩
    simp only at hown
    have hn : inn.length = n := by have := hown.len; simpa using this
    obtain ⟨bk, off, rfl, hbk, hcell⟩ := hown.rd.u8all (by have := HH.out; omega)
    have hcap := hown.cap
    have hcap2 := hown.capLe
    have c0 := hcell 0 (by have := HH.out; omega)
    rw [Nat.add_zero, show (inn.getD 0 0).toNat = kindN inn from rfl, hk] at c0
    have i0 : 0 < n := by omega
    have i0' : (0 : Int) < (n : Int) := by omega
    have hx := Ext.of hb
    have HOW := Lib.hid hown
    have HX := Lib.hid hx
    have HX1 := Lib.hid ((Ext.alloc _ _).trans hx)
    have hsz1 : w.heap.size + 1 ≤ w1.heap.size := by have := hx.size; simpa using this
    have HN1 := Lib.hid (HN1X.out _ _ _ _ _ _ hown (by have := HH.out; omega))
    have hlt : ¬ (n : Int) < 9 := by have := HH.out; omega
    have q1 : (1 : Int) ≤ (n : Int) := by have := HH.out; omega
    have q9 : (9 : Int) ≤ (n : Int) := by have := HH.out; omega
    have hc1 : ¬ c1 = 1 := by have := HH.out; omega
    have HBD := Lib.hid (show Own w1 (w.heap.size + 1) 5 IsU8 (some ⟨bk, off + 9, none⟩) (n - 9) (c1 - 9) (l.map cB) from (HLX.out _ _ _ _ _ _ hown (by have := HH.out; omega)).mono (by simp))
    have hlb : l.length = n - 9 := by rw [HLB.out, hn]
    have hqh : (9 : Int) ≤ (n : Int) := by have := HH.out; omega
    clear hown hb hx hcell
    by_cases hch : c1 = 9
    · subst hch
      obtain rfl : n = 9 := by omega
      have hl0 : l = [] := List.length_eq_zero_iff.1 (by omega)
      have HCK : Hid (∀ W, Ext w1 W → Calls Try.prog 29 #[pacV ⟨3, 0, 0, E, 0, l⟩ (some ⟨bk, off, none⟩) 0 0] W (RetI W K)) := fun W hX => by
        have hcc := pacCheck_any ⟨3, 0, 0, E, 0, l⟩ (some ⟨bk, off, none⟩) 0 0 W ⟨by rw [hl0]; exact Rd.empty_ _ _, i64P_lit 3 (by omega), i64P_lit 0 (by omega), i64P_lit 0 (by omega), hE, i64P_lit 0 (by omega), ⟨Nat.le_refl _, Nat.zero_le _⟩⟩
        rwa [hK] at hcc
      clear hE hK hS hl0 hK0 HBD
      simp only [pacV] at HCK
      go_wp2_with fail
      refine (out_f 3 1 4 _ (by omega)).mono ?_
      rintro e v_ ⟨rfl, rfl⟩
      go_wp2_with fail
      refine Calls.mono (HN1.out _ (Ext.alloc _ _)) ?_
      rintro e v_ ⟨rfl, rfl⟩
      go_wp2_with fail
      have hbx : (w1.alloc (.cells #[.int .i64 3, .int .i64 0, .int .i64 0, .int .i64 E, .int .i64 0, .slice (some ⟨bk, off, none⟩) 0 0] 32)).heap[w1.heap.size]? = some (.cells #[.int .i64 3, .int .i64 0, .int .i64 0, .int .i64 E, .int .i64 0, .slice (some ⟨bk, off, none⟩) 0 0] 32 (0, 0)) := heap_alloc_new w1 _
      have HEX : Hid (Ext w1 (w1.alloc (.cells #[.int .i64 3, .int .i64 0, .int .i64 0, .int .i64 E, .int .i64 0, .slice (some ⟨bk, off, none⟩) 0 0] 32))) := Ext.alloc _ _
      refine (HCK.out _ HEX.out).mono ?_
      rintro e w4 ⟨rfl, hx4⟩
      obtain ⟨b0, b1, b2, b3, b4, b5, e0, e1, e2, e3, e4, e5⟩ := box6 ((HX.out.trans (HEX.out.trans hx4)).block (heap_alloc_new w _))
      obtain ⟨d0, d1, d2, d3, d4, d5, -⟩ := box6 (hx4.block hbx)
      have HX4 := Lib.hid (HX1.out.trans (HEX.out.trans hx4))
      clear hx4 hbx
      go_wp2_with fail
      refine bodyPost_ret (v := .tuple #[pacV pac0 none 0 0, .int .i64 K]) (by simp [results, Try.results10, go_sem, pacV, pac0, *]) rfl ⟨none, 0, 0, rfl, pacOw0 _ _, ?_⟩
      repeat' (first | with_reducible exact HX4.out | with_reducible refine Ext.set' ?_ (by simp) _)
    · have HCK : Hid (∀ W, Ext w1 W → Calls Try.prog 29 #[pacV ⟨3, 0, 0, E, 0, l⟩ (some ⟨bk, off + 9, none⟩) (n - 9) (c1 - 9)] W (RetI W K)) := fun W hX => by
        have hcc := pacCheck_any ⟨3, 0, 0, E, 0, l⟩ (some ⟨bk, off + 9, none⟩) (n - 9) (c1 - 9) W ⟨HBD.out.rd.ext hX, i64P_lit 3 (by omega), i64P_lit 0 (by omega), i64P_lit 0 (by omega), hE, i64P_lit 0 (by omega), ⟨by omega, by omega⟩⟩
        rwa [hK] at hcc
      clear hE hK hS HBD hK0
      simp only [pacV] at HCK
      go_wp2_with fail
      refine (out_f 3 1 4 _ (by omega)).mono ?_
      rintro e v_ ⟨rfl, rfl⟩
      go_wp2_with fail
      refine Calls.mono (HN1.out _ (Ext.alloc _ _)) ?_
      rintro e v_ ⟨rfl, rfl⟩
      go_wp2_with fail
      have hbx : (w1.alloc (.cells #[.int .i64 3, .int .i64 0, .int .i64 0, .int .i64 E, .int .i64 0, .slice (some ⟨bk, off + 9, none⟩) (n - 9) (c1 - 9)] 32)).heap[w1.heap.size]? = some (.cells #[.int .i64 3, .int .i64 0, .int .i64 0, .int .i64 E, .int .i64 0, .slice (some ⟨bk, off + 9, none⟩) (n - 9) (c1 - 9)] 32 (0, 0)) := heap_alloc_new w1 _
      have HEX : Hid (Ext w1 (w1.alloc (.cells #[.int .i64 3, .int .i64 0, .int .i64 0, .int .i64 E, .int .i64 0, .slice (some ⟨bk, off + 9, none⟩) (n - 9) (c1 - 9)] 32))) := Ext.alloc _ _
      refine (HCK.out _ HEX.out).mono ?_
      rintro e w4 ⟨rfl, hx4⟩
      obtain ⟨b0, b1, b2, b3, b4, b5, e0, e1, e2, e3, e4, e5⟩ := box6 ((HX.out.trans (HEX.out.trans hx4)).block (heap_alloc_new w _))
      obtain ⟨d0, d1, d2, d3, d4, d5, -⟩ := box6 (hx4.block hbx)
      have HX4 := Lib.hid (HX1.out.trans (HEX.out.trans hx4))
      clear hx4 hbx
      go_wp2_with fail
      refine bodyPost_ret (v := .tuple #[pacV pac0 none 0 0, .int .i64 K]) (by simp [results, Try.results10, go_sem, pacV, pac0, *]) rfl ⟨none, 0, 0, rfl, pacOw0 _ _, ?_⟩
      repeat' (first | with_reducible exact HX4.out | with_reducible refine Ext.set' ?_ (by simp) _)

end Go.Proofs.Ytifojmmggcenkaa
