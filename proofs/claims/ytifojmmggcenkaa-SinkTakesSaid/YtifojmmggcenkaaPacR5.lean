/- outstationref21.Get: the ways that end ahead of the numbers. Printed by wip/genpacr4.py. -/
import Derived.Test.YtifojmmggcenkaaPacR3
namespace Go.Proofs.Ytifojmmggcenkaa
set_option linter.unusedVariables false
set_option linter.unusedSimpArgs false
set_option maxRecDepth 100000
set_option maxHeartbeats 4000000
open Go Go.RowKit Go.Out
theorem rget_short (A : Option Addr) (m c : Nat) (w : World) (h : m < 5) : Calls Try.prog 31 #[.slice A m c] w (RetGP w (pac0, 1)) := by
  have h5 : (m : Int) < 5 := by omega
  go_enter Try.func31, Try.ntmps31
  go_wp2_with fail
  exact bodyPost_ret (v := .tuple #[pacV pac0 none 0 0, .int .i64 1]) (by simp [results, Try.results31, go_sem, pacV, pac0]) rfl ⟨none, 0, 0, rfl, pacOw0 _ _, Ext.alloc _ _⟩

theorem rget_open (b : List UInt8) (A : Option Addr) (m c : Nat) (w : World) (hr : Rd w A m (b.map cB)) (hc : m ≤ c) (hm : m ≤ 140737488355300) (h5 : 5 ≤ m) (he : (openF 4 (more32 0) b).2 ≠ 0) :
    Calls Try.prog 31 #[.slice A m c] w (RetGP w (pac0, (openF 4 (more32 0) b).2)) := by
  have h5' : ¬ (m : Int) < 5 := by omega
  have HO := Lib.hid (fun (W : World) (hX : Ext w W) => refOpen32_any b A m c W (hr.ext hX) hc hm)
  generalize openF 4 (more32 0) b = U at *
  obtain ⟨inn, E⟩ := U
  simp only at he ⊢
  have hne : (E != 0) = true := by simpa using he
  clear hr he
  go_enter Try.func31, Try.ntmps31
  go_wp2_with fail
  refine (HO.out _ (Ext.alloc _ _)).mono ?_
  rintro e w1 ⟨A1, n, c1, rfl, hown, hb⟩
  have hx := Ext.of hb
  obtain ⟨b0, b1, b2, b3, b4, b5, e0, e1, e2, e3, e4, e5⟩ := box6 (hx.block (heap_alloc_new w _))
  have HX := Lib.hid ((Ext.alloc _ _).trans hx)
  clear hown hb hx
  go_wp2_with fail
  refine bodyPost_ret (v := .tuple #[pacV pac0 none 0 0, .int .i64 E]) (by simp [results, Try.results31, go_sem, pacV, pac0, *]) rfl ⟨none, 0, 0, rfl, pacOw0 _ _, ?_⟩
  repeat' (first | with_reducible exact HX.out | with_reducible refine Ext.set' ?_ (by simp) _)

theorem rget_kind (k : Nat) (b inn : List UInt8) (A : Option Addr) (m c : Nat) (w : World) (hr : Rd w A m (b.map cB)) (hc : m ≤ c) (hm : m ≤ 140737488355300) (h5 : 5 ≤ m) (ho : openF 4 (more32 0) b = (inn, 0)) (hin : 1 ≤ inn.length) (hk : kindN inn = k) (hk1 : k < 1 ∨ 4 < k) :
    Calls Try.prog 31 #[.slice A m c] w (RetGP w (pac0, 28)) := by
  have h5' : ¬ (m : Int) < 5 := by omega
  have HO : Hid (∀ (W : World), Ext w W → Calls Try.prog 37 #[.slice A m c] W (RetS W 5 (inn, 0))) := fun W hX => by
    have h := refOpen32_any b A m c W (hr.ext hX) hc hm
    rwa [ho] at h
  clear hr ho
  have hk8 : k < 256 := by rw [← hk]; exact UInt8.toNat_lt _
  go_enter Try.func31, Try.ntmps31
  go_wp2_with fail
  refine (HO.out _ (Ext.alloc _ _)).mono ?_
  rintro e w1 ⟨A1, n, c1, rfl, hown, hb⟩
  simp only at hown
  have hn : inn.length = n := by have := hown.len; simpa using this
  obtain ⟨bk, off, rfl, hbk, hcell⟩ := hown.rd.u8all (by omega)
  have c0 := hcell 0 (by omega)
  rw [Nat.add_zero, show (inn.getD 0 0).toNat = kindN inn from rfl, hk] at c0
  have i0 : 0 < n := by omega
  have i0' : (0 : Int) < (n : Int) := by omega
  have hx := Ext.of hb
  have HX := Lib.hid hx
  have HX1 := Lib.hid ((Ext.alloc _ _).trans hx)
  have hsz1 : w.heap.size + 1 ≤ w1.heap.size := by have := hx.size; simpa using this
  clear hown hb hx hcell
  have DB := box6 ((HX.out.trans (Ext.alloc w1 (.cells #[.int .i64 (k : Int), .int .i64 0, .int .i64 0, .int .i64 0, .int .i64 0, .slice none 0 0] 32))).block (heap_alloc_new w _))
  have HDB := Lib.hid DB; clear DB
  have HX2 := Lib.hid (fun o => HX1.out.trans (Ext.alloc w1 o))
  go_wp2_with fail
  refine (rbt_f (k : Int) 1 4 _ (by omega)).mono ?_
  rintro e v_ ⟨rfl, rfl⟩
  obtain ⟨b0, b1, b2, b3, b4, b5, e0, e1, e2, e3, e4, e5⟩ := HDB.out
  go_wp2_with fail
  refine bodyPost_ret (v := .tuple #[pacV pac0 none 0 0, .int .i64 28]) (by simp [results, Try.results31, go_sem, pacV, pac0, *]) rfl ⟨none, 0, 0, rfl, pacOw0 _ _, ?_⟩
  repeat' (first | with_reducible exact HX2.out _ | with_reducible refine Ext.set' ?_ (by simp) _)

theorem rget_few1 (b inn : List UInt8) (A : Option Addr) (m c : Nat) (w : World) (hr : Rd w A m (b.map cB)) (hc : m ≤ c) (hm : m ≤ 140737488355300) (h5 : 5 ≤ m) (ho : openF 4 (more32 0) b = (inn, 0)) (hin : 1 ≤ inn.length) (hk : kindN inn = 1) (hh : inn.length < 17) :
    Calls Try.prog 31 #[.slice A m c] w (RetGP w (pac0, 1)) := by
  have h5' : ¬ (m : Int) < 5 := by omega
  have HO : Hid (∀ (W : World), Ext w W → Calls Try.prog 37 #[.slice A m c] W (RetS W 5 (inn, 0))) := fun W hX => by
    have h := refOpen32_any b A m c W (hr.ext hX) hc hm
    rwa [ho] at h
  clear hr ho
  go_enter Try.func31, Try.ntmps31
  go_wp2_with fail
  refine (HO.out _ (Ext.alloc _ _)).mono ?_
  rintro e w1 ⟨A1, n, c1, rfl, hown, hb⟩
  simp only at hown
  have hn : inn.length = n := by have := hown.len; simpa using this
  obtain ⟨bk, off, rfl, hbk, hcell⟩ := hown.rd.u8all (by omega)
  have c0 := hcell 0 (by omega)
  rw [Nat.add_zero, show (inn.getD 0 0).toNat = kindN inn from rfl, hk] at c0
  have i0 : 0 < n := by omega
  have i0' : (0 : Int) < (n : Int) := by omega
  have hx := Ext.of hb
  have HX := Lib.hid hx
  have HX1 := Lib.hid ((Ext.alloc _ _).trans hx)
  have hsz1 : w.heap.size + 1 ≤ w1.heap.size := by have := hx.size; simpa using this
  clear hown hb hx hcell
  have DB := box6 ((HX.out.trans (Ext.alloc w1 (.cells #[.int .i64 1, .int .i64 0, .int .i64 0, .int .i64 0, .int .i64 0, .slice none 0 0] 32))).block (heap_alloc_new w _))
  have HDB := Lib.hid DB; clear DB
  have HX2 := Lib.hid (fun o => HX1.out.trans (Ext.alloc w1 o))
  have hlt : (n : Int) < 17 := by omega
  go_wp2_with fail
  refine (rbt_t 1 1 4 _ (by omega)).mono ?_
  rintro e v_ ⟨rfl, rfl⟩
  go_wp2_with fail
  refine (rruns_any 1 true _ (by decide)).mono ?_
  rintro e v_ ⟨rfl, rfl⟩
  obtain ⟨b0, b1, b2, b3, b4, b5, e0, e1, e2, e3, e4, e5⟩ := HDB.out
  go_wp2_with fail
  refine bodyPost_ret (v := .tuple #[pacV pac0 none 0 0, .int .i64 1]) (by simp [results, Try.results31, go_sem, pacV, pac0, *]) rfl ⟨none, 0, 0, rfl, pacOw0 _ _, ?_⟩
  repeat' (first | with_reducible exact HX2.out _ | with_reducible refine Ext.set' ?_ (by simp) _)

theorem rget_few2 (b inn : List UInt8) (A : Option Addr) (m c : Nat) (w : World) (hr : Rd w A m (b.map cB)) (hc : m ≤ c) (hm : m ≤ 140737488355300) (h5 : 5 ≤ m) (ho : openF 4 (more32 0) b = (inn, 0)) (hin : 1 ≤ inn.length) (hk : kindN inn = 2) (hh : inn.length < 17) :
    Calls Try.prog 31 #[.slice A m c] w (RetGP w (pac0, 1)) := by
  have h5' : ¬ (m : Int) < 5 := by omega
  have HO : Hid (∀ (W : World), Ext w W → Calls Try.prog 37 #[.slice A m c] W (RetS W 5 (inn, 0))) := fun W hX => by
    have h := refOpen32_any b A m c W (hr.ext hX) hc hm
    rwa [ho] at h
  clear hr ho
  go_enter Try.func31, Try.ntmps31
  go_wp2_with fail
  refine (HO.out _ (Ext.alloc _ _)).mono ?_
  rintro e w1 ⟨A1, n, c1, rfl, hown, hb⟩
  simp only at hown
  have hn : inn.length = n := by have := hown.len; simpa using this
  obtain ⟨bk, off, rfl, hbk, hcell⟩ := hown.rd.u8all (by omega)
  have c0 := hcell 0 (by omega)
  rw [Nat.add_zero, show (inn.getD 0 0).toNat = kindN inn from rfl, hk] at c0
  have i0 : 0 < n := by omega
  have i0' : (0 : Int) < (n : Int) := by omega
  have hx := Ext.of hb
  have HX := Lib.hid hx
  have HX1 := Lib.hid ((Ext.alloc _ _).trans hx)
  have hsz1 : w.heap.size + 1 ≤ w1.heap.size := by have := hx.size; simpa using this
  clear hown hb hx hcell
  have DB := box6 ((HX.out.trans (Ext.alloc w1 (.cells #[.int .i64 2, .int .i64 0, .int .i64 0, .int .i64 0, .int .i64 0, .slice none 0 0] 32))).block (heap_alloc_new w _))
  have HDB := Lib.hid DB; clear DB
  have HX2 := Lib.hid (fun o => HX1.out.trans (Ext.alloc w1 o))
  have hlt : (n : Int) < 17 := by omega
  go_wp2_with fail
  refine (rbt_t 2 1 4 _ (by omega)).mono ?_
  rintro e v_ ⟨rfl, rfl⟩
  go_wp2_with fail
  refine (rruns_any 2 true _ (by decide)).mono ?_
  rintro e v_ ⟨rfl, rfl⟩
  obtain ⟨b0, b1, b2, b3, b4, b5, e0, e1, e2, e3, e4, e5⟩ := HDB.out
  go_wp2_with fail
  refine bodyPost_ret (v := .tuple #[pacV pac0 none 0 0, .int .i64 1]) (by simp [results, Try.results31, go_sem, pacV, pac0, *]) rfl ⟨none, 0, 0, rfl, pacOw0 _ _, ?_⟩
  repeat' (first | with_reducible exact HX2.out _ | with_reducible refine Ext.set' ?_ (by simp) _)

theorem rget_long2 (b inn : List UInt8) (A : Option Addr) (m c : Nat) (w : World) (hr : Rd w A m (b.map cB)) (hc : m ≤ c) (hm : m ≤ 140737488355300) (h5 : 5 ≤ m) (ho : openF 4 (more32 0) b = (inn, 0)) (hin : 1 ≤ inn.length) (hk : kindN inn = 2) (hh : 17 < inn.length) :
    Calls Try.prog 31 #[.slice A m c] w (RetGP w (pac0, 2)) := by
  have h5' : ¬ (m : Int) < 5 := by omega
  have HO : Hid (∀ (W : World), Ext w W → Calls Try.prog 37 #[.slice A m c] W (RetS W 5 (inn, 0))) := fun W hX => by
    have h := refOpen32_any b A m c W (hr.ext hX) hc hm
    rwa [ho] at h
  clear hr ho
  go_enter Try.func31, Try.ntmps31
  go_wp2_with fail
  refine (HO.out _ (Ext.alloc _ _)).mono ?_
  rintro e w1 ⟨A1, n, c1, rfl, hown, hb⟩
  simp only at hown
  have hn : inn.length = n := by have := hown.len; simpa using this
  obtain ⟨bk, off, rfl, hbk, hcell⟩ := hown.rd.u8all (by omega)
  have c0 := hcell 0 (by omega)
  rw [Nat.add_zero, show (inn.getD 0 0).toNat = kindN inn from rfl, hk] at c0
  have i0 : 0 < n := by omega
  have i0' : (0 : Int) < (n : Int) := by omega
  have hx := Ext.of hb
  have HX := Lib.hid hx
  have HX1 := Lib.hid ((Ext.alloc _ _).trans hx)
  have hsz1 : w.heap.size + 1 ≤ w1.heap.size := by have := hx.size; simpa using this
  clear hown hb hx hcell
  have DB := box6 ((HX.out.trans (Ext.alloc w1 (.cells #[.int .i64 2, .int .i64 0, .int .i64 0, .int .i64 0, .int .i64 0, .slice none 0 0] 32))).block (heap_alloc_new w _))
  have HDB := Lib.hid DB; clear DB
  have HX2 := Lib.hid (fun o => HX1.out.trans (Ext.alloc w1 o))
  have hlt : ¬ (n : Int) < 17 := by omega
  have hgt : (17 : Int) < (n : Int) := by omega
  go_wp2_with fail
  refine (rbt_t 2 1 4 _ (by omega)).mono ?_
  rintro e v_ ⟨rfl, rfl⟩
  go_wp2_with fail
  refine (rruns_any 2 true _ (by decide)).mono ?_
  rintro e v_ ⟨rfl, rfl⟩
  go_wp2_with fail
  refine (rfull_any 2 false _ (by decide)).mono ?_
  rintro e v_ ⟨rfl, rfl⟩
  obtain ⟨b0, b1, b2, b3, b4, b5, e0, e1, e2, e3, e4, e5⟩ := HDB.out
  go_wp2_with fail
  refine bodyPost_ret (v := .tuple #[pacV pac0 none 0 0, .int .i64 2]) (by simp [results, Try.results31, go_sem, pacV, pac0, *]) rfl ⟨none, 0, 0, rfl, pacOw0 _ _, ?_⟩
  repeat' (first | with_reducible exact HX2.out _ | with_reducible refine Ext.set' ?_ (by simp) _)

theorem rget_few3 (b inn : List UInt8) (A : Option Addr) (m c : Nat) (w : World) (hr : Rd w A m (b.map cB)) (hc : m ≤ c) (hm : m ≤ 140737488355300) (h5 : 5 ≤ m) (ho : openF 4 (more32 0) b = (inn, 0)) (hin : 1 ≤ inn.length) (hk : kindN inn = 3) (hh : inn.length < 9) :
    Calls Try.prog 31 #[.slice A m c] w (RetGP w (pac0, 1)) := by
  have h5' : ¬ (m : Int) < 5 := by omega
  have HO : Hid (∀ (W : World), Ext w W → Calls Try.prog 37 #[.slice A m c] W (RetS W 5 (inn, 0))) := fun W hX => by
    have h := refOpen32_any b A m c W (hr.ext hX) hc hm
    rwa [ho] at h
  clear hr ho
  go_enter Try.func31, Try.ntmps31
  go_wp2_with fail
  refine (HO.out _ (Ext.alloc _ _)).mono ?_
  rintro e w1 ⟨A1, n, c1, rfl, hown, hb⟩
  simp only at hown
  have hn : inn.length = n := by have := hown.len; simpa using this
  obtain ⟨bk, off, rfl, hbk, hcell⟩ := hown.rd.u8all (by omega)
  have c0 := hcell 0 (by omega)
  rw [Nat.add_zero, show (inn.getD 0 0).toNat = kindN inn from rfl, hk] at c0
  have i0 : 0 < n := by omega
  have i0' : (0 : Int) < (n : Int) := by omega
  have hx := Ext.of hb
  have HX := Lib.hid hx
  have HX1 := Lib.hid ((Ext.alloc _ _).trans hx)
  have hsz1 : w.heap.size + 1 ≤ w1.heap.size := by have := hx.size; simpa using this
  clear hown hb hx hcell
  have DB := box6 ((HX.out.trans (Ext.alloc w1 (.cells #[.int .i64 3, .int .i64 0, .int .i64 0, .int .i64 0, .int .i64 0, .slice none 0 0] 32))).block (heap_alloc_new w _))
  have HDB := Lib.hid DB; clear DB
  have HX2 := Lib.hid (fun o => HX1.out.trans (Ext.alloc w1 o))
  have hlt : (n : Int) < 9 := by omega
  go_wp2_with fail
  refine (rbt_t 3 1 4 _ (by omega)).mono ?_
  rintro e v_ ⟨rfl, rfl⟩
  go_wp2_with fail
  refine (rruns_any 3 false _ (by decide)).mono ?_
  rintro e v_ ⟨rfl, rfl⟩
  obtain ⟨b0, b1, b2, b3, b4, b5, e0, e1, e2, e3, e4, e5⟩ := HDB.out
  go_wp2_with fail
  refine bodyPost_ret (v := .tuple #[pacV pac0 none 0 0, .int .i64 1]) (by simp [results, Try.results31, go_sem, pacV, pac0, *]) rfl ⟨none, 0, 0, rfl, pacOw0 _ _, ?_⟩
  repeat' (first | with_reducible exact HX2.out _ | with_reducible refine Ext.set' ?_ (by simp) _)

theorem rget_few4 (b inn : List UInt8) (A : Option Addr) (m c : Nat) (w : World) (hr : Rd w A m (b.map cB)) (hc : m ≤ c) (hm : m ≤ 140737488355300) (h5 : 5 ≤ m) (ho : openF 4 (more32 0) b = (inn, 0)) (hin : 1 ≤ inn.length) (hk : kindN inn = 4) (hh : inn.length < 10) :
    Calls Try.prog 31 #[.slice A m c] w (RetGP w (pac0, 1)) := by
  have h5' : ¬ (m : Int) < 5 := by omega
  have HO : Hid (∀ (W : World), Ext w W → Calls Try.prog 37 #[.slice A m c] W (RetS W 5 (inn, 0))) := fun W hX => by
    have h := refOpen32_any b A m c W (hr.ext hX) hc hm
    rwa [ho] at h
  clear hr ho
  go_enter Try.func31, Try.ntmps31
  go_wp2_with fail
  refine (HO.out _ (Ext.alloc _ _)).mono ?_
  rintro e w1 ⟨A1, n, c1, rfl, hown, hb⟩
  simp only at hown
  have hn : inn.length = n := by have := hown.len; simpa using this
  obtain ⟨bk, off, rfl, hbk, hcell⟩ := hown.rd.u8all (by omega)
  have c0 := hcell 0 (by omega)
  rw [Nat.add_zero, show (inn.getD 0 0).toNat = kindN inn from rfl, hk] at c0
  have i0 : 0 < n := by omega
  have i0' : (0 : Int) < (n : Int) := by omega
  have hx := Ext.of hb
  have HX := Lib.hid hx
  have HX1 := Lib.hid ((Ext.alloc _ _).trans hx)
  have hsz1 : w.heap.size + 1 ≤ w1.heap.size := by have := hx.size; simpa using this
  clear hown hb hx hcell
  have DB := box6 ((HX.out.trans (Ext.alloc w1 (.cells #[.int .i64 4, .int .i64 0, .int .i64 0, .int .i64 0, .int .i64 0, .slice none 0 0] 32))).block (heap_alloc_new w _))
  have HDB := Lib.hid DB; clear DB
  have HX2 := Lib.hid (fun o => HX1.out.trans (Ext.alloc w1 o))
  have hlt : (n : Int) < 10 := by omega
  go_wp2_with fail
  refine (rbt_t 4 1 4 _ (by omega)).mono ?_
  rintro e v_ ⟨rfl, rfl⟩
  go_wp2_with fail
  refine (rruns_any 4 false _ (by decide)).mono ?_
  rintro e v_ ⟨rfl, rfl⟩
  obtain ⟨b0, b1, b2, b3, b4, b5, e0, e1, e2, e3, e4, e5⟩ := HDB.out
  go_wp2_with fail
  refine bodyPost_ret (v := .tuple #[pacV pac0 none 0 0, .int .i64 1]) (by simp [results, Try.results31, go_sem, pacV, pac0, *]) rfl ⟨none, 0, 0, rfl, pacOw0 _ _, ?_⟩
  repeat' (first | with_reducible exact HX2.out _ | with_reducible refine Ext.set' ?_ (by simp) _)

theorem rget_long4 (b inn : List UInt8) (A : Option Addr) (m c : Nat) (w : World) (hr : Rd w A m (b.map cB)) (hc : m ≤ c) (hm : m ≤ 140737488355300) (h5 : 5 ≤ m) (ho : openF 4 (more32 0) b = (inn, 0)) (hin : 1 ≤ inn.length) (hk : kindN inn = 4) (hh : 10 < inn.length) :
    Calls Try.prog 31 #[.slice A m c] w (RetGP w (pac0, 2)) := by
  have h5' : ¬ (m : Int) < 5 := by omega
  have HO : Hid (∀ (W : World), Ext w W → Calls Try.prog 37 #[.slice A m c] W (RetS W 5 (inn, 0))) := fun W hX => by
    have h := refOpen32_any b A m c W (hr.ext hX) hc hm
    rwa [ho] at h
  clear hr ho
  go_enter Try.func31, Try.ntmps31
  go_wp2_with fail
  refine (HO.out _ (Ext.alloc _ _)).mono ?_
  rintro e w1 ⟨A1, n, c1, rfl, hown, hb⟩
  simp only at hown
  have hn : inn.length = n := by have := hown.len; simpa using this
  obtain ⟨bk, off, rfl, hbk, hcell⟩ := hown.rd.u8all (by omega)
  have c0 := hcell 0 (by omega)
  rw [Nat.add_zero, show (inn.getD 0 0).toNat = kindN inn from rfl, hk] at c0
  have i0 : 0 < n := by omega
  have i0' : (0 : Int) < (n : Int) := by omega
  have hx := Ext.of hb
  have HX := Lib.hid hx
  have HX1 := Lib.hid ((Ext.alloc _ _).trans hx)
  have hsz1 : w.heap.size + 1 ≤ w1.heap.size := by have := hx.size; simpa using this
  clear hown hb hx hcell
  have DB := box6 ((HX.out.trans (Ext.alloc w1 (.cells #[.int .i64 4, .int .i64 0, .int .i64 0, .int .i64 0, .int .i64 0, .slice none 0 0] 32))).block (heap_alloc_new w _))
  have HDB := Lib.hid DB; clear DB
  have HX2 := Lib.hid (fun o => HX1.out.trans (Ext.alloc w1 o))
  have hlt : ¬ (n : Int) < 10 := by omega
  have hgt : (10 : Int) < (n : Int) := by omega
  go_wp2_with fail
  refine (rbt_t 4 1 4 _ (by omega)).mono ?_
  rintro e v_ ⟨rfl, rfl⟩
  go_wp2_with fail
  refine (rruns_any 4 false _ (by decide)).mono ?_
  rintro e v_ ⟨rfl, rfl⟩
  go_wp2_with fail
  refine (rfull_any 4 false _ (by decide)).mono ?_
  rintro e v_ ⟨rfl, rfl⟩
  obtain ⟨b0, b1, b2, b3, b4, b5, e0, e1, e2, e3, e4, e5⟩ := HDB.out
  go_wp2_with fail
  refine bodyPost_ret (v := .tuple #[pacV pac0 none 0 0, .int .i64 2]) (by simp [results, Try.results31, go_sem, pacV, pac0, *]) rfl ⟨none, 0, 0, rfl, pacOw0 _ _, ?_⟩
  repeat' (first | with_reducible exact HX2.out _ | with_reducible refine Ext.set' ?_ (by simp) _)

end Go.Proofs.Ytifojmmggcenkaa

namespace Go.Proofs.Ytifojmmggcenkaa
set_option linter.unusedVariables false
set_option linter.unusedSimpArgs false
set_option maxRecDepth 100000
set_option maxHeartbeats 4000000
open Go Go.RowKit Go.Out
theorem rat_at {w1 : World} {base bk off n c1 : Nat} {inn : List UInt8} (k : Nat) (h : Own w1 base 5 IsU8 (some ⟨bk, off, none⟩) n c1 (inn.map cB)) (hk : k + 8 ≤ n) : ∀ W, Ext w1 W → Calls Try.prog 41 #[.slice (some ⟨bk, off, none⟩) n c1, .int .i64 k] W (RetN W (numAt inn k)) := fun W hX =>
  rat_any inn _ n c1 k W (h.rd.ext hX) hk h.cap h.capLe

theorem rget_k2 (b inn : List UInt8) (A : Option Addr) (m c : Nat) (w : World) (hr : Rd w A m (b.map cB)) (hc : m ≤ c) (hm : m ≤ 140737488355300) (h5 : 5 ≤ m) (ho : openF 4 (more32 0) b = (inn, 0)) (hin : 1 ≤ inn.length) (hk : kindN inn = 2) (hh : 17 = inn.length) :
    Calls Try.prog 31 #[.slice A m c] w (RetGP w (retP ⟨2, numAt inn 1, numAt inn 9, 0, 0, []⟩)) := by
  have h5' : ¬ (m : Int) < 5 := by omega
  have HO : Hid (∀ (W : World), Ext w W → Calls Try.prog 37 #[.slice A m c] W (RetS W 5 (inn, 0))) := fun W hX => by
    have h := refOpen32_any b A m c W (hr.ext hX) hc hm
    rwa [ho] at h
  clear hr ho
  obtain ⟨K, hK⟩ : ∃ K, checkP ⟨2, numAt inn 1, numAt inn 9, 0, 0, []⟩ = K := ⟨_, rfl⟩
  have HH := Lib.hid hh
  clear hh
  have HN1X := Lib.hid (fun (w1 : World) (base bk off n c1 : Nat) (hown : Own w1 base 5 IsU8 (some ⟨bk, off, none⟩) n c1 (inn.map cB)) => rat_at 1 hown)
  have HN9X := Lib.hid (fun (w1 : World) (base bk off n c1 : Nat) (hown : Own w1 base 5 IsU8 (some ⟨bk, off, none⟩) n c1 (inn.map cB)) => rat_at 9 hown)
  have HCE := Lib.hid (fun (w1 : World) (bk off n : Nat) (hcell : ∀ j, j < n → w1.cell? ⟨bk, off + j, none⟩ = some (.int .u8 ((inn.getD j 0).toNat : Int))) => hcell 9)
  have hE := numAt_i64 inn 1
  have hS := numAt_i64 inn 9
  have hC := (inn.getD 9 0).toNat_lt
  generalize numAt inn 1 = E at *
  generalize numAt inn 9 = S at *
  generalize (inn.getD 9 0).toNat = C at *
  by_cases hK0 : K = 0
  · subst hK0
    rw [retP_ok hK]
    go_enter Try.func31, Try.ntmps31
    go_wp2_with fail
    refine (HO.out _ (Ext.alloc _ _)).mono ?_
    rintro e w1 ⟨A1, n, c1, rfl, hown, hb⟩
    simp only at hown
    have hn : inn.length = n := by have := hown.len; simpa using this
    have hn' : n = 17 := by have := HH.out; omega
    subst hn'
    obtain ⟨bk, off, rfl, hbk, hcell⟩ := hown.rd.u8all (by omega)
    have c0 := hcell 0 (by omega)
    rw [Nat.add_zero, show (inn.getD 0 0).toNat = kindN inn from rfl, hk] at c0
    have hx := Ext.of hb
    have HX := Lib.hid hx
    have HX1 := Lib.hid ((Ext.alloc _ _).trans hx)
    have hsz1 : w.heap.size + 1 ≤ w1.heap.size := by have := hx.size; simpa using this
    have HN1 := Lib.hid (HN1X.out _ _ _ _ _ _ hown (by omega))
    have HN9 := Lib.hid (HN9X.out _ _ _ _ _ _ hown (by omega))
    have HCK : Hid (∀ W, Ext w1 W → Calls Try.prog 42 #[pacV ⟨2, E, S, 0, 0, []⟩ none 0 0] W (RetI W 0)) := fun W hX => by
      have hcc := rpacCheck_any ⟨2, E, S, 0, 0, []⟩ none 0 0 W ⟨Rd.nil_ _, i64P_lit 2 (by omega), hE, hS, i64P_lit 0 (by omega), i64P_lit 0 (by omega), ⟨by omega, by omega⟩⟩
      rwa [hK] at hcc
    have HPO : Hid (∀ W, PacOw W (w.heap.size + 1) ⟨2, E, S, 0, 0, []⟩ none 0 0) := fun W => ⟨Own.nil_ _ _ _ _, i64P_lit 2 (by omega), hE, hS, i64P_lit 0 (by omega), i64P_lit 0 (by omega)⟩
    have XA := Lib.hid (fun o => Ext.alloc w1 o)
    clear hown hb hx hcell hE hS hK hn HN1X HN9X HCE
    simp only [pacV] at HCK
    go_wp2_with fail
    refine (rbt_t 2 1 4 _ (by omega)).mono ?_
    rintro e v_ ⟨rfl, rfl⟩
    go_wp2_with fail
    refine (rruns_any 2 true _ (by decide)).mono ?_
    rintro e v_ ⟨rfl, rfl⟩
    go_wp2_with fail
    refine (rruns_any 2 true _ (by decide)).mono ?_
    rintro e v_ ⟨rfl, rfl⟩
    go_wp2_with fail
    refine (HN1.out _ (XA.out _)).mono ?_
    rintro e v_ ⟨rfl, rfl⟩
    go_wp2_with fail
    refine (HN9.out _ (XA.out _)).mono ?_
    rintro e v_ ⟨rfl, rfl⟩
    go_wp2_with fail
    refine (rfull_any 2 false _ (by decide)).mono ?_
    rintro e v_ ⟨rfl, rfl⟩
    go_wp2_with fail
    have hbx : (w1.alloc (.cells #[.int .i64 2, .int .i64 E, .int .i64 S, .int .i64 0, .int .i64 0, .slice none 0 0] 32)).heap[w1.heap.size]? = some (.cells #[.int .i64 2, .int .i64 E, .int .i64 S, .int .i64 0, .int .i64 0, .slice none 0 0] 32 (0, 0)) := heap_alloc_new w1 _
    have HEX := XA.out (.cells #[.int .i64 2, .int .i64 E, .int .i64 S, .int .i64 0, .int .i64 0, .slice none 0 0] 32)
    refine (HCK.out _ HEX).mono ?_
    rintro e w4 ⟨rfl, hx4⟩
    obtain ⟨b0, b1, b2, b3, b4, b5, e0, e1, e2, e3, e4, e5⟩ := box6 ((HX.out.trans (HEX.trans hx4)).block (heap_alloc_new w _))
    obtain ⟨d0, d1, d2, d3, d4, d5, -⟩ := box6 (hx4.block hbx)
    have HX4 := Lib.hid (HX1.out.trans (HEX.trans hx4))
    clear hx4 hbx HEX
    go_wp2_with fail
    refine bodyPost_ret (v := .tuple #[pacV ⟨2, E, S, 0, 0, []⟩ none 0 0, .int .i64 0]) (by simp [results, Try.results31, go_sem, pacV, *]) rfl ⟨_, _, _, rfl, (HPO.out _).mono (by omega), ?_⟩
    repeat' (first | with_reducible exact HX4.out | with_reducible refine Ext.set' ?_ (by simp) _)
  · have hne : (K != 0) = true := by simpa using hK0
    rw [retP_no hK hK0]
    go_enter Try.func31, Try.ntmps31
    go_wp2_with fail
    refine (HO.out _ (Ext.alloc _ _)).mono ?_
    rintro e w1 ⟨A1, n, c1, rfl, hown, hb⟩
    simp only at hown
    have hn : inn.length = n := by have := hown.len; simpa using this
    have hn' : n = 17 := by have := HH.out; omega
    subst hn'
    obtain ⟨bk, off, rfl, hbk, hcell⟩ := hown.rd.u8all (by omega)
    have c0 := hcell 0 (by omega)
    rw [Nat.add_zero, show (inn.getD 0 0).toNat = kindN inn from rfl, hk] at c0
    have hx := Ext.of hb
    have HX := Lib.hid hx
    have HX1 := Lib.hid ((Ext.alloc _ _).trans hx)
    have hsz1 : w.heap.size + 1 ≤ w1.heap.size := by have := hx.size; simpa using this
    have HN1 := Lib.hid (HN1X.out _ _ _ _ _ _ hown (by omega))
    have HN9 := Lib.hid (HN9X.out _ _ _ _ _ _ hown (by omega))
    have HCK : Hid (∀ W, Ext w1 W → Calls Try.prog 42 #[pacV ⟨2, E, S, 0, 0, []⟩ none 0 0] W (RetI W K)) := fun W hX => by
      have hcc := rpacCheck_any ⟨2, E, S, 0, 0, []⟩ none 0 0 W ⟨Rd.nil_ _, i64P_lit 2 (by omega), hE, hS, i64P_lit 0 (by omega), i64P_lit 0 (by omega), ⟨by omega, by omega⟩⟩
      rwa [hK] at hcc
    have HPO : Hid (∀ W, PacOw W (w.heap.size + 1) ⟨2, E, S, 0, 0, []⟩ none 0 0) := fun W => ⟨Own.nil_ _ _ _ _, i64P_lit 2 (by omega), hE, hS, i64P_lit 0 (by omega), i64P_lit 0 (by omega)⟩
    have XA := Lib.hid (fun o => Ext.alloc w1 o)
    clear hown hb hx hcell hE hS hK hn HN1X HN9X HCE
    simp only [pacV] at HCK
    go_wp2_with fail
    refine (rbt_t 2 1 4 _ (by omega)).mono ?_
    rintro e v_ ⟨rfl, rfl⟩
    go_wp2_with fail
    refine (rruns_any 2 true _ (by decide)).mono ?_
    rintro e v_ ⟨rfl, rfl⟩
    go_wp2_with fail
    refine (rruns_any 2 true _ (by decide)).mono ?_
    rintro e v_ ⟨rfl, rfl⟩
    go_wp2_with fail
    refine (HN1.out _ (XA.out _)).mono ?_
    rintro e v_ ⟨rfl, rfl⟩
    go_wp2_with fail
    refine (HN9.out _ (XA.out _)).mono ?_
    rintro e v_ ⟨rfl, rfl⟩
    go_wp2_with fail
    refine (rfull_any 2 false _ (by decide)).mono ?_
    rintro e v_ ⟨rfl, rfl⟩
    go_wp2_with fail
    have hbx : (w1.alloc (.cells #[.int .i64 2, .int .i64 E, .int .i64 S, .int .i64 0, .int .i64 0, .slice none 0 0] 32)).heap[w1.heap.size]? = some (.cells #[.int .i64 2, .int .i64 E, .int .i64 S, .int .i64 0, .int .i64 0, .slice none 0 0] 32 (0, 0)) := heap_alloc_new w1 _
    have HEX := XA.out (.cells #[.int .i64 2, .int .i64 E, .int .i64 S, .int .i64 0, .int .i64 0, .slice none 0 0] 32)
    refine (HCK.out _ HEX).mono ?_
    rintro e w4 ⟨rfl, hx4⟩
    obtain ⟨b0, b1, b2, b3, b4, b5, e0, e1, e2, e3, e4, e5⟩ := box6 ((HX.out.trans (HEX.trans hx4)).block (heap_alloc_new w _))
    obtain ⟨d0, d1, d2, d3, d4, d5, -⟩ := box6 (hx4.block hbx)
    have HX4 := Lib.hid (HX1.out.trans (HEX.trans hx4))
    clear hx4 hbx HEX
    go_wp2_with fail
    refine bodyPost_ret (v := .tuple #[pacV pac0 none 0 0, .int .i64 K]) (by simp [results, Try.results31, go_sem, pacV, pac0, *]) rfl ⟨none, 0, 0, rfl, pacOw0 _ _, ?_⟩
    repeat' (first | with_reducible exact HX4.out | with_reducible refine Ext.set' ?_ (by simp) _)
theorem rget_k4 (b inn : List UInt8) (A : Option Addr) (m c : Nat) (w : World) (hr : Rd w A m (b.map cB)) (hc : m ≤ c) (hm : m ≤ 140737488355300) (h5 : 5 ≤ m) (ho : openF 4 (more32 0) b = (inn, 0)) (hin : 1 ≤ inn.length) (hk : kindN inn = 4) (hh : 10 = inn.length) :
    Calls Try.prog 31 #[.slice A m c] w (RetGP w (retP ⟨4, 0, 0, numAt inn 1, ((inn.getD 9 0).toNat : Int), []⟩)) := by
  have h5' : ¬ (m : Int) < 5 := by omega
  have HO : Hid (∀ (W : World), Ext w W → Calls Try.prog 37 #[.slice A m c] W (RetS W 5 (inn, 0))) := fun W hX => by
    have h := refOpen32_any b A m c W (hr.ext hX) hc hm
    rwa [ho] at h
  clear hr ho
  obtain ⟨K, hK⟩ : ∃ K, checkP ⟨4, 0, 0, numAt inn 1, ((inn.getD 9 0).toNat : Int), []⟩ = K := ⟨_, rfl⟩
  have HH := Lib.hid hh
  clear hh
  have HN1X := Lib.hid (fun (w1 : World) (base bk off n c1 : Nat) (hown : Own w1 base 5 IsU8 (some ⟨bk, off, none⟩) n c1 (inn.map cB)) => rat_at 1 hown)
  have HN9X := Lib.hid (fun (w1 : World) (base bk off n c1 : Nat) (hown : Own w1 base 5 IsU8 (some ⟨bk, off, none⟩) n c1 (inn.map cB)) => rat_at 9 hown)
  have HCE := Lib.hid (fun (w1 : World) (bk off n : Nat) (hcell : ∀ j, j < n → w1.cell? ⟨bk, off + j, none⟩ = some (.int .u8 ((inn.getD j 0).toNat : Int))) => hcell 9)
  have hE := numAt_i64 inn 1
  have hS := numAt_i64 inn 9
  have hC := (inn.getD 9 0).toNat_lt
  generalize numAt inn 1 = E at *
  generalize numAt inn 9 = S at *
  generalize (inn.getD 9 0).toNat = C at *
  by_cases hK0 : K = 0
  · subst hK0
    rw [retP_ok hK]
    go_enter Try.func31, Try.ntmps31
    go_wp2_with fail
    refine (HO.out _ (Ext.alloc _ _)).mono ?_
    rintro e w1 ⟨A1, n, c1, rfl, hown, hb⟩
    simp only at hown
    have hn : inn.length = n := by have := hown.len; simpa using this
    have hn' : n = 10 := by have := HH.out; omega
    subst hn'
    obtain ⟨bk, off, rfl, hbk, hcell⟩ := hown.rd.u8all (by omega)
    have c0 := hcell 0 (by omega)
    rw [Nat.add_zero, show (inn.getD 0 0).toNat = kindN inn from rfl, hk] at c0
    have hx := Ext.of hb
    have HX := Lib.hid hx
    have HX1 := Lib.hid ((Ext.alloc _ _).trans hx)
    have hsz1 : w.heap.size + 1 ≤ w1.heap.size := by have := hx.size; simpa using this
    have HN1 := Lib.hid (HN1X.out _ _ _ _ _ _ hown (by omega))
    have c9 := HCE.out _ _ _ _ hcell (by omega)
    have HCK : Hid (∀ W, Ext w1 W → Calls Try.prog 42 #[pacV ⟨4, 0, 0, E, (C : Int), []⟩ none 0 0] W (RetI W 0)) := fun W hX => by
      have hcc := rpacCheck_any ⟨4, 0, 0, E, (C : Int), []⟩ none 0 0 W ⟨Rd.nil_ _, i64P_lit 4 (by omega), i64P_lit 0 (by omega), i64P_lit 0 (by omega), hE, i64P_lit (C : Int) (by omega), ⟨by omega, by omega⟩⟩
      rwa [hK] at hcc
    have HPO : Hid (∀ W, PacOw W (w.heap.size + 1) ⟨4, 0, 0, E, (C : Int), []⟩ none 0 0) := fun W => ⟨Own.nil_ _ _ _ _, i64P_lit 4 (by omega), i64P_lit 0 (by omega), i64P_lit 0 (by omega), hE, i64P_lit (C : Int) (by omega)⟩
    have XA := Lib.hid (fun o => Ext.alloc w1 o)
    clear hown hb hx hcell hE hS hK hn HN1X HN9X HCE
    simp only [pacV] at HCK
    go_wp2_with fail
    refine (rbt_t 4 1 4 _ (by omega)).mono ?_
    rintro e v_ ⟨rfl, rfl⟩
    go_wp2_with fail
    refine (rruns_any 4 false _ (by decide)).mono ?_
    rintro e v_ ⟨rfl, rfl⟩
    go_wp2_with fail
    refine (rruns_any 4 false _ (by decide)).mono ?_
    rintro e v_ ⟨rfl, rfl⟩
    go_wp2_with fail
    refine (HN1.out _ (XA.out _)).mono ?_
    rintro e v_ ⟨rfl, rfl⟩
    go_wp2_with fail
    refine (rfull_any 4 false _ (by decide)).mono ?_
    rintro e v_ ⟨rfl, rfl⟩
    go_wp2_with fail
    have hbx : (w1.alloc (.cells #[.int .i64 4, .int .i64 0, .int .i64 0, .int .i64 E, .int .i64 (C : Int), .slice none 0 0] 32)).heap[w1.heap.size]? = some (.cells #[.int .i64 4, .int .i64 0, .int .i64 0, .int .i64 E, .int .i64 (C : Int), .slice none 0 0] 32 (0, 0)) := heap_alloc_new w1 _
    have HEX := XA.out (.cells #[.int .i64 4, .int .i64 0, .int .i64 0, .int .i64 E, .int .i64 (C : Int), .slice none 0 0] 32)
    refine (HCK.out _ HEX).mono ?_
    rintro e w4 ⟨rfl, hx4⟩
    obtain ⟨b0, b1, b2, b3, b4, b5, e0, e1, e2, e3, e4, e5⟩ := box6 ((HX.out.trans (HEX.trans hx4)).block (heap_alloc_new w _))
    obtain ⟨d0, d1, d2, d3, d4, d5, -⟩ := box6 (hx4.block hbx)
    have HX4 := Lib.hid (HX1.out.trans (HEX.trans hx4))
    clear hx4 hbx HEX
    go_wp2_with fail
    refine bodyPost_ret (v := .tuple #[pacV ⟨4, 0, 0, E, (C : Int), []⟩ none 0 0, .int .i64 0]) (by simp [results, Try.results31, go_sem, pacV, *]) rfl ⟨_, _, _, rfl, (HPO.out _).mono (by omega), ?_⟩
    repeat' (first | with_reducible exact HX4.out | with_reducible refine Ext.set' ?_ (by simp) _)
  · have hne : (K != 0) = true := by simpa using hK0
    rw [retP_no hK hK0]
    go_enter Try.func31, Try.ntmps31
    go_wp2_with fail
    refine (HO.out _ (Ext.alloc _ _)).mono ?_
    rintro e w1 ⟨A1, n, c1, rfl, hown, hb⟩
    simp only at hown
    have hn : inn.length = n := by have := hown.len; simpa using this
    have hn' : n = 10 := by have := HH.out; omega
    subst hn'
    obtain ⟨bk, off, rfl, hbk, hcell⟩ := hown.rd.u8all (by omega)
    have c0 := hcell 0 (by omega)
    rw [Nat.add_zero, show (inn.getD 0 0).toNat = kindN inn from rfl, hk] at c0
    have hx := Ext.of hb
    have HX := Lib.hid hx
    have HX1 := Lib.hid ((Ext.alloc _ _).trans hx)
    have hsz1 : w.heap.size + 1 ≤ w1.heap.size := by have := hx.size; simpa using this
    have HN1 := Lib.hid (HN1X.out _ _ _ _ _ _ hown (by omega))
    have c9 := HCE.out _ _ _ _ hcell (by omega)
    have HCK : Hid (∀ W, Ext w1 W → Calls Try.prog 42 #[pacV ⟨4, 0, 0, E, (C : Int), []⟩ none 0 0] W (RetI W K)) := fun W hX => by
      have hcc := rpacCheck_any ⟨4, 0, 0, E, (C : Int), []⟩ none 0 0 W ⟨Rd.nil_ _, i64P_lit 4 (by omega), i64P_lit 0 (by omega), i64P_lit 0 (by omega), hE, i64P_lit (C : Int) (by omega), ⟨by omega, by omega⟩⟩
      rwa [hK] at hcc
    have HPO : Hid (∀ W, PacOw W (w.heap.size + 1) ⟨4, 0, 0, E, (C : Int), []⟩ none 0 0) := fun W => ⟨Own.nil_ _ _ _ _, i64P_lit 4 (by omega), i64P_lit 0 (by omega), i64P_lit 0 (by omega), hE, i64P_lit (C : Int) (by omega)⟩
    have XA := Lib.hid (fun o => Ext.alloc w1 o)
    clear hown hb hx hcell hE hS hK hn HN1X HN9X HCE
    simp only [pacV] at HCK
    go_wp2_with fail
    refine (rbt_t 4 1 4 _ (by omega)).mono ?_
    rintro e v_ ⟨rfl, rfl⟩
    go_wp2_with fail
    refine (rruns_any 4 false _ (by decide)).mono ?_
    rintro e v_ ⟨rfl, rfl⟩
    go_wp2_with fail
    refine (rruns_any 4 false _ (by decide)).mono ?_
    rintro e v_ ⟨rfl, rfl⟩
    go_wp2_with fail
    refine (HN1.out _ (XA.out _)).mono ?_
    rintro e v_ ⟨rfl, rfl⟩
    go_wp2_with fail
    refine (rfull_any 4 false _ (by decide)).mono ?_
    rintro e v_ ⟨rfl, rfl⟩
    go_wp2_with fail
    have hbx : (w1.alloc (.cells #[.int .i64 4, .int .i64 0, .int .i64 0, .int .i64 E, .int .i64 (C : Int), .slice none 0 0] 32)).heap[w1.heap.size]? = some (.cells #[.int .i64 4, .int .i64 0, .int .i64 0, .int .i64 E, .int .i64 (C : Int), .slice none 0 0] 32 (0, 0)) := heap_alloc_new w1 _
    have HEX := XA.out (.cells #[.int .i64 4, .int .i64 0, .int .i64 0, .int .i64 E, .int .i64 (C : Int), .slice none 0 0] 32)
    refine (HCK.out _ HEX).mono ?_
    rintro e w4 ⟨rfl, hx4⟩
    obtain ⟨b0, b1, b2, b3, b4, b5, e0, e1, e2, e3, e4, e5⟩ := box6 ((HX.out.trans (HEX.trans hx4)).block (heap_alloc_new w _))
    obtain ⟨d0, d1, d2, d3, d4, d5, -⟩ := box6 (hx4.block hbx)
    have HX4 := Lib.hid (HX1.out.trans (HEX.trans hx4))
    clear hx4 hbx HEX
    go_wp2_with fail
    refine bodyPost_ret (v := .tuple #[pacV pac0 none 0 0, .int .i64 K]) (by simp [results, Try.results31, go_sem, pacV, pac0, *]) rfl ⟨none, 0, 0, rfl, pacOw0 _ _, ?_⟩
    repeat' (first | with_reducible exact HX4.out | with_reducible refine Ext.set' ?_ (by simp) _)
end Go.Proofs.Ytifojmmggcenkaa
