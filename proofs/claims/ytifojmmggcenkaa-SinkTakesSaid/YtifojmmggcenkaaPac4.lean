/- Contract of packet.Get: the packet that bytes are, or why they are none. -/
import Derived.Test.YtifojmmggcenkaaPac3
import Derived.Deep.RegionLaw
namespace Go.Out
set_option linter.unusedVariables false
open Go Go.RowKit
/-- The end of a slice of the call's own, from item k on. -/
theorem Own.from {w : World} {base : Nat} {e : TypeId} {p : Value → Prop} {g off n c k : Nat} {xs : List Value} (h : Own w base e p (some ⟨g, off, none⟩) n c xs) (hk : k ≤ n) : Own w base e p (some ⟨g, off + k, none⟩) (n - k) (c - k) (xs.drop k) := by
  obtain ⟨h1, h2, h3, h4⟩ := h
  refine ⟨by simp [h1], by omega, by unfold maxLen at h3 ⊢; omega, ?_⟩
  rcases h4 with ⟨h, _⟩ | ⟨g', off', cur, hA, hb, hg, hs, ht, hp⟩
  · cases h
  · injection hA with hA
    injection hA with e1 e2 _
    subst e1; subst e2
    refine .inr ⟨g, off + k, cur, rfl, hb, hg, by omega, ?_, hp⟩
    rw [← ht, ← List.drop_drop, List.drop_take]
theorem i64_wrap_bounds (x : Int) : -9223372036854775808 ≤ IntKind.i64.wrap x ∧ IntKind.i64.wrap x ≤ 9223372036854775807 := by rw [IntKind.wrap_i64]; omega
end Go.Out
namespace Go.Proofs.Ytifojmmggcenkaa
set_option linter.unusedVariables false
set_option linter.unusedSimpArgs false
set_option maxRecDepth 100000
set_option maxHeartbeats 2000000
open Go Go.RowKit Go.Out

structure PacOw (w : World) (base : Nat) (p : PacD) (A : Option Addr) (n c : Nat) : Prop where
  body : Own w base 5 IsU8 A n c (p.body.map cB)
  kind : i64P p.kind
  epoch : i64P p.epoch
  seq : i64P p.seq
  id : i64P p.id
  code : i64P p.code
theorem PacOw.ext {w w' : World} {base : Nat} {p : PacD} {A : Option Addr} {n c : Nat} (h : PacOw w base p A n c) (hx : Ext w w') : PacOw w' base p A n c := ⟨h.body.ext hx, h.kind, h.epoch, h.seq, h.id, h.code⟩
theorem PacOw.mono {w : World} {base base' : Nat} {p : PacD} {A : Option Addr} {n c : Nat} (h : PacOw w base p A n c) (hb : base' ≤ base) : PacOw w base' p A n c := ⟨h.body.mono hb, h.kind, h.epoch, h.seq, h.id, h.code⟩
theorem PacOw.rd {w : World} {base : Nat} {p : PacD} {A : Option Addr} {n c : Nat} (h : PacOw w base p A n c) : PacRd w p A n c := ⟨h.body.rd, h.kind, h.epoch, h.seq, h.id, h.code, ⟨h.body.cap, h.body.capLe⟩⟩
theorem PacOw.set_below {w : World} {base : Nat} {p : PacD} {A : Option Addr} {n c : Nat} (h : PacOw w base p A n c) {q : Addr} (hq : q.block < base) (u : Value) : PacOw (w.setCell q u) base p A n c := ⟨h.body.set_below hq u, h.kind, h.epoch, h.seq, h.id, h.code⟩
theorem pacOw0 (w : World) (base : Nat) : PacOw w base pac0 none 0 0 := ⟨Own.nil_ _ _ _ _, by unfold i64P pac0; simp, by unfold i64P pac0; simp, by unfold i64P pac0; simp, by unfold i64P pac0; simp, by unfold i64P pac0; simp⟩
/-- What packet.Get hands back. -/
def RetGP (w : World) (r : PacD × Int) (e : Ending) (w' : World) : Prop :=
  ∃ A n c, e = .returned (.tuple #[pacV r.1 A n c, .int .i64 r.2]) ∧ PacOw w' w.heap.size r.1 A n c ∧ Ext w w'

theorem pget_short (A : Option Addr) (m c : Nat) (w : World) (h : m < 5) : Calls Try.prog 10 #[.slice A m c] w (RetGP w (pac0, 1)) := by
  have h5 : (m : Int) < 5 := by omega
  go_enter Try.func10, Try.ntmps10
  go_wp2_with fail
  exact bodyPost_ret (v := .tuple #[pacV pac0 none 0 0, .int .i64 1]) (by simp [results, Try.results10, go_sem, pacV, pac0]) rfl ⟨none, 0, 0, rfl, pacOw0 _ _, Ext.alloc _ _⟩

theorem pget_open (b : List UInt8) (A : Option Addr) (m c : Nat) (w : World) (hr : Rd w A m (b.map cB)) (hc : m ≤ c) (hm : m ≤ 140737488355300) (h5 : 5 ≤ m) (he : (openF 4 (more32 0) b).2 ≠ 0) :
    Calls Try.prog 10 #[.slice A m c] w (RetGP w (pac0, (openF 4 (more32 0) b).2)) := by
  have h5' : ¬ (m : Int) < 5 := by omega
  have HO := Lib.hid (fun (W : World) (hX : Ext w W) => open32_any b A m c W (hr.ext hX) hc hm)
  generalize openF 4 (more32 0) b = U at *
  obtain ⟨inn, E⟩ := U
  simp only at he ⊢
  have hne : (E != 0) = true := by simpa using he
  clear hr he
  go_enter Try.func10, Try.ntmps10
  go_wp2_with fail
  refine (HO.out _ (Ext.alloc _ _)).mono ?_
  rintro e w1 ⟨A1, n, c1, rfl, hown, hb⟩
  have hx := Ext.of hb
  obtain ⟨b0, b1, b2, b3, b4, b5, e0, e1, e2, e3, e4, e5⟩ := box6 (hx.block (heap_alloc_new w _))
  have HX := Lib.hid ((Ext.alloc _ _).trans hx)
  clear hown hb hx
  go_wp2_with fail
  refine bodyPost_ret (v := .tuple #[pacV pac0 none 0 0, .int .i64 E]) (by simp [results, Try.results10, go_sem, pacV, pac0, *]) rfl ⟨none, 0, 0, rfl, pacOw0 _ _, ?_⟩
  repeat' (first | with_reducible exact HX.out | with_reducible refine Ext.set' ?_ (by simp) _)


theorem index5 (k h : Int) (hk : (k = 1 ∧ h = 17) ∨ (k = 2 ∧ h = 17) ∨ (k = 3 ∧ h = 9) ∨ (k = 4 ∧ h = 10)) (W : World) : Sem.run Try.prog (Instr.index 61 (.agg #[.int .i64 0, .int .i64 17, .int .i64 17, .int .i64 9, .int .i64 10]) (.int .i64 k)) W = .ok (.int .i64 h) W := by
  rcases hk with ⟨rfl, rfl⟩ | ⟨rfl, rfl⟩ | ⟨rfl, rfl⟩ | ⟨rfl, rfl⟩
  all_goals first | kernel_rfl | rfl


theorem pget_kind (k : Nat) (b inn : List UInt8) (A : Option Addr) (m c : Nat) (w : World) (hr : Rd w A m (b.map cB)) (hc : m ≤ c) (hm : m ≤ 140737488355300) (h5 : 5 ≤ m) (ho : openF 4 (more32 0) b = (inn, 0)) (hin : 1 ≤ inn.length) (hk : kindN inn = k) (hk1 : k < 1 ∨ 4 < k) :
    Calls Try.prog 10 #[.slice A m c] w (RetGP w (pac0, 28)) := by
  have h5' : ¬ (m : Int) < 5 := by omega
  have HO : Hid (∀ (W : World), Ext w W → Calls Try.prog 26 #[.slice A m c] W (RetS W 5 (inn, 0))) := fun W hX => by
    have h := open32_any b A m c W (hr.ext hX) hc hm
    rwa [ho] at h
  clear hr ho
  have hk8 : k < 256 := by rw [← hk]; exact UInt8.toNat_lt _
  go_enter Try.func10, Try.ntmps10
  go_wp2_with fail
  refine (HO.out _ (Ext.alloc _ _)).mono ?_
  rintro e w1 ⟨A1, n, c1, rfl, hown, hb⟩
  simp only at hown
  have hn : inn.length = n := by have := hown.len; simpa using this
  obtain ⟨bk, off, rfl, hbk, hcell⟩ := hown.rd.u8all (by omega)
  have hcap := hown.cap
  have hcap2 := hown.capLe
  have c0 := hcell 0 (by omega)
  rw [Nat.add_zero, show (inn.getD 0 0).toNat = kindN inn from rfl, hk] at c0
  have i0 : 0 < n := by omega
  have i0' : (0 : Int) < (n : Int) := by omega
  have hx := Ext.of hb
  have HOW := Lib.hid hown
  have HX := Lib.hid hx
  have HX1 := Lib.hid ((Ext.alloc _ _).trans hx)
  have hsz1 : w.heap.size + 1 ≤ w1.heap.size := by have := hx.size; simpa using this
  clear hown hb hx hcell
  go_wp2_with fail
  refine (out_t (k : Int) 1 4 _ (by omega)).mono ?_
  rintro e v_ ⟨rfl, rfl⟩
  obtain ⟨b0, b1, b2, b3, b4, b5, e0, e1, e2, e3, e4, e5⟩ := box6 ((HX.out.trans (Ext.alloc w1 (.cells #[.int .i64 (k : Int), .int .i64 0, .int .i64 0, .int .i64 0, .int .i64 0, .slice none 0 0] 32))).block (heap_alloc_new w _))
  have HX2 := Lib.hid (fun o => HX1.out.trans (Ext.alloc w1 o))
  go_wp2_with fail
  refine bodyPost_ret (v := .tuple #[pacV pac0 none 0 0, .int .i64 28]) (by simp [results, Try.results10, go_sem, pacV, pac0, *]) rfl ⟨none, 0, 0, rfl, pacOw0 _ _, ?_⟩
  repeat' (first | with_reducible exact HX2.out _ | with_reducible refine Ext.set' ?_ (by simp) _)


theorem pget_few1 (b inn : List UInt8) (A : Option Addr) (m c : Nat) (w : World) (hr : Rd w A m (b.map cB)) (hc : m ≤ c) (hm : m ≤ 140737488355300) (h5 : 5 ≤ m) (ho : openF 4 (more32 0) b = (inn, 0)) (hin : 1 ≤ inn.length) (hk : kindN inn = 1) (hh : inn.length < 17) :
    Calls Try.prog 10 #[.slice A m c] w (RetGP w (pac0, 1)) := by
  have h5' : ¬ (m : Int) < 5 := by omega
  have HO : Hid (∀ (W : World), Ext w W → Calls Try.prog 26 #[.slice A m c] W (RetS W 5 (inn, 0))) := fun W hX => by
    have h := open32_any b A m c W (hr.ext hX) hc hm
    rwa [ho] at h
  clear hr ho
  have hidx := index5 1 17 (by omega)
  go_enter Try.func10, Try.ntmps10
  go_wp2_with fail
  refine (HO.out _ (Ext.alloc _ _)).mono ?_
  rintro e w1 ⟨A1, n, c1, rfl, hown, hb⟩
  simp only at hown
  have hn : inn.length = n := by have := hown.len; simpa using this
  obtain ⟨bk, off, rfl, hbk, hcell⟩ := hown.rd.u8all (by omega)
  have hcap := hown.cap
  have hcap2 := hown.capLe
  have c0 := hcell 0 (by omega)
  rw [Nat.add_zero, show (inn.getD 0 0).toNat = kindN inn from rfl, hk] at c0
  have i0 : 0 < n := by omega
  have i0' : (0 : Int) < (n : Int) := by omega
  have hx := Ext.of hb
  have HOW := Lib.hid hown
  have HX := Lib.hid hx
  have HX1 := Lib.hid ((Ext.alloc _ _).trans hx)
  have hsz1 : w.heap.size + 1 ≤ w1.heap.size := by have := hx.size; simpa using this
  clear hown hb hx hcell
  have hlt : (n : Int) < 17 := by omega
  go_wp2_with fail
  refine (out_f 1 1 4 _ (by omega)).mono ?_
  rintro e v_ ⟨rfl, rfl⟩
  obtain ⟨b0, b1, b2, b3, b4, b5, e0, e1, e2, e3, e4, e5⟩ := box6 ((HX.out.trans (Ext.alloc w1 (.cells #[.int .i64 1, .int .i64 0, .int .i64 0, .int .i64 0, .int .i64 0, .slice none 0 0] 32))).block (heap_alloc_new w _))
  have HX2 := Lib.hid (fun o => HX1.out.trans (Ext.alloc w1 o))
  go_wp2_with fail
  refine bodyPost_ret (v := .tuple #[pacV pac0 none 0 0, .int .i64 1]) (by simp [results, Try.results10, go_sem, pacV, pac0, *]) rfl ⟨none, 0, 0, rfl, pacOw0 _ _, ?_⟩
  repeat' (first | with_reducible exact HX2.out _ | with_reducible refine Ext.set' ?_ (by simp) _)


theorem pget_few2 (b inn : List UInt8) (A : Option Addr) (m c : Nat) (w : World) (hr : Rd w A m (b.map cB)) (hc : m ≤ c) (hm : m ≤ 140737488355300) (h5 : 5 ≤ m) (ho : openF 4 (more32 0) b = (inn, 0)) (hin : 1 ≤ inn.length) (hk : kindN inn = 2) (hh : inn.length < 17) :
    Calls Try.prog 10 #[.slice A m c] w (RetGP w (pac0, 1)) := by
  have h5' : ¬ (m : Int) < 5 := by omega
  have HO : Hid (∀ (W : World), Ext w W → Calls Try.prog 26 #[.slice A m c] W (RetS W 5 (inn, 0))) := fun W hX => by
    have h := open32_any b A m c W (hr.ext hX) hc hm
    rwa [ho] at h
  clear hr ho
  have hidx := index5 2 17 (by omega)
  go_enter Try.func10, Try.ntmps10
  go_wp2_with fail
  refine (HO.out _ (Ext.alloc _ _)).mono ?_
  rintro e w1 ⟨A1, n, c1, rfl, hown, hb⟩
  simp only at hown
  have hn : inn.length = n := by have := hown.len; simpa using this
  obtain ⟨bk, off, rfl, hbk, hcell⟩ := hown.rd.u8all (by omega)
  have hcap := hown.cap
  have hcap2 := hown.capLe
  have c0 := hcell 0 (by omega)
  rw [Nat.add_zero, show (inn.getD 0 0).toNat = kindN inn from rfl, hk] at c0
  have i0 : 0 < n := by omega
  have i0' : (0 : Int) < (n : Int) := by omega
  have hx := Ext.of hb
  have HOW := Lib.hid hown
  have HX := Lib.hid hx
  have HX1 := Lib.hid ((Ext.alloc _ _).trans hx)
  have hsz1 : w.heap.size + 1 ≤ w1.heap.size := by have := hx.size; simpa using this
  clear hown hb hx hcell
  have hlt : (n : Int) < 17 := by omega
  go_wp2_with fail
  refine (out_f 2 1 4 _ (by omega)).mono ?_
  rintro e v_ ⟨rfl, rfl⟩
  obtain ⟨b0, b1, b2, b3, b4, b5, e0, e1, e2, e3, e4, e5⟩ := box6 ((HX.out.trans (Ext.alloc w1 (.cells #[.int .i64 2, .int .i64 0, .int .i64 0, .int .i64 0, .int .i64 0, .slice none 0 0] 32))).block (heap_alloc_new w _))
  have HX2 := Lib.hid (fun o => HX1.out.trans (Ext.alloc w1 o))
  go_wp2_with fail
  refine bodyPost_ret (v := .tuple #[pacV pac0 none 0 0, .int .i64 1]) (by simp [results, Try.results10, go_sem, pacV, pac0, *]) rfl ⟨none, 0, 0, rfl, pacOw0 _ _, ?_⟩
  repeat' (first | with_reducible exact HX2.out _ | with_reducible refine Ext.set' ?_ (by simp) _)


theorem pget_few3 (b inn : List UInt8) (A : Option Addr) (m c : Nat) (w : World) (hr : Rd w A m (b.map cB)) (hc : m ≤ c) (hm : m ≤ 140737488355300) (h5 : 5 ≤ m) (ho : openF 4 (more32 0) b = (inn, 0)) (hin : 1 ≤ inn.length) (hk : kindN inn = 3) (hh : inn.length < 9) :
    Calls Try.prog 10 #[.slice A m c] w (RetGP w (pac0, 1)) := by
  have h5' : ¬ (m : Int) < 5 := by omega
  have HO : Hid (∀ (W : World), Ext w W → Calls Try.prog 26 #[.slice A m c] W (RetS W 5 (inn, 0))) := fun W hX => by
    have h := open32_any b A m c W (hr.ext hX) hc hm
    rwa [ho] at h
  clear hr ho
  have hidx := index5 3 9 (by omega)
  go_enter Try.func10, Try.ntmps10
  go_wp2_with fail
  refine (HO.out _ (Ext.alloc _ _)).mono ?_
  rintro e w1 ⟨A1, n, c1, rfl, hown, hb⟩
  simp only at hown
  have hn : inn.length = n := by have := hown.len; simpa using this
  obtain ⟨bk, off, rfl, hbk, hcell⟩ := hown.rd.u8all (by omega)
  have hcap := hown.cap
  have hcap2 := hown.capLe
  have c0 := hcell 0 (by omega)
  rw [Nat.add_zero, show (inn.getD 0 0).toNat = kindN inn from rfl, hk] at c0
  have i0 : 0 < n := by omega
  have i0' : (0 : Int) < (n : Int) := by omega
  have hx := Ext.of hb
  have HOW := Lib.hid hown
  have HX := Lib.hid hx
  have HX1 := Lib.hid ((Ext.alloc _ _).trans hx)
  have hsz1 : w.heap.size + 1 ≤ w1.heap.size := by have := hx.size; simpa using this
  clear hown hb hx hcell
  have hlt : (n : Int) < 9 := by omega
  go_wp2_with fail
  refine (out_f 3 1 4 _ (by omega)).mono ?_
  rintro e v_ ⟨rfl, rfl⟩
  obtain ⟨b0, b1, b2, b3, b4, b5, e0, e1, e2, e3, e4, e5⟩ := box6 ((HX.out.trans (Ext.alloc w1 (.cells #[.int .i64 3, .int .i64 0, .int .i64 0, .int .i64 0, .int .i64 0, .slice none 0 0] 32))).block (heap_alloc_new w _))
  have HX2 := Lib.hid (fun o => HX1.out.trans (Ext.alloc w1 o))
  go_wp2_with fail
  refine bodyPost_ret (v := .tuple #[pacV pac0 none 0 0, .int .i64 1]) (by simp [results, Try.results10, go_sem, pacV, pac0, *]) rfl ⟨none, 0, 0, rfl, pacOw0 _ _, ?_⟩
  repeat' (first | with_reducible exact HX2.out _ | with_reducible refine Ext.set' ?_ (by simp) _)


theorem pget_few4 (b inn : List UInt8) (A : Option Addr) (m c : Nat) (w : World) (hr : Rd w A m (b.map cB)) (hc : m ≤ c) (hm : m ≤ 140737488355300) (h5 : 5 ≤ m) (ho : openF 4 (more32 0) b = (inn, 0)) (hin : 1 ≤ inn.length) (hk : kindN inn = 4) (hh : inn.length < 10) :
    Calls Try.prog 10 #[.slice A m c] w (RetGP w (pac0, 1)) := by
  have h5' : ¬ (m : Int) < 5 := by omega
  have HO : Hid (∀ (W : World), Ext w W → Calls Try.prog 26 #[.slice A m c] W (RetS W 5 (inn, 0))) := fun W hX => by
    have h := open32_any b A m c W (hr.ext hX) hc hm
    rwa [ho] at h
  clear hr ho
  have hidx := index5 4 10 (by omega)
  go_enter Try.func10, Try.ntmps10
  go_wp2_with fail
  refine (HO.out _ (Ext.alloc _ _)).mono ?_
  rintro e w1 ⟨A1, n, c1, rfl, hown, hb⟩
  simp only at hown
  have hn : inn.length = n := by have := hown.len; simpa using this
  obtain ⟨bk, off, rfl, hbk, hcell⟩ := hown.rd.u8all (by omega)
  have hcap := hown.cap
  have hcap2 := hown.capLe
  have c0 := hcell 0 (by omega)
  rw [Nat.add_zero, show (inn.getD 0 0).toNat = kindN inn from rfl, hk] at c0
  have i0 : 0 < n := by omega
  have i0' : (0 : Int) < (n : Int) := by omega
  have hx := Ext.of hb
  have HOW := Lib.hid hown
  have HX := Lib.hid hx
  have HX1 := Lib.hid ((Ext.alloc _ _).trans hx)
  have hsz1 : w.heap.size + 1 ≤ w1.heap.size := by have := hx.size; simpa using this
  clear hown hb hx hcell
  have hlt : (n : Int) < 10 := by omega
  go_wp2_with fail
  refine (out_f 4 1 4 _ (by omega)).mono ?_
  rintro e v_ ⟨rfl, rfl⟩
  obtain ⟨b0, b1, b2, b3, b4, b5, e0, e1, e2, e3, e4, e5⟩ := box6 ((HX.out.trans (Ext.alloc w1 (.cells #[.int .i64 4, .int .i64 0, .int .i64 0, .int .i64 0, .int .i64 0, .slice none 0 0] 32))).block (heap_alloc_new w _))
  have HX2 := Lib.hid (fun o => HX1.out.trans (Ext.alloc w1 o))
  go_wp2_with fail
  refine bodyPost_ret (v := .tuple #[pacV pac0 none 0 0, .int .i64 1]) (by simp [results, Try.results10, go_sem, pacV, pac0, *]) rfl ⟨none, 0, 0, rfl, pacOw0 _ _, ?_⟩
  repeat' (first | with_reducible exact HX2.out _ | with_reducible refine Ext.set' ?_ (by simp) _)


theorem i64P_lit (x : Int) (h : -9223372036854775808 ≤ x ∧ x ≤ 9223372036854775807) : i64P x := h
theorem own_rd8 {w : World} {base g off n c k : Nat} {l : List UInt8} (h : Own w base 5 IsU8 (some ⟨g, off, none⟩) n c (l.map cB)) (hk : k ≤ n) : Own w base 5 IsU8 (some ⟨g, off + k, none⟩) (n - k) (c - k) ((l.drop k).map cB) := by
  rw [List.map_drop]; exact h.from hk
theorem num_at {w1 : World} {base bk off n c1 : Nat} {inn : List UInt8} (k : Nat) (h : Own w1 base 5 IsU8 (some ⟨bk, off, none⟩) n c1 (inn.map cB)) (hk : k + 8 ≤ n) : ∀ W, Ext w1 W → Calls Try.prog 28 #[.slice (some ⟨bk, off + k, none⟩) (n - k) (c1 - k)] W (RetN W (numAt inn k)) := fun W hX =>
  number_any (inn.drop k) _ _ _ W ((own_rd8 h (by omega)).rd.ext hX) (by omega) (by have := h.cap; omega) (by have := h.capLe; omega)
theorem numAt_i64 (l : List UInt8) (i : Nat) : i64P (numAt l i) := i64_wrap_bounds _
def retP (P : PacD) : PacD × Int := if checkP P ≠ 0 then (pac0, checkP P) else (P, 0)
theorem retP_no {P : PacD} {K : Int} (h : checkP P = K) (hK : K ≠ 0) : retP P = (pac0, K) := by unfold retP; rw [h, if_pos hK]
theorem retP_ok {P : PacD} (h : checkP P = 0) : retP P = (P, 0) := by unfold retP; rw [h, if_neg (by simp)]

end Go.Proofs.Ytifojmmggcenkaa
