/- Contract of the reference's said: reads, one coil, one register. -/
import Derived.Test.YtpjmhckdeeonbaaAskQ
import Derived.Test.YtpjmhckdeeonbaaAskS2
namespace Go.Proofs.Ytpjmhckdeeonbaa
set_option linter.unusedVariables false
set_option linter.unusedSimpArgs false
set_option maxRecDepth 100000
set_option maxHeartbeats 1000000
open Go Go.RowKit Go.Out

/-- A call that hands back a number and does no more than draw. -/
def RetDr (w : World) (k : Int) (e : Ending) (w' : World) : Prop := e = .returned (.int .i64 k) ∧ ∃ d, w' = w.drewN d
theorem at3_dr (b : List UInt8) (A : Option Addr) (m c i : Nat) (w : World) (hr : Rd w A m (b.map cB)) (hi : i + 1 < m) (hm : m ≤ 4398046511104) :
    Calls Try.prog 133 #[.slice A m c, .int .i64 (i : Int)] w (RetDr w (at2 b i : Nat)) := by
  obtain ⟨bk, off, rfl, hbk, hcell⟩ := hr.u8all (by omega)
  have c0 := hcell i (by omega)
  have c1 := hcell (i + 1) (by omega)
  have hx := (b.getD i 0).toNat_lt
  have hy := (b.getD (i + 1) 0).toNat_lt
  rw [show at2 b i = (b.getD i 0).toNat * 256 + (b.getD (i + 1) 0).toNat from rfl]
  clear hcell hr
  generalize (b.getD i 0).toNat = x at *
  generalize (b.getD (i + 1) 0).toNat = y at *
  have h0 : (0 : Int) ≤ (i : Int) := by omega
  have h1 : (i : Int) < (m : Int) := by omega
  have h1' : i < m := by omega
  have h2 : IntKind.i64.wrap ((i : Int) + 1) = (i : Int) + 1 := IntWalk.i64_in _ (by omega)
  have h3 : (0 : Int) ≤ (i : Int) + 1 := by omega
  have h4 : (i : Int) + 1 < (m : Int) := by omega
  have h5 : ((i : Int) + 1).toNat = i + 1 := by omega
  go_enter Try.func133, Try.ntmps133
  go_wp2_with fail
  go_quiet (fail)
  go_wp2_with fail
  go_ret
  exact ⟨ret_int (by omega), _, rfl⟩

theorem drewN_set (W : World) (d : Nat) (p : Addr) (u : Value) : (W.drewN d).setCell p u = (W.setCell p u).drewN d := rfl
theorem Ext.two (w : World) (o1 o2 : Obj) : Ext w ((w.alloc o1).alloc o2) := (Ext.alloc _ _).trans (Ext.alloc _ _)
theorem Ext.three (w : World) (o1 o2 o3 : Obj) : Ext w (((w.alloc o1).alloc o2).alloc o3) := (Ext.two w o1 o2).trans (Ext.alloc _ _)

theorem box_drew (w : World) (cs1 cs2 : Array Value) (v : Value) (t e : TypeId) (p : Value → Prop) (hp : p v) (d : Nat) : Own ((((w.alloc (.cells cs1 t)).alloc (.cells cs2 t)).drewN d).alloc (.cells #[v] e)) w.heap.size e p (some ⟨w.heap.size + 1 + 1, 0, none⟩) 1 1 [v] := by
  have h := Own.new (p := p) (base := w.heap.size) (((w.alloc (.cells cs1 t)).alloc (.cells cs2 t)).drewN d) (by simp; omega) e #[v] 1 (by simp) (by simp [maxLen]) (by intro u hu; simp at hu; subst hu; exact hp)
  simpa using h

theorem said_cnt (b : List UInt8) (k : Nat) (A : Option Addr) (m c : Nat) (w : World) (hr : Rd w A m (b.map cB)) (hc : m ≤ c) (hm : 5 ≤ m) (hm2 : m ≤ 17000000000) (hk : b0 b = k) (h1 : 1 ≤ k) (h4 : k ≤ 4) :
    Calls Try.prog 128 #[.slice A m c] w (RetRead w (saidF b)) := by
  have hs : saidF b = some ⟨(k : Nat), (at2 b 1 : Nat), (at2 b 3 : Nat), [], [], []⟩ := by
    unfold saidF
    rw [hk, if_neg (by omega), if_neg (by omega), if_neg (by omega), if_neg (by omega), if_neg (by omega)]
  rw [hs]
  clear hs
  have HA1 := Lib.hid (fun (W : World) (hX : Ext w W) => at3_dr b A m c 1 W (hr.ext hX) (by omega) (by omega))
  have HA3 := Lib.hid (fun (W : World) (hX : Ext w W) => at3_dr b A m c 3 W (hr.ext hX) (by omega) (by omega))
  have hl1 := at2_lt b 1
  have hl3 := at2_lt b 3
  generalize at2 b 1 = F at *
  generalize at2 b 3 = R at *
  obtain ⟨bk, off, rfl, hbk, hcell⟩ := hr.u8all (by omega)
  have g0 := hcell 0 (by omega)
  rw [Nat.add_zero, show (b.getD 0 0).toNat = k from hk] at g0
  clear hcell hk hr
  have i0 : 0 < m := by omega
  have hdr := drewN_set
  go_enter Try.func128, Try.ntmps128
  go_wp2_with fail
  refine (HA1.out _ (Ext.two _ _ _)).mono ?_
  rintro e w1 ⟨rfl, d1, rfl⟩
  go_wp2_with fail
  refine (HA3.out _ (Ext.drewN' (Ext.two _ _ _) _)).mono ?_
  rintro e w3 ⟨rfl, d3, rfl⟩
  go_wp2_with fail
  refine bodyPost_ret (v := .tuple #[askV ⟨(k : Nat), (F : Nat), (R : Nat), [], [], []⟩ askS0, .bool true]) (by simp [results, Try.results128, go_sem, askV, askS0]) rfl ⟨_, _, rfl, ?_, ?_⟩
  · intro a' ha
    injection ha with ha
    exact ⟨ha.symm, ⟨Own.nil_ _ _ _ _, Own.nil_ _ _ _ _, OwP.nil_ _ _, by unfold i64P; simp; omega, by unfold i64P; simp; omega, by unfold i64P; simp; omega⟩⟩
  · exact Ext.drewN' (Ext.two _ _ _) _

theorem said_reg (b : List UInt8) (A : Option Addr) (m c : Nat) (w : World) (hr : Rd w A m (b.map cB)) (hc : m ≤ c) (hm : 5 ≤ m) (hm2 : m ≤ 17000000000) (hk : b0 b = 6) :
    Calls Try.prog 128 #[.slice A m c] w (RetRead w (saidF b)) := by
  have hs : saidF b = some ⟨6, (at2 b 1 : Nat), 0, [], [UInt16.ofNat (at2 b 3)], []⟩ := by
    unfold saidF
    rw [hk, if_neg (by omega), if_neg (by omega), if_pos rfl]
  rw [hs]
  clear hs
  have HA1 := Lib.hid (fun (W : World) (hX : Ext w W) => at3_dr b A m c 1 W (hr.ext hX) (by omega) (by omega))
  have HA3 := Lib.hid (fun (W : World) (hX : Ext w W) => at3_dr b A m c 3 W (hr.ext hX) (by omega) (by omega))
  have hl1 := at2_lt b 1
  have hl3 := at2_lt b 3
  generalize at2 b 1 = F at *
  generalize at2 b 3 = R at *
  obtain ⟨bk, off, rfl, hbk, hcell⟩ := hr.u8all (by omega)
  have g0 := hcell 0 (by omega)
  rw [Nat.add_zero, show (b.getD 0 0).toNat = 6 from hk] at g0
  clear hcell hk hr
  have i0 : 0 < m := by omega
  have hdr := drewN_set
  have hw16 : IntKind.u16.wrap (R : Int) = (R : Int) := by rw [IntKind.wrap_u16]; omega
  go_enter Try.func128, Try.ntmps128
  go_wp2_with fail
  refine (HA1.out _ (Ext.two _ _ _)).mono ?_
  rintro e w1 ⟨rfl, d1, rfl⟩
  go_wp2_with fail
  refine (HA3.out _ (Ext.drewN' (Ext.two _ _ _) _)).mono ?_
  rintro e w3 ⟨rfl, d3, rfl⟩
  go_wp2_with fail
  refine bodyPost_ret (v := .tuple #[askV ⟨6, (F : Nat), 0, [], [UInt16.ofNat R], []⟩ ⟨none, 0, 0, some ⟨w.heap.size + 1 + 1, 0, none⟩, 1, 1, none, 0, 0⟩, .bool true]) (by simp [results, Try.results128, go_sem, askV]) rfl ⟨_, _, rfl, ?_, ?_⟩
  · intro a' ha
    injection ha with ha
    refine ⟨ha.symm, ⟨Own.nil_ _ _ _ _, ?_, OwP.nil_ _ _, by unfold i64P; simp, by unfold i64P; simp; omega, by unfold i64P; simp⟩⟩
    have hR16 : (UInt16.ofNat R).toNat = R := by simp; omega
    have e : ([UInt16.ofNat R] : List UInt16).map cW = [.int .u16 (R : Int)] := by simp only [List.map_cons, List.map_nil, cW, hR16]
    show Own _ _ _ _ _ _ _ (([UInt16.ofNat R] : List UInt16).map cW)
    rw [e]
    exact box_drew w _ _ (.int .u16 (R : Int)) _ _ IsU16 (isU16_of (by omega) (by omega)) _
  · exact Ext.alloc' (Ext.drewN' (Ext.two _ _ _) _) _

theorem said_coil (b : List UInt8) (A : Option Addr) (m c : Nat) (w : World) (hr : Rd w A m (b.map cB)) (hc : m ≤ c) (hm : 5 ≤ m) (hm2 : m ≤ 17000000000) (hk : b0 b = 5) :
    Calls Try.prog 128 #[.slice A m c] w (RetRead w (saidF b)) := by
  have hs : saidF b = if at2 b 3 = 65280 ∨ at2 b 3 = 0 then some ⟨5, (at2 b 1 : Nat), 0, [decide (at2 b 3 = 65280)], [], []⟩ else none := by
    unfold saidF
    rw [hk, if_neg (by omega), if_pos rfl]
  rw [hs]
  clear hs
  have HA1 := Lib.hid (fun (W : World) (hX : Ext w W) => at3_dr b A m c 1 W (hr.ext hX) (by omega) (by omega))
  have HA3 := Lib.hid (fun (W : World) (hX : Ext w W) => at3_dr b A m c 3 W (hr.ext hX) (by omega) (by omega))
  have hl1 := at2_lt b 1
  have hl3 := at2_lt b 3
  generalize at2 b 1 = F at *
  generalize at2 b 3 = R at *
  obtain ⟨bk, off, rfl, hbk, hcell⟩ := hr.u8all (by omega)
  have g0 := hcell 0 (by omega)
  rw [Nat.add_zero, show (b.getD 0 0).toNat = 5 from hk] at g0
  clear hcell hk hr
  have i0 : 0 < m := by omega
  have hdr := drewN_set
  have HS := Lib.hid (show (if R = 65280 ∨ R = 0 then some (⟨5, (F : Nat), 0, [decide (R = 65280)], [], []⟩ : AskD) else none).isSome = decide (R = 65280 ∨ R = 0) by split <;> simp [*])
  have HS2 : Hid (∀ a', (if R = 65280 ∨ R = 0 then some (⟨5, (F : Nat), 0, [decide (R = 65280)], [], []⟩ : AskD) else none) = some a' → a' = ⟨5, (F : Nat), 0, [decide (R = 65280)], [], []⟩) := by
    intro a' h
    split at h
    · injection h with h; exact h.symm
    · cases h
  generalize (if R = 65280 ∨ R = 0 then some (⟨5, (F : Nat), 0, [decide (R = 65280)], [], []⟩ : AskD) else none) = RR at *
  obtain ⟨t1, t2, ht1, ht2, ht3, ht4⟩ : ∃ t1 t2 : Bool, ((R : Int) == 65280) = t1 ∧ ((R : Int) == 0) = t2 ∧ decide (R = 65280) = t1 ∧ decide (R = 65280 ∨ R = 0) = (t1 || t2) := ⟨_, _, rfl, rfl, by rw [Bool.eq_iff_iff]; simp; omega, by rw [Bool.eq_iff_iff]; simp; omega⟩
  rw [ht3] at HS2; rw [ht4] at HS
  clear ht3 ht4
  cases t1 <;> cases t2
  all_goals
    go_enter Try.func128, Try.ntmps128
    go_wp2_with fail
    refine (HA1.out _ (Ext.two _ _ _)).mono ?_
    rintro e w1 ⟨rfl, d1, rfl⟩
    go_wp2_with fail
    refine (HA3.out _ (Ext.drewN' (Ext.two _ _ _) _)).mono ?_
    rintro e w3 ⟨rfl, d3, rfl⟩
    go_wp2_with fail
    first
      | exact bodyPost_ret (v := .tuple #[askV ⟨5, (F : Nat), 0, [false], [], []⟩ ⟨some ⟨w.heap.size + 1 + 1, 0, none⟩, 1, 1, none, 0, 0, none, 0, 0⟩, .bool false]) (by simp [results, Try.results128, go_sem, askV]) rfl ⟨_, _, by rw [HS.out]; rfl, fun a' ha => ⟨HS2.out a' ha, ⟨box_drew w _ _ (.bool false) _ _ IsBo ⟨false, rfl⟩ _, Own.nil_ _ _ _ _, OwP.nil_ _ _, by unfold i64P; simp, by unfold i64P; simp; omega, by unfold i64P; simp⟩⟩, Ext.alloc' (Ext.drewN' (Ext.two _ _ _) _) _⟩
      | exact bodyPost_ret (v := .tuple #[askV ⟨5, (F : Nat), 0, [false], [], []⟩ ⟨some ⟨w.heap.size + 1 + 1, 0, none⟩, 1, 1, none, 0, 0, none, 0, 0⟩, .bool true]) (by simp [results, Try.results128, go_sem, askV]) rfl ⟨_, _, by rw [HS.out]; rfl, fun a' ha => ⟨HS2.out a' ha, ⟨box_drew w _ _ (.bool false) _ _ IsBo ⟨false, rfl⟩ _, Own.nil_ _ _ _ _, OwP.nil_ _ _, by unfold i64P; simp, by unfold i64P; simp; omega, by unfold i64P; simp⟩⟩, Ext.alloc' (Ext.drewN' (Ext.two _ _ _) _) _⟩
      | exact bodyPost_ret (v := .tuple #[askV ⟨5, (F : Nat), 0, [true], [], []⟩ ⟨some ⟨w.heap.size + 1 + 1, 0, none⟩, 1, 1, none, 0, 0, none, 0, 0⟩, .bool true]) (by simp [results, Try.results128, go_sem, askV]) rfl ⟨_, _, by rw [HS.out]; rfl, fun a' ha => ⟨HS2.out a' ha, ⟨box_drew w _ _ (.bool true) _ _ IsBo ⟨true, rfl⟩ _, Own.nil_ _ _ _ _, OwP.nil_ _ _, by unfold i64P; simp, by unfold i64P; simp; omega, by unfold i64P; simp⟩⟩, Ext.alloc' (Ext.drewN' (Ext.two _ _ _) _) _⟩
end Go.Proofs.Ytpjmhckdeeonbaa
