/- Contract of ask.read: what a PDU of the right length says. -/
import Derived.Test.YtcnjhjfepojdaaaAskR
import Derived.Test.YtcnjhjfepojdaaaPackL2
import Derived.Test.YtcnjhjfepojdaaaPackW
namespace Go.Proofs.Ytcnjhjfepojdaaa
set_option linter.unusedVariables false
set_option linter.unusedSimpArgs false
set_option maxRecDepth 100000
set_option maxHeartbeats 1000000
open Go Go.RowKit Go.Out

/-- A request value in memory of the call's own. -/
structure AskOw (w : World) (base : Nat) (a : AskD) (s : AskS) : Prop where
  on : Own w base 4 IsBo s.A1 s.n1 s.c1 (a.on.map cL)
  set : Own w base 67 IsU16 s.A2 s.n2 s.c2 (a.set.map cW)
  parts : OwP w base (.slice s.A3 s.n3 s.c3) a.parts
  code : i64P a.code
  addr : i64P a.addr
  count : i64P a.count
def askS0 : AskS := ⟨none, 0, 0, none, 0, 0, none, 0, 0⟩
theorem AskOw.ext {w w' : World} {base : Nat} {a : AskD} {s : AskS} (h : AskOw w base a s) (hx : Ext w w') : AskOw w' base a s :=
  ⟨h.on.ext hx, h.set.ext hx, h.parts.ext hx, h.code, h.addr, h.count⟩
theorem AskOw.mono {w : World} {base base' : Nat} {a : AskD} {s : AskS} (h : AskOw w base a s) (hb : base' ≤ base) : AskOw w base' a s :=
  ⟨h.on.mono hb, h.set.mono hb, h.parts.mono hb, h.code, h.addr, h.count⟩
theorem AskOw.rd {w : World} {base : Nat} {a : AskD} {s : AskS} (h : AskOw w base a s) : AskRd w a s := by
  obtain ⟨A, c, e, h1, h2, h3, -⟩ := h.parts.form
  obtain ⟨B1, m1, k1, B2, m2, k2, B3, m3, k3⟩ := s
  simp only at e
  injection e with e1 e2 e3
  subst e1; subst e2; subst e3
  exact ⟨h.on.rd, h.set.rd, h3, h.code, h.addr, h.count, ⟨h.on.cap, h.on.capLe⟩, ⟨h.set.cap, h.set.capLe⟩, ⟨h1, h2⟩⟩
/-- What ask.read hands back. -/
def RetRead (w : World) (r : Option AskD) (e : Ending) (w' : World) : Prop :=
  ∃ (a : AskD) (s : AskS), e = .returned (.tuple #[askV a s, .bool r.isSome]) ∧ (∀ a', r = some a' → a' = a ∧ AskOw w' w.heap.size a s) ∧ Ext w w'

theorem or_w64 (x y : Nat) (hx : x < 256) (hy : y < 256) : bits .or .i64 (wrap64 (wrap64 (x : Int) * 256)) (wrap64 (y : Int)) = ((x * 256 + y : Nat) : Int) := by
  rw [show wrap64 (x : Int) = x by unfold wrap64; omega, show wrap64 (y : Int) = y by unfold wrap64; omega, show wrap64 ((x : Int) * 256) = (x : Int) * 256 by unfold wrap64; omega]
  exact or_i64 x y hx hy
theorem read_cnt (b : List UInt8) (k : Nat) (A : Option Addr) (m c : Nat) (w : World) (hr : Rd w A m (b.map cB)) (hc : m ≤ c) (hm : 5 ≤ m) (hk : b0 b = k) (h1 : 1 ≤ k) (h4 : k ≤ 4) :
    Calls Try.prog 33 #[.slice A m c] w (RetRead w (saidF b)) := by
  have hs : saidF b = some ⟨(k : Nat), (at2 b 1 : Nat), (at2 b 3 : Nat), [], [], []⟩ := by
    unfold saidF
    rw [hk, if_neg (by omega), if_neg (by omega), if_neg (by omega), if_neg (by omega), if_neg (by omega)]
  rw [hs]
  clear hs
  obtain ⟨bk, off, rfl, hbk, hcell⟩ := hr.u8all (by omega)
  have n1 : at2 b 1 = (b.getD 1 0).toNat * 256 + (b.getD 2 0).toNat := rfl
  have n3 : at2 b 3 = (b.getD 3 0).toNat * 256 + (b.getD 4 0).toNat := rfl
  have g0 := hcell 0 (by omega); have g1 := hcell 1 (by omega); have g2 := hcell 2 (by omega); have g3 := hcell 3 (by omega); have g4 := hcell 4 (by omega)
  have b1 := (b.getD 1 0).toNat_lt; have b2 := (b.getD 2 0).toNat_lt; have b3 := (b.getD 3 0).toNat_lt; have b4 := (b.getD 4 0).toNat_lt
  rw [n1, n3]
  rw [Nat.add_zero, show (b.getD 0 0).toNat = k from hk] at g0
  clear hcell n1 n3 hk
  have q1 := or_w64 (b.getD 1 0).toNat (b.getD 2 0).toNat b1 b2
  have q3 := or_w64 (b.getD 3 0).toNat (b.getD 4 0).toNat b3 b4
  have r1 := or_i64 (b.getD 1 0).toNat (b.getD 2 0).toNat b1 b2
  have r3 := or_i64 (b.getD 3 0).toNat (b.getD 4 0).toNat b3 b4
  generalize (b.getD 1 0).toNat = x1 at *
  generalize (b.getD 2 0).toNat = x2 at *
  generalize (b.getD 3 0).toNat = x3 at *
  generalize (b.getD 4 0).toNat = x4 at *
  obtain ⟨F, hF⟩ : ∃ F, x1 * 256 + x2 = F := ⟨_, rfl⟩
  obtain ⟨R, hR⟩ : ∃ R, x3 * 256 + x4 = R := ⟨_, rfl⟩
  rw [hF] at r1 q1 ⊢; rw [hR] at r3 q3 ⊢
  have hF6 : F < 65536 := by omega
  have hR6 : R < 65536 := by omega
  clear hF hR b1 b2 b3 b4
  have i0 : 0 < m := by omega
  have i1 : (1 : Int) < (m : Int) := by omega
  have i2 : (2 : Int) < (m : Int) := by omega
  have i3 : (3 : Int) < (m : Int) := by omega
  have i4 : (4 : Int) < (m : Int) := by omega
  go_enter Try.func33, Try.ntmps33
  go_wp2_with fail
  go_region
  go_wp2_with fail
  go_region
  go_wp2_with fail
  refine bodyPost_ret (v := .tuple #[askV ⟨(k : Nat), (F : Nat), (R : Nat), [], [], []⟩ askS0, .bool true]) (by simp [results, Try.results33, go_sem, askV, askS0]) rfl ⟨_, _, rfl, ?_, ?_⟩
  · intro a' ha
    injection ha with ha
    exact ⟨ha.symm, ⟨Own.nil_ _ _ _ _, Own.nil_ _ _ _ _, OwP.nil_ _ _, by unfold i64P; simp; omega, by unfold i64P; simp; omega, by unfold i64P; simp; omega⟩⟩
  · exact ((Ext.alloc _ _).trans (Ext.alloc _ _)).drew'.drew'
theorem read_reg (b : List UInt8) (A : Option Addr) (m c : Nat) (w : World) (hr : Rd w A m (b.map cB)) (hc : m ≤ c) (hm : 5 ≤ m) (hk : b0 b = 6) :
    Calls Try.prog 33 #[.slice A m c] w (RetRead w (saidF b)) := by
  have hs : saidF b = some ⟨6, (at2 b 1 : Nat), 0, [], [UInt16.ofNat (at2 b 3)], []⟩ := by
    unfold saidF
    rw [hk, if_neg (by omega), if_neg (by omega), if_pos rfl]
  rw [hs]
  clear hs
  obtain ⟨bk, off, rfl, hbk, hcell⟩ := hr.u8all (by omega)
  have n1 : at2 b 1 = (b.getD 1 0).toNat * 256 + (b.getD 2 0).toNat := rfl
  have n3 : at2 b 3 = (b.getD 3 0).toNat * 256 + (b.getD 4 0).toNat := rfl
  have g0 := hcell 0 (by omega); have g1 := hcell 1 (by omega); have g2 := hcell 2 (by omega); have g3 := hcell 3 (by omega); have g4 := hcell 4 (by omega)
  have b1 := (b.getD 1 0).toNat_lt; have b2 := (b.getD 2 0).toNat_lt; have b3 := (b.getD 3 0).toNat_lt; have b4 := (b.getD 4 0).toNat_lt
  rw [n1, n3]
  rw [Nat.add_zero, show (b.getD 0 0).toNat = 6 from hk] at g0
  clear hcell n1 n3 hk
  have q1 := or_w64 (b.getD 1 0).toNat (b.getD 2 0).toNat b1 b2
  have q3 := or_w64 (b.getD 3 0).toNat (b.getD 4 0).toNat b3 b4
  have r1 := or_i64 (b.getD 1 0).toNat (b.getD 2 0).toNat b1 b2
  have r3 := or_i64 (b.getD 3 0).toNat (b.getD 4 0).toNat b3 b4
  generalize (b.getD 1 0).toNat = x1 at *
  generalize (b.getD 2 0).toNat = x2 at *
  generalize (b.getD 3 0).toNat = x3 at *
  generalize (b.getD 4 0).toNat = x4 at *
  obtain ⟨F, hF⟩ : ∃ F, x1 * 256 + x2 = F := ⟨_, rfl⟩
  obtain ⟨R, hR⟩ : ∃ R, x3 * 256 + x4 = R := ⟨_, rfl⟩
  rw [hF] at r1 q1 ⊢; rw [hR] at r3 q3 ⊢
  have hF6 : F < 65536 := by omega
  have hR6 : R < 65536 := by omega
  clear hF hR b1 b2 b3 b4
  have i0 : 0 < m := by omega
  have i1 : (1 : Int) < (m : Int) := by omega
  have i2 : (2 : Int) < (m : Int) := by omega
  have i3 : (3 : Int) < (m : Int) := by omega
  have i4 : (4 : Int) < (m : Int) := by omega
  have hw16 : IntKind.u16.wrap (R : Int) = (R : Int) := by rw [IntKind.wrap_u16]; omega
  go_enter Try.func33, Try.ntmps33
  go_wp2_with fail
  go_region
  go_wp2_with fail
  go_region
  go_wp2_with fail
  refine bodyPost_ret (v := .tuple #[askV ⟨6, (F : Nat), 0, [], [UInt16.ofNat R], []⟩ ⟨none, 0, 0, some ⟨w.heap.size + 1 + 1, 0, none⟩, 1, 1, none, 0, 0⟩, .bool true]) (by simp [results, Try.results33, go_sem, askV]) rfl ⟨_, _, rfl, ?_, ?_⟩
  · intro a' ha
    injection ha with ha
    refine ⟨ha.symm, ⟨Own.nil_ _ _ _ _, ?_, OwP.nil_ _ _, by unfold i64P; simp, by unfold i64P; simp; omega, by unfold i64P; simp⟩⟩
    have hR16 : (UInt16.ofNat R).toNat = R := by simp; omega
    have h := Own.new (p := IsU16) (base := w.heap.size) (((w.alloc (.cells #[.int .i64 6, .int .i64 (F : Int), .int .i64 0, .slice none 0 0, .slice (some ⟨w.heap.size + 1 + 1, 0, none⟩) 1 1, .slice none 0 0] 26)).alloc (.cells #[.int .i64 6, .int .i64 (F : Int), .int .i64 0, .slice none 0 0, .slice (some ⟨w.heap.size + 1 + 1, 0, none⟩) 1 1, .slice none 0 0] 26))) (by simp; omega) 67 #[.int .u16 (R : Int)] 1 (by simp) (by simp [maxLen]) (by intro u hu; simp at hu; subst hu; exact isU16_of (by omega) (by omega))
    have e : ([UInt16.ofNat R] : List UInt16).map cW = [.int .u16 (R : Int)] := by simp only [List.map_cons, List.map_nil, cW, hR16]
    show Own _ _ _ _ _ _ _ (([UInt16.ofNat R] : List UInt16).map cW)
    rw [e]
    simpa using h.drew.drew
  · exact ((Ext.alloc _ _).trans ((Ext.alloc _ _).trans (Ext.alloc _ _))).drew'.drew'
end Go.Proofs.Ytcnjhjfepojdaaa

namespace Go.Proofs.Ytcnjhjfepojdaaa
set_option linter.unusedVariables false
set_option linter.unusedSimpArgs false
set_option maxRecDepth 100000
set_option maxHeartbeats 1000000
open Go Go.RowKit Go.Out

theorem box_two (w : World) (cs1 cs2 : Array Value) (v : Value) (t e : TypeId) (p : Value → Prop) (hp : p v) : Own ((((w.alloc (.cells cs1 t)).alloc (.cells cs2 t)).alloc (.cells #[v] e)).drew.drew) w.heap.size e p (some ⟨w.heap.size + 1 + 1, 0, none⟩) 1 1 [v] := by
  have h := Own.new (p := p) (base := w.heap.size) ((w.alloc (.cells cs1 t)).alloc (.cells cs2 t)) (by simp; omega) e #[v] 1 (by simp) (by simp [maxLen]) (by intro u hu; simp at hu; subst hu; exact hp)
  simpa using h.drew.drew
theorem read_coil (b : List UInt8) (A : Option Addr) (m c : Nat) (w : World) (hr : Rd w A m (b.map cB)) (hc : m ≤ c) (hm : 5 ≤ m) (hk : b0 b = 5) :
    Calls Try.prog 33 #[.slice A m c] w (RetRead w (saidF b)) := by
  have hs : saidF b = if at2 b 3 = 65280 ∨ at2 b 3 = 0 then some ⟨5, (at2 b 1 : Nat), 0, [decide (at2 b 3 = 65280)], [], []⟩ else none := by
    unfold saidF
    rw [hk, if_neg (by omega), if_pos rfl]
  rw [hs]
  clear hs
  obtain ⟨bk, off, rfl, hbk, hcell⟩ := hr.u8all (by omega)
  have n1 : at2 b 1 = (b.getD 1 0).toNat * 256 + (b.getD 2 0).toNat := rfl
  have n3 : at2 b 3 = (b.getD 3 0).toNat * 256 + (b.getD 4 0).toNat := rfl
  have g0 := hcell 0 (by omega); have g1 := hcell 1 (by omega); have g2 := hcell 2 (by omega); have g3 := hcell 3 (by omega); have g4 := hcell 4 (by omega)
  have b1 := (b.getD 1 0).toNat_lt; have b2 := (b.getD 2 0).toNat_lt; have b3 := (b.getD 3 0).toNat_lt; have b4 := (b.getD 4 0).toNat_lt
  rw [n1, n3]
  rw [Nat.add_zero, show (b.getD 0 0).toNat = 5 from hk] at g0
  clear hcell n1 n3 hk
  have q1 := or_w64 (b.getD 1 0).toNat (b.getD 2 0).toNat b1 b2
  have q3 := or_w64 (b.getD 3 0).toNat (b.getD 4 0).toNat b3 b4
  have r1 := or_i64 (b.getD 1 0).toNat (b.getD 2 0).toNat b1 b2
  have r3 := or_i64 (b.getD 3 0).toNat (b.getD 4 0).toNat b3 b4
  generalize (b.getD 1 0).toNat = x1 at *
  generalize (b.getD 2 0).toNat = x2 at *
  generalize (b.getD 3 0).toNat = x3 at *
  generalize (b.getD 4 0).toNat = x4 at *
  obtain ⟨F, hF⟩ : ∃ F, x1 * 256 + x2 = F := ⟨_, rfl⟩
  obtain ⟨R, hR⟩ : ∃ R, x3 * 256 + x4 = R := ⟨_, rfl⟩
  rw [hF] at r1 q1 ⊢; rw [hR] at r3 q3 ⊢
  have hF6 : F < 65536 := by omega
  have hR6 : R < 65536 := by omega
  clear hF hR b1 b2 b3 b4
  have i0 : 0 < m := by omega
  have i1 : (1 : Int) < (m : Int) := by omega
  have i2 : (2 : Int) < (m : Int) := by omega
  have i3 : (3 : Int) < (m : Int) := by omega
  have i4 : (4 : Int) < (m : Int) := by omega
  have HS := Lib.hid (show (if R = 65280 ∨ R = 0 then some (⟨5, (F : Nat), 0, [decide (R = 65280)], [], []⟩ : AskD) else none).isSome = decide (R = 65280 ∨ R = 0) by split <;> simp [*])
  have HS2 : Hid (∀ a', (if R = 65280 ∨ R = 0 then some (⟨5, (F : Nat), 0, [decide (R = 65280)], [], []⟩ : AskD) else none) = some a' → a' = ⟨5, (F : Nat), 0, [decide (R = 65280)], [], []⟩) := by
    intro a' h
    split at h
    · injection h with h; exact h.symm
    · cases h
  generalize (if R = 65280 ∨ R = 0 then some (⟨5, (F : Nat), 0, [decide (R = 65280)], [], []⟩ : AskD) else none) = RR at *
  obtain ⟨t1, t2, ht1, ht2, ht3, ht4⟩ : ∃ t1 t2 : Bool, ((R : Int) == 65280) = t1 ∧ ((R : Int) == 0) = t2 ∧ decide (R = 65280) = t1 ∧ decide (R = 65280 ∨ R = 0) = (t1 || t2) := ⟨_, _, rfl, rfl, by rw [Bool.eq_iff_iff]; simp; omega, by rw [Bool.eq_iff_iff]; simp; omega⟩
  rw [ht3] at HS2; rw [ht4] at HS
  clear ht3 ht4
  cases t1 <;> cases t2
  all_goals
    go_enter Try.func33, Try.ntmps33
    go_wp2_with fail
    go_region
    go_wp2_with fail
    go_region
    go_wp2_with fail
    first
      | exact bodyPost_ret (v := .tuple #[askV ⟨5, (F : Nat), 0, [false], [], []⟩ ⟨some ⟨w.heap.size + 1 + 1, 0, none⟩, 1, 1, none, 0, 0, none, 0, 0⟩, .bool false]) (by simp [results, Try.results33, go_sem, askV]) rfl ⟨_, _, by rw [HS.out]; rfl, fun a' ha => ⟨HS2.out a' ha, ⟨box_two w _ _ (.bool false) _ _ IsBo ⟨false, rfl⟩, Own.nil_ _ _ _ _, OwP.nil_ _ _, by unfold i64P; simp, by unfold i64P; simp; omega, by unfold i64P; simp⟩⟩, ((Ext.alloc _ _).trans ((Ext.alloc _ _).trans (Ext.alloc _ _))).drew'.drew'⟩
      | exact bodyPost_ret (v := .tuple #[askV ⟨5, (F : Nat), 0, [false], [], []⟩ ⟨some ⟨w.heap.size + 1 + 1, 0, none⟩, 1, 1, none, 0, 0, none, 0, 0⟩, .bool true]) (by simp [results, Try.results33, go_sem, askV]) rfl ⟨_, _, by rw [HS.out]; rfl, fun a' ha => ⟨HS2.out a' ha, ⟨box_two w _ _ (.bool false) _ _ IsBo ⟨false, rfl⟩, Own.nil_ _ _ _ _, OwP.nil_ _ _, by unfold i64P; simp, by unfold i64P; simp; omega, by unfold i64P; simp⟩⟩, ((Ext.alloc _ _).trans ((Ext.alloc _ _).trans (Ext.alloc _ _))).drew'.drew'⟩
      | exact bodyPost_ret (v := .tuple #[askV ⟨5, (F : Nat), 0, [true], [], []⟩ ⟨some ⟨w.heap.size + 1 + 1, 0, none⟩, 1, 1, none, 0, 0, none, 0, 0⟩, .bool true]) (by simp [results, Try.results33, go_sem, askV]) rfl ⟨_, _, by rw [HS.out]; rfl, fun a' ha => ⟨HS2.out a' ha, ⟨box_two w _ _ (.bool true) _ _ IsBo ⟨true, rfl⟩, Own.nil_ _ _ _ _, OwP.nil_ _ _, by unfold i64P; simp, by unfold i64P; simp; omega, by unfold i64P; simp⟩⟩, ((Ext.alloc _ _).trans ((Ext.alloc _ _).trans (Ext.alloc _ _))).drew'.drew'⟩
end Go.Proofs.Ytcnjhjfepojdaaa
