/- Contract of ask.read: what a PDU of the right length says. -/
import Derived.Test.YtomcipkmohhpjaaGreatG04
import Derived.Test.YtomcipkmohhpjaaGreatG01
import Derived.Test.YtomcipkmohhpjaaGreatG03
import Derived.Deep.RegionWith
import Derived.Lib.SlBytesConst
import Derived.StillTailTactics
import Derived.Test.YtomcipkmohhpjaaGreatG00
namespace Go.Proofs.YtomcipkmohhpjaaGreat
set_option linter.unusedVariables false
set_option linter.unusedSimpArgs false
set_option maxRecDepth 100000
set_option maxHeartbeats 1000000
open Go Go.RowKit Go.Out

/-- A request value in memory of the call's own. -/
structure AskOw (w : World) (base : Nat) (a : AskD) (s : AskS) : Prop where
  on : Own w base 4 IsBo s.A1 s.n1 s.c1 (a.on.map cL)
  set : Own w base 48 IsU16 s.A2 s.n2 s.c2 (a.set.map cW)
  parts : OwP w base (.slice s.A3 s.n3 s.c3) a.parts
  code : i64P a.code
  addr : i64P a.addr
  count : i64P a.count
def askS0 : AskS := ⟨none, 0, 0, none, 0, 0, none, 0, 0⟩
theorem AskOw.ext {w w' : World} {base : Nat} {a : AskD} {s : AskS} (h : AskOw w base a s) (hx : Ext w w') : AskOw w' base a s :=
  ⟨h.on.ext hx, h.set.ext hx, h.parts.ext hx, h.code, h.addr, h.count⟩
theorem AskOw.mono {w : World} {base base' : Nat} {a : AskD} {s : AskS} (h : AskOw w base a s) (hb : base' ≤ base) : AskOw w base' a s :=
  ⟨h.on.mono hb, h.set.mono hb, h.parts.mono hb, h.code, h.addr, h.count⟩
theorem AskOw.rd {w : World} {base : Nat} {a : AskD} {s : AskS} (h : AskOw w base a s) : AskRd w a s := by
  obtain ⟨A, c, e, h1, h2, h3, -⟩ := h.parts.form
  obtain ⟨B1, m1, k1, B2, m2, k2, B3, m3, k3⟩ := s
  simp only at e
  injection e with e1 e2 e3
  subst e1; subst e2; subst e3
  exact ⟨h.on.rd, h.set.rd, h3, h.code, h.addr, h.count, ⟨h.on.cap, h.on.capLe⟩, ⟨h.set.cap, h.set.capLe⟩, ⟨h1, h2⟩⟩
/-- What ask.read hands back. -/
def RetRead (w : World) (r : Option AskD) (e : Ending) (w' : World) : Prop :=
  ∃ (a : AskD) (s : AskS), e = .returned (.tuple #[askV a s, .bool r.isSome]) ∧ (∀ a', r = some a' → a' = a ∧ AskOw w' w.heap.size a s) ∧ Ext w w'

theorem or_w64 (x y : Nat) (hx : x < 256) (hy : y < 256) : bits .or .i64 (wrap64 (wrap64 (x : Int) * 256)) (wrap64 (y : Int)) = ((x * 256 + y : Nat) : Int) := by
  rw [show wrap64 (x : Int) = x by unfold wrap64; omega, show wrap64 (y : Int) = y by unfold wrap64; omega, show wrap64 ((x : Int) * 256) = (x : Int) * 256 by unfold wrap64; omega]
  exact or_i64 x y hx hy
theorem read_cnt (b : List UInt8) (k : Nat) (A : Option Addr) (m c : Nat) (w : World) (hr : Rd w A m (b.map cB)) (hc : m ≤ c) (hm : 5 ≤ m) (hk : b0 b = k) (h1 : 1 ≤ k) (h4 : k ≤ 4) :
    Calls Tryz.prog 83 #[.slice A m c] w (RetRead w (saidF b)) := by
  have hs : saidF b = some ⟨(k : Nat), (at2 b 1 : Nat), (at2 b 3 : Nat), [], [], []⟩ := by
    unfold saidF
    rw [hk, if_neg (by omega), if_neg (by omega), if_neg (by omega), if_neg (by omega), if_neg (by omega)]
  rw [hs]
  clear hs
  obtain ⟨bk, off, rfl, hbk, hcell⟩ := hr.u8all (by omega)
  have n1 : at2 b 1 = (b.getD 1 0).toNat * 256 + (b.getD 2 0).toNat := rfl
  have n3 : at2 b 3 = (b.getD 3 0).toNat * 256 + (b.getD 4 0).toNat := rfl
  have g0 := hcell 0 (by omega); have g1 := hcell 1 (by omega); have g2 := hcell 2 (by omega); have g3 := hcell 3 (by omega); have g4 := hcell 4 (by omega)
  have b1 := (b.getD 1 0).toNat_lt; have b2 := (b.getD 2 0).toNat_lt; have b3 := (b.getD 3 0).toNat_lt; have b4 := (b.getD 4 0).toNat_lt
  rw [n1, n3]
  rw [Nat.add_zero, show (b.getD 0 0).toNat = k from hk] at g0
  clear hcell n1 n3 hk
  have q1 := or_w64 (b.getD 1 0).toNat (b.getD 2 0).toNat b1 b2
  have q3 := or_w64 (b.getD 3 0).toNat (b.getD 4 0).toNat b3 b4
  have r1 := or_i64 (b.getD 1 0).toNat (b.getD 2 0).toNat b1 b2
  have r3 := or_i64 (b.getD 3 0).toNat (b.getD 4 0).toNat b3 b4
  generalize (b.getD 1 0).toNat = x1 at *
  generalize (b.getD 2 0).toNat = x2 at *
  generalize (b.getD 3 0).toNat = x3 at *
  generalize (b.getD 4 0).toNat = x4 at *
  obtain ⟨F, hF⟩ : ∃ F, x1 * 256 + x2 = F := ⟨_, rfl⟩
  obtain ⟨R, hR⟩ : ∃ R, x3 * 256 + x4 = R := ⟨_, rfl⟩
  rw [hF] at r1 q1 ⊢; rw [hR] at r3 q3 ⊢
  have hF6 : F < 65536 := by omega
  have hR6 : R < 65536 := by omega
  clear hF hR b1 b2 b3 b4
  have i0 : 0 < m := by omega
  have i1 : (1 : Int) < (m : Int) := by omega
  have i2 : (2 : Int) < (m : Int) := by omega
  have i3 : (3 : Int) < (m : Int) := by omega
  have i4 : (4 : Int) < (m : Int) := by omega
  go_enter Tryz.func83, Tryz.ntmps83
  go_wp2_with fail
  go_region
  go_wp2_with fail
  go_region
  go_wp2_with fail
  refine bodyPost_ret (v := .tuple #[askV ⟨(k : Nat), (F : Nat), (R : Nat), [], [], []⟩ askS0, .bool true]) (by simp [results, Tryz.results83, go_sem, askV, askS0]) rfl ⟨_, _, rfl, ?_, ?_⟩
  · intro a' ha
    injection ha with ha
    exact ⟨ha.symm, ⟨Own.nil_ _ _ _ _, Own.nil_ _ _ _ _, OwP.nil_ _ _, by unfold i64P; simp; omega, by unfold i64P; simp; omega, by unfold i64P; simp; omega⟩⟩
  · exact ((Ext.alloc _ _).trans (Ext.alloc _ _)).drew'.drew'
theorem read_reg (b : List UInt8) (A : Option Addr) (m c : Nat) (w : World) (hr : Rd w A m (b.map cB)) (hc : m ≤ c) (hm : 5 ≤ m) (hk : b0 b = 6) :
    Calls Tryz.prog 83 #[.slice A m c] w (RetRead w (saidF b)) := by
  have hs : saidF b = some ⟨6, (at2 b 1 : Nat), 0, [], [UInt16.ofNat (at2 b 3)], []⟩ := by
    unfold saidF
    rw [hk, if_neg (by omega), if_neg (by omega), if_pos rfl]
  rw [hs]
  clear hs
  obtain ⟨bk, off, rfl, hbk, hcell⟩ := hr.u8all (by omega)
  have n1 : at2 b 1 = (b.getD 1 0).toNat * 256 + (b.getD 2 0).toNat := rfl
  have n3 : at2 b 3 = (b.getD 3 0).toNat * 256 + (b.getD 4 0).toNat := rfl
  have g0 := hcell 0 (by omega); have g1 := hcell 1 (by omega); have g2 := hcell 2 (by omega); have g3 := hcell 3 (by omega); have g4 := hcell 4 (by omega)
  have b1 := (b.getD 1 0).toNat_lt; have b2 := (b.getD 2 0).toNat_lt; have b3 := (b.getD 3 0).toNat_lt; have b4 := (b.getD 4 0).toNat_lt
  rw [n1, n3]
  rw [Nat.add_zero, show (b.getD 0 0).toNat = 6 from hk] at g0
  clear hcell n1 n3 hk
  have q1 := or_w64 (b.getD 1 0).toNat (b.getD 2 0).toNat b1 b2
  have q3 := or_w64 (b.getD 3 0).toNat (b.getD 4 0).toNat b3 b4
  have r1 := or_i64 (b.getD 1 0).toNat (b.getD 2 0).toNat b1 b2
  have r3 := or_i64 (b.getD 3 0).toNat (b.getD 4 0).toNat b3 b4
  generalize (b.getD 1 0).toNat = x1 at *
  generalize (b.getD 2 0).toNat = x2 at *
  generalize (b.getD 3 0).toNat = x3 at *
  generalize (b.getD 4 0).toNat = x4 at *
  obtain ⟨F, hF⟩ : ∃ F, x1 * 256 + x2 = F := ⟨_, rfl⟩
  obtain ⟨R, hR⟩ : ∃ R, x3 * 256 + x4 = R := ⟨_, rfl⟩
  rw [hF] at r1 q1 ⊢; rw [hR] at r3 q3 ⊢
  have hF6 : F < 65536 := by omega
  have hR6 : R < 65536 := by omega
  clear hF hR b1 b2 b3 b4
  have i0 : 0 < m := by omega
  have i1 : (1 : Int) < (m : Int) := by omega
  have i2 : (2 : Int) < (m : Int) := by omega
  have i3 : (3 : Int) < (m : Int) := by omega
  have i4 : (4 : Int) < (m : Int) := by omega
  have hw16 : IntKind.u16.wrap (R : Int) = (R : Int) := by rw [IntKind.wrap_u16]; omega
  go_enter Tryz.func83, Tryz.ntmps83
  go_wp2_with fail
  go_region
  go_wp2_with fail
  go_region
  go_wp2_with fail
  refine bodyPost_ret (v := .tuple #[askV ⟨6, (F : Nat), 0, [], [UInt16.ofNat R], []⟩ ⟨none, 0, 0, some ⟨w.heap.size + 1 + 1, 0, none⟩, 1, 1, none, 0, 0⟩, .bool true]) (by simp [results, Tryz.results83, go_sem, askV]) rfl ⟨_, _, rfl, ?_, ?_⟩
  · intro a' ha
    injection ha with ha
    refine ⟨ha.symm, ⟨Own.nil_ _ _ _ _, ?_, OwP.nil_ _ _, by unfold i64P; simp, by unfold i64P; simp; omega, by unfold i64P; simp⟩⟩
    have hR16 : (UInt16.ofNat R).toNat = R := by simp; omega
    have h := Own.new (p := IsU16) (base := w.heap.size) (((w.alloc (.cells #[.int .i64 6, .int .i64 (F : Int), .int .i64 0, .slice none 0 0, .slice (some ⟨w.heap.size + 1 + 1, 0, none⟩) 1 1, .slice none 0 0] 37)).alloc (.cells #[.int .i64 6, .int .i64 (F : Int), .int .i64 0, .slice none 0 0, .slice (some ⟨w.heap.size + 1 + 1, 0, none⟩) 1 1, .slice none 0 0] 37))) (by simp; omega) 48 #[.int .u16 (R : Int)] 1 (by simp) (by simp [maxLen]) (by intro u hu; simp at hu; subst hu; exact isU16_of (by omega) (by omega))
    have e : ([UInt16.ofNat R] : List UInt16).map cW = [.int .u16 (R : Int)] := by simp only [List.map_cons, List.map_nil, cW, hR16]
    show Own _ _ _ _ _ _ _ (([UInt16.ofNat R] : List UInt16).map cW)
    rw [e]
    simpa using h.drew.drew
  · exact ((Ext.alloc _ _).trans ((Ext.alloc _ _).trans (Ext.alloc _ _))).drew'.drew'
end Go.Proofs.YtomcipkmohhpjaaGreat

namespace Go.Proofs.YtomcipkmohhpjaaGreat
set_option linter.unusedVariables false
set_option linter.unusedSimpArgs false
set_option maxRecDepth 100000
set_option maxHeartbeats 1000000
open Go Go.RowKit Go.Out

theorem box_two (w : World) (cs1 cs2 : Array Value) (v : Value) (t e : TypeId) (p : Value → Prop) (hp : p v) : Own ((((w.alloc (.cells cs1 t)).alloc (.cells cs2 t)).alloc (.cells #[v] e)).drew.drew) w.heap.size e p (some ⟨w.heap.size + 1 + 1, 0, none⟩) 1 1 [v] := by
  have h := Own.new (p := p) (base := w.heap.size) ((w.alloc (.cells cs1 t)).alloc (.cells cs2 t)) (by simp; omega) e #[v] 1 (by simp) (by simp [maxLen]) (by intro u hu; simp at hu; subst hu; exact hp)
  simpa using h.drew.drew
theorem read_coil (b : List UInt8) (A : Option Addr) (m c : Nat) (w : World) (hr : Rd w A m (b.map cB)) (hc : m ≤ c) (hm : 5 ≤ m) (hk : b0 b = 5) :
    Calls Tryz.prog 83 #[.slice A m c] w (RetRead w (saidF b)) := by
  have hs : saidF b = if at2 b 3 = 65280 ∨ at2 b 3 = 0 then some ⟨5, (at2 b 1 : Nat), 0, [decide (at2 b 3 = 65280)], [], []⟩ else none := by
    unfold saidF
    rw [hk, if_neg (by omega), if_pos rfl]
  rw [hs]
  clear hs
  obtain ⟨bk, off, rfl, hbk, hcell⟩ := hr.u8all (by omega)
  have n1 : at2 b 1 = (b.getD 1 0).toNat * 256 + (b.getD 2 0).toNat := rfl
  have n3 : at2 b 3 = (b.getD 3 0).toNat * 256 + (b.getD 4 0).toNat := rfl
  have g0 := hcell 0 (by omega); have g1 := hcell 1 (by omega); have g2 := hcell 2 (by omega); have g3 := hcell 3 (by omega); have g4 := hcell 4 (by omega)
  have b1 := (b.getD 1 0).toNat_lt; have b2 := (b.getD 2 0).toNat_lt; have b3 := (b.getD 3 0).toNat_lt; have b4 := (b.getD 4 0).toNat_lt
  rw [n1, n3]
  rw [Nat.add_zero, show (b.getD 0 0).toNat = 5 from hk] at g0
  clear hcell n1 n3 hk
  have q1 := or_w64 (b.getD 1 0).toNat (b.getD 2 0).toNat b1 b2
  have q3 := or_w64 (b.getD 3 0).toNat (b.getD 4 0).toNat b3 b4
  have r1 := or_i64 (b.getD 1 0).toNat (b.getD 2 0).toNat b1 b2
  have r3 := or_i64 (b.getD 3 0).toNat (b.getD 4 0).toNat b3 b4
  generalize (b.getD 1 0).toNat = x1 at *
  generalize (b.getD 2 0).toNat = x2 at *
  generalize (b.getD 3 0).toNat = x3 at *
  generalize (b.getD 4 0).toNat = x4 at *
  obtain ⟨F, hF⟩ : ∃ F, x1 * 256 + x2 = F := ⟨_, rfl⟩
  obtain ⟨R, hR⟩ : ∃ R, x3 * 256 + x4 = R := ⟨_, rfl⟩
  rw [hF] at r1 q1 ⊢; rw [hR] at r3 q3 ⊢
  have hF6 : F < 65536 := by omega
  have hR6 : R < 65536 := by omega
  clear hF hR b1 b2 b3 b4
  have i0 : 0 < m := by omega
  have i1 : (1 : Int) < (m : Int) := by omega
  have i2 : (2 : Int) < (m : Int) := by omega
  have i3 : (3 : Int) < (m : Int) := by omega
  have i4 : (4 : Int) < (m : Int) := by omega
  have HS := Lib.hid (show (if R = 65280 ∨ R = 0 then some (⟨5, (F : Nat), 0, [decide (R = 65280)], [], []⟩ : AskD) else none).isSome = decide (R = 65280 ∨ R = 0) by split <;> simp [*])
  have HS2 : Hid (∀ a', (if R = 65280 ∨ R = 0 then some (⟨5, (F : Nat), 0, [decide (R = 65280)], [], []⟩ : AskD) else none) = some a' → a' = ⟨5, (F : Nat), 0, [decide (R = 65280)], [], []⟩) := by
    intro a' h
    split at h
    · injection h with h; exact h.symm
    · cases h
  generalize (if R = 65280 ∨ R = 0 then some (⟨5, (F : Nat), 0, [decide (R = 65280)], [], []⟩ : AskD) else none) = RR at *
  obtain ⟨t1, t2, ht1, ht2, ht3, ht4⟩ : ∃ t1 t2 : Bool, ((R : Int) == 65280) = t1 ∧ ((R : Int) == 0) = t2 ∧ decide (R = 65280) = t1 ∧ decide (R = 65280 ∨ R = 0) = (t1 || t2) := ⟨_, _, rfl, rfl, by rw [Bool.eq_iff_iff]; simp; omega, by rw [Bool.eq_iff_iff]; simp; omega⟩
  rw [ht3] at HS2; rw [ht4] at HS
  clear ht3 ht4
  cases t1 <;> cases t2
  all_goals
    go_enter Tryz.func83, Tryz.ntmps83
    go_wp2_with fail
    go_region
    go_wp2_with fail
    go_region
    go_wp2_with fail
    first
      | exact bodyPost_ret (v := .tuple #[askV ⟨5, (F : Nat), 0, [false], [], []⟩ ⟨some ⟨w.heap.size + 1 + 1, 0, none⟩, 1, 1, none, 0, 0, none, 0, 0⟩, .bool false]) (by simp [results, Tryz.results83, go_sem, askV]) rfl ⟨_, _, by rw [HS.out]; rfl, fun a' ha => ⟨HS2.out a' ha, ⟨box_two w _ _ (.bool false) _ _ IsBo ⟨false, rfl⟩, Own.nil_ _ _ _ _, OwP.nil_ _ _, by unfold i64P; simp, by unfold i64P; simp; omega, by unfold i64P; simp⟩⟩, ((Ext.alloc _ _).trans ((Ext.alloc _ _).trans (Ext.alloc _ _))).drew'.drew'⟩
      | exact bodyPost_ret (v := .tuple #[askV ⟨5, (F : Nat), 0, [false], [], []⟩ ⟨some ⟨w.heap.size + 1 + 1, 0, none⟩, 1, 1, none, 0, 0, none, 0, 0⟩, .bool true]) (by simp [results, Tryz.results83, go_sem, askV]) rfl ⟨_, _, by rw [HS.out]; rfl, fun a' ha => ⟨HS2.out a' ha, ⟨box_two w _ _ (.bool false) _ _ IsBo ⟨false, rfl⟩, Own.nil_ _ _ _ _, OwP.nil_ _ _, by unfold i64P; simp, by unfold i64P; simp; omega, by unfold i64P; simp⟩⟩, ((Ext.alloc _ _).trans ((Ext.alloc _ _).trans (Ext.alloc _ _))).drew'.drew'⟩
      | exact bodyPost_ret (v := .tuple #[askV ⟨5, (F : Nat), 0, [true], [], []⟩ ⟨some ⟨w.heap.size + 1 + 1, 0, none⟩, 1, 1, none, 0, 0, none, 0, 0⟩, .bool true]) (by simp [results, Tryz.results83, go_sem, askV]) rfl ⟨_, _, by rw [HS.out]; rfl, fun a' ha => ⟨HS2.out a' ha, ⟨box_two w _ _ (.bool true) _ _ IsBo ⟨true, rfl⟩, Own.nil_ _ _ _ _, OwP.nil_ _ _, by unfold i64P; simp, by unfold i64P; simp; omega, by unfold i64P; simp⟩⟩, ((Ext.alloc _ _).trans ((Ext.alloc _ _).trans (Ext.alloc _ _))).drew'.drew'⟩
end Go.Proofs.YtomcipkmohhpjaaGreat

namespace Go.Out
open Go Go.RowKit
set_option linter.unusedVariables false
/-- What may have turned lies in F. -/
structure Only (F : Nat → Prop) (w w' : World) : Prop where
  os : w'.os = w.os
  tape : w'.tape = w.tape
  output : w'.output = w.output
  size : w.heap.size ≤ w'.heap.size
  block : ∀ k, k < w.heap.size → ¬ F k → w'.heap[k]? = w.heap[k]?
section
variable {F G : Nat → Prop} {w w1 w2 a : World}
theorem Only.refl (F : Nat → Prop) (w : World) : Only F w w := ⟨rfl, rfl, rfl, Nat.le_refl _, fun _ _ _ => rfl⟩
theorem Only.trans (h : Only F w w1) (k : Only G w1 w2) (hG : ∀ g, g < w.heap.size → G g → F g) : Only F w w2 :=
  ⟨k.os.trans h.os, k.tape.trans h.tape, k.output.trans h.output, Nat.le_trans h.size k.size, fun g hg hf => (k.block g (Nat.lt_of_lt_of_le hg h.size) (fun q => hf (hG g hg q))).trans (h.block g hg hf)⟩
theorem Only.of_ext (h : Ext w w1) : Only F w w1 := ⟨h.os, h.tape, h.output, h.size, fun k hk _ => Below.block h k hk⟩
theorem Only.of_grown {row : Option Nat} (h : w.grownBy w1 row) (hr : ∀ g, row = some g → F g) : Only F w w1 :=
  ⟨h.os, h.tape, h.output, h.size, fun k hk hf => h.block k hk (fun e => hf (hr k e.symm))⟩
theorem Only.new (h : Only (fun k => F k ∨ w.heap.size ≤ k) w w1) : Only F w w1 := ⟨h.os, h.tape, h.output, h.size, fun k hk hf => h.block k hk (fun q => by rcases q with q | q; exact hf q; omega)⟩
theorem Only.of_set {p : Addr} (u : Value) (hp : F p.block) : Only F w (w.setCell p u) :=
  ⟨rfl, rfl, rfl, by simp [World.setCell], fun k _ hf => Below.heap_setCell w p u k (fun e => hf (e ▸ hp))⟩
theorem Only.ext (h : Only F w w1) (hx : Ext a w) (hF : ∀ k, F k → a.heap.size ≤ k) : Ext a w1 :=
  ⟨h.os.trans hx.os, h.tape.trans hx.tape, h.output.trans hx.output, Nat.le_trans hx.size h.size,
   fun k hk => (h.block k (Nat.lt_of_lt_of_le hk hx.size) (fun q => absurd (hF k q) (by omega))).trans (Below.block hx k hk)⟩
theorem Only.mono (h : Only F w w1) (hF : ∀ k, F k → G k) : Only G w w1 := ⟨h.os, h.tape, h.output, h.size, fun k hk hg => h.block k hk (fun q => hg (hF k q))⟩
end
theorem Own.only {w w' : World} {F : Nat → Prop} {base : Nat} {e : TypeId} {q : Value → Prop} {A : Option Addr} {n c : Nat} {xs : List Value} (h : Own w base e q A n c xs) (ho : Only F w w') (hF : ∀ g, blk A = some g → ¬ F g) : Own w' base e q A n c xs :=
  h.kept fun g hg => ho.block g (h.lt g hg).2 (hF g hg)
end Go.Out

namespace Go.Proofs.YtomcipkmohhpjaaGreat
set_option linter.unusedVariables false
open Go Go.RowKit Go.Out

theorem more16_any (l : List UInt8) (A : Option Addr) (m c r : Nat) (w : World) (hr : Rd w A m (l.map cB)) (hm : m ≤ 140737488355328) (hrr : r < 65536) :
    Calls Tryz.prog 116 #[.int .u16 r, .slice A m c] w fun e w' => e = .returned (.int .u16 (more16 r l : Nat)) ∧ w = w' := by
  have Hr := Lib.hid hr; have Hrr := Lib.hid hrr; clear hr hrr
  go_enter Tryz.func116, Tryz.ntmps116
  go_wp2_with fail
  go_loop [0, 10] (fun x i => ∃ k : Nat, k ≤ m ∧ i = .int .i64 k ∧ x = .int .u16 (crc 40961 r (l.take k) : Nat)) (fun x i => m - (intOf i).toNat)
  case atStart => exact ⟨0, Nat.zero_le _, rfl, by simp [crc]⟩
  case round =>
    obtain ⟨k, hk, rfl, rfl⟩ := hrel
    by_cases hlt : k < m
    · obtain ⟨b1, o1, rfl, hb1, hl1, hc1⟩ := Hr.out.u8at hlt
      have hcl : crc 40961 r (l.take k) < 65536 := more16_lt Hrr.out _
      have hst := crc_take 40961 r l k hl1
      generalize crc 40961 r (l.take k) = R at *
      have hc2 := l[k].toNat_lt
      have Hst := Lib.hid hst; have Hcl := Lib.hid hcl; clear hst hcl
      have hx : IntKind.u16.wrap (l[k].toNat : Int) = (l[k].toNat : Int) := by rw [IntKind.wrap_u16]; omega
      have hxor : bits .xor .u16 (R : Int) (l[k].toNat : Int) = ((R ^^^ l[k].toNat : Nat) : Int) := u16_xor_nat _ _ Hcl.out (by omega)
      have hq : R ^^^ l[k].toNat < 2 ^ 16 := Nat.xor_lt_two_pow Hcl.out (by omega)
      generalize hQ : R ^^^ l[k].toNat = Q at *
      have HQ := Lib.hid hQ; have Hq := Lib.hid hq; clear hQ hq
      go_wp2_with fail
      go_loop [0, 18] (fun y q => ∃ j : Nat, j ≤ 8 ∧ q = .int .i64 j ∧ y = .int .u16 (citer 40961 j Q : Nat)) (fun y q => 8 - (intOf q).toNat)
      case atStart => exact ⟨0, by omega, rfl, rfl⟩
      case round =>
        obtain ⟨j, hj, rfl, rfl⟩ := hrel
        have hcj : citer 40961 j Q < 2 ^ 16 := citer_lt (by omega) Hq.out j
        have hcs : citer 40961 (j + 1) Q = cstep 40961 (citer 40961 j Q) := rfl
        have HX8 : Hid (j = 8 → citer 40961 j Q = citer 40961 8 Q) := fun h => by rw [h]
        generalize citer 40961 j Q = X at *
        have Hcj := Lib.hid hcj; have Hcs := Lib.hid hcs; clear hcj hcs
        by_cases hj8 : j < 8
        · have hdv : ((X / 2 : Nat) : Int) = (X : Int) / 2 := by simp
          have hwr : IntKind.u16.wrap ((X : Int) / 2) = (X : Int) / 2 := by have := Hcj.out; rw [IntKind.wrap_u16]; omega
          have hxr : bits .xor .u16 ((X : Int) / 2) 40961 = ((X / 2 ^^^ 40961 : Nat) : Int) := by have h := u16_xor_nat (X / 2) 40961 (by have := Hcj.out; omega) (by omega); rw [hdv] at h; exact h
          have Hw2 : Hid ((X : Int) / 2 % 65536 = (X : Int) / 2) := by have := Hcj.out; unfold Hid; omega
          have Hxr := Lib.hid hxr; have Hwr := Lib.hid hwr; clear hdv hxr hwr
          rcases Nat.mod_two_eq_zero_or_one X with h | h
          · have hp : bits .and .u16 (X : Int) 1 = 0 := by have h1 := u16_and_nat X 1 Hcj.out (by omega); rw [nat_mask1, h] at h1; exact h1
            have Hh := Lib.hid h; clear h
            go_wp2_with fail
            go_round
            case rel => exact ⟨j + 1, by omega, by go_num, by rw [Hcs.out]; unfold cstep; rw [if_neg (by have := Hh.out; omega)]; first | (rw [Hwr.out]; simp; done) | (rw [Hw2.out]; simp; done) | simp⟩
            case measure => simp [intOf]; omega
          · have hp : bits .and .u16 (X : Int) 1 = 1 := by have h1 := u16_and_nat X 1 Hcj.out (by omega); rw [nat_mask1, h] at h1; exact h1
            have Hh := Lib.hid h; clear h
            go_wp2_with fail
            go_round
            case rel => exact ⟨j + 1, by omega, by go_num, by rw [Hcs.out]; unfold cstep; rw [if_pos Hh.out]; first | rw [Hwr.out, Hxr.out] | rw [Hw2.out, Hxr.out] | rw [Hxr.out]⟩
            case measure => simp [intOf]; omega
        · obtain rfl : j = 8 := by omega
          have hfin : X = cbyte 40961 R l[k] := by unfold cbyte; rw [HQ.out]; exact HX8.out rfl
          go_wp2_with fail
          go_round
          case rel => exact ⟨k + 1, by omega, by go_num, by rw [Hst.out]; congr 2⟩
          case measure => simp [intOf]; omega
    · obtain rfl : k = m := by omega
      rw [List.take_of_length_le (by have := Hr.out.length; omega)]
      go_wp2_with fail
      go_ret
      exact ⟨rfl, rfl⟩

theorem refMore16_any (l : List UInt8) (A : Option Addr) (m c r : Nat) (w : World) (hr : Rd w A m (l.map cB)) (hm : m ≤ 140737488355328) (hrr : r < 65536) :
    Calls Tryz.prog 115 #[.int .u16 r, .slice A m c] w fun e w' => e = .returned (.int .u16 (more16 r l : Nat)) ∧ w = w' := by
  have Hr := Lib.hid hr; have Hrr := Lib.hid hrr; clear hr hrr
  go_enter Tryz.func115, Tryz.ntmps115
  go_wp2_with fail
  go_loop [5, 6] (fun x i => ∃ k : Nat, k ≤ m ∧ i = .int .i64 k ∧ x = .int .u16 (crc 40961 r (l.take k) : Nat)) (fun x i => m - (intOf i).toNat)
  case atStart => exact ⟨0, Nat.zero_le _, rfl, by simp [crc]⟩
  case round =>
    obtain ⟨k, hk, rfl, rfl⟩ := hrel
    by_cases hlt : k < m
    · obtain ⟨b1, o1, rfl, hb1, hl1, hc1⟩ := Hr.out.u8at hlt
      have hcl : crc 40961 r (l.take k) < 65536 := more16_lt Hrr.out _
      have hst := crc_take 40961 r l k hl1
      generalize crc 40961 r (l.take k) = R at *
      have hc2 := l[k].toNat_lt
      have Hst := Lib.hid hst; have Hcl := Lib.hid hcl; clear hst hcl
      have hx : IntKind.u16.wrap (l[k].toNat : Int) = (l[k].toNat : Int) := by rw [IntKind.wrap_u16]; omega
      have hxor : bits .xor .u16 (R : Int) (l[k].toNat : Int) = ((R ^^^ l[k].toNat : Nat) : Int) := u16_xor_nat _ _ Hcl.out (by omega)
      have hq : R ^^^ l[k].toNat < 2 ^ 16 := Nat.xor_lt_two_pow Hcl.out (by omega)
      generalize hQ : R ^^^ l[k].toNat = Q at *
      have HQ := Lib.hid hQ; have Hq := Lib.hid hq; clear hQ hq
      go_wp2_with fail
      go_loop [5, 7] (fun y q => ∃ j : Nat, j ≤ 8 ∧ q = .int .i64 j ∧ y = .int .u16 (citer 40961 j Q : Nat)) (fun y q => 8 - (intOf q).toNat)
      case atStart => exact ⟨0, by omega, rfl, rfl⟩
      case round =>
        obtain ⟨j, hj, rfl, rfl⟩ := hrel
        have hcj : citer 40961 j Q < 2 ^ 16 := citer_lt (by omega) Hq.out j
        have hcs : citer 40961 (j + 1) Q = cstep 40961 (citer 40961 j Q) := rfl
        have HX8 : Hid (j = 8 → citer 40961 j Q = citer 40961 8 Q) := fun h => by rw [h]
        generalize citer 40961 j Q = X at *
        have Hcj := Lib.hid hcj; have Hcs := Lib.hid hcs; clear hcj hcs
        by_cases hj8 : j < 8
        · have hdv : ((X / 2 : Nat) : Int) = (X : Int) / 2 := by simp
          have hwr : IntKind.u16.wrap ((X : Int) / 2) = (X : Int) / 2 := by have := Hcj.out; rw [IntKind.wrap_u16]; omega
          have hxr : bits .xor .u16 ((X : Int) / 2) 40961 = ((X / 2 ^^^ 40961 : Nat) : Int) := by have h := u16_xor_nat (X / 2) 40961 (by have := Hcj.out; omega) (by omega); rw [hdv] at h; exact h
          have Hw2 : Hid ((X : Int) / 2 % 65536 = (X : Int) / 2) := by have := Hcj.out; unfold Hid; omega
          have Hxr := Lib.hid hxr; have Hwr := Lib.hid hwr; clear hdv hxr hwr
          rcases Nat.mod_two_eq_zero_or_one X with h | h
          · have hp : (X : Int) % 2 = 0 := by omega
            have Hh := Lib.hid h; clear h
            go_wp2_with fail
            go_round
            case rel => exact ⟨j + 1, by omega, by go_num, by rw [Hcs.out]; unfold cstep; rw [if_neg (by have := Hh.out; omega)]; first | (rw [Hwr.out]; simp; done) | (rw [Hw2.out]; simp; done) | simp⟩
            case measure => simp [intOf]; omega
          · have hp : (X : Int) % 2 = 1 := by omega
            have Hh := Lib.hid h; clear h
            go_wp2_with fail
            go_round
            case rel => exact ⟨j + 1, by omega, by go_num, by rw [Hcs.out]; unfold cstep; rw [if_pos Hh.out]; first | rw [Hwr.out, Hxr.out] | rw [Hw2.out, Hxr.out] | rw [Hxr.out]⟩
            case measure => simp [intOf]; omega
        · obtain rfl : j = 8 := by omega
          have hfin : X = cbyte 40961 R l[k] := by unfold cbyte; rw [HQ.out]; exact HX8.out rfl
          go_wp2_with fail
          go_round
          case rel => exact ⟨k + 1, by omega, by go_num, by rw [Hst.out]; congr 2⟩
          case measure => simp [intOf]; omega
    · obtain rfl : k = m := by omega
      rw [List.take_of_length_le (by have := Hr.out.length; omega)]
      go_wp2_with fail
      go_ret
      exact ⟨rfl, rfl⟩

end Go.Proofs.YtomcipkmohhpjaaGreat

namespace Go.Proofs.YtomcipkmohhpjaaGreat
set_option linter.unusedVariables false
open Go Go.RowKit Go.Out

theorem crc16_any (l : List UInt8) (A : Option Addr) (m c : Nat) (w : World) (hr : Rd w A m (l.map cB)) (hm : m ≤ 140737488355328) :
    Calls Tryz.prog 100 #[.slice A m c] w fun e w' => e = .returned (.int .u16 (more16 65535 l : Nat)) ∧ w = w' := by
  have Hr := Lib.hid hr; clear hr
  go_enter Tryz.func100, Tryz.ntmps100
  go_wp2_with fail
  refine (more16_any l _ _ _ 65535 _ Hr.out hm (by decide)).mono ?_
  rintro e w1 ⟨rfl, rfl⟩
  go_wp2_with fail
  go_ret
  exact ⟨rfl, rfl⟩
theorem refCrc16_any (l : List UInt8) (A : Option Addr) (m c : Nat) (w : World) (hr : Rd w A m (l.map cB)) (hm : m ≤ 140737488355328) :
    Calls Tryz.prog 99 #[.slice A m c] w fun e w' => e = .returned (.int .u16 (more16 65535 l : Nat)) ∧ w = w' := by
  have Hr := Lib.hid hr; clear hr
  go_enter Tryz.func99, Tryz.ntmps99
  go_wp2_with fail
  refine (refMore16_any l _ _ _ 65535 _ Hr.out hm (by decide)).mono ?_
  rintro e w1 ⟨rfl, rfl⟩
  go_wp2_with fail
  go_ret
  exact ⟨rfl, rfl⟩
/-- The bytes of a constant text, in a new block that is marked behind its end. -/
theorem Rd.marked (w : World) (xs : List Value) (t : TypeId) (fr : Nat × Nat) (n : Nat) (hn : xs.length = n) : Rd (w.alloc (.cells xs.toArray t fr)) (some ⟨w.heap.size, 0, none⟩) n xs :=
  ⟨hn, fun _ => ⟨_, 0, rfl, by simp, fun j u hu => by
    rw [cell_of_row _ _ _ _ _ _ (heap_alloc_new w _), Nat.zero_add]; simpa using hu⟩⟩

end Go.Proofs.YtomcipkmohhpjaaGreat

namespace Go.Proofs.YtomcipkmohhpjaaGreat
set_option linter.unusedVariables false
open Go Go.RowKit Go.Out

/-- A call that hands back bytes of its own and an error's number. -/
def RetS (w : World) (t : TypeId) (l : List UInt8 × Int) (e : Ending) (w' : World) : Prop :=
  ∃ A n c, e = .returned (.tuple #[.slice A n c, .int .i64 l.2]) ∧ Own w' w.heap.size t IsU8 A n c (l.1.map cB) ∧ Below w.heap.size w w'

theorem behind_any (b : List UInt8) (A : Option Addr) (m c : Nat) (v n : Nat) (w : World) (hr : Rd w A m (b.map cB)) (hm : m ≤ 140737488355300) (hv : v < 4294967296) (hn : n ≤ 4) :
    Calls Tryz.prog 98 #[.slice A m c, .int .u32 v, .int .i64 n] w (RetOwn w 5 IsU8 (m + n) ((b ++ le n v).map cB)) := by
  have hl : b.length = m := by have := hr.1; simpa using this
  have Hv := Lib.hid hv; have Hr := Lib.hid hr; have Hl := Lib.hid hl; clear hv hr hl
  go_enter Tryz.func98, Tryz.ntmps98
  go_wp2_with fail
  go_loopw [7, 8] (fun x i wr => ∃ (k c : Nat) (A : Option Addr), k ≤ m ∧ i = .int .i64 k ∧ x = .slice A k c ∧ Own wr w.heap.size 5 IsU8 A k c ((b.take k).map cB) ∧ Below w.heap.size w wr) (fun _ i _ => m - (intOf i).toNat)
  case atStart => exact ⟨0, 0, none, Nat.zero_le _, rfl, rfl, Own.nil_ _ _ _ _, Below.refl _ _⟩
  case round =>
    obtain ⟨k, c1, A1, hk, rfl, rfl, hown, hbel⟩ := hrel
    by_cases hlt : k < m
    · obtain ⟨b1, o1, rfl, -, hl1, hc1⟩ := ((Hr.out).below hbel).u8at hlt
      have hbs := hbel.size
      go_wp2_with (at_builtin; go_must (refine app_u8 _ rfl (.tmp 16) (.tmp 21) rfl rfl (hown.alloc _) rfl (Rd.one _ _ _) (by intro u hu; simp at hu; subst hu; exact ⟨_, rfl⟩) (by omega) (by simp; omega) ?_); intro A2 c2 w2 hown2 hg2 hb2)
      go_roundw
      case rel => exact ⟨k + 1, c2, A2, by omega, by go_num, rfl, by rw [map_take_succ _ _ _ hl1]; exact hown2, below_app hbel hbs hg2 (fun g hg => (hown.lt g hg).1)⟩
      case measure => simp [intOf]; omega
    · obtain rfl : k = m := by omega
      rw [List.take_of_length_le (by have := Hl.out; omega)] at hown
      go_wp2_with fail
      go_loopw [7, 9, 1] (fun x i y wr => ∃ (j c : Nat) (A : Option Addr), j ≤ n ∧ i = .int .i64 j ∧ x = .slice A (k + j) c ∧ y = .int .u32 ((v / 256 ^ j : Nat) : Int) ∧ Own wr w.heap.size 5 IsU8 A (k + j) c ((b ++ le j v).map cB) ∧ Below w.heap.size w wr) (fun _ i _ _ => n - (intOf i).toNat)
      case atStart => exact ⟨0, c1, A1, Nat.zero_le _, rfl, rfl, by simp, by simpa [le] using hown, hbel⟩
      case round =>
        obtain ⟨j, c2, A2, hj, rfl, rfl, rfl, hown2, hbel2⟩ := hrel
        by_cases hjn : j < n
        · have hbs := hbel2.size
          have hle := le_map_succ b j v
          have hX : v / 256 ^ j < 4294967296 := Nat.lt_of_le_of_lt (Nat.div_le_self _ _) Hv.out
          have hd : v / 256 ^ (j + 1) = v / 256 ^ j / 256 := by rw [Nat.pow_succ, Nat.div_div_eq_div_mul]
          have Hle := Lib.hid hle; have Hd := Lib.hid hd; clear hle hd
          generalize hXe : v / 256 ^ j = X at *
          have e1 : (X : Int).tmod 256 = (X : Int) % 256 := Int.tmod_eq_emod_of_nonneg (by omega)
          have e2 : (X : Int).tdiv 256 = (X : Int) / 256 := Int.tdiv_eq_ediv_of_nonneg (by omega)
          go_wp2_with (at_builtin; go_must (refine app_u8 _ rfl (.tmp 28) (.tmp 32) rfl rfl (hown2.alloc _) rfl (Rd.one _ _ _) (by intro u hu; simp at hu; subst hu; exact isU8_of (by omega) (by omega)) (by omega) (by simp; omega) ?_); intro A3 c3 w3 hown3 hg3 hb3)
          go_roundw
          case rel => exact ⟨j + 1, c3, A3, by omega, by go_num, rfl, by rw [Hd.out]; simp, by rw [Hle.out]; exact hown3, below_app hbel2 hbs hg3 (fun g hg => (hown2.lt g hg).1)⟩
          case measure => simp [intOf]; omega
        · obtain rfl : j = n := by omega
          go_wp2_with fail
          go_ret
          exact ⟨_, _, rfl, hown2, hbel2⟩
end Go.Proofs.YtomcipkmohhpjaaGreat

namespace Go.Proofs.YtomcipkmohhpjaaGreat
set_option linter.unusedVariables false
open Go Go.RowKit Go.Out

theorem refSame_any (a b : List UInt8) (A B : Option Addr) (n m ca cb : Nat) (w : World) (ha : Rd w A n (a.map cB)) (hb : Rd w B m (b.map cB)) (hn : n ≤ maxLen) :
    Calls Tryz.prog 120 #[.slice A n ca, .slice B m cb] w fun e w' => e = .returned (.bool (decide (a = b))) ∧ Below w.heap.size w w' := by
  unfold maxLen at hn
  have hla : a.length = n := by have := ha.1; simpa using this
  have hlb : b.length = m := by have := hb.1; simpa using this
  by_cases hnm : n = m
  · subst hnm
    have Ha := Lib.hid ha; have Hb := Lib.hid hb; have Hla := Lib.hid hla; have Hlb := Lib.hid hlb; clear ha hb hla hlb
    go_enter Tryz.func120, Tryz.ntmps120
    go_wp2
    go_loopw [5] (fun i wr => ∃ k : Nat, k ≤ n ∧ i = .int .i64 k ∧ Below w.heap.size w wr ∧ Hid (a.take k = b.take k)) (fun i _ => n - (intOf i).toNat)
    case atStart => exact ⟨0, Nat.zero_le _, rfl, Below.refl _ _, by simp [Hid]⟩
    case round =>
      obtain ⟨k, hk, rfl, hbel, htk⟩ := hrel
      by_cases hlt : k < n
      · obtain ⟨b1, o1, rfl, -, hl1, hc1⟩ := ((Ha.out).below hbel).u8at hlt
        obtain ⟨b2, o2, rfl, -, hl2, hc2⟩ := ((Hb.out).below hbel).u8at hlt
        by_cases heq : a[k] = b[k]
        · have ht : ((a[k].toNat : Int) != (b[k].toNat : Int)) = false := by simp [heq]
          go_wp2
          go_quiet (fail)
          go_wp2
          go_roundw
          case rel => exact ⟨k + 1, by omega, by go_num, below_drewN hbel _, by unfold Hid at htk ⊢; rw [List.take_succ_eq_append_getElem hl1, List.take_succ_eq_append_getElem hl2]; simp [htk, heq]⟩
          case measure => simp [intOf]; omega
        · have ht : ((a[k].toNat : Int) != (b[k].toNat : Int)) = true := by simp; intro h; exact heq (UInt8.toNat.inj (by omega))
          go_wp2
          go_quiet (fail)
          go_wp2
          go_ret
          exact ⟨ret_bool (by symm; rw [decide_eq_false_iff_not]; intro h; subst h; exact heq rfl), below_drewN hbel _⟩
      · go_wp2
        go_ret
        exact ⟨ret_bool (by symm; rw [decide_eq_true_eq]; have h := htk.out; rwa [List.take_of_length_le (by have := Hla.out; omega), List.take_of_length_le (by have := Hlb.out; omega)] at h), hbel⟩
  · have H := Lib.hid hla; clear hla
    have H' := Lib.hid hlb; clear hlb
    have ht : ((n : Int) != (m : Int)) = true := by simp; omega
    go_enter Tryz.func120, Tryz.ntmps120
    go_wp2
    go_ret
    exact ⟨by simp; intro h; subst h; exact hnm (H.out.symm.trans H'.out), Below.refl _ _⟩

theorem refSeal16_any (b : List UInt8) (A : Option Addr) (m c : Nat) (w : World) (hr : Rd w A m (b.map cB)) (hm : m ≤ 140737488355300) :
    Calls Tryz.prog 65 #[.slice A m c] w (RetOwn w 5 IsU8 (m + 2) ((sealF 2 (more16 65535) b).map cB)) := by
  have Hr := Lib.hid hr; clear hr
  rw [show sealF 2 (more16 65535) b = b ++ le 2 (more16 65535 b) from rfl]
  go_enter Tryz.func65, Tryz.ntmps65
  go_wp2_with fail
  refine (refCrc16_any b _ _ _ _ Hr.out (by omega)).mono ?_
  rintro e w1 ⟨rfl, rfl⟩
  have hlt := more16_lt (r := 65535) (by decide) b
  generalize more16 65535 b = S at *
  go_wp2_with fail
  refine (behind_any b _ _ _ S 2 _ Hr.out hm (by omega) (by omega)).mono ?_
  rintro e w1 ⟨A1, c1, rfl, ho, hb⟩
  go_wp2_with fail
  go_ret
  exact ⟨_, _, rfl, ho, hb⟩

theorem refOpen16_any (b : List UInt8) (A : Option Addr) (m c : Nat) (w : World) (hr : Rd w A m (b.map cB)) (hc : m ≤ c) (hm : m ≤ 140737488355300) :
    Calls Tryz.prog 112 #[.slice A m c] w (RetS w 5 (openF 2 (more16 65535) b)) := by
  have hl := hr.length
  have Hr := Lib.hid hr; clear hr
  rcases Nat.lt_or_ge m 2 with h | h
  · rw [show openF 2 (more16 65535) b = ([], 1) from by unfold openF; rw [if_pos (by omega)]]
    go_enter Tryz.func112, Tryz.ntmps112
    go_wp2_with fail
    go_ret2
    exact ⟨_, _, _, rfl, Own.nil_ _ _ _ _, Below.refl _ _⟩
  · obtain ⟨n, hn⟩ : ∃ n, m = n + 2 := ⟨m - 2, by omega⟩
    have hsub : (m : Int) - 2 = (n : Int) := by omega
    have hof : openF 2 (more16 65535) b = if sealF 2 (more16 65535) (b.take n) = b then (b.take n, 0) else ([], 5) := by unfold openF; rw [if_neg (by omega), show b.length - 2 = n from by omega]
    rw [hof]
    have hra := Hr.out.take (k := n) (by omega)
    rw [← List.map_take] at hra
    have Hra := Lib.hid hra; have Hn := Lib.hid hn; clear hra hn hof hl
    have hnc : n ≤ c := by have := Hn.out; omega
    have hnm : n ≤ 140737488355300 := by have := Hn.out; omega
    by_cases heq : sealF 2 (more16 65535) (b.take n) = b
    all_goals
      have hd : decide (sealF 2 (more16 65535) (b.take n) = b) = decide (sealF 2 (more16 65535) (b.take n) = b) := rfl
      simp only [heq, decide_true, decide_false] at hd
      generalize hL : b.take n = L at *
      have HL := Lib.hid hL; clear hL
      go_enter Tryz.func112, Tryz.ntmps112
      go_wp2_with fail
      refine (refSeal16_any L _ _ _ _ Hra.out (by omega)).mono ?_
      rintro e w1 ⟨A1, c1, rfl, ho1, hb1⟩
      have hz1 := hb1.size
      have Ho1 := Lib.hid ho1; clear ho1
      go_wp2_with fail
      refine (refSame_any _ b _ _ _ _ _ _ _ Ho1.out.rd (Hr.out.below hb1) (by unfold maxLen; omega)).mono ?_
      rintro e w2 ⟨rfl, hb2⟩
      have hbb := hb1.trans (hb2.mono hz1)
      have HR2 := Lib.hid (Hra.out.below hbb)
      have hz2 := hbb.size
    · rw [decide_eq_true heq]
      go_wp2_with fail
      refine (behind_any L _ _ _ 0 0 _ HR2.out (by omega) (by omega) (by omega)).mono ?_
      rintro e w3 ⟨A3, c3, rfl, ho3, hb3⟩
      go_wp2_with fail
      go_ret2
      exact ⟨_, _, _, rfl, by simpa [le] using ho3.mono hz2, hbb.trans (hb3.mono hz2)⟩
    · rw [decide_eq_false heq]
      go_wp2_with fail
      go_ret2
      exact ⟨_, _, _, rfl, Own.nil_ _ _ _ _, hbb⟩

end Go.Proofs.YtomcipkmohhpjaaGreat

namespace Go.Proofs.YtomcipkmohhpjaaGreat
set_option linter.unusedVariables false
open Go Go.RowKit Go.Out

theorem seal16_any (b : List UInt8) (A : Option Addr) (m c : Nat) (w : World) (hr : Rd w A m (b.map cB)) (hm : m ≤ 140737488355300) :
    Calls Tryz.prog 68 #[.slice A m c] w (RetOwn w 5 IsU8 (m + 2) ((sealF 2 (more16 65535) b).map cB)) := by
  have Hr := Lib.hid hr; clear hr
  have hlt := more16_lt (r := 65535) (by decide) b
  rw [show sealF 2 (more16 65535) b = b ++ le 2 (more16 65535 b) from rfl]
  go_enter Tryz.func68, Tryz.ntmps68
  go_wp2_with fail
  refine (crc16_any b _ _ _ _ Hr.out (by omega)).mono ?_
  rintro e w1 ⟨rfl, rfl⟩
  have Hle := Lib.hid (le_two (more16 65535 b) hlt)
  generalize more16 65535 b = S at *
  have hown0 : Own (w.alloc (.cells #[] 5)) w.heap.size 5 IsU8 (some ⟨w.heap.size, 0, none⟩) 0 0 [] := Own.new w (Nat.le_refl _) _ #[] 0 (by simp) (by simp) (by simp)
  have hr0 : Rd (w.alloc (.cells #[] 5)) A m (b.map cB) := Hr.out.below ((Below.refl _ _).alloc (Nat.le_refl _) _)
  have hb0 : Below w.heap.size w (w.alloc (.cells #[] 5)) := (Below.refl _ _).alloc (Nat.le_refl _) _
  have Ho0 := Lib.hid hown0; have Hr0 := Lib.hid hr0; have Hb0 := Lib.hid hb0; clear hown0 hr0 hb0
  go_wp2_with (at_builtin; first
    | (refine app_u8 _ rfl (.tmp 6) (.tmp 7) rfl rfl Ho0.out rfl Hr0.out isU8_map (by omega) Hb0.out.size ?_; intro A2 c2 w2 hown2 hg2 hbk2; have hb2 := Hb0.out.grown hg2 Hb0.out.size (fun g hg => (Ho0.out.lt g hg).1); have hz2 := hb2.size; rw [List.nil_append, Nat.zero_add] at hown2; rw [Nat.zero_add]; have Ho2 := Lib.hid hown2; clear hown2)
    | (go_must (refine app_u8 _ rfl (.tmp 8) (.tmp 14) rfl rfl (Ho2.out.alloc _) rfl (Rd.marked _ _ _ _ 2 rfl) (by intro u hu; simp at hu; rcases hu with rfl | rfl <;> exact isU8_of (by omega) (by omega)) (by omega) (by simp; omega) ?_); intro A3 c3 w3 hown3 hg3 hbk3))
  go_ret
  exact ⟨_, _, rfl, by rw [List.map_append, Hle.out]; simpa using hown3, below_app hb2 hz2 hg3 (fun g hg => (Ho2.out.lt g hg).1)⟩

theorem open16_any (b : List UInt8) (A : Option Addr) (m c : Nat) (w : World) (hr : Rd w A m (b.map cB)) (hc : m ≤ c) (hm : m ≤ 140737488355300) :
    Calls Tryz.prog 101 #[.slice A m c] w (RetS w 5 (openF 2 (more16 65535) b)) := by
  have hl := hr.length
  have Hr := Lib.hid hr; clear hr
  rcases Nat.lt_or_ge m 2 with h | h
  · rw [show openF 2 (more16 65535) b = ([], 1) from by unfold openF; rw [if_pos (by omega)]]
    have hneg : (m : Int) - 2 < 0 := by omega
    go_enter Tryz.func101, Tryz.ntmps101
    go_wp2_with fail
    go_ret2
    exact ⟨_, _, _, rfl, Own.nil_ _ _ _ _, Below.refl _ _⟩
  · obtain ⟨n, hn⟩ : ∃ n, m = n + 2 := ⟨m - 2, by omega⟩
    have hsub : (m : Int) - 2 = (n : Int) := by omega
    have hof : openF 2 (more16 65535) b = openR (sealF 2 (more16 65535) (b.take n) = b) (b.take n) := by unfold openF openR; rw [if_neg (by omega), show b.length - 2 = n from by omega]
    rw [hof]
    have hra := Hr.out.take (k := n) (by omega)
    rw [← List.map_take] at hra
    have Hra := Lib.hid hra; clear hra hof
    have hnc : n ≤ c := by omega
    have hnm : n ≤ 140737488355300 := by omega
    have hok := tail_two b n (more16 65535 (b.take n)) (by omega)
    rw [show b.take n ++ le 2 (more16 65535 (b.take n)) = sealF 2 (more16 65535) (b.take n) from rfl] at hok
    have Hok := Lib.hid hok; clear hok
    have hlt := more16_lt (r := 65535) (by decide) (b.take n)
    obtain ⟨bk0, ok0, rfl, -, hl0, hc0⟩ := Hr.out.u8at (k := n) (by omega)
    obtain ⟨bk1, ok1, q1, -, hl1, hc1⟩ := Hr.out.u8at (k := n + 1) (by omega)
    injection q1 with q1; injection q1 with q1 q1'; subst q1; subst q1'
    generalize hL : b.take n = L at *
    have HL := Lib.hid hL; clear hL
    generalize b[n].toNat = x0 at *
    generalize b[n + 1].toNat = x1 at *
    have Hn := Lib.hid hn; have Hl := Lib.hid hl; clear hn hl
    have hi0 : n < m := by have := Hn.out; omega
    have hi1 : n + 1 < m := by have := Hn.out; omega
    go_enter Tryz.func101, Tryz.ntmps101
    go_wp2_with fail
    refine (crc16_any L _ _ _ _ Hra.out (by omega)).mono ?_
    rintro e w1 ⟨rfl, rfl⟩
    generalize more16 65535 L = S at *
    by_cases h0 : x0 = S % 256
    · have ht0 : ((x0 : Int) != (S : Int) % 256) = false := by simp; omega
      by_cases h1 : x1 = S / 256 % 256
      · have ht1 : ((x1 : Int) != (S : Int) / 256) = false := by simp; omega
        have hown0 : Own (w.alloc (.cells #[] 5)) w.heap.size 5 IsU8 (some ⟨w.heap.size, 0, none⟩) 0 0 [] := Own.new w (Nat.le_refl _) _ #[] 0 (by simp) (by simp) (by simp)
        have hr0 : Rd (w.alloc (.cells #[] 5)) (some ⟨bk0, ok0, none⟩) n (L.map cB) := Hra.out.below ((Below.refl _ _).alloc (Nat.le_refl _) _)
        have hb0 : Below w.heap.size w (w.alloc (.cells #[] 5)) := (Below.refl _ _).alloc (Nat.le_refl _) _
        have Ho0 := Lib.hid hown0; have Hr0 := Lib.hid hr0; have Hb0 := Lib.hid hb0; clear hown0 hr0 hb0
        go_wp2_with (at_builtin; go_must (refine app_u8 _ rfl (.tmp 33) (.tmp 36) rfl rfl Ho0.out rfl Hr0.out isU8_map (by omega) Hb0.out.size ?_); intro A2 c2 w2 hown2 hg2 hbk2)
        go_ret2
        rw [openR_t (Hok.out.2 ⟨h0, h1⟩)]
        exact ⟨_, _, _, rfl, by simpa using hown2, Hb0.out.grown hg2 Hb0.out.size (fun g hg => (Ho0.out.lt g hg).1)⟩
      · have ht1 : ((x1 : Int) != (S : Int) / 256) = true := by simp; omega
        go_wp2_with fail
        go_ret2
        rw [openR_f (fun hh => h1 (Hok.out.1 hh).2)]
        exact ⟨_, _, _, rfl, Own.nil_ _ _ _ _, Below.refl _ _⟩
    · have ht0 : ((x0 : Int) != (S : Int) % 256) = true := by simp; omega
      go_wp2_with fail
      go_ret2
      rw [openR_f (fun hh => h0 (Hok.out.1 hh).1)]
      exact ⟨_, _, _, rfl, Own.nil_ _ _ _ _, Below.refl _ _⟩

end Go.Proofs.YtomcipkmohhpjaaGreat

namespace Go.Proofs.YtomcipkmohhpjaaGreat
set_option linter.unusedVariables false
set_option maxRecDepth 100000
open Go Go.RowKit Go.Out

theorem k1 : sealF 2 (more16 65535) [1, 3, 0, 0, 0, 10] = [1, 3, 0, 0, 0, 10, 197, 205] := by decide +kernel
theorem k2 : openF 2 (more16 65535) [1, 3, 0, 0, 0, 10, 197, 205] = ([1, 3, 0, 0, 0, 10], 0) := by decide +kernel
theorem k3 : openF 2 (more16 65535) [5] = ([], 1) := by decide +kernel
theorem k4 : openF 2 (more16 65535) [255, 255] = ([], 0) := by decide +kernel
theorem k5 : openF 4 (more32 0) [0, 0, 0, 0] = ([], 0) := by decide +kernel
theorem k6 : openF 4 (more32 0) [0, 0, 0, 1] = ([], 5) := by decide +kernel
theorem k7 : openF 4 (more32 0) [0, 0, 0] = ([], 1) := by decide +kernel
theorem q9 : more16 65535 [] = 65535 := by decide +kernel
theorem q10 : more32 0 [] = 0 := by decide +kernel
theorem q11 : more16 7 [] = 7 := by decide +kernel
theorem q12 : more32 7 [] = 7 := by decide +kernel

end Go.Proofs.YtomcipkmohhpjaaGreat

namespace Go.Proofs.YtomcipkmohhpjaaGreat
set_option linter.unusedVariables false
open Go Go.RowKit Go.Out

theorem head_copied (m : Nat) (v z : Value) (l : List Value) :
    (List.take 1 ((Array.replicate (1 + m) z).setIfInBounds 0 v).toList ++ l ++ List.drop (1 + m) ((Array.replicate (1 + m) z).setIfInBounds 0 v).toList) = v :: l := by
  rw [Array.toList_setIfInBounds, Array.toList_replicate, Nat.add_comm 1 m, List.replicate_succ, List.set_cons_zero]
  simp
theorem isUnit_any (U : Nat) (w : World) :
    Calls Tryz.prog 66 #[.int .u8 U] w fun e w' => e = .returned (.bool (decide (1 ≤ U ∧ U ≤ 247))) ∧ w = w' := by
  rcases Nat.lt_or_ge U 1 with h | h
  · rw [show decide (1 ≤ U ∧ U ≤ 247) = false from by simp; omega]
    obtain rfl : U = 0 := by omega
    go_enter Tryz.func66, Tryz.ntmps66
    go_wp2_with fail
    go_ret
    exact ⟨rfl, rfl⟩
  · rcases Nat.lt_or_ge 247 U with h2 | h2
    · rw [show decide (1 ≤ U ∧ U ≤ 247) = false from by simp; omega]
      go_enter Tryz.func66, Tryz.ntmps66
      go_wp2_with fail
      go_ret
      exact ⟨ret_bool (by simp; omega), rfl⟩
    · rw [show decide (1 ≤ U ∧ U ≤ 247) = true from by simp; omega]
      go_enter Tryz.func66, Tryz.ntmps66
      go_wp2_with fail
      go_ret
      exact ⟨ret_bool (by simp; omega), rfl⟩

theorem sized_any (A : Option Addr) (m c : Nat) (w : World) :
    Calls Tryz.prog 67 #[.slice A m c] w fun e w' => e = .returned (.int .i64 (szF m)) ∧ w = w' := by
  unfold szF
  rcases Nat.eq_zero_or_pos m with h | h
  · subst h
    go_enter Tryz.func67, Tryz.ntmps67
    go_wp2_with fail
    go_ret
    exact ⟨rfl, rfl⟩
  · have ht : ((m : Int) == 0) = false := by simp; omega
    rw [if_neg (by omega)]
    have h0 : ¬ m = 0 := by omega
    rcases Nat.lt_or_ge 253 m with h2 | h2
    · rw [if_pos h2]
      go_enter Tryz.func67, Tryz.ntmps67
      go_wp2_with fail
      go_ret
      exact ⟨rfl, rfl⟩
    · rw [if_neg (by omega)]
      go_enter Tryz.func67, Tryz.ntmps67
      go_wp2_with fail
      go_ret
      exact ⟨rfl, rfl⟩

theorem pdu_any (A : Option Addr) (m c : Nat) (w : World) :
    Calls Tryz.prog 64 #[.slice A m c] w fun e w' => e = .returned (.int .i64 (szF m)) ∧ w = w' := by
  unfold szF
  rcases Nat.eq_zero_or_pos m with h | h
  · subst h
    go_enter Tryz.func64, Tryz.ntmps64
    go_wp2_with fail
    go_ret
    exact ⟨rfl, rfl⟩
  · have ht : ((m : Int) == 0) = false := by simp; omega
    rw [if_neg (by omega)]
    have h0 : ¬ m = 0 := by omega
    rcases Nat.lt_or_ge 253 m with h2 | h2
    · rw [if_pos h2]
      go_enter Tryz.func64, Tryz.ntmps64
      go_wp2_with fail
      go_ret
      exact ⟨rfl, rfl⟩
    · rw [if_neg (by omega)]
      go_enter Tryz.func64, Tryz.ntmps64
      go_wp2_with fail
      go_ret
      exact ⟨rfl, rfl⟩

theorem rtu_any (u : UInt8) (b : List UInt8) (A : Option Addr) (m c : Nat) (w : World) (hr : Rd w A m (b.map cB)) (hm : m ≤ 140737488355200) :
    Calls Tryz.prog 31 #[.int .u8 (u.toNat : Int), .slice A m c] w (RetS w 5 (rtuF u b)) := by
  have hl := hr.length
  have Hr := Lib.hid hr; clear hr
  have Hu0 := Lib.hid (@rtuF_unit u b); have Hu1 := Lib.hid (@rtuF_size u b); have Hu2 := Lib.hid (@rtuF_ok u b)
  rw [hl] at Hu1 Hu2
  have hcu : cB u = .int .u8 (u.toNat : Int) := rfl
  have hU := u.toNat_lt
  generalize rtuF u b = R at *
  have hs : (sealF 2 (more16 65535) (u :: b)).map cB = (sealF 2 (more16 65535) (u :: b)).map cB := rfl
  generalize hUe : u.toNat = U at *
  have HUe := Lib.hid hUe; have Hcu := Lib.hid hcu; clear hUe hcu hs
  by_cases hun : U < 1 ∨ 247 < U
  · rw [Hu0.out hun]
    clear Hu0 Hu1 Hu2
    rcases hun with h | h
    all_goals
      go_enter Tryz.func31, Tryz.ntmps31
      go_wp2_with fail
      refine (isUnit_any _ _).mono ?_
      rintro e w1 ⟨rfl, rfl⟩
      rw [show decide (1 ≤ U ∧ U ≤ 247) = false from by simp; omega]
      go_wp2_with fail
      go_ret2
      exact ⟨_, _, _, rfl, Own.nil_ _ _ _ _, Below.refl _ _⟩
  · have h1 : 1 ≤ U := by omega
    have h1' : ¬ U < 1 := by omega
    have h2 : U ≤ 247 := by omega
    have h2' : ¬ 247 < U := by omega
    by_cases hsz : szF m = 0
    · have hm1 : 1 ≤ m ∧ m ≤ 253 := by unfold szF at hsz; split at hsz; omega; split at hsz <;> omega
      rw [Hu2.out hun hsz]
      clear Hu0 Hu1 Hu2 hun
      have Hl := Lib.hid hl; clear hl
      have hmk : ∀ W : World, (Instr.makeSlice 41 (.int .i64 (1 + (m : Int))) (.int .i64 (1 + (m : Int)))).run Tryz.prog W = .ok (.slice (some ⟨W.heap.size, 0, none⟩) (1 + m) (1 + m)) (W.alloc (.cells (Array.replicate (1 + m) (.int .u8 0)) 5)) :=
        fun W => by have := run_make1 (P := Tryz.prog) 41 5 (.int .u8 0) 1 Tryz.underlying41 info_u8 rfl (1 + m) (by omega) (by omega) W; simpa using this
      have hh0 : (w.alloc (.cells (Array.replicate (1 + m) (Value.int .u8 0)) 5)).heap[w.heap.size]? = _ := heap_alloc_new w _
      obtain ⟨old, hce⟩ := heap_cell (k := 0) hh0 (by simp; omega)
      have hfz := frozen_of_row _ w.heap.size 0 _ _ hh0
      have hb0 : Below w.heap.size w (w.alloc (.cells (Array.replicate (1 + m) (Value.int .u8 0)) 5)) := (Below.refl _ _).alloc (Nat.le_refl _) _
      have hb1 : Below w.heap.size w (w.alloc (.cells ((Array.replicate (1 + m) (Value.int .u8 0)).setIfInBounds 0 (.int .u8 (U : Int))) 5)) := (Below.refl _ _).alloc (Nat.le_refl _) _
      have Hra := Lib.hid (Hr.out.below hb1)
      have Hh0 := Lib.hid hh0; have Hb0 := Lib.hid hb0; have Hb1 := Lib.hid hb1; clear hh0 hb0 hb1
      have htz : ((0 : Int) != 0) = false := rfl
      go_enter Tryz.func31, Tryz.ntmps31
      go_wp2_with fail
      refine (isUnit_any _ _).mono ?_
      rintro e w1 ⟨rfl, rfl⟩
      rw [show decide (1 ≤ U ∧ U ≤ 247) = true from by simp; omega]
      go_wp2_with fail
      refine (sized_any _ _ _ _).mono ?_
      rintro e w1 ⟨rfl, rfl⟩
      rw [hsz]
      go_wp2_with (refine copy_u8 _ rfl (.tmp 24) (.tmp 25) rfl rfl rfl (heap_alloc_new _ _) Hra.out (by omega) (by simp) ?_; intro w1 hh1 hg1)
      have hrow : Rd w1 (some ⟨w.heap.size, 0, none⟩) (1 + m) ((u :: b).map cB) := Rd.of_heap hh1 (ys := []) (by rw [List.map_cons, Hcu.out, List.append_nil]; exact head_copied m _ _ _) (by have := Hl.out; simp; omega)
      have hbb : Below w.heap.size w w1 := Hb1.out.grown hg1 (by simp) (by simp)
      have Hrow := Lib.hid hrow; have Hbb := Lib.hid hbb; clear hrow hbb
      have hzz := Hbb.out.size
      refine (seal16_any (u :: b) _ _ _ _ Hrow.out (by omega)).mono ?_
      rintro e w2 ⟨A2, c2, rfl, ho, hb2⟩
      go_wp2_with fail
      go_ret2
      exact ⟨_, _, _, rfl, ho.mono hzz, Hbb.out.trans (hb2.mono hzz)⟩
    · rw [Hu1.out hun hsz]
      clear Hu0 Hu1 Hu2 hun
      have ht : (szF m != 0) = true := by simp [hsz]
      go_enter Tryz.func31, Tryz.ntmps31
      go_wp2_with fail
      refine (isUnit_any _ _).mono ?_
      rintro e w1 ⟨rfl, rfl⟩
      rw [show decide (1 ≤ U ∧ U ≤ 247) = true from by simp; omega]
      go_wp2_with fail
      refine (sized_any _ _ _ _).mono ?_
      rintro e w1 ⟨rfl, rfl⟩
      go_wp2_with fail
      go_ret2
      exact ⟨_, _, _, rfl, Own.nil_ _ _ _ _, Below.refl _ _⟩

theorem refRtu_any (u : UInt8) (b : List UInt8) (A : Option Addr) (m c : Nat) (w : World) (hr : Rd w A m (b.map cB)) (hm : m ≤ 140737488355200) :
    Calls Tryz.prog 29 #[.int .u8 (u.toNat : Int), .slice A m c] w (RetS w 5 (rtuF u b)) := by
  have hl := hr.length
  have Hr := Lib.hid hr; clear hr
  have Hu0 := Lib.hid (@rtuF_unit u b); have Hu1 := Lib.hid (@rtuF_size u b); have Hu2 := Lib.hid (@rtuF_ok u b)
  rw [hl] at Hu1 Hu2
  have hcu : cB u = .int .u8 (u.toNat : Int) := rfl
  have hU := u.toNat_lt
  generalize rtuF u b = R at *
  have hs : (sealF 2 (more16 65535) (u :: b)).map cB = (sealF 2 (more16 65535) (u :: b)).map cB := rfl
  generalize hUe : u.toNat = U at *
  have HUe := Lib.hid hUe; have Hcu := Lib.hid hcu; clear hUe hcu hs
  by_cases hun : U < 1 ∨ 247 < U
  · rw [Hu0.out hun]
    clear Hu0 Hu1 Hu2
    rcases hun with h | h
    all_goals
      go_enter Tryz.func29, Tryz.ntmps29
      go_wp2_with fail
      go_ret2
      exact ⟨_, _, _, rfl, Own.nil_ _ _ _ _, Below.refl _ _⟩
  · have h1 : 1 ≤ U := by omega
    have h1' : ¬ U < 1 := by omega
    have h2 : U ≤ 247 := by omega
    have h2' : ¬ 247 < U := by omega
    by_cases hsz : szF m = 0
    · have hm1 : 1 ≤ m ∧ m ≤ 253 := by unfold szF at hsz; split at hsz; omega; split at hsz <;> omega
      rw [Hu2.out hun hsz]
      clear Hu0 Hu1 Hu2 hun
      have Hl := Lib.hid hl; clear hl
      have hown0 : Own (w.alloc (.cells #[.int .u8 (U : Int)] 5)) w.heap.size 5 IsU8 (some ⟨w.heap.size, 0, none⟩) 1 1 [.int .u8 (U : Int)] := Own.new w (Nat.le_refl _) _ #[.int .u8 (U : Int)] 1 (by simp) (by simp [maxLen]) (by intro v hv; simp at hv; subst hv; exact isU8_of (by omega) (by omega))
      have hb0 : Below w.heap.size w (w.alloc (.cells #[.int .u8 (U : Int)] 5)) := (Below.refl _ _).alloc (Nat.le_refl _) _
      have hr0 := Hr.out.below hb0
      have Ho0 := Lib.hid hown0; have Hr0 := Lib.hid hr0; have Hb0 := Lib.hid hb0; clear hown0 hr0 hb0
      go_enter Tryz.func29, Tryz.ntmps29
      go_wp2_with fail
      refine (pdu_any _ _ _ _).mono ?_
      rintro e w1 ⟨rfl, rfl⟩
      rw [hsz]
      go_wp2_with (at_builtin; go_must (refine app_u8 _ rfl (.tmp 19) (.tmp 20) rfl rfl Ho0.out rfl Hr0.out isU8_map (by omega) Hb0.out.size ?_); intro A2 c2 w2 hown2 hg2 hbk2)
      have hrow : Rd w2 A2 (1 + m) ((u :: b).map cB) := by rw [List.map_cons, Hcu.out]; exact hown2.rd
      have hbb : Below w.heap.size w w2 := Hb0.out.grown hg2 Hb0.out.size (fun g hg => (Ho0.out.lt g hg).1)
      have Hrow := Lib.hid hrow; have Hbb := Lib.hid hbb; clear hrow hbb
      have hzz := Hbb.out.size
      refine (refSeal16_any (u :: b) _ _ _ _ Hrow.out (by omega)).mono ?_
      rintro e w3 ⟨A3, c3, rfl, ho, hb3⟩
      go_wp2_with fail
      go_ret2
      exact ⟨_, _, _, rfl, ho.mono hzz, Hbb.out.trans (hb3.mono hzz)⟩
    · rw [Hu1.out hun hsz]
      clear Hu0 Hu1 Hu2 hun
      have ht : (szF m != 0) = true := by simp [hsz]
      go_enter Tryz.func29, Tryz.ntmps29
      go_wp2_with fail
      refine (pdu_any _ _ _ _).mono ?_
      rintro e w1 ⟨rfl, rfl⟩
      go_wp2_with fail
      go_ret2
      exact ⟨_, _, _, rfl, Own.nil_ _ _ _ _, Below.refl _ _⟩

end Go.Proofs.YtomcipkmohhpjaaGreat

namespace Go.Proofs.YtomcipkmohhpjaaGreat
set_option linter.unusedVariables false
open Go Go.RowKit Go.Out

/-- A call that hands back a byte, bytes of its own and an error's number. -/
def RetT (w : World) (t : TypeId) (r : UInt8 × List UInt8 × Int) (e : Ending) (w' : World) : Prop :=
  ∃ A n c, e = .returned (.tuple #[.int .u8 (r.1.toNat : Int), .slice A n c, .int .i64 r.2.2]) ∧ Own w' w.heap.size t IsU8 A n c (r.2.1.map cB) ∧ Below w.heap.size w w'
theorem lineF_err {o : List UInt8 × Int} (h : ¬ o.2 = 0) : lineF o = (0, [], o.2) := if_pos h
theorem lineF_unit {x : UInt8} {l : List UInt8} (h : x.toNat < 1 ∨ 247 < x.toNat) : lineF (x :: l, 0) = (0, [], 24) := by unfold lineF; rw [if_neg (by simp)]; exact if_pos h
theorem lineF_ok {x : UInt8} {l : List UInt8} (h : ¬ (x.toNat < 1 ∨ 247 < x.toNat)) : lineF (x :: l, 0) = (x, l, 0) := by unfold lineF; rw [if_neg (by simp)]; exact if_neg h
theorem open_cons (b : List UInt8) (h : 4 ≤ b.length) (hz : (openF 2 (more16 65535) b).2 = 0) : ∃ x l, openF 2 (more16 65535) b = (x :: l, 0) ∧ l.length + 3 = b.length := by
  have h1 := openF_ok hz
  have h2 : (openF 2 (more16 65535) b).1.length = b.length - 2 := by rw [h1]; simp
  cases h3 : openF 2 (more16 65535) b with
  | mk o e =>
    rw [h3] at h2 hz
    cases o with
    | nil => simp at h2; omega
    | cons x l => simp at h2 hz; subst hz; exact ⟨x, l, rfl, by omega⟩
theorem step_u8 {ops : Array Oper} {o : Oper} {a : Act} {w : World} {K : Act → World → Prop} {Q : Exit → Act → World → Prop} {E : Prop} (hgd : o.guard = none) (s x : Operand)
    (ho : o.op = .call { callee := .builtin .append, args := #[s, x], argTypes := #[41, 41] })
    {base : Nat} {A : Option Addr} {n c : Nat} {xs : List Value} (hs : a.eval s = .slice A n c) (hown : Own w base 5 IsU8 A n c xs)
    {A' : Option Addr} {m c' : Nat} {news : List Value} (hx : a.eval x = .slice A' m c') (hr : Rd w A' m news) (hnp : ∀ u ∈ news, IsU8 u) (hsz : n + m ≤ 140737488355328) (hbase : base ≤ w.heap.size)
    (h : ∀ A1 c1 w1, Own w1 base 5 IsU8 A1 (n + m) c1 (xs ++ news) → w.grownBy w1 (blk A) → (blk A1 = blk A ∨ blk A1 = some w.heap.size) → K (a.put o.dst (.slice A1 (n + m) c1)) w1) :
    if Region.wanted o (yielded ops a.tmps) = true then Oper.wp Tryz.prog o a w K Q else E :=
  step_append_Own hgd s x _ ho IsU8 base _ (.int .u8 0) 1 Tryz.underlying41 info_u8 rfl ⟨0, rfl⟩ (fun _ => isU8_one) A n c xs hs hown A' m c' news hx hr hnp (by omega) (by omega) hbase h

theorem openRtu_any (b : List UInt8) (A : Option Addr) (m c : Nat) (w : World) (hr : Rd w A m (b.map cB)) (hc : m ≤ c) :
    Calls Tryz.prog 69 #[.slice A m c] w (RetT w 5 (openRtuF b)) := by
  have hl := hr.length
  have Hr := Lib.hid hr; clear hr
  rcases Nat.lt_or_ge m 4 with h | h
  · rw [show openRtuF b = (0, [], 1) from if_pos (by omega)]
    clear hl
    all_goals
      go_enter Tryz.func69, Tryz.ntmps69
      go_wp2_with fail
      go_ret3
      exact ⟨_, _, _, rfl, Own.nil_ _ _ _ _, Below.refl _ _⟩
  · rcases Nat.lt_or_ge 256 m with h2 | h2
    · rw [show openRtuF b = (0, [], 2) from by unfold openRtuF; rw [if_neg (by omega), if_pos (by omega)]]
      clear hl
      go_enter Tryz.func69, Tryz.ntmps69
      go_wp2_with fail
      go_ret3
      exact ⟨_, _, _, rfl, Own.nil_ _ _ _ _, Below.refl _ _⟩
    · rw [show openRtuF b = lineF (openF 2 (more16 65535) b) from by unfold openRtuF; rw [if_neg (by omega), if_neg (by omega)]]
      by_cases hz : (openF 2 (more16 65535) b).2 = 0
      · obtain ⟨x, l, hO, hlm⟩ := open_cons b (by omega) hz
        rw [hl] at hlm
        have HO := Lib.hid hO; have Hlm := Lib.hid hlm; clear hz hl hlm
        by_cases hu : x.toNat < 1 ∨ 247 < x.toNat
        · rw [hO, lineF_unit hu]
          clear hO
          generalize hX : x.toNat = X at *
          have HX := Lib.hid hX; clear hX
          rcases hu with h7 | h7
          all_goals try have h8 : ¬ X < 1 := by omega
          all_goals
            go_enter Tryz.func69, Tryz.ntmps69
            go_wp2_with fail
            refine (open16_any b _ _ _ _ Hr.out hc (by omega)).mono ?_
            rintro e w1 ⟨A1, n1, c1, rfl, ho, hbd⟩
            rw [HO.out] at ho ⊢
            have hz1 := hbd.size
            have hn1 := ho.len
            have hnc := ho.cap
            have h1n : 1 ≤ n1 := by simp at hn1; omega
            have h0n : 0 < n1 := h1n
            have hx' : (x.toNat : Int) = (X : Int) := by rw [HX.out]
            have h2n : 2 ≤ n1 := by have h1 := Hlm.out; simp at hn1; omega
            have hc1' : ¬ c1 = 1 := by omega
            have h1i : 1 ≤ (n1 : Int) := by omega
            have hn1m : n1 ≤ m := by have h1 := Hlm.out; simp at hn1; omega
            obtain ⟨bk, ok, rfl, hbk, hl0, hc0⟩ := ho.rd.u8at (k := 0) h0n
            have hc0' : w1.cell? ⟨bk, ok, none⟩ = some (.int .u8 (X : Int)) := by have h := hc0; rw [show ((x :: l)[0].toNat) = X from HX.out] at h; exact h
            have Hown := Lib.hid ho; clear ho hc0 hn1 hl0
            go_wp2_with fail
            refine (isUnit_any _ _).mono ?_
            rintro e w2 ⟨rfl, rfl⟩
            rw [show decide (1 ≤ X ∧ X ≤ 247) = false from by simp; omega]
            go_wp2_with fail
            go_ret3
            exact ⟨_, _, _, rfl, Own.nil_ _ _ _ _, hbd⟩

        · rw [hO, lineF_ok hu]
          clear hO
          have hxl := x.toNat_lt
          generalize hX : x.toNat = X at *
          have HX := Lib.hid hX; clear hX
          have HU := Lib.hid hu
          all_goals
            go_enter Tryz.func69, Tryz.ntmps69
            go_wp2_with fail
            refine (open16_any b _ _ _ _ Hr.out hc (by omega)).mono ?_
            rintro e w1 ⟨A1, n1, c1, rfl, ho, hbd⟩
            rw [HO.out] at ho ⊢
            have hz1 := hbd.size
            have hn1 := ho.len
            have hnc := ho.cap
            have h1n : 1 ≤ n1 := by simp at hn1; omega
            have h0n : 0 < n1 := h1n
            have hx' : (x.toNat : Int) = (X : Int) := by rw [HX.out]
            have h2n : 2 ≤ n1 := by have h1 := Hlm.out; simp at hn1; omega
            have hc1' : ¬ c1 = 1 := by omega
            have h1i : 1 ≤ (n1 : Int) := by omega
            have hn1m : n1 ≤ m := by have h1 := Hlm.out; simp at hn1; omega
            obtain ⟨bk, ok, rfl, hbk, hl0, hc0⟩ := ho.rd.u8at (k := 0) h0n
            have hc0' : w1.cell? ⟨bk, ok, none⟩ = some (.int .u8 (X : Int)) := by have h := hc0; rw [show ((x :: l)[0].toNat) = X from HX.out] at h; exact h
            have Hown := Lib.hid ho; clear ho hc0 hn1 hl0
            have h3 : ¬ X < 1 := by omega
            have h4 : ¬ 247 < X := by omega
            have h5 : 1 ≤ X := by omega
            have h6 : X ≤ 247 := by omega
            go_wp2_with fail
            refine (isUnit_any _ _).mono ?_
            rintro e w2 ⟨rfl, rfl⟩
            rw [show decide (1 ≤ X ∧ X ≤ 247) = true from by simp; omega]
            go_wp2_with fail
            go_quiet (fail)
            go_wp2_with fail
            go_ret3
            exact ⟨_, _, _, congrArg (fun z : Int => Ending.returned (.tuple #[.int .u8 z, .slice _ _ _, .int .i64 0])) hx'.symm, (Hown.out.tail h1n).drewN _, below_drewN hbd _⟩

      · rw [lineF_err hz]
        have ht : ((openF 2 (more16 65535) b).2 != 0) = true := by simp [hz]
        have HO : Hid (openF 2 (more16 65535) b = openF 2 (more16 65535) b) := rfl
        clear hl
        go_enter Tryz.func69, Tryz.ntmps69
        go_wp2_with fail
        refine (open16_any b _ _ _ _ Hr.out hc (by omega)).mono ?_
        rintro e w1 ⟨A1, n1, c1, rfl, ho, hbd⟩
        have hz1 := hbd.size
        go_wp2_with fail
        go_ret3
        exact ⟨_, _, _, rfl, Own.nil_ _ _ _ _, hbd⟩


theorem refOpenRtu_any (b : List UInt8) (A : Option Addr) (m c : Nat) (w : World) (hr : Rd w A m (b.map cB)) (hc : m ≤ c) :
    Calls Tryz.prog 95 #[.slice A m c] w (RetT w 5 (openRtuF b)) := by
  have hl := hr.length
  have Hr := Lib.hid hr; clear hr
  rcases Nat.lt_or_ge m 4 with h | h
  · rw [show openRtuF b = (0, [], 1) from if_pos (by omega)]
    clear hl
    all_goals
      go_enter Tryz.func95, Tryz.ntmps95
      go_wp2_with fail
      go_ret3
      exact ⟨_, _, _, rfl, Own.nil_ _ _ _ _, Below.refl _ _⟩
  · rcases Nat.lt_or_ge 256 m with h2 | h2
    · rw [show openRtuF b = (0, [], 2) from by unfold openRtuF; rw [if_neg (by omega), if_pos (by omega)]]
      clear hl
      go_enter Tryz.func95, Tryz.ntmps95
      go_wp2_with fail
      go_ret3
      exact ⟨_, _, _, rfl, Own.nil_ _ _ _ _, Below.refl _ _⟩
    · rw [show openRtuF b = lineF (openF 2 (more16 65535) b) from by unfold openRtuF; rw [if_neg (by omega), if_neg (by omega)]]
      by_cases hz : (openF 2 (more16 65535) b).2 = 0
      · obtain ⟨x, l, hO, hlm⟩ := open_cons b (by omega) hz
        rw [hl] at hlm
        have HO := Lib.hid hO; have Hlm := Lib.hid hlm; clear hz hl hlm
        by_cases hu : x.toNat < 1 ∨ 247 < x.toNat
        · rw [hO, lineF_unit hu]
          clear hO
          generalize hX : x.toNat = X at *
          have HX := Lib.hid hX; clear hX
          rcases hu with h7 | h7
          all_goals try have h8 : ¬ X < 1 := by omega
          all_goals
            go_enter Tryz.func95, Tryz.ntmps95
            go_wp2_with fail
            refine (refOpen16_any b _ _ _ _ Hr.out hc (by omega)).mono ?_
            rintro e w1 ⟨A1, n1, c1, rfl, ho, hbd⟩
            rw [HO.out] at ho ⊢
            have hz1 := hbd.size
            have hn1 := ho.len
            have hnc := ho.cap
            have h1n : 1 ≤ n1 := by simp at hn1; omega
            have h0n : 0 < n1 := h1n
            have hx' : (x.toNat : Int) = (X : Int) := by rw [HX.out]
            have h2n : 2 ≤ n1 := by have h1 := Hlm.out; simp at hn1; omega
            have hc1' : ¬ c1 = 1 := by omega
            have h1i : 1 ≤ (n1 : Int) := by omega
            have hn1m : n1 ≤ m := by have h1 := Hlm.out; simp at hn1; omega
            obtain ⟨bk, ok, rfl, hbk, hl0, hc0⟩ := ho.rd.u8at (k := 0) h0n
            have hc0' : w1.cell? ⟨bk, ok, none⟩ = some (.int .u8 (X : Int)) := by have h := hc0; rw [show ((x :: l)[0].toNat) = X from HX.out] at h; exact h
            have Hown := Lib.hid ho; clear ho hc0 hn1 hl0
            go_wp2_with fail
            go_ret3
            exact ⟨_, _, _, rfl, Own.nil_ _ _ _ _, hbd⟩

        · rw [hO, lineF_ok hu]
          clear hO
          have hxl := x.toNat_lt
          generalize hX : x.toNat = X at *
          have HX := Lib.hid hX; clear hX
          have HU := Lib.hid hu
          all_goals
            go_enter Tryz.func95, Tryz.ntmps95
            go_wp2_with fail
            refine (refOpen16_any b _ _ _ _ Hr.out hc (by omega)).mono ?_
            rintro e w1 ⟨A1, n1, c1, rfl, ho, hbd⟩
            rw [HO.out] at ho ⊢
            have hz1 := hbd.size
            have hn1 := ho.len
            have hnc := ho.cap
            have h1n : 1 ≤ n1 := by simp at hn1; omega
            have h0n : 0 < n1 := h1n
            have hx' : (x.toNat : Int) = (X : Int) := by rw [HX.out]
            have h2n : 2 ≤ n1 := by have h1 := Hlm.out; simp at hn1; omega
            have hc1' : ¬ c1 = 1 := by omega
            have h1i : 1 ≤ (n1 : Int) := by omega
            have hn1m : n1 ≤ m := by have h1 := Hlm.out; simp at hn1; omega
            obtain ⟨bk, ok, rfl, hbk, hl0, hc0⟩ := ho.rd.u8at (k := 0) h0n
            have hc0' : w1.cell? ⟨bk, ok, none⟩ = some (.int .u8 (X : Int)) := by have h := hc0; rw [show ((x :: l)[0].toNat) = X from HX.out] at h; exact h
            have Hown := Lib.hid ho; clear ho hc0 hn1 hl0
            have h3 : ¬ X < 1 := by omega
            have h4 : ¬ 247 < X := by omega
            have h5 : 1 ≤ X := by omega
            have h6 : X ≤ 247 := by omega
            go_wp2_with fail
            have hown0 : Own (w1.drew.alloc (.cells #[] 5)) w1.heap.size 5 IsU8 (some ⟨w1.heap.size, 0, none⟩) 0 0 [] := Own.new w1.drew (Nat.le_refl _) _ #[] 0 (by simp) (by simp) (by simp)
            have hr0 : Rd (w1.drew.alloc (.cells #[] 5)) (some ⟨bk, ok + 1, none⟩) (n1 - 1) (l.map cB) := (Own.rd (Hown.out.tail h1n)).below ((Below.refl w1.heap.size w1).drew.alloc (Nat.le_refl _) _)
            have hcA : ∀ o : Obj, (w1.alloc o).cell? ⟨bk, ok, none⟩ = some (.int .u8 (X : Int)) := fun o => (World.cell?_alloc_lt w1 o ⟨bk, ok, none⟩ hbk).trans hc0'
            have Ho0 := Lib.hid hown0; have Hr0 := Lib.hid hr0; clear hown0 hr0
            have HcA := Lib.hid hcA
            go_region_law (refine step_u8 rfl (.tmp 34) (.tmp 36) rfl rfl Ho0.out rfl Hr0.out isU8_map (by omega) (by simp) ?_; intro A2 c2 w2 hown2 hg2 hb2; have hcell2 : w2.cell? ⟨bk, ok, none⟩ = some (.int .u8 (X : Int)) := (World.cell?_of_block (a := ⟨bk, ok, none⟩) (hg2.block bk (by simp; omega) (by simp [blk]; omega))).trans (HcA.out _))
            all_goals
              go_wp2_with fail
              go_ret3
              exact ⟨_, _, _, congrArg (fun z : Int => Ending.returned (.tuple #[.int .u8 z, .slice _ _ _, .int .i64 0])) hx'.symm, by simpa using hown2.mono hz1, below_app hbd.drew hz1 hg2 (fun g hg => Nat.le_trans hz1 (Ho0.out.lt g hg).1)⟩

      · rw [lineF_err hz]
        have ht : ((openF 2 (more16 65535) b).2 != 0) = true := by simp [hz]
        have HO : Hid (openF 2 (more16 65535) b = openF 2 (more16 65535) b) := rfl
        clear hl
        go_enter Tryz.func95, Tryz.ntmps95
        go_wp2_with fail
        refine (refOpen16_any b _ _ _ _ Hr.out hc (by omega)).mono ?_
        rintro e w1 ⟨A1, n1, c1, rfl, ho, hbd⟩
        have hz1 := hbd.size
        go_wp2_with fail
        go_ret3
        exact ⟨_, _, _, rfl, Own.nil_ _ _ _ _, hbd⟩


end Go.Proofs.YtomcipkmohhpjaaGreat
