/- Contract of reply.read: writes, bits, words. -/
import Derived.Test.YtomcipkmohhpjaaGreatG07
import Derived.Deep.RegionWith
import Derived.StillTailTactics
namespace Go.Proofs.YtomcipkmohhpjaaGreat
set_option linter.unusedVariables false
set_option linter.unusedSimpArgs false
set_option maxRecDepth 100000
set_option maxHeartbeats 2000000
open Go Go.RowKit Go.Out

/-- A row of words of the call's own, as its one cell. -/
def fileO (base : Nat) : Kind (List UInt16) := ⟨1, fun w cs x => ∃ A n c, cs = [.slice A n c] ∧ Own w base 48 IsU16 A n c (x.map cW) ∧ n ≤ 70368744175616, fun ⟨A, n, c, h1, h2, h3⟩ hx => ⟨A, n, c, h1, h2.ext hx, h3⟩⟩
/-- An answer in memory of the call's own. -/
structure RepOw (w : World) (base : Nat) (r : RepD) (t : RepS) : Prop where
  on : Own w base 4 IsBo t.A1 t.n1 t.c1 (r.on.map cL)
  set : Own w base 48 IsU16 t.A2 t.n2 t.c2 (r.set.map cW)
  files : OwL (fileO base) w base 34 (.slice t.A3 t.n3 t.c3) r.files
  n3 : r.files.length = t.n3
  cap3 : t.n3 ≤ t.c3 ∧ t.c3 ≤ 9223372036854775807
  exc : i64P r.exc
def RetRR (w : World) (o : Option RepD) (e : Ending) (w' : World) : Prop :=
  Ext w w' ∧ match o with
    | none => ∃ (x : Int) (t : RepS), e = .returned (.tuple #[.agg #[.int .i64 x, .slice t.A1 t.n1 t.c1, .slice t.A2 t.n2 t.c2, .slice t.A3 t.n3 t.c3], .bool false])
    | some r => ∃ t, e = .returned (.tuple #[repV r t, .bool true]) ∧ RepOw w' w.heap.size r t

theorem RepOw.ext {w w' : World} {base : Nat} {r : RepD} {t : RepS} (h : RepOw w base r t) (hx : Ext w w') : RepOw w' base r t := ⟨h.on.ext hx, h.set.ext hx, h.files.ext hx, h.n3, h.cap3, h.exc⟩
theorem fileO_rd {base : Nat} {w : World} {cs : List Value} {x : List UInt16} (h : (fileO base).R w cs x) : fileK.R w cs x := by
  obtain ⟨A, n, c, h1, h2, h3⟩ := h
  exact ⟨A, n, c, h1, h2.rd, h2.cap, h2.capLe, h3⟩
theorem RepOw.rd {w : World} {base : Nat} {r : RepD} {t : RepS} (h : RepOw w base r t) : RepRd w r t := by
  refine ⟨h.on.rd, h.set.rd, ?_, h.exc, ⟨h.on.cap, h.on.capLe⟩, ⟨h.set.cap, h.set.capLe⟩, h.cap3⟩
  obtain ⟨A, c, e, -, -, hr, -⟩ := h.files.form
  injection e with e1 e2 e3
  subst e1
  rw [← h.n3]
  refine ⟨hr.1, fun hn => ?_⟩
  obtain ⟨b, off, e, hb, hc⟩ := hr.2 hn
  refine ⟨b, off, e, hb, fun i x hi => ?_⟩
  obtain ⟨cs, h1, h2, h3⟩ := hc i x hi
  exact ⟨cs, h1, h2, fileO_rd h3⟩
theorem repOw0 (w : World) (base : Nat) : RepOw w base rep0 repS0 := ⟨Own.nil_ _ _ _ _, Own.nil_ _ _ _ _, OwL.nil_ _ _ _ _, rfl, by simp [repS0], by unfold i64P rep0; simp⟩
theorem RetRR.echo {w w' : World} {P : Prop} [Decidable P] {D : Bool} (hD : decide P = D) (hx : Ext w w') : RetRR w (if P then some rep0 else none) (.returned (.tuple #[repV rep0 repS0, .bool D])) w' := by
  subst hD
  refine ⟨hx, ?_⟩
  by_cases h : P
  · rw [if_pos h, decide_eq_true h]
    exact ⟨repS0, rfl, repOw0 _ _⟩
  · rw [if_neg h, decide_eq_false h]
    exact ⟨0, repS0, rfl⟩
theorem boxes5 (w : World) (o0 o1 o2 o3 o4 : Obj) (W : World) (hX : Ext (((((w.alloc o0).alloc o1).alloc o2).alloc o3).alloc o4) W) :
    W.heap[w.heap.size]? = some o0 ∧ W.heap[w.heap.size + 1]? = some o1 ∧ W.heap[w.heap.size + 1 + 1]? = some o2 ∧ W.heap[w.heap.size + 1 + 1 + 1]? = some o3 ∧ W.heap[w.heap.size + 1 + 1 + 1 + 1]? = some o4 :=
  ⟨hX.block ((Ext.alloc _ _).block ((Ext.alloc _ _).block ((Ext.alloc _ _).block ((Ext.alloc _ _).block (heap_alloc_new _ _))))),
   hX.block ((Ext.alloc _ _).block ((Ext.alloc _ _).block ((Ext.alloc _ _).block (heap_at _ _ _ (by simp))))),
   hX.block ((Ext.alloc _ _).block ((Ext.alloc _ _).block (heap_at _ _ _ (by simp)))),
   hX.block ((Ext.alloc _ _).block (heap_at _ _ _ (by simp))), hX.block (heap_at _ _ _ (by simp))⟩
theorem ext5 (w : World) (o0 o1 o2 o3 o4 : Obj) : Ext w (((((w.alloc o0).alloc o1).alloc o2).alloc o3).alloc o4) := (((((Ext.refl w).alloc' _).alloc' _).alloc' _).alloc' _).alloc' _

theorem read_write (a : AskD) (b : List UInt8) (s : AskS) (A : Option Addr) (c : Nat) (w : World) (ha : AskRd w a s) (hb : Rd w A 5 (b.map cB)) (hK : checkF a = 0) (hc : a.code = 5 ∨ a.code = 6 ∨ a.code = 15 ∨ a.code = 16) :
    Calls Tryz.prog 104 #[askV a s, .slice A 5 c] w (RetRR w (if (putA a).1.take 5 = b then some rep0 else none)) := by
  have HP := Lib.hid (fun W (hX : Ext w W) => askPut_any a s W (ha.ext hX))
  have h5 := (getA_put hK).2.1
  have h2 : (putA a).2 = 0 := by rw [putA_ok hK]
  rw [h2] at HP
  have hbd := (getA_put hK).2.2
  have HR := Lib.hid hb
  generalize (putA a).1 = xs at *
  clear ha hb hK h2
  obtain ⟨code, addr, count, on, set, parts⟩ := a
  obtain ⟨A1, n1, c1, A2, n2, c2, A3, n3, c3⟩ := s
  simp only [askV] at HP hc ⊢
  have hmf : ∀ (fn : Fn) (first cap : Array Value) (w : World), (Instr.makeFunc fn first cap).run Tryz.prog w = .ok (.func fn first cap) w := fun _ _ _ _ => rfl
  obtain ⟨Q, hQ⟩ : ∃ Q, RetRR w (if xs.take 5 = b then some rep0 else none) = Q := ⟨_, rfl⟩
  rw [hQ]
  have HQ := Lib.hid hQ
  clear hQ
  obtain ⟨D, hD⟩ : ∃ D, decide (xs.take 5 = b) = D := ⟨_, rfl⟩
  have HD := Lib.hid hD
  clear hD
  rcases hc with rfl | rfl | rfl | rfl
  all_goals
    go_enter Tryz.func104, Tryz.ntmps104
    go_wp2_with fail
    refine (HP.out _ (ext5 _ _ _ _ _ _)).mono ?_
    rintro e w1 ⟨A4, n, c4, rfl, ho4, hx1⟩
    obtain rfl : xs.length = n := by have := ho4.len; simpa using this
    have hnc := ho4.cap
    obtain ⟨q0, q1, q2, q3, q4⟩ := boxes5 w _ _ _ _ _ w1 hx1
    obtain ⟨g0, g1, g2, g3⟩ := cells4 q4
    obtain ⟨p0, p1, p2, p3⟩ := cells4 q2
    have d1 : w1.cell? ⟨w.heap.size + 1, 0, none⟩ = some (.slice A 5 c) := cell_of_row _ _ _ _ _ _ q1
    have k0 := frozen_of_row _ _ 0 _ _ q2
    have k1 := frozen_of_row _ _ 1 _ _ q2
    have k2 := frozen_of_row _ _ 2 _ _ q2
    have k3 := frozen_of_row _ _ 3 _ _ q2
    have HR5 := Lib.hid (show Rd w1 A4 5 ((xs.take 5).map cB) by rw [List.map_take]; exact ho4.rd.take (k := 5) (by omega))
    have X1 := Lib.hid ((ext5 _ _ _ _ _ _).trans hx1)
    have HR1 := Lib.hid (HR.out.ext X1.out)
    clear ho4 hx1 q0 q1 q2 q3 q4
    go_wp2_with fail
    go_region_with ((go_at_call 118
                     refine (equal_any (xs.take 5) b _ _ 5 5 _ _ _ (HR5.out.ext (Ext.draw _)) (HR1.out.ext (Ext.draw _)) (by omega) (by omega)).mono ?_
                     rw [HD.out]
                     rintro e w2 ⟨rfl, rfl⟩))
    all_goals
      go_wp2_with fail
      refine bodyPost_ret (v := .tuple #[repV rep0 repS0, .bool D]) (by simp [results, Tryz.results104, go_sem, repV, rep0, repS0, *]) rfl (HQ.out ▸ RetRR.echo HD.out ?_)
      repeat' (first | with_reducible exact X1.out | with_reducible refine Ext.drew' ?_ | with_reducible refine Ext.set' ?_ (by simp; omega) _)
end Go.Proofs.YtomcipkmohhpjaaGreat
