/- What reply.Get hands back; contract of reply.exception. -/
import Derived.Test.YtpjmhckdeeonbaaRepR
namespace Go.Proofs.Ytpjmhckdeeonbaa
set_option linter.unusedVariables false
set_option linter.unusedSimpArgs false
set_option maxRecDepth 100000
set_option maxHeartbeats 2000000
open Go Go.RowKit Go.Out

theorem OwL.set_belowO {w : World} {base : Nat} {e : TypeId} {v : Value} {l : List (List UInt16)} (h : OwL (fileO base) w base e v l) {q : Addr} (hq : q.block < base) (u : Value) : OwL (fileO base) (w.setCell q u) base e v l := by
  obtain ⟨xs, h1, h2⟩ := h
  refine ⟨xs, ?_, h2.mono fun cs x ⟨A, n, c, e1, e2, e3⟩ => ⟨A, n, c, e1, e2.set_below hq u, e3⟩⟩
  obtain ⟨h3, h4⟩ := h1
  refine ⟨h3, ?_⟩
  rcases h4 with h4 | ⟨g, cap, cur, hv, hb, hg, r⟩
  · exact .inl h4
  · exact .inr ⟨g, cap, cur, hv, hb, (Below.heap_setCell w q u g (by omega)).trans hg, r⟩
theorem fileO_mono {base base' : Nat} {w : World} {cs : List Value} {x : List UInt16} (h : (fileO base).R w cs x) (hb : base' ≤ base) : (fileO base').R w cs x := by
  obtain ⟨A, n, c, h1, h2, h3⟩ := h
  exact ⟨A, n, c, h1, h2.mono hb, h3⟩
theorem OwL.monoO {w : World} {base base' : Nat} {e : TypeId} {v : Value} {l : List (List UInt16)} (h : OwL (fileO base) w base e v l) (hb : base' ≤ base) : OwL (fileO base') w base' e v l := by
  obtain ⟨xs, h1, h2⟩ := OwL.mono h hb
  exact ⟨xs, h1, ⟨h2.1, fun i x hi => fileO_mono (h2.2 i x hi) hb⟩⟩
theorem RepOw.mono {w : World} {base base' : Nat} {r : RepD} {t : RepS} (h : RepOw w base r t) (hb : base' ≤ base) : RepOw w base' r t :=
  ⟨h.on.mono hb, h.set.mono hb, OwL.monoO h.files hb, h.n3, h.cap3, h.exc⟩
theorem RepOw.set_below {w : World} {base : Nat} {r : RepD} {t : RepS} (h : RepOw w base r t) {q : Addr} (hq : q.block < base) (u : Value) : RepOw (w.setCell q u) base r t :=
  ⟨h.on.set_below hq u, h.set.set_below hq u, OwL.set_belowO h.files hq u, h.n3, h.cap3, h.exc⟩
theorem repOwE (w : World) (base : Nat) (e : Int) (h : i64P e) : RepOw w base ⟨e, [], [], []⟩ repS0 := ⟨Own.nil_ _ _ _ _, Own.nil_ _ _ _ _, OwL.nil_ _ _ _ _, rfl, by simp [repS0], h⟩
/-- What reply.Get hands back. -/
def RetGR (w : World) (r : RepD × Int) (e : Ending) (w' : World) : Prop :=
  ∃ t, e = .returned (.tuple #[repV r.1 t, .int .i64 r.2]) ∧ RepOw w' w.heap.size r.1 t ∧ Ext w w'

theorem exception_any (b : List UInt8) (A : Option Addr) (N c : Nat) (w : World) (hb : Rd w A N (b.map cB)) (hN : N ≤ 140737488355328) :
    Calls Try.prog 77 #[.slice A N c] w (RetGR w (exR b)) := by
  have hl := hb.length
  rcases Nat.lt_or_ge N 2 with h2 | h2
  · have he : exR b = (rep0, 1) := by unfold exR; rw [if_pos (by omega)]
    rw [he]
    clear hb hl he
    go_enter Try.func77, Try.ntmps77
    go_wp2_with fail
    refine bodyPost_ret (v := .tuple #[repV rep0 repS0, .int .i64 1]) (by simp [results, Try.results77, go_sem, repV, rep0, repS0, *]) rfl ⟨repS0, rfl, repOw0 _ _, ?_⟩
    repeat' (first | with_reducible exact Ext.refl _ | with_reducible refine Ext.alloc' ?_ _ | with_reducible refine Ext.drew' ?_ | with_reducible refine Ext.set' ?_ (by simp) _)
  · rcases Nat.lt_or_ge 2 N with h3 | h3
    · have he : exR b = (rep0, 2) := by unfold exR; rw [if_neg (by omega), if_pos (by omega)]
      rw [he]
      clear hb hl he
      go_enter Try.func77, Try.ntmps77
      go_wp2_with fail
      refine bodyPost_ret (v := .tuple #[repV rep0 repS0, .int .i64 2]) (by simp [results, Try.results77, go_sem, repV, rep0, repS0, *]) rfl ⟨repS0, rfl, repOw0 _ _, ?_⟩
      repeat' (first | with_reducible exact Ext.refl _ | with_reducible refine Ext.alloc' ?_ _ | with_reducible refine Ext.drew' ?_ | with_reducible refine Ext.set' ?_ (by simp) _)
    · obtain rfl : N = 2 := by omega
      obtain ⟨x0, x1, r, rfl⟩ := len2 (b := b) (by omega)
      have hr : r = [] := by simpa using hl
      subst hr
      obtain ⟨bk, off, rfl, hbk, hcl⟩ := hb.2 (by omega)
      have c1 : w.cell? ⟨bk, off + 1, none⟩ = some (.int .u8 (x1.toNat : Int)) := hcl 1 _ rfl
      have hlt := x1.toNat_lt
      have he : exR [x0, x1] = if x1 = 0 ∨ 127 < x1.toNat then (rep0, 3) else (⟨(x1.toNat : Nat), [], [], []⟩, 0) := by
        unfold exR; rw [if_neg (by simp), if_neg (by simp)]; rfl
      rw [he]
      have hz : x1 = 0 ↔ x1.toNat = 0 := ⟨fun h => by rw [h]; rfl, fun h => UInt8.toNat.inj (by rw [h]; rfl)⟩
      by_cases hbad : x1 = 0 ∨ 127 < x1.toNat
      · rw [if_pos hbad]
        rw [hz] at hbad
        clear hb hl he hcl hz
        generalize x1.toNat = X at *
        rcases Nat.eq_zero_or_pos X with rfl | hX
        · go_enter Try.func77, Try.ntmps77
          go_wp2_with fail
          refine bodyPost_ret (v := .tuple #[repV rep0 repS0, .int .i64 3]) (by simp [results, Try.results77, go_sem, repV, rep0, repS0, *]) rfl ⟨repS0, rfl, repOw0 _ _, ?_⟩
          repeat' (first | with_reducible exact Ext.refl _ | with_reducible refine Ext.alloc' ?_ _ | with_reducible refine Ext.drew' ?_ | with_reducible refine Ext.set' ?_ (by simp) _)
        · have n0 : ¬ (X : Int) = 0 := by omega
          have n1 : (128 : Int) ≤ (X : Int) := by omega
          have q0 : ((X : Int) == 0) = false := by simpa using n0
          go_enter Try.func77, Try.ntmps77
          go_wp2_with fail
          refine bodyPost_ret (v := .tuple #[repV rep0 repS0, .int .i64 3]) (by simp [results, Try.results77, go_sem, repV, rep0, repS0, *]) rfl ⟨repS0, rfl, repOw0 _ _, ?_⟩
          repeat' (first | with_reducible exact Ext.refl _ | with_reducible refine Ext.alloc' ?_ _ | with_reducible refine Ext.drew' ?_ | with_reducible refine Ext.set' ?_ (by simp) _)
      · rw [if_neg hbad]
        rw [hz] at hbad
        clear hb hl he hcl hz
        generalize x1.toNat = X at *
        have n0 : ¬ (X : Int) = 0 := by omega
        have n1 : ¬ (128 : Int) ≤ (X : Int) := by omega
        have n2 : IntKind.i64.wrap (X : Int) = (X : Int) := IntWalk.i64_in _ (by omega)
        have q0 : ((X : Int) == 0) = false := by simpa using n0
        go_enter Try.func77, Try.ntmps77
        go_wp2_with fail
        refine bodyPost_ret (v := .tuple #[repV ⟨(X : Int), [], [], []⟩ repS0, .int .i64 0]) (by simp [results, Try.results77, go_sem, repV, repS0, *]) rfl ⟨repS0, rfl, repOwE _ _ _ (by unfold i64P; omega), ?_⟩
        repeat' (first | with_reducible exact Ext.refl _ | with_reducible refine Ext.alloc' ?_ _ | with_reducible refine Ext.drew' ?_ | with_reducible refine Ext.set' ?_ (by simp) _)
end Go.Proofs.Ytpjmhckdeeonbaa
