/- What reply.Get hands back; contract of reply.exception. -/
import Derived.Test.YtcnjhjfepojdaaaRepR
namespace Go.Proofs.Ytcnjhjfepojdaaa
set_option linter.unusedVariables false
set_option linter.unusedSimpArgs false
set_option maxRecDepth 100000
set_option maxHeartbeats 2000000
open Go Go.RowKit Go.Out

theorem OwL.set_belowO {w : World} {base : Nat} {e : TypeId} {v : Value} {l : List (List UInt16)} (h : OwL (fileO base) w base e v l) {q : Addr} (hq : q.block < base) (u : Value) : OwL (fileO base) (w.setCell q u) base e v l := by
  obtain ⟨xs, h1, h2⟩ := h
  refine ⟨xs, ?_, h2.mono fun cs x ⟨A, n, c, e1, e2, e3⟩ => ⟨A, n, c, e1, e2.set_below hq u, e3⟩⟩
  obtain ⟨h3, h4⟩ := h1
  refine ⟨h3, ?_⟩
  rcases h4 with h4 | ⟨g, cap, cur, hv, hb, hg, r⟩
  · exact .inl h4
  · exact .inr ⟨g, cap, cur, hv, hb, (Below.heap_setCell w q u g (by omega)).trans hg, r⟩
theorem fileO_mono {base base' : Nat} {w : World} {cs : List Value} {x : List UInt16} (h : (fileO base).R w cs x) (hb : base' ≤ base) : (fileO base').R w cs x := by
  obtain ⟨A, n, c, h1, h2, h3⟩ := h
  exact ⟨A, n, c, h1, h2.mono hb, h3⟩
theorem OwL.monoO {w : World} {base base' : Nat} {e : TypeId} {v : Value} {l : List (List UInt16)} (h : OwL (fileO base) w base e v l) (hb : base' ≤ base) : OwL (fileO base') w base' e v l := by
  obtain ⟨xs, h1, h2⟩ := OwL.mono h hb
  exact ⟨xs, h1, ⟨h2.1, fun i x hi => fileO_mono (h2.2 i x hi) hb⟩⟩
theorem RepOw.mono {w : World} {base base' : Nat} {r : RepD} {t : RepS} (h : RepOw w base r t) (hb : base' ≤ base) : RepOw w base' r t :=
  ⟨h.on.mono hb, h.set.mono hb, OwL.monoO h.files hb, h.n3, h.cap3, h.exc⟩
theorem RepOw.set_below {w : World} {base : Nat} {r : RepD} {t : RepS} (h : RepOw w base r t) {q : Addr} (hq : q.block < base) (u : Value) : RepOw (w.setCell q u) base r t :=
  ⟨h.on.set_below hq u, h.set.set_below hq u, OwL.set_belowO h.files hq u, h.n3, h.cap3, h.exc⟩
theorem repOwE (w : World) (base : Nat) (e : Int) (h : i64P e) : RepOw w base ⟨e, [], [], []⟩ repS0 := ⟨Own.nil_ _ _ _ _, Own.nil_ _ _ _ _, OwL.nil_ _ _ _ _, rfl, by simp [repS0], h⟩
/-- What reply.Get hands back. -/
def RetGR (w : World) (r : RepD × Int) (e : Ending) (w' : World) : Prop :=
  ∃ t, e = .returned (.tuple #[repV r.1 t, .int .i64 r.2]) ∧ RepOw w' w.heap.size r.1 t ∧ Ext w w'

theorem exception_any (b : List UInt8) (A : Option Addr) (N c : Nat) (w : World) (hb : Rd w A N (b.map cB)) (hN : N ≤ 140737488355328) :
    Calls Try.prog 36 #[.slice A N c] w (RetGR w (exR b)) := by
  have hl := hb.length
  rcases Nat.lt_or_ge N 2 with h2 | h2
  · have he : exR b = (rep0, 1) := by unfold exR; rw [if_pos (by omega)]
    rw [he]
    clear hb hl he
    go_enter Try.func36, Try.ntmps36
    go_wp2_with fail
    refine bodyPost_ret (v := .tuple #[repV rep0 repS0, .int .i64 1]) (by simp [results, Try.results36, go_sem, repV, rep0, repS0, *]) rfl ⟨repS0, rfl, repOw0 _ _, ?_⟩
    repeat' (first | with_reducible exact Ext.refl _ | with_reducible refine Ext.alloc' ?_ _ | with_reducible refine Ext.drew' ?_ | with_reducible refine Ext.set' ?_ (by simp) _)
  · rcases Nat.lt_or_ge 2 N with h3 | h3
    · have he : exR b = (rep0, 2) := by unfold exR; rw [if_neg (by omega), if_pos (by omega)]
      rw [he]
      clear hb hl he
      go_enter Try.func36, Try.ntmps36
      go_wp2_with fail
      refine bodyPost_ret (v := .tuple #[repV rep0 repS0, .int .i64 2]) (by simp [results, Try.results36, go_sem, repV, rep0, repS0, *]) rfl ⟨repS0, rfl, repOw0 _ _, ?_⟩
      repeat' (first | with_reducible exact Ext.refl _ | with_reducible refine Ext.alloc' ?_ _ | with_reducible refine Ext.drew' ?_ | with_reducible refine Ext.set' ?_ (by simp) _)
    · obtain rfl : N = 2 := by omega
      obtain ⟨x0, x1, r, rfl⟩ := len2 (b := b) (by omega)
      have hr : r = [] := by simpa using hl
      subst hr
      obtain ⟨bk, off, rfl, hbk, hcl⟩ := hb.2 (by omega)
      have c1 : w.cell? ⟨bk, off + 1, none⟩ = some (.int .u8 (x1.toNat : Int)) := hcl 1 _ rfl
      have hlt := x1.toNat_lt
      have he : exR [x0, x1] = if x1 = 0 ∨ 127 < x1.toNat then (rep0, 3) else (⟨(x1.toNat : Nat), [], [], []⟩, 0) := by
        unfold exR; rw [if_neg (by simp), if_neg (by simp)]; rfl
      rw [he]
      have hz : x1 = 0 ↔ x1.toNat = 0 := ⟨fun h => by rw [h]; rfl, fun h => UInt8.toNat.inj (by rw [h]; rfl)⟩
      by_cases hbad : x1 = 0 ∨ 127 < x1.toNat
      · rw [if_pos hbad]
        rw [hz] at hbad
        clear hb hl he hcl hz
        generalize x1.toNat = X at *
        rcases Nat.eq_zero_or_pos X with rfl | hX
        · go_enter Try.func36, Try.ntmps36
          go_wp2_with fail
          refine bodyPost_ret (v := .tuple #[repV rep0 repS0, .int .i64 3]) (by simp [results, Try.results36, go_sem, repV, rep0, repS0, *]) rfl ⟨repS0, rfl, repOw0 _ _, ?_⟩
          repeat' (first | with_reducible exact Ext.refl _ | with_reducible refine Ext.alloc' ?_ _ | with_reducible refine Ext.drew' ?_ | with_reducible refine Ext.set' ?_ (by simp) _)
        · have n0 : ¬ (X : Int) = 0 := by omega
          have n1 : (128 : Int) ≤ (X : Int) := by omega
          have q0 : ((X : Int) == 0) = false := by simpa using n0
          go_enter Try.func36, Try.ntmps36
          go_wp2_with fail
          refine bodyPost_ret (v := .tuple #[repV rep0 repS0, .int .i64 3]) (by simp [results, Try.results36, go_sem, repV, rep0, repS0, *]) rfl ⟨repS0, rfl, repOw0 _ _, ?_⟩
          repeat' (first | with_reducible exact Ext.refl _ | with_reducible refine Ext.alloc' ?_ _ | with_reducible refine Ext.drew' ?_ | with_reducible refine Ext.set' ?_ (by simp) _)
      · rw [if_neg hbad]
        rw [hz] at hbad
        clear hb hl he hcl hz
        generalize x1.toNat = X at *
        have n0 : ¬ (X : Int) = 0 := by omega
        have n1 : ¬ (128 : Int) ≤ (X : Int) := by omega
        have n2 : IntKind.i64.wrap (X : Int) = (X : Int) := IntWalk.i64_in _ (by omega)
        have q0 : ((X : Int) == 0) = false := by simpa using n0
        go_enter Try.func36, Try.ntmps36
        go_wp2_with fail
        refine bodyPost_ret (v := .tuple #[repV ⟨(X : Int), [], [], []⟩ repS0, .int .i64 0]) (by simp [results, Try.results36, go_sem, repV, repS0, *]) rfl ⟨repS0, rfl, repOwE _ _ _ (by unfold i64P; omega), ?_⟩
        repeat' (first | with_reducible exact Ext.refl _ | with_reducible refine Ext.alloc' ?_ _ | with_reducible refine Ext.drew' ?_ | with_reducible refine Ext.set' ?_ (by simp) _)
end Go.Proofs.Ytcnjhjfepojdaaa

namespace Go.Out
open Go Go.RowKit
set_option linter.unusedVariables false
/-- Nothing has turned below block lo, nor from block hi on. -/
structure Mid (lo hi : Nat) (w w' : World) : Prop where
  below : Below lo w w'
  block : ∀ i, hi ≤ i → i < w.heap.size → w'.heap[i]? = w.heap[i]?
theorem Mid.refl (lo hi : Nat) (w : World) : Mid lo hi w w := ⟨Below.refl _ _, fun _ _ _ => rfl⟩
theorem Mid.grown {lo hi : Nat} {w w1 w2 : World} {row : Option Nat} (h : Mid lo hi w w1) (hlo : lo ≤ w1.heap.size) (hg : w1.grownBy w2 row) (hr : ∀ g, row = some g → lo ≤ g ∧ g < hi) : Mid lo hi w w2 :=
  ⟨h.below.grown hg hlo (fun g e => (hr g e).1), fun i hi' hlt => (hg.block i (Nat.lt_of_lt_of_le hlt h.below.size) (fun e => by have := (hr i e.symm).2; omega)).trans (h.block i hi' hlt)⟩
theorem Mid.own {lo hi base : Nat} {w w' : World} {e : TypeId} {p : Value → Prop} {A : Option Addr} {n c : Nat} {xs : List Value} (h : Mid lo hi w w') (ho : Own w base e p A n c xs) (hb : hi ≤ base) : Own w' base e p A n c xs :=
  ho.kept fun g hg => h.block g (Nat.le_trans hb (ho.lt g hg).1) (ho.lt g hg).2
theorem Own.after {w w' : World} {base : Nat} {e : TypeId} {p : Value → Prop} {A B : Option Addr} {n c m k : Nat} {xs ys zs : List Value} (h : Own w base e p A n c xs) (hb : Own w base e p B m k ys) (hb' : Own w' base e p B m k zs) (hg : w.grownBy w' (blk B)) :
    ∃ xs', Own w' base e p A n c xs' := by
  by_cases hne : ∀ g, blk A = some g → some g ≠ blk B
  · exact ⟨xs, h.grown hg hne⟩
  · obtain ⟨h1, h2, h3, h4⟩ := h
    rcases h4 with h4 | ⟨g, off, cur, rfl, hbg, hh, hs, ht, hp⟩
    · exact ⟨xs, h1, h2, h3, .inl h4⟩
    · have hbB : blk B = some g := by
        cases hB : blk B with
        | none => exact absurd (fun g' _ e => by rw [hB] at e; cases e) hne
        | some g' =>
          by_cases hgg : g = g'
          · rw [hgg]
          · refine absurd (fun g2 h2 e => hgg ?_) hne
            rw [hB] at e
            simp only [blk, Option.map_some, Option.some.injEq] at h2
            injection e with e
            omega
      rcases hb.2.2.2 with ⟨rfl, _⟩ | ⟨g1, o1, c1, rfl, _, hh1, hs1, _, _⟩
      · cases hbB
      · rcases hb'.2.2.2 with ⟨e1, _⟩ | ⟨g2, o2, c2, e2, _, hh2, hs2, _, hp2⟩
        · cases e1
        · cases e2
          simp only [blk, Option.map_some, Option.some.injEq] at hbB
          subst hbB
          rw [hh] at hh1
          injection hh1 with hh1
          injection hh1 with q1
          subst q1
          exact ⟨(c2.toList.drop off).take n, by simp; omega, h2, h3, .inr ⟨_, off, c2, rfl, hbg, hh2, by omega, rfl, hp2⟩⟩
end Go.Out
namespace Go.Proofs.Ytcnjhjfepojdaaa
set_option linter.unusedVariables false
set_option linter.unusedSimpArgs false
set_option maxRecDepth 100000
set_option maxHeartbeats 2000000
open Go Go.RowKit Go.Out

theorem info_u16s : (Try.prog.info? 23).map (fun i => (i.zero, i.size, i.bytes)) = some (some (.slice none 0 0), 1, 24) := by kernel_rfl
theorem app_file {ops : Array Oper} {rest : List Oper} {o : Oper} {a : Act} {Q : Exit → Act → World → Prop} (w : World) (hgd : o.guard = none) (s x : Operand)
    (ho : o.op = .call { callee := .builtin .append, args := #[s, x], argTypes := #[39, 39] })
    {base g n c : Nat} {A : Option Addr} {v : Value} {l : List (List UInt16)} {f : List UInt16} (hs : a.eval s = v) (hown : OwL (fileO base) w base 23 v l)
    (hx : a.eval x = .slice (some ⟨g, 0, none⟩) 1 1) (hh : w.heap[g]? = some (.cells #[.slice A n c] 23 (0, 0)))
    (hf : Own w base 67 IsU16 A n c (f.map cW)) (hn : n ≤ 70368744175616) (hsz : l.length + 1 ≤ 4398046511104) (hbase : base ≤ w.heap.size)
    (h : ∀ v' w', OwL (fileO base) w' base 23 v' (l ++ [f]) → w.grownBy w' v.ownBlock → (∀ g, v.ownBlock = some g → base ≤ g) → wpList Try.prog ops Q rest (a.put o.dst v') w') :
    wpList Try.prog ops Q (o :: rest) a w := by
  obtain ⟨i0, hi, hz0, hz1, hz2⟩ := info_parts info_u16s
  obtain ⟨xs, hrow, hit⟩ := hown
  refine wpList_append_own w hgd s x 39 ho base 23 i0 _ 1 24 Try.underlying39 hi hz0 hz1 hz2 rfl (by decide) v l.length xs hs hrow ⟨g, 0, none⟩ 1 1 [.slice A n c] hx rfl
    (fun j u hu => by rw [Addr.add_lit, cell_of_row _ _ _ _ _ _ hh, Nat.zero_add]; simpa using hu) (by simp [Value.oneCell']) (by unfold maxLen; omega) (by omega) hbase fun v' w' h2 h3 _ => h v' w' ?_ h3 fun g hg => (hrow.lt g hg).1
  have hit' : Items (fileO base) w' xs l := hit.mono fun cs y ⟨A', n', c', e, ho', hn'⟩ => ⟨A', n', c', e, ho'.grown_ty hrow (by decide) h3, hn'⟩
  exact ⟨_, by show w'.ownsRow base _ 1 v' _ _; simpa using h2, hit'.snoc ⟨A, n, c, rfl, hf.grown_ty hrow (by decide) h3, hn⟩ rfl⟩

end Go.Proofs.Ytcnjhjfepojdaaa
