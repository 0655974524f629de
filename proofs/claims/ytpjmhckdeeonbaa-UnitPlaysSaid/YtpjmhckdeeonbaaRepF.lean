/- What reply.Get hands back; contract of reply.exception. -/
import Derived.Test.YtpjmhckdeeonbaaRepR
namespace Go.Proofs.Ytpjmhckdeeonbaa
set_option linter.unusedVariables false
set_option linter.unusedSimpArgs false
set_option maxRecDepth 100000
set_option maxHeartbeats 2000000
open Go Go.RowKit Go.Out

theorem OwL.set_belowO {w : World} {base : Nat} {e : TypeId} {v : Value} {l : List (List UInt16)} (h : OwL (fileO base) w base e v l) {q : Addr} (hq : q.block < base) (u : Value) : OwL (fileO base) (w.setCell q u) base e v l := by
  obtain ⟨xs, h1, h2⟩ := h
  refine ⟨xs, ?_, h2.mono fun cs x ⟨A, n, c, e1, e2, e3⟩ => ⟨A, n, c, e1, e2.set_below hq u, e3⟩⟩
  obtain ⟨h3, h4⟩ := h1
  refine ⟨h3, ?_⟩
  rcases h4 with h4 | ⟨g, cap, cur, hv, hb, hg, r⟩
  · exact .inl h4
  · exact .inr ⟨g, cap, cur, hv, hb, (Below.heap_setCell w q u g (by omega)).trans hg, r⟩
theorem fileO_mono {base base' : Nat} {w : World} {cs : List Value} {x : List UInt16} (h : (fileO base).R w cs x) (hb : base' ≤ base) : (fileO base').R w cs x := by
  obtain ⟨A, n, c, h1, h2, h3⟩ := h
  exact ⟨A, n, c, h1, h2.mono hb, h3⟩
theorem OwL.monoO {w : World} {base base' : Nat} {e : TypeId} {v : Value} {l : List (List UInt16)} (h : OwL (fileO base) w base e v l) (hb : base' ≤ base) : OwL (fileO base') w base' e v l := by
  obtain ⟨xs, h1, h2⟩ := OwL.mono h hb
  exact ⟨xs, h1, ⟨h2.1, fun i x hi => fileO_mono (h2.2 i x hi) hb⟩⟩
theorem RepOw.mono {w : World} {base base' : Nat} {r : RepD} {t : RepS} (h : RepOw w base r t) (hb : base' ≤ base) : RepOw w base' r t :=
  ⟨h.on.mono hb, h.set.mono hb, OwL.monoO h.files hb, h.n3, h.cap3, h.exc⟩
theorem RepOw.set_below {w : World} {base : Nat} {r : RepD} {t : RepS} (h : RepOw w base r t) {q : Addr} (hq : q.block < base) (u : Value) : RepOw (w.setCell q u) base r t :=
  ⟨h.on.set_below hq u, h.set.set_below hq u, OwL.set_belowO h.files hq u, h.n3, h.cap3, h.exc⟩
theorem repOwE (w : World) (base : Nat) (e : Int) (h : i64P e) : RepOw w base ⟨e, [], [], []⟩ repS0 := ⟨Own.nil_ _ _ _ _, Own.nil_ _ _ _ _, OwL.nil_ _ _ _ _, rfl, by simp [repS0], h⟩
/-- What reply.Get hands back. -/
def RetGR (w : World) (r : RepD × Int) (e : Ending) (w' : World) : Prop :=
  ∃ t, e = .returned (.tuple #[repV r.1 t, .int .i64 r.2]) ∧ RepOw w' w.heap.size r.1 t ∧ Ext w w'

theorem exception_any (b : List UInt8) (A : Option Addr) (N c : Nat) (w : World) (hb : Rd w A N (b.map cB)) (hN : N ≤ 140737488355328) :
    Calls Try.prog 77 #[.slice A N c] w (RetGR w (exR b)) := by
  have hl := hb.length
  rcases Nat.lt_or_ge N 2 with h2 | h2
  · have he : exR b = (rep0, 1) := by unfold exR; rw [if_pos (by omega)]
    rw [he]
    clear hb hl he
    go_enter Try.func77, Try.ntmps77
    go_wp2_with fail
    refine bodyPost_ret (v := .tuple #[repV rep0 repS0, .int .i64 1]) (by simp [results, Try.results77, go_sem, repV, rep0, repS0, *]) rfl ⟨repS0, rfl, repOw0 _ _, ?_⟩
    repeat' (first | with_reducible exact Ext.refl _ | with_reducible refine Ext.alloc' ?_ _ | with_reducible refine Ext.drew' ?_ | with_reducible refine Ext.set' ?_ (by simp) _)
  · rcases Nat.lt_or_ge 2 N with h3 | h3
    · have he : exR b = (rep0, 2) := by unfold exR; rw [if_neg (by omega), if_pos (by omega)]
      rw [he]
      clear hb hl he
      go_enter Try.func77, Try.ntmps77
      go_wp2_with fail
      refine bodyPost_ret (v := .tuple #[repV rep0 repS0, .int .i64 2]) (by simp [results, Try.results77, go_sem, repV, rep0, repS0, *]) rfl ⟨repS0, rfl, repOw0 _ _, ?_⟩
      repeat' (first | with_reducible exact Ext.refl _ | with_reducible refine Ext.alloc' ?_ _ | with_reducible refine Ext.drew' ?_ | with_reducible refine Ext.set' ?_ (by simp) _)
    · obtain rfl : N = 2 := by omega
      obtain ⟨x0, x1, r, rfl⟩ := len2 (b := b) (by omega)
      have hr : r = [] := by simpa using hl
      subst hr
      obtain ⟨bk, off, rfl, hbk, hcl⟩ := hb.2 (by omega)
      have c1 : w.cell? ⟨bk, off + 1, none⟩ = some (.int .u8 (x1.toNat : Int)) := hcl 1 _ rfl
      have hlt := x1.toNat_lt
      have he : exR [x0, x1] = if x1 = 0 ∨ 127 < x1.toNat then (rep0, 3) else (⟨(x1.toNat : Nat), [], [], []⟩, 0) := by
        unfold exR; rw [if_neg (by simp), if_neg (by simp)]; rfl
      rw [he]
      have hz : x1 = 0 ↔ x1.toNat = 0 := ⟨fun h => by rw [h]; rfl, fun h => UInt8.toNat.inj (by rw [h]; rfl)⟩
      by_cases hbad : x1 = 0 ∨ 127 < x1.toNat
      · rw [if_pos hbad]
        rw [hz] at hbad
        clear hb hl he hcl hz
        generalize x1.toNat = X at *
        rcases Nat.eq_zero_or_pos X with rfl | hX
        · go_enter Try.func77, Try.ntmps77
          go_wp2_with fail
          refine bodyPost_ret (v := .tuple #[repV rep0 repS0, .int .i64 3]) (by simp [results, Try.results77, go_sem, repV, rep0, repS0, *]) rfl ⟨repS0, rfl, repOw0 _ _, ?_⟩
          repeat' (first | with_reducible exact Ext.refl _ | with_reducible refine Ext.alloc' ?_ _ | with_reducible refine Ext.drew' ?_ | with_reducible refine Ext.set' ?_ (by simp) _)
        · have n0 : ¬ (X : Int) = 0 := by omega
          have n1 : (128 : Int) ≤ (X : Int) := by omega
          have q0 : ((X : Int) == 0) = false := by simpa using n0
          go_enter Try.func77, Try.ntmps77
          go_wp2_with fail
          refine bodyPost_ret (v := .tuple #[repV rep0 repS0, .int .i64 3]) (by simp [results, Try.results77, go_sem, repV, rep0, repS0, *]) rfl ⟨repS0, rfl, repOw0 _ _, ?_⟩
          repeat' (first | with_reducible exact Ext.refl _ | with_reducible refine Ext.alloc' ?_ _ | with_reducible refine Ext.drew' ?_ | with_reducible refine Ext.set' ?_ (by simp) _)
      · rw [if_neg hbad]
        rw [hz] at hbad
        clear hb hl he hcl hz
        generalize x1.toNat = X at *
        have n0 : ¬ (X : Int) = 0 := by omega
        have n1 : ¬ (128 : Int) ≤ (X : Int) := by omega
        have n2 : IntKind.i64.wrap (X : Int) = (X : Int) := IntWalk.i64_in _ (by omega)
        have q0 : ((X : Int) == 0) = false := by simpa using n0
        go_enter Try.func77, Try.ntmps77
        go_wp2_with fail
        refine bodyPost_ret (v := .tuple #[repV ⟨(X : Int), [], [], []⟩ repS0, .int .i64 0]) (by simp [results, Try.results77, go_sem, repV, repS0, *]) rfl ⟨repS0, rfl, repOwE _ _ _ (by unfold i64P; omega), ?_⟩
        repeat' (first | with_reducible exact Ext.refl _ | with_reducible refine Ext.alloc' ?_ _ | with_reducible refine Ext.drew' ?_ | with_reducible refine Ext.set' ?_ (by simp) _)
end Go.Proofs.Ytpjmhckdeeonbaa

namespace Go.Out
open Go Go.RowKit
set_option linter.unusedVariables false
/-- Nothing has turned below block lo, nor from block hi on. -/
structure Mid (lo hi : Nat) (w w' : World) : Prop where
  below : Below lo w w'
  block : ∀ i, hi ≤ i → i < w.heap.size → w'.heap[i]? = w.heap[i]?
theorem Mid.refl (lo hi : Nat) (w : World) : Mid lo hi w w := ⟨Below.refl _ _, fun _ _ _ => rfl⟩
theorem Mid.grown {lo hi : Nat} {w w1 w2 : World} {row : Option Nat} (h : Mid lo hi w w1) (hlo : lo ≤ w1.heap.size) (hg : w1.grownBy w2 row) (hr : ∀ g, row = some g → lo ≤ g ∧ g < hi) : Mid lo hi w w2 :=
  ⟨h.below.grown hg hlo (fun g e => (hr g e).1), fun i hi' hlt => (hg.block i (Nat.lt_of_lt_of_le hlt h.below.size) (fun e => by have := (hr i e.symm).2; omega)).trans (h.block i hi' hlt)⟩
theorem Mid.own {lo hi base : Nat} {w w' : World} {e : TypeId} {p : Value → Prop} {A : Option Addr} {n c : Nat} {xs : List Value} (h : Mid lo hi w w') (ho : Own w base e p A n c xs) (hb : hi ≤ base) : Own w' base e p A n c xs :=
  ho.kept fun g hg => h.block g (Nat.le_trans hb (ho.lt g hg).1) (ho.lt g hg).2
theorem Own.after {w w' : World} {base : Nat} {e : TypeId} {p : Value → Prop} {A B : Option Addr} {n c m k : Nat} {xs ys zs : List Value} (h : Own w base e p A n c xs) (hb : Own w base e p B m k ys) (hb' : Own w' base e p B m k zs) (hg : w.grownBy w' (blk B)) :
    ∃ xs', Own w' base e p A n c xs' := by
  by_cases hne : ∀ g, blk A = some g → some g ≠ blk B
  · exact ⟨xs, h.grown hg hne⟩
  · obtain ⟨h1, h2, h3, h4⟩ := h
    rcases h4 with h4 | ⟨g, off, cur, rfl, hbg, hh, hs, ht, hp⟩
    · exact ⟨xs, h1, h2, h3, .inl h4⟩
    · have hbB : blk B = some g := by
        cases hB : blk B with
        | none => exact absurd (fun g' _ e => by rw [hB] at e; cases e) hne
        | some g' =>
          by_cases hgg : g = g'
          · rw [hgg]
          · refine absurd (fun g2 h2 e => hgg ?_) hne
            rw [hB] at e
            simp only [blk, Option.map_some, Option.some.injEq] at h2
            injection e with e
            omega
      rcases hb.2.2.2 with ⟨rfl, _⟩ | ⟨g1, o1, c1, rfl, _, hh1, hs1, _, _⟩
      · cases hbB
      · rcases hb'.2.2.2 with ⟨e1, _⟩ | ⟨g2, o2, c2, e2, _, hh2, hs2, _, hp2⟩
        · cases e1
        · cases e2
          simp only [blk, Option.map_some, Option.some.injEq] at hbB
          subst hbB
          rw [hh] at hh1
          injection hh1 with hh1
          injection hh1 with q1
          subst q1
          exact ⟨(c2.toList.drop off).take n, by simp; omega, h2, h3, .inr ⟨_, off, c2, rfl, hbg, hh2, by omega, rfl, hp2⟩⟩
end Go.Out
namespace Go.Proofs.Ytpjmhckdeeonbaa
set_option linter.unusedVariables false
set_option linter.unusedSimpArgs false
set_option maxRecDepth 100000
set_option maxHeartbeats 2000000
open Go Go.RowKit Go.Out

theorem info_u16s : (Try.prog.info? 23).map (fun i => (i.zero, i.size, i.bytes)) = some (some (.slice none 0 0), 1, 24) := by kernel_rfl
theorem app_file {ops : Array Oper} {rest : List Oper} {o : Oper} {a : Act} {Q : Exit → Act → World → Prop} (w : World) (hgd : o.guard = none) (s x : Operand)
    (ho : o.op = .call { callee := .builtin .append, args := #[s, x], argTypes := #[27, 27] })
    {base g n c : Nat} {A : Option Addr} {v : Value} {l : List (List UInt16)} {f : List UInt16} (hs : a.eval s = v) (hown : OwL (fileO base) w base 23 v l)
    (hx : a.eval x = .slice (some ⟨g, 0, none⟩) 1 1) (hh : w.heap[g]? = some (.cells #[.slice A n c] 23 (0, 0)))
    (hf : Own w base 54 IsU16 A n c (f.map cW)) (hn : n ≤ 70368744175616) (hsz : l.length + 1 ≤ 4398046511104) (hbase : base ≤ w.heap.size)
    (h : ∀ v' w', OwL (fileO base) w' base 23 v' (l ++ [f]) → w.grownBy w' v.ownBlock → (∀ g, v.ownBlock = some g → base ≤ g) → wpList Try.prog ops Q rest (a.put o.dst v') w') :
    wpList Try.prog ops Q (o :: rest) a w := by
  obtain ⟨i0, hi, hz0, hz1, hz2⟩ := info_parts info_u16s
  obtain ⟨xs, hrow, hit⟩ := hown
  refine wpList_append_own w hgd s x 27 ho base 23 i0 _ 1 24 Try.underlying27 hi hz0 hz1 hz2 rfl (by decide) v l.length xs hs hrow ⟨g, 0, none⟩ 1 1 [.slice A n c] hx rfl
    (fun j u hu => by rw [Addr.add_lit, cell_of_row _ _ _ _ _ _ hh, Nat.zero_add]; simpa using hu) (by simp [Value.oneCell']) (by unfold maxLen; omega) (by omega) hbase fun v' w' h2 h3 _ => h v' w' ?_ h3 fun g hg => (hrow.lt g hg).1
  have hit' : Items (fileO base) w' xs l := hit.mono fun cs y ⟨A', n', c', e, ho', hn'⟩ => ⟨A', n', c', e, ho'.grown_ty hrow (by decide) h3, hn'⟩
  exact ⟨_, by show w'.ownsRow base _ 1 v' _ _; simpa using h2, hit'.snoc ⟨A, n, c, rfl, hf.grown_ty hrow (by decide) h3, hn⟩ rfl⟩

theorem copyReply_any (r : RepD) (s : RepS) (w : World) (hr : RepRd w r s) (h1 : s.n1 ≤ 70000) (h2 : s.n2 ≤ 70000) (h3 : s.n3 ≤ 1000) :
    Calls Try.prog 19 #[repV r s] w fun e w' => ∃ t, e = .returned (repV r t) ∧ RepOw w' w.heap.size r t ∧ Ext w w' := by
  have HR := Lib.hid hr
  have e3 := hr.n3
  obtain ⟨exc, on, set, files⟩ := r
  obtain ⟨A1, n1, c1, A2, n2, c2, A3, n3, c3⟩ := s
  simp only at h1 h2 h3 e3
  have E3 := Lib.hid e3
  clear hr e3
  simp only [repV]
  go_enter Try.func19, Try.ntmps19
  go_wp2_with fail
  refine (copyL_any on _ _ _ _ (HR.out.on.ext ((Ext.alloc _ _).trans (Ext.alloc _ _))) (by show n1 ≤ _; omega)).mono ?_
  rintro e w1 ⟨B1, k1, rfl, ho1, hb1⟩
  have hX1 := Ext.of hb1
  have hA : w1.heap[w.heap.size]? = some (.cells #[.int .i64 exc, .slice A1 n1 c1, .slice A2 n2 c2, .slice A3 n3 c3] 29 (0, 0)) := hX1.block ((Ext.alloc _ _).block (heap_alloc_new w _))
  have hB : w1.heap[w.heap.size + 1]? = some (.cells #[.int .i64 0, .slice none 0 0, .slice none 0 0, .slice none 0 0] 29 (0, 0)) := hX1.block (heap_at _ _ _ (by simp))
  have X1 := Lib.hid ((Ext.alloc _ _).trans ((Ext.alloc _ _).trans hX1))
  have HO1 := Lib.hid (show Own w1 (w.heap.size + 2) 4 IsBo B1 n1 k1 (on.map cL) from ho1.mono (by simp))
  obtain ⟨d0, d1, d2, d3⟩ := cells4 hA
  have u_1 := frozen_of_row w1 (w.heap.size) 1 _ _ hA
  have u_2 := frozen_of_row w1 (w.heap.size) 2 _ _ hA
  have u_3 := frozen_of_row w1 (w.heap.size) 3 _ _ hA
  have hA2 := heap_setCell_same w1 w.heap.size 1 _ _ (.slice B1 n1 k1) hA
  have hB2 : (w1.setCell ⟨w.heap.size, 1, none⟩ (.slice B1 n1 k1)).heap[w.heap.size + 1]? = some (.cells #[.int .i64 0, .slice none 0 0, .slice none 0 0, .slice none 0 0] 29 (0, 0)) := (Below.heap_setCell w1 ⟨w.heap.size, 1, none⟩ _ (w.heap.size + 1) (by simp)).trans hB
  have X1s := Lib.hid (X1.out.set' (p := ⟨w.heap.size, 1, none⟩) (Nat.le_refl _) (.slice B1 n1 k1))
  have HO1s := Lib.hid (HO1.out.set_below (q := ⟨w.heap.size, 1, none⟩) (by simp) (.slice B1 n1 k1))
  have HA2 := Lib.hid hA2; have HB2 := Lib.hid hB2
  clear hA hB hA2 hB2 hX1 ho1 hb1
  go_wp2_with fail
  refine (copyW_any set _ _ _ _ (HR.out.set.ext X1s.out) (by show n2 ≤ _; omega)).mono ?_
  rintro e w2 ⟨B2, k2, rfl, ho2, hb2⟩
  have hX2 := Ext.of hb2
  have hA : w2.heap[w.heap.size]? = some (.cells #[.int .i64 exc, .slice B1 n1 k1, .slice A2 n2 c2, .slice A3 n3 c3] 29 (0, 0)) := hX2.block HA2.out
  have hB := hX2.block HB2.out
  have X2 := Lib.hid (X1s.out.trans hX2)
  have HO1 := Lib.hid (HO1s.out.ext hX2)
  have hz : w.heap.size + 2 ≤ (w1.setCell ⟨w.heap.size, 1, none⟩ (.slice B1 n1 k1)).heap.size := by have := lt_of_heap HB2.out; omega
  have HO2 := Lib.hid (show Own w2 (w.heap.size + 2) 54 IsU16 B2 n2 k2 (set.map cW) from ho2.mono hz)
  clear d0 d1 d2 d3 u_1 u_2 u_3
  obtain ⟨d0, d1, d2, d3⟩ := cells4 hA
  have u_1 := frozen_of_row w2 (w.heap.size) 1 _ _ hA
  have u_2 := frozen_of_row w2 (w.heap.size) 2 _ _ hA
  have u_3 := frozen_of_row w2 (w.heap.size) 3 _ _ hA
  obtain ⟨V, hV⟩ : ∃ V, w2.setCell ⟨w.heap.size, 2, none⟩ (.slice B2 n2 k2) = V := ⟨_, rfl⟩
  have HA3 := Lib.hid (show V.heap[w.heap.size]? = some (.cells #[.int .i64 exc, .slice B1 n1 k1, .slice B2 n2 k2, .slice A3 n3 c3] 29 (0, 0)) from hV ▸ heap_setCell_same w2 w.heap.size 2 _ _ (.slice B2 n2 k2) hA)
  have HB3 := Lib.hid (show V.heap[w.heap.size + 1]? = some (.cells #[.int .i64 0, .slice none 0 0, .slice none 0 0, .slice none 0 0] 29 (0, 0)) from hV ▸ (Below.heap_setCell w2 ⟨w.heap.size, 2, none⟩ _ (w.heap.size + 1) (by simp)).trans hB)
  have XV := Lib.hid (show Ext w V from hV ▸ X2.out.set' (p := ⟨w.heap.size, 2, none⟩) (Nat.le_refl _) (.slice B2 n2 k2))
  have HO1t := Lib.hid (show Own V (w.heap.size + 2) 4 IsBo B1 n1 k1 (on.map cL) from hV ▸ HO1.out.set_below (q := ⟨w.heap.size, 2, none⟩) (by simp) (.slice B2 n2 k2))
  have HO2t := Lib.hid (show Own V (w.heap.size + 2) 54 IsU16 B2 n2 k2 (set.map cW) from hV ▸ HO2.out.set_below (q := ⟨w.heap.size, 2, none⟩) (by simp) (.slice B2 n2 k2))
  have HV := Lib.hid hV
  clear hA hB hX2 ho2 hb2 hz HA2 HB2 X1s HO1s X1 X2 HO1 HO2 hV
  go_wp2_with fail
  rw [HV.out]
  clear HV d0 d1 d2 d3 u_1 u_2 u_3
  go_loopw [3, 4] (fun f i wr => ∃ (k : Nat), k ≤ n3 ∧ i = .int .i64 (k : Int) ∧ Hid (OwL (fileO V.heap.size) wr V.heap.size 23 f (files.take k)) ∧ Ext V wr) (fun _ i _ => n3 - (intOf i).toNat)
  case atStart => exact ⟨0, Nat.zero_le _, rfl, Lib.hid (OwL.nil_ _ _ _ _), Ext.refl _⟩
  case round =>
    obtain ⟨k, hk, rfl, HOL, hx⟩ := hrel
    obtain ⟨d0, d1, d2, d3⟩ := cells4 (hx.block HA3.out)
    have HX := Lib.hid hx
    rcases Nat.lt_or_ge k n3 with hlt | hge
    · obtain ⟨b1, o1, f, A6, n6, c6, hf, rfl, hb1, f0w, hr6, hn6, -, hn7⟩ := file_cells HR.out.files hlt
      have f0 := (XV.out.trans hx).cell hb1 f0w
      have hst : files.take (k + 1) = files.take k ++ [f] := by
        obtain ⟨hkl, rfl⟩ := List.getElem?_eq_some_iff.1 hf
        exact List.take_succ_eq_append_getElem hkl
      have hl1 : (files.take k).length + 1 ≤ 4398046511104 := by simp; omega
      have Hst := Lib.hid hst
      have HR6 := Lib.hid hr6; have HL1 := Lib.hid hl1
      clear hf hst hr6 hx f0w hb1 hn6 hl1
      go_wp2_with fail
      refine (copyW_any f _ _ _ _ (HR6.out.ext (XV.out.trans HX.out)) (by omega)).mono ?_
      rintro e w3 ⟨B6, k6, rfl, ho6, hb6⟩
      have HX3 := Lib.hid (HX.out.trans (Ext.of hb6))
      have HOL3 := Lib.hid (HOL.out.ext (Ext.of hb6))
      have HO6 := Lib.hid (show Own w3 V.heap.size 54 IsU16 B6 n6 k6 (f.map cW) from ho6.mono HX.out.size)
      clear ho6 hb6 d0 d1 d2 d3
      go_wp2_with (at_builtin; refine app_file _ rfl (.tmp 20) (.tmp 27) rfl rfl (HOL3.out.ext (Ext.alloc _ _)) rfl (heap_alloc_new w3 _) (HO6.out.ext (Ext.alloc _ _)) hn7 HL1.out (HX3.out.trans (Ext.alloc _ _)).size ?_; intro v4 w4 hol hg hlo)
      have HX4 := Lib.hid ((HX3.out.trans (Ext.alloc _ _)).grown' hg hlo)
      rw [← Hst.out] at hol
      have HOL4 := Lib.hid hol
      clear hol hg hlo
      go_roundw
      case rel => exact ⟨k + 1, by omega, by go_num, HOL4, HX4.out⟩
      case measure => simp [intOf]; omega
    · obtain rfl : k = n3 := by omega
      have hall : files.take k = files := List.take_of_length_le (by have := E3.out; omega)
      rw [hall] at HOL
      obtain ⟨A9, c9, rfl, h91, h92, -, -⟩ := HOL.out.form
      have e3 : files.length = k := E3.out
      have u_0 := frozen_of_row wr (w.heap.size) 0 _ _ (hx.block HA3.out)
      have u_1 := frozen_of_row wr (w.heap.size) 1 _ _ (hx.block HA3.out)
      have u_2 := frozen_of_row wr (w.heap.size) 2 _ _ (hx.block HA3.out)
      have u_3 := frozen_of_row wr (w.heap.size) 3 _ _ (hx.block HA3.out)
      obtain ⟨f0, f1, f2, f3⟩ := cells4 (hx.block HB3.out)
      have y_0 := frozen_of_row wr (w.heap.size + 1) 0 _ _ (hx.block HB3.out)
      have y_1 := frozen_of_row wr (w.heap.size + 1) 1 _ _ (hx.block HB3.out)
      have y_2 := frozen_of_row wr (w.heap.size + 1) 2 _ _ (hx.block HB3.out)
      have y_3 := frozen_of_row wr (w.heap.size + 1) 3 _ _ (hx.block HB3.out)
      have HO1x := Lib.hid (HO1t.out.ext hx)
      have HO2x := Lib.hid (HO2t.out.ext hx)
      have hV2 : w.heap.size + 2 ≤ V.heap.size := by have := lt_of_heap HB3.out; omega
      have HOLx := Lib.hid (OwL.monoO HOL.out hV2)
      have H91 := Lib.hid h91; have H92 := Lib.hid h92
      have XW := Lib.hid (XV.out.trans hx)
      clear hx hall h91 h92 hV2 HOL HX
      go_wp2_with fail
      refine bodyPost_ret (v := repV ⟨exc, on, set, files⟩ ⟨B1, n1, k1, B2, n2, k2, A9, files.length, c9⟩) (by simp [results, Try.results19, go_sem, repV, *]) rfl ⟨⟨B1, n1, k1, B2, n2, k2, A9, files.length, c9⟩, rfl, ?_, ?_⟩
      · refine RepOw.mono (base := w.heap.size + 2) ?_ (by omega)
        repeat' (first | with_reducible exact (⟨HO1x.out, HO2x.out, HOLx.out, rfl, ⟨H91.out, H92.out⟩, HR.out.exc⟩ : RepOw wr (w.heap.size + 2) ⟨exc, on, set, files⟩ ⟨B1, n1, k1, B2, n2, k2, A9, files.length, c9⟩) | with_reducible refine RepOw.set_below ?_ (by simp) _)
      · repeat' (first | with_reducible exact XW.out | with_reducible refine Ext.set' ?_ (by simp) _)

theorem spoilReply_any (r : RepD) (t : RepS) (base : Nat) (w1 w : World) (ho : RepOw w1 base r t) (hx : Ext w1 w) (hb : base ≤ w1.heap.size) :
    Calls Try.prog 31 #[repV r t] w fun e w' => e = .returned (.tuple #[]) ∧ Mid base w1.heap.size w w' := by
  have l1 := ho.on.lt; have l2 := ho.set.lt
  have hon := ho.on.ext hx; have hset := ho.set.ext hx
  obtain ⟨xs, hrow, hit⟩ := ho.files
  have hn3 := ho.n3
  have hcp : t.n3 ≤ 9223372036854775807 := Nat.le_trans ho.cap3.1 ho.cap3.2
  have hrowlt := hrow.lt
  have hrow' := ownsRow_ext hrow hx
  have hit2 : ∀ i u, xs[i]? = some u → ∃ A n c ys, u = Value.slice A n c ∧ Own w base 54 IsU16 A n c ys ∧ ∀ g, blk A = some g → g < w1.heap.size := fun i u hu => by
    have hlen := hit.1
    simp only [fileO, Nat.mul_one] at hlen
    have hi : i < r.files.length := by have := (List.getElem?_eq_some_iff.1 hu).1; omega
    obtain ⟨A, n, c, e, ho6, -⟩ := hit.2 i _ (List.getElem?_eq_getElem hi)
    have e2 : (xs.drop (i * 1)).take 1 = [u] := by
      obtain ⟨hlt, rfl⟩ := List.getElem?_eq_some_iff.1 hu
      rw [Nat.mul_one, List.drop_eq_getElem_cons hlt]; rfl
    have e3 : (xs.drop (i * (fileO base).k)).take (fileO base).k = [u] := e2
    rw [e3] at e
    injection e with e _
    exact ⟨A, n, c, _, e, ho6.ext hx, fun g hg => (ho6.lt g hg).2⟩
  have hcell : ∀ i, i < t.n3 → ∃ b A n c, t.A3 = some ⟨b, 0, none⟩ ∧ TyAt w b 23 ∧ b < w1.heap.size ∧ xs[i]? = some (.slice A n c) ∧ ∃ cur, w.heap[b]? = some (.cells cur 23 (0, 0)) ∧ cur[i]? = some (.slice A n c) := fun i hi => by
    have hlen := hit.1
    simp only [fileO, Nat.mul_one] at hlen
    have hix : i < xs.length := by omega
    obtain ⟨A, n, c, ys, e, -, -⟩ := hit2 i _ (List.getElem?_eq_getElem hix)
    rcases hrow'.2 with ⟨e1, e2⟩ | ⟨g, cap, cur, e1, hbg, hh, hnc, hcm, hcs, ht⟩
    · omega
    · injection e1 with e1 e2 e3
      refine ⟨g, A, n, c, e1, TyAt.of hh, (hrowlt g (by rw [e1]; rfl)).2, by rw [List.getElem?_eq_getElem hix, e], cur, hh, ?_⟩
      rw [← Array.getElem?_toList]
      have h5 : xs[i]? = some (.slice A n c) := by rw [List.getElem?_eq_getElem hix, e]
      rw [← ht, List.getElem?_take] at h5
      split at h5
      · exact h5
      · cases h5
  obtain ⟨exc, on, set, files⟩ := r
  obtain ⟨B1, m1, k1, B2, m2, k2, B3, m3, k3⟩ := t
  simp only at hon hset l1 l2 hn3 hcell hcp
  have HON := Lib.hid hon; have HSET := Lib.hid hset; have L1 := Lib.hid l1; have L2 := Lib.hid l2
  have HC := Lib.hid hcell; have HI := Lib.hid hit2
  have hz := hx.size
  clear ho hon hset l1 l2 hrow hrow' hrowlt hit hit2 hcell hn3
  simp only [repV]
  obtain ⟨W1, hW1⟩ : ∃ W1, w.alloc (.cells #[.int .i64 exc, .slice B1 m1 k1, .slice B2 m2 k2, .slice B3 m3 k3] 29) = W1 := ⟨_, rfl⟩
  have HBX := Lib.hid (show W1.heap[w.heap.size]? = some (.cells #[.int .i64 exc, .slice B1 m1 k1, .slice B2 m2 k2, .slice B3 m3 k3] 29 (0, 0)) from hW1 ▸ heap_alloc_new w _)
  have X1 := Lib.hid (show Ext w W1 from hW1 ▸ Ext.alloc _ _)
  have M1 := Lib.hid (show Mid base w1.heap.size w W1 from ⟨X1.out.below.mono (by omega), fun i _ hi => X1.out.below.block i hi⟩)
  have HW1 := Lib.hid hW1
  clear hW1
  go_enter Try.func31, Try.ntmps31
  go_wp2_with fail
  rw [HW1.out]
  refine (spoilL_any _ _ _ _ _ _ (HON.out.ext X1.out)).mono ?_
  rintro e w2 ⟨rfl, -, hg2⟩
  have M2 := Lib.hid (M1.out.grown (by have := X1.out.size; omega) hg2 L1.out)
  have hbx2 := (hg2.block w.heap.size (lt_of_heap HBX.out) (fun e => by have := (L1.out _ e.symm).2; omega)).trans HBX.out
  have HS2 := Lib.hid ((HSET.out.ext X1.out).grown hg2 (fun g hg e => absurd (((HSET.out.ext X1.out).ty hg).inj ((HON.out.ext X1.out).ty e.symm)) (by decide)))
  have HI2 := Lib.hid (fun (j : Nat) (u : Value) (hu : xs[j]? = some u) => by
    obtain ⟨A, n, c, ys, e, ho6, hlt⟩ := HI.out j u hu
    exact (⟨A, n, c, ys, e, (ho6.ext X1.out).grown hg2 (fun g hg e => absurd (((ho6.ext X1.out).ty hg).inj ((HON.out.ext X1.out).ty e.symm)) (by decide)), hlt⟩ : ∃ A n c ys, u = Value.slice A n c ∧ Own w2 base 54 IsU16 A n c ys ∧ ∀ g, blk A = some g → g < w1.heap.size))
  have HK2 := Lib.hid (fun (b : Nat) (cur : Array Value) (h : w.heap[b]? = some (.cells cur 23 (0, 0))) => (show w2.heap[b]? = some (.cells cur 23 (0, 0)) from
    (hg2.block b (lt_of_heap (X1.out.block h)) (fun e => absurd ((TyAt.of (X1.out.block h)).inj ((HON.out.ext X1.out).ty e.symm)) (by decide))).trans (X1.out.block h)))
  obtain ⟨-, d1, d2, d3⟩ := cells4 hbx2
  have hz2 := hg2.size
  have HBX2 := Lib.hid hbx2
  have HZ2 := Lib.hid (show w.heap.size ≤ w2.heap.size from Nat.le_trans X1.out.size hz2)
  clear hg2 hbx2 hz2
  go_wp2_with fail
  refine (spoilW_any _ _ _ _ _ _ HS2.out).mono ?_
  rintro e w3 ⟨rfl, ⟨zs, hz3⟩, hg3⟩
  have M3 := Lib.hid (M2.out.grown (by have := HZ2.out; omega) hg3 L2.out)
  have hbx3 := (hg3.block w.heap.size (lt_of_heap HBX2.out) (fun e => by have := (L2.out _ e.symm).2; omega)).trans HBX2.out
  have HI3 := Lib.hid (fun (j : Nat) (u : Value) (hu : xs[j]? = some u) => by
    obtain ⟨A, n, c, ys, e, ho6, hlt⟩ := HI2.out j u hu
    obtain ⟨xs', h'⟩ := ho6.after HS2.out hz3 hg3
    exact (⟨A, n, c, xs', e, h', hlt⟩ : ∃ A n c ys, u = Value.slice A n c ∧ Own w3 base 54 IsU16 A n c ys ∧ ∀ g, blk A = some g → g < w1.heap.size))
  have HK3 := Lib.hid (fun (b : Nat) (cur : Array Value) (h : w.heap[b]? = some (.cells cur 23 (0, 0))) => (show w3.heap[b]? = some (.cells cur 23 (0, 0)) from
    (hg3.block b (lt_of_heap (HK2.out b cur h)) (fun e => absurd ((TyAt.of (HK2.out b cur h)).inj (HS2.out.ty e.symm)) (by decide))).trans (HK2.out b cur h)))
  have HBX3 := Lib.hid hbx3
  have HZ3 := Lib.hid (show w.heap.size ≤ w3.heap.size from Nat.le_trans HZ2.out hg3.size)
  clear hg3 hbx3 hz3 d1 d2 d3
  go_wp2_with fail
  go_loopw [2] (fun i wr => ∃ (k : Nat), k ≤ m3 ∧ i = .int .i64 (k : Int) ∧ Hid (∀ (j : Nat) (u : Value), xs[j]? = some u → ∃ A n c ys, u = Value.slice A n c ∧ Own wr base 54 IsU16 A n c ys ∧ ∀ g, blk A = some g → g < w1.heap.size) ∧
    Hid (∀ (b : Nat) (cur : Array Value), w.heap[b]? = some (.cells cur 23 (0, 0)) → wr.heap[b]? = some (.cells cur 23 (0, 0))) ∧ Hid (Mid base w1.heap.size w wr) ∧
    Hid (wr.heap[w.heap.size]? = some (.cells #[.int .i64 exc, .slice B1 m1 k1, .slice B2 m2 k2, .slice B3 m3 k3] 29 (0, 0)))) (fun i _ => m3 - (intOf i).toNat)
  case atStart => exact ⟨0, Nat.zero_le _, rfl, HI3, HK3, M3, HBX3⟩
  case round =>
    obtain ⟨k, hk, rfl, HIr, HKr, Mr, HBr⟩ := hrel
    obtain ⟨-, d1, d2, d3⟩ := cells4 HBr.out
    rcases Nat.lt_or_ge k m3 with hlt | hge
    · obtain ⟨b, A, n, c, rfl, hty, hbl, hxk, cur, hcur, hck⟩ := HC.out k hlt
      have f0 : wr.cell? ⟨b, k, none⟩ = some (.slice A n c) := by rw [cell_of_row _ _ _ _ _ _ (HKr.out b cur hcur)]; exact hck
      obtain ⟨A', n', c', ys, e', ho6, hlt6⟩ := HIr.out k _ hxk
      injection e' with q1 q2 q3
      subst q1; subst q2; subst q3
      have HO6 := Lib.hid ho6; have HL6 := Lib.hid hlt6
      clear hty hxk hcur hck ho6 hlt6
      go_wp2_with fail
      refine (spoilW_any _ _ _ _ _ _ HO6.out).mono ?_
      rintro e w4 ⟨rfl, ⟨zs, hz4⟩, hg4⟩
      have hwz : w.heap.size ≤ wr.heap.size := Mr.out.below.size
      have M4 := Lib.hid (Mr.out.grown (by omega) hg4 (fun g hg => ⟨(HO6.out.lt g hg).1, HL6.out g hg⟩))
      have HB4 := Lib.hid ((hg4.block w.heap.size (lt_of_heap HBr.out) (fun e => by have := HL6.out _ e.symm; omega)).trans HBr.out)
      have HI4 := Lib.hid (fun (j : Nat) (u : Value) (hu : xs[j]? = some u) => by
        obtain ⟨A, n, c, ys, e, ho7, hlt⟩ := HIr.out j u hu
        obtain ⟨xs', h'⟩ := ho7.after HO6.out hz4 hg4
        exact (⟨A, n, c, xs', e, h', hlt⟩ : ∃ A n c ys, u = Value.slice A n c ∧ Own w4 base 54 IsU16 A n c ys ∧ ∀ g, blk A = some g → g < w1.heap.size))
      have HK4 := Lib.hid (fun (b : Nat) (cur : Array Value) (h : w.heap[b]? = some (.cells cur 23 (0, 0))) => (show w4.heap[b]? = some (.cells cur 23 (0, 0)) from
        (hg4.block b (lt_of_heap (HKr.out b cur h)) (fun e => absurd ((TyAt.of (HKr.out b cur h)).inj (HO6.out.ty e.symm)) (by decide))).trans (HKr.out b cur h)))
      clear hz4 hg4 d1 d2 d3 f0
      go_wp2_with fail
      go_roundw
      case rel => exact ⟨k + 1, by omega, by go_num, HI4, HK4, M4, HB4⟩
      case measure => simp [intOf]; omega
    · obtain rfl : k = m3 := by omega
      go_wp2_with fail
      go_end0
      exact ⟨rfl, Mr.out⟩
end Go.Proofs.Ytpjmhckdeeonbaa
