/- A sink's Take: what commands came to. (gensink3.py prints this.) -/
import Derived.Test.YtifojmmggcenkaaSinkT
import Derived.Test.YtifojmmggcenkaaPacG
import Derived.Test.YtifojmmggcenkaaPutR
namespace Go.Proofs.Ytifojmmggcenkaa
set_option linter.unusedVariables false
set_option linter.unusedSimpArgs false
set_option maxRecDepth 100000
set_option maxHeartbeats 1000000
open Go Go.RowKit Go.Out
/-- One packet more in a list of packets of the sink's own. -/
theorem step_pac {ops : Array Oper} {o : Oper} {a : Act} {w : World} {K : Act → World → Prop} {Q : Exit → Act → World → Prop} {E : Prop} (hgd : o.guard = none) (s x : Operand)
    (ho : o.op = .call { callee := .builtin .append, args := #[s, x], argTypes := #[45, 45] })
    {n g : Nat} {v : Value} {xs : List Value} (hs : a.eval s = v) (hown : w.ownsRow 0 32 6 v n xs) {u0 u1 u2 u3 u4 : Int} {A : Option Addr} {m c : Nat}
    (hx : a.eval x = .slice (some ⟨g, 0, none⟩) 1 1) (hh : w.heap[g]? = some (.cells #[.int .i64 u0, .int .i64 u1, .int .i64 u2, .int .i64 u3, .int .i64 u4, .slice A m c] 32 (0, 0)))
    (hsz : n + 1 ≤ 1099511627776)
    (h : ∀ v' w', w'.ownsRow 0 32 6 v' (n + 1) (xs ++ [.int .i64 u0, .int .i64 u1, .int .i64 u2, .int .i64 u3, .int .i64 u4, .slice A m c]) → w.grownBy w' v.ownBlock → (v'.ownBlock = v.ownBlock ∨ v'.ownBlock = some w.heap.size) → K (a.put o.dst v') w') :
    if Region.wanted o (yielded ops a.tmps) = true then Oper.wp Try.prog o a w K Q else E := by
  have hw : Region.wanted o (yielded ops a.tmps) = true := by simp [Region.wanted, hgd]
  rw [if_pos hw]
  obtain ⟨i0, hi, hz0, hz1, hz2⟩ := info_parts info_pac
  obtain ⟨v', w', hr, h2, h3, -, h5⟩ := run_append_own_at (P := Try.prog) w 0 45 o.type 32 i0 _ 6 64 Try.underlying45 hi hz0 hz1 hz2 rfl (by decide) v n xs hown ⟨g, 0, none⟩ 1 1 [.int .i64 u0, .int .i64 u1, .int .i64 u2, .int .i64 u3, .int .i64 u4, .slice A m c] rfl
    (fun j u hu => by rw [Addr.add_lit, cell_of_row _ _ _ _ _ _ hh, Nat.zero_add]; simpa using hu) (by intro u hu; simp at hu; rcases hu with rfl | rfl | rfl | rfl | rfl | rfl <;> rfl) (by unfold maxLen; omega) (by omega) (Nat.zero_le _)
  unfold Oper.wp execOp
  simp only [ho, resolve, invoke, builtin, Sem.run_bind, Sem.run_pure, Result.andThen_ok, List.map_toArray, List.map_cons, List.map_nil, hs, hx, hr]
  exact h v' w' h2 h3 h5
theorem doneK_one (I C : Nat) (A : Option Addr) (c : Nat) (hI : I ≤ 1099511627776) (hC : C ≤ 255) (hc : c ≤ 9223372036854775807) (w : World) : doneK.R w [.int .i64 4, .int .i64 0, .int .i64 0, .int .i64 (I : Int), .int .i64 (C : Int), .slice A 0 c] ⟨4, 0, 0, I, C, []⟩ :=
  ⟨rfl, i64P_lit _ (by simp only; omega), A, c, hc, rfl, i64P_lit _ (by simp), i64P_lit _ (by simp), i64P_lit _ (by simp), i64P_lit _ (by simp only; omega)⟩
theorem step_mapset {w : World} {ops : Array Oper} {rest : List Oper} {o : Oper} {a : Act} {Q : Exit → Act → World → Prop} (hg : o.guard = none) (m x v : Operand) (hop : o.op = Op.mapUpdate 55 m x v)
    {g : Nat} {ids : List Int} {i : Int} (hm : a.eval m = .map (some g)) (h : MapAt w g ids) (hi : i64P i) (hx : a.eval x = .int .i64 i) (hv : a.eval v = .bool true) (hsz : ids.length ≤ 1000000)
    (hK : ∀ w', MapAt w' g (ids ++ [i]) → w.grownBy w' (some g) → wpList Try.prog ops Q rest (a.put o.dst undef) w') : wpList Try.prog ops Q (o :: rest) a w := by
  obtain ⟨D, n, h1, h2, h3, h4⟩ := h
  refine wpList_mapUpdate_own w hg m x v 55 hop 3 4 (Maps.int_keyed Try.underlying3) Try.underlying55 _ g n D hm h1 (by unfold maxLen; omega) (.int .i64 i) (.bool true) (.int .i64 i) hx hv (Maps.keyOf_int_mk Try.underlying3 (WalkArith.wf_i64 hi)) _ [] (plainElem_bool Try.underlying4 true) fun w' q1 q2 => hK w' ⟨_, n + 1, q1, by simp; omega, h3.put _ _, fun j => ?_⟩ q2
  by_cases e : j = i
  · subst e
    rw [Maps.atKey_put_same (k := .int .i64 j) h3 trivial]
    simp
  · rw [Maps.atKey_put_other (by intro q; injection q with _ q; exact e q), h4 j]
    simp [e]
/-- A packet more: what append and the store have made of the sink. -/
theorem addDone {V w6 : World} {p : Nat} {F : Nat → Prop} {rows : List (List UInt8)} {done : List PacD} {A : Option Addr} {c : Nat} {v v' : Value} {g N : Nat} {P : PacD} {xs news : List Value}
    (hN : rows.length = N) (hrow : V.heap[p]? = some (.cells #[.slice A N c, v, .map (some g)] 57 (0, 0))) (hrows : RowsAt V F A c rows)
    (hd : V.ownsRow 0 32 6 v done.length xs) (hit : ∀ w, Items doneK w xs done) (hft : ∀ g, v.ownBlock = some g → F g) (hm : MapAt V g ((done ++ [P]).map (·.id))) (hg : F g) (hp : F p) (hlt : ∀ k, F k → k < V.heap.size) (hnew : ∀ w, doneK.R w news P) (hnl : news.length = 6)
    (hown : w6.ownsRow 0 32 6 v' (done.length + 1) (xs ++ news)) (hgr : V.grownBy w6 v.ownBlock) (hbk : v'.ownBlock = v.ownBlock ∨ v'.ownBlock = some V.heap.size) :
    SinkAt (w6.setCell ⟨p, 1, none⟩ v') p (fun k => F k ∨ (k = V.heap.size ∧ k < w6.heap.size)) ⟨rows, done ++ [P]⟩ ∧ Only F V (w6.setCell ⟨p, 1, none⟩ v') ∧
    w6.heap[p]? = some (.cells #[.slice A N c, v, .map (some g)] 57 (0, 0)) := by
  subst hN
  have hdT : ∀ k, v.ownBlock = some k → TyAt V k 32 := fun k hk => ownsRow_ty hd hk
  have hne : some p ≠ v.ownBlock := fun e => absurd ((TyAt.of hrow).inj (hdT _ e.symm)) (by decide)
  have hpl : p < V.heap.size := lt_of_heap hrow
  have hrow6 : w6.heap[p]? = _ := (hgr.block p hpl hne).trans hrow
  have hs := heap_setCell_same w6 p 1 _ _ v' hrow6
  have keepV : ∀ k, F k → k ≠ p → some k ≠ v.ownBlock → (w6.setCell ⟨p, 1, none⟩ v').heap[k]? = V.heap[k]? := fun k hk hkp hkA => (Below.heap_setCell w6 ⟨p, 1, none⟩ _ k hkp).trans (hgr.block k (hlt k hk) hkA)
  have hsz := hgr.size
  refine ⟨⟨A, c, v', g, by rw [hs]; simp, ?_, ?_, ?_, .inl hp, .inl hg, fun k hk => ?_⟩, ⟨hgr.os, hgr.tape, hgr.output, by simpa [World.setCell] using hsz, fun k hk hf => ?_⟩, hrow6⟩
  · refine RowsAt.mono (F := F) (hrows.kept fun k hk hT => keepV k hk (fun e => ?_) (fun e => ?_)) fun k hk => .inl hk
    · rw [e] at hT
      rcases hT with hT | hT
      · exact absurd (hT.inj (TyAt.of hrow)) (by decide)
      · exact absurd (hT.inj (TyAt.of hrow)) (by decide)
    · rcases hT with hT | hT
      · exact absurd (hT.inj (hdT _ e.symm)) (by decide)
      · exact absurd (hT.inj (hdT _ e.symm)) (by decide)
  · have hlt' := hown.lt
    have h6 : DoneAt w6 (fun k => F k ∨ (k = V.heap.size ∧ k < w6.heap.size)) v' (done ++ [P]) := ⟨_, by rw [List.length_append]; exact hown, fun w => (hit w).snoc (hnew w) hnl, fun k hk => by
      rcases hbk with e | e
      · exact .inl (hft k (e ▸ hk))
      · rw [e] at hk
        injection hk with hk
        exact .inr ⟨hk.symm, (hlt' k (by rw [e, hk])).2⟩⟩
    exact h6.kept fun k _ hk => Below.heap_setCell w6 ⟨p, 1, none⟩ _ k (fun e => absurd (hk.inj (show TyAt w6 k 57 from by rw [e]; exact TyAt.of hrow6)) (by decide))
  · refine hm.kept (keepV g hg (fun e => ?_) (fun e => ?_))
    · exact hm.notCells _ (e ▸ TyAt.of hrow)
    · exact hm.notCells _ (hdT _ e.symm)
  · simp only [World.setCell, Array.size_modify]
    rcases hk with hk | hk
    · have := hlt k hk; omega
    · exact hk.2
  · rw [Below.heap_setCell w6 ⟨p, 1, none⟩ _ k (fun e => hf (e ▸ hp))]
    exact hgr.block k hk (fun e => hf (hft k e.symm))
/-- A packet more: what append and the store have made of the sink. -/
theorem addDoneR {V w6 : World} {p : Nat} {F : Nat → Prop} {rows : List (List UInt8)} {done : List PacD} {A : Option Addr} {c : Nat} {v v' : Value} {N : Nat} {P : PacD} {xs news : List Value}
    (hN : rows.length = N) (hrow : V.heap[p]? = some (.cells #[.slice A N c, v] 47 (0, 0))) (hrows : RowsAt V F A c rows)
    (hd : V.ownsRow 0 32 6 v done.length xs) (hit : ∀ w, Items doneK w xs done) (hft : ∀ g, v.ownBlock = some g → F g) (hp : F p) (hlt : ∀ k, F k → k < V.heap.size) (hnew : ∀ w, doneK.R w news P) (hnl : news.length = 6)
    (hown : w6.ownsRow 0 32 6 v' (done.length + 1) (xs ++ news)) (hgr : V.grownBy w6 v.ownBlock) (hbk : v'.ownBlock = v.ownBlock ∨ v'.ownBlock = some V.heap.size) :
    RefAt (w6.setCell ⟨p, 1, none⟩ v') p (fun k => F k ∨ (k = V.heap.size ∧ k < w6.heap.size)) ⟨rows, done ++ [P]⟩ ∧ Only F V (w6.setCell ⟨p, 1, none⟩ v') ∧
    w6.heap[p]? = some (.cells #[.slice A N c, v] 47 (0, 0)) := by
  subst hN
  have hdT : ∀ k, v.ownBlock = some k → TyAt V k 32 := fun k hk => ownsRow_ty hd hk
  have hne : some p ≠ v.ownBlock := fun e => absurd ((TyAt.of hrow).inj (hdT _ e.symm)) (by decide)
  have hpl : p < V.heap.size := lt_of_heap hrow
  have hrow6 : w6.heap[p]? = _ := (hgr.block p hpl hne).trans hrow
  have hs := heap_setCell_same w6 p 1 _ _ v' hrow6
  have keepV : ∀ k, F k → k ≠ p → some k ≠ v.ownBlock → (w6.setCell ⟨p, 1, none⟩ v').heap[k]? = V.heap[k]? := fun k hk hkp hkA => (Below.heap_setCell w6 ⟨p, 1, none⟩ _ k hkp).trans (hgr.block k (hlt k hk) hkA)
  have hsz := hgr.size
  refine ⟨⟨A, c, v', by rw [hs]; simp, ?_, ?_, .inl hp, fun k hk => ?_⟩, ⟨hgr.os, hgr.tape, hgr.output, by simpa [World.setCell] using hsz, fun k hk hf => ?_⟩, hrow6⟩
  · refine RowsAt.mono (F := F) (hrows.kept fun k hk hT => keepV k hk (fun e => ?_) (fun e => ?_)) fun k hk => .inl hk
    · rw [e] at hT
      rcases hT with hT | hT
      · exact absurd (hT.inj (TyAt.of hrow)) (by decide)
      · exact absurd (hT.inj (TyAt.of hrow)) (by decide)
    · rcases hT with hT | hT
      · exact absurd (hT.inj (hdT _ e.symm)) (by decide)
      · exact absurd (hT.inj (hdT _ e.symm)) (by decide)
  · have hlt' := hown.lt
    have h6 : DoneAt w6 (fun k => F k ∨ (k = V.heap.size ∧ k < w6.heap.size)) v' (done ++ [P]) := ⟨_, by rw [List.length_append]; exact hown, fun w => (hit w).snoc (hnew w) hnl, fun k hk => by
      rcases hbk with e | e
      · exact .inl (hft k (e ▸ hk))
      · rw [e] at hk
        injection hk with hk
        exact .inr ⟨hk.symm, (hlt' k (by rw [e, hk])).2⟩⟩
    exact h6.kept fun k _ hk => Below.heap_setCell w6 ⟨p, 1, none⟩ _ k (fun e => absurd (hk.inj (show TyAt w6 k 47 from by rw [e]; exact TyAt.of hrow6)) (by decide))
  · simp only [World.setCell, Array.size_modify]
    rcases hk with hk | hk
    · have := hlt k hk; omega
    · exact hk.2
  · rw [Below.heap_setCell w6 ⟨p, 1, none⟩ _ k (fun e => hf (e ▸ hp))]
    exact hgr.block k hk (fun e => hf (hft k e.symm))
theorem take_seen (I C N : Nat) (b : List UInt8) (A0 : Option Addr) (m c0 : Nat) (w : World) (p : Nat) (F : Nat → Prop) (rows : List (List UInt8)) (done : List PacD) (h : SinkAt w p F ⟨rows, done⟩) (hr : Rd w A0 m (b.map cB)) (hc : m ≤ c0) (hm : m ≤ 140737488355300) (hN : rows.length = N) (hI : I ≤ 1099511627776) (hC : C ≤ 255) (hs : (I : Int) ∈ done.map (·.id)) (hg : getP b = (⟨4, 0, 0, (I : Int), (C : Int), []⟩, 0)) :
    Calls Try.prog 11 #[pS p, .slice A0 m c0] w (RetTake SinkAt w p F ⟨rows, done⟩ []) := by
  have HG := Lib.hid (pacGet_any b A0 m c0 w hr hc hm)
  rw [hg] at HG
  have HS := Lib.hid h
  obtain ⟨A, c, v, g, hrow, hrows, hd, hmap, hp, hgm, hlt⟩ := h
  simp only [hN] at hrow
  have HROW := Lib.hid hrow
  have HLK : Hid (∀ W, Ext w W → (Instr.lookup 55 (.map (some g)) (.int .i64 (I : Int)) false).run Try.prog W = .ok (.bool true) W) := fun W hX => by
    rw [(hmap.kept (Below.block hX _ hmap.lt)).look (i64P_lit _ (by omega))]
    rw [decide_eq_true hs]
  clear hr hg hrow hrows hd hp hlt hN hmap hgm hs hI hC
  unfold pS
  go_enter Try.func11, Try.ntmps11
  go_wp2_with fail
  refine HG.out.mono ?_
  rintro e w1 ⟨A1, n1, c1, rfl, ho, hx⟩
  simp only [pacV]
  have HBD := Lib.hid ho.body
  have X1 := Lib.hid hx
  clear ho hx HG
  go_wp2_with fail
  have HB := Lib.hid (heap_alloc_new w1 (.cells #[.int .i64 4, .int .i64 0, .int .i64 0, .int .i64 (I : Int), .int .i64 (C : Int), .slice A1 n1 c1] 32))
  have X2 := Lib.hid (X1.out.trans (Ext.alloc w1 (.cells #[.int .i64 4, .int .i64 0, .int .i64 0, .int .i64 (I : Int), .int .i64 (C : Int), .slice A1 n1 c1] 32)))
  have HBD2 := Lib.hid (HBD.out.ext (Ext.alloc w1 (.cells #[.int .i64 4, .int .i64 0, .int .i64 0, .int .i64 (I : Int), .int .i64 (C : Int), .slice A1 n1 c1] 32)))
  generalize w1.alloc (.cells #[.int .i64 4, .int .i64 0, .int .i64 0, .int .i64 (I : Int), .int .i64 (C : Int), .slice A1 n1 c1] 32) = w2 at *
  obtain ⟨q, hq⟩ : ∃ q, w1.heap.size = q := ⟨_, rfl⟩
  have hqw : w.heap.size ≤ q := by rw [← hq]; exact X1.out.size
  simp only [hq] at HB ⊢
  have HQW := Lib.hid hqw
  clear hq hqw HBD X1
  obtain ⟨b0, b1, b2, b3, b4, b5⟩ := sixC HB.out
  have d2 : w2.cell? ⟨p, 2, none⟩ = some (.map (some g)) := (cell_of_row _ _ _ _ _ _ (X2.out.block HROW.out)).trans rfl
  go_wp2_with fail
  go_still_tail 6, (by kernel_rfl)
  change wpList _ _ _ _ _ w2.drew
  have X3 := Lib.hid (X2.out.drew')
  have hlk := HLK.out w2.drew X3.out
  clear b0 b1 b2 b3 b4 b5 d2 HB X2 HBD2
  generalize w2.drew = w3 at *
  go_wp2_with fail
  go_ret
  exact ⟨F, none, 0, 0, rfl, HS.out.ext X3.out, .of_ext X3.out, fun _ => .inl, Own.nil_ _ _ _ _, by simp [blk]⟩
theorem take_done (I C N : Nat) (b : List UInt8) (A0 : Option Addr) (m c0 : Nat) (w : World) (p : Nat) (F : Nat → Prop) (rows : List (List UInt8)) (done : List PacD) (h : SinkAt w p F ⟨rows, done⟩) (hr : Rd w A0 m (b.map cB)) (hc : m ≤ c0) (hm : m ≤ 140737488355300) (hN : rows.length = N) (hI : I ≤ 1099511627776) (hC : C ≤ 255) (hz : done.length ≤ 1000000) (hs : ¬ (I : Int) ∈ done.map (·.id)) (hg : getP b = (⟨4, 0, 0, (I : Int), (C : Int), []⟩, 0)) :
    Calls Try.prog 11 #[pS p, .slice A0 m c0] w (RetTake SinkAt w p F ⟨rows, done ++ [⟨4, 0, 0, (I : Int), (C : Int), []⟩]⟩ []) := by
  have HG := Lib.hid (pacGet_any b A0 m c0 w hr hc hm)
  rw [hg] at HG
  obtain ⟨A, c, v, g, hrow, hrows, hd, hmap, hp, hgm, hlt⟩ := h
  obtain ⟨xs, hd1, hd2, hd3⟩ := hd
  simp only [hN] at hrow
  have HROW := Lib.hid hrow; have HROWS := Lib.hid hrows; have HD1 := Lib.hid hd1; have HD2 := Lib.hid hd2; have HD3 := Lib.hid hd3; have HMP := Lib.hid hmap; have HFP := Lib.hid hp; have HFG := Lib.hid hgm; have HLT := Lib.hid hlt
  have HN := Lib.hid hN; have HZ := Lib.hid hz
  have HI : Hid (i64P (I : Int)) := i64P_lit _ (by omega)
  have HLK : Hid (∀ W, Ext w W → (Instr.lookup 55 (.map (some g)) (.int .i64 (I : Int)) false).run Try.prog W = .ok (.bool false) W) := fun W hX => by
    rw [(hmap.kept (Below.block hX _ hmap.lt)).look (i64P_lit _ (by omega))]
    rw [decide_eq_false hs]
  have HK1 := Lib.hid (fun A c (hc : c ≤ 9223372036854775807) => doneK_one I C A c hI hC hc)
  clear hr hg hrow hrows hd1 hd2 hd3 hp hlt hN hmap hgm hs hI hC hz
  unfold pS
  go_enter Try.func11, Try.ntmps11
  go_wp2_with fail
  refine HG.out.mono ?_
  rintro e w1 ⟨A1, n1, c1, rfl, ho, hx⟩
  simp only [pacV]
  have HBD := Lib.hid ho.body
  have X1 := Lib.hid hx
  clear ho hx HG
  go_wp2_with fail
  have HB := Lib.hid (heap_alloc_new w1 (.cells #[.int .i64 4, .int .i64 0, .int .i64 0, .int .i64 (I : Int), .int .i64 (C : Int), .slice A1 n1 c1] 32))
  have X2 := Lib.hid (X1.out.trans (Ext.alloc w1 (.cells #[.int .i64 4, .int .i64 0, .int .i64 0, .int .i64 (I : Int), .int .i64 (C : Int), .slice A1 n1 c1] 32)))
  have HBD2 := Lib.hid (HBD.out.ext (Ext.alloc w1 (.cells #[.int .i64 4, .int .i64 0, .int .i64 0, .int .i64 (I : Int), .int .i64 (C : Int), .slice A1 n1 c1] 32)))
  generalize w1.alloc (.cells #[.int .i64 4, .int .i64 0, .int .i64 0, .int .i64 (I : Int), .int .i64 (C : Int), .slice A1 n1 c1] 32) = w2 at *
  obtain ⟨q, hq⟩ : ∃ q, w1.heap.size = q := ⟨_, rfl⟩
  have hqw : w.heap.size ≤ q := by rw [← hq]; exact X1.out.size
  simp only [hq] at HB ⊢
  have HQW := Lib.hid hqw
  clear hq hqw HBD X1
  obtain rfl : n1 = 0 := by have := HBD2.out.len; simpa using this.symm
  obtain ⟨b0, b1, b2, b3, b4, b5⟩ := sixC HB.out
  have d2 : w2.cell? ⟨p, 2, none⟩ = some (.map (some g)) := (cell_of_row _ _ _ _ _ _ (X2.out.block HROW.out)).trans rfl
  go_wp2_with fail
  go_still_tail 6, (by kernel_rfl)
  change wpList _ _ _ _ _ w2.drew
  have X3 := Lib.hid (X2.out.drew')
  have hlk := HLK.out w2.drew X3.out
  have HB3 := Lib.hid ((Ext.draw w2).block HB.out)
  have HC1 : Hid (c1 ≤ 9223372036854775807) := HBD2.out.capLe
  clear b0 b1 b2 b3 b4 b5 d2 HB X2 HBD2
  generalize w2.drew = w3 at *
  have d2 : w3.cell? ⟨p, 2, none⟩ = some (.map (some g)) := (cell_of_row _ _ _ _ _ _ (X3.out.block HROW.out)).trans rfl
  have b3 := (sixC HB3.out).2.2.2.1
  go_wp2_with fail
  go_still_tail 6, (by kernel_rfl)
  change wpList _ _ _ _ _ w3.drew
  have HM3 := Lib.hid (HMP.out.kept (Below.block (X3.out.drew') _ HMP.out.lt))
  have XD := Lib.hid (X3.out.drew')
  have HBD := Lib.hid ((Ext.draw w3).block HB3.out)
  clear d2 b3
  generalize w3.drew = w4 at *
  go_wp2_with (first | (at_mapUpdate; refine step_mapset rfl _ _ _ rfl rfl HM3.out HI.out rfl rfl (by have := HZ.out; simpa using this) ?_; intro w5 hm5 hg5) | fail)
  have HM5 : Hid (MapAt w5 g ((done ++ [(⟨4, 0, 0, (I : Int), (C : Int), []⟩ : PacD)]).map (·.id))) := by unfold Hid; rw [List.map_append]; exact hm5
  have HBO := Lib.hid (fun k (hk : k ≠ g) (hs : k < w4.heap.size) => hg5.block k hs (fun e => hk (by injection e)))
  have O5 := Lib.hid ((Only.of_ext (F := F) XD.out).trans (Only.of_grown (F := F) hg5 (fun k hk => by injection hk with hk; rw [← hk]; exact HFG.out)) (fun _ _ h => h))
  have hzg := hg5.size
  have HZ5 := Lib.hid hzg
  have hgp : ∀ k t, TyAt w4 k t → k ≠ g := fun k t hk e => HM3.out.notCells t (e ▸ hk)
  have ROW5 := Lib.hid ((HBO.out p (hgp _ _ (TyAt.of (XD.out.block HROW.out))) (lt_of_heap (XD.out.block HROW.out))).trans (XD.out.block HROW.out))
  have HB5 := Lib.hid ((HBO.out q (hgp _ _ (TyAt.of HBD.out)) (lt_of_heap HBD.out)).trans HBD.out)
  have RW5 := Lib.hid ((HROWS.out.ext HLT.out XD.out).kept (w' := w5) fun k hk hT => HBO.out k (by rcases hT with hT | hT; exact hgp _ _ hT; exact hgp _ _ hT) (Nat.lt_of_lt_of_le (HLT.out k hk) XD.out.size))
  have D5 : Hid (w5.ownsRow 0 32 6 v done.length xs) := by
    have h4 : w4.ownsRow 0 32 6 v done.length xs := ownsRow_ext HD1.out XD.out
    exact h4.kept hg5 (.inr fun e => (hgp _ _ (ownsRow_ty h4 e)) rfl)
  have hlt5 : ∀ k, F k → k < w5.heap.size := fun k hk => Nat.lt_of_lt_of_le (HLT.out k hk) (Nat.le_trans XD.out.size hzg)
  have LT5 := Lib.hid hlt5
  clear hm5 hg5 HM3 HBO hgp hzg hlt5 HBD HROWS HD1 hlk
  have hbz := lt_of_heap HB5.out
  obtain ⟨b0, b1, b2, b3, b4, b5⟩ := sixC HB5.out
  have d1 : w5.cell? ⟨p, 1, none⟩ = some v := (cell_of_row _ _ _ _ _ _ ROW5.out).trans rfl
  have XA := Lib.hid (fun o => Ext.drew' (Ext.alloc w5 o))
  have HLS := Lib.hid (show (w5.alloc (.cells #[.int .i64 4, .int .i64 0, .int .i64 0, .int .i64 (I : Int), .int .i64 (C : Int), .slice A1 0 c1] 32)).drew.heap[w5.heap.size]? = some (.cells #[.int .i64 4, .int .i64 0, .int .i64 0, .int .i64 (I : Int), .int .i64 (C : Int), .slice A1 0 c1] 32 (0, 0)) from heap_alloc_new w5 _)
  have BB := fun o => sixC ((Ext.alloc w5 o).block HB5.out)
  have B0 := fun o => (BB o).1
  have B1 := fun o => (BB o).2.1
  have B2 := fun o => (BB o).2.2.1
  have B3 := fun o => (BB o).2.2.2.1
  have B4 := fun o => (BB o).2.2.2.2.1
  have B5 := fun o => (BB o).2.2.2.2.2
  have D1 : ∀ o, (w5.alloc o).cell? ⟨p, 1, none⟩ = some v := fun o => (cell_of_row _ _ _ _ _ _ ((Ext.alloc w5 o).block ROW5.out)).trans rfl
  clear BB
  go_wp2_with fail
  go_region_law ((
    refine step_pac rfl (.tmp 72) (.tmp 74) rfl rfl (ownsRow_ext D5.out (XA.out _)) rfl HLS.out (by have := HZ.out; omega) ?_
    intro v6 w6 hown hgr hbk
    obtain ⟨A6, c6, rfl, -, -, -⟩ := ownsRow_slice hown
    have XV := XA.out (.cells #[.int .i64 4, .int .i64 0, .int .i64 0, .int .i64 (I : Int), .int .i64 (C : Int), .slice A1 0 c1] 32)
    have K := addDone (V := (w5.alloc (.cells #[.int .i64 4, .int .i64 0, .int .i64 0, .int .i64 (I : Int), .int .i64 (C : Int), .slice A1 0 c1] 32)).drew) (F := F) (P := ⟨4, 0, 0, (I : Int), (C : Int), []⟩) HN.out (XV.block ROW5.out) (RW5.out.ext LT5.out XV) (ownsRow_ext D5.out XV) HD2.out HD3.out
      (HM5.out.kept (Below.block XV _ HM5.out.lt)) HFG.out HFP.out (fun k hk => Nat.lt_of_lt_of_le (LT5.out k hk) XV.size) (fun w => HK1.out A1 c1 HC1.out w) rfl hown hgr hbk
    have KS : Hid (∃ F', SinkAt (w6.setCell ⟨p, 1, none⟩ (.slice A6 (done.length + 1) c6)) p F' ⟨rows, done ++ [⟨4, 0, 0, (I : Int), (C : Int), []⟩]⟩ ∧ ∀ k, F' k → F k ∨ w.heap.size ≤ k) := ⟨_, K.1, fun k hk => by
      rcases hk with hk | hk
      · exact .inl hk
      · exact .inr (by have := XD.out.size; have := HZ5.out; have := XV.size; omega)⟩
    have KO : Hid (Only F w (w6.setCell ⟨p, 1, none⟩ (.slice A6 (done.length + 1) c6))) := (O5.out.trans (Only.of_ext (F := F) XV) (fun _ _ h => h)).trans K.2.1 (fun _ _ h => h)
    have z0 := frozen_of_row _ _ 1 _ _ K.2.2
    have z1 : w6.cell? ⟨p, 1, none⟩ = some v := (cell_of_row _ _ _ _ _ _ K.2.2).trans rfl
    clear K XV hown hgr hbk B0 B1 B2 B3 B4 B5 D1 d1 b0 b1 b2 b3 b4 b5))
  all_goals
    go_wp2_with fail
    go_ret
    obtain ⟨F', k1, k2⟩ := KS.out
    exact ⟨F', none, 0, 0, rfl, k1, KO.out, k2, Own.nil_ _ _ _ _, by simp [blk]⟩
end Go.Proofs.Ytifojmmggcenkaa
