/- A sink's Got and Results; are two lists the same. -/
import Derived.Test.YtifojmmggcenkaaSinkA
namespace Go.Proofs.Ytifojmmggcenkaa
set_option linter.unusedVariables false
set_option linter.unusedSimpArgs false
set_option maxRecDepth 100000
set_option maxHeartbeats 1000000
open Go Go.RowKit Go.Out

/-- A row's cell. -/
def rowK : Kind (List UInt8) := ⟨1, fun w cs l => ∃ A n c, cs = [.slice A n c] ∧ Rd w A n (l.map cB) ∧ n ≤ c ∧ c ≤ 9223372036854775807, fun ⟨A, n, c, h, hr, h1, h2⟩ hx => ⟨A, n, c, h, hr.ext hx, h1, h2⟩⟩
theorem rows_at {w : World} {A : Option Addr} {n k : Nat} {l : List (List UInt8)} (h : RdL rowK w A n l) (hk : k < n) : ∃ b off B m c, A = some ⟨b, off, none⟩ ∧ b < w.heap.size ∧ w.cell? ⟨b, off + k, none⟩ = some (.slice B m c) ∧ Rd w B m ((l.getD k []).map cB) ∧ m ≤ c ∧ c ≤ 9223372036854775807 := by
  obtain ⟨b, off, e, hb, hl, cs, -, hc, B, m, c, rfl, hr, h1, h2⟩ := h.at_ hk
  refine ⟨b, off, B, m, c, e, hb, ?_, ?_, h1, h2⟩
  · have := hc 0 _ rfl
    rw [show off + (k * rowK.k + 0) = off + k from by show off + (k * 1 + 0) = _; omega] at this
    exact this
  · rw [List.getD_eq_getElem?_getD, List.getElem?_eq_getElem hl]; exact hr
theorem RowsAt.rd {w : World} {F : Nat → Prop} {A : Option Addr} {c : Nat} {rows : List (List UInt8)} (h : RowsAt w F A c rows) : RdL rowK w A rows.length rows := by
  obtain ⟨rs, h1, h2, h3⟩ := h
  have hl : rs.length = rows.length := by have := h1.len; simpa using this
  refine ⟨rfl, fun hn => ?_⟩
  obtain ⟨b, off, e, hb, hc⟩ := h1.rd.2 hn
  refine ⟨b, off, e, hb, fun i x hi => ?_⟩
  have hi' : i < rs.length := by have := (List.getElem?_eq_some_iff.1 hi).1; omega
  have hb2 := h3 i rs[i] x (List.getElem?_eq_getElem hi') hi
  refine ⟨[sl rs[i]], rfl, fun j u hu => ?_, _, _, _, rfl, hb2.own.rd, hb2.own.cap, hb2.own.capLe⟩
  have hj : j = 0 := by
    rcases j with _ | j
    · rfl
    · simp at hu
  subst hj
  simp only [List.getElem?_cons_zero, Option.some.injEq] at hu
  subst hu
  rw [show off + (i * rowK.k + 0) = off + i from by show off + (i * 1 + 0) = _; omega]
  exact hc i _ (by simp [hi'])
theorem RowsAt.cap {w : World} {F : Nat → Prop} {A : Option Addr} {c : Nat} {rows : List (List UInt8)} (h : RowsAt w F A c rows) : rows.length ≤ c ∧ c ≤ 9223372036854775807 := by
  obtain ⟨rs, h1, -⟩ := h
  exact ⟨h1.cap, h1.capLe⟩
/-- Rows of somebody's own, none of which shares a block with another. -/
def RowsOw (w : World) (base : Nat) (A : Option Addr) (c : Nat) (rows : List (List UInt8)) : Prop :=
  ∃ rs : List (Option Addr × Nat × Nat), Own w base 27 IsSl A rows.length c (rs.map sl) ∧ (∀ (i : Nat) (t : Option Addr × Nat × Nat) (l : List UInt8), rs[i]? = some t → rows[i]? = some l → Own w base 5 IsU8 t.1 t.2.1 t.2.2 (l.map cB)) ∧ rs.Pairwise fun s t => Sep s.1 t.1
theorem RowsOw.nil_ (w : World) (base : Nat) : RowsOw w base none 0 [] := ⟨[], Own.nil_ _ _ _ _, by simp, List.Pairwise.nil⟩
theorem RowsOw.ext {w w' : World} {base : Nat} {A : Option Addr} {c : Nat} {rows : List (List UInt8)} (h : RowsOw w base A c rows) (hx : Ext w w') : RowsOw w' base A c rows := by
  obtain ⟨rs, h1, h2, h3⟩ := h
  exact ⟨rs, h1.ext hx, fun i t l ht hl => (h2 i t l ht hl).ext hx, h3⟩
theorem RowsOw.rd {w : World} {base : Nat} {A : Option Addr} {c : Nat} {rows : List (List UInt8)} (h : RowsOw w base A c rows) : RdL rowK w A rows.length rows := by
  obtain ⟨rs, h1, h2, -⟩ := h
  exact RowsAt.rd (F := fun _ => True) (c := c) ⟨rs, h1.mono (Nat.zero_le _), fun _ _ => trivial, fun i t l ht hl => ⟨(h2 i t l ht hl).mono (Nat.zero_le _), fun _ _ => trivial⟩⟩
theorem RowsOw.cap {w : World} {base : Nat} {A : Option Addr} {c : Nat} {rows : List (List UInt8)} (h : RowsOw w base A c rows) : rows.length ≤ c ∧ c ≤ 9223372036854775807 := by
  obtain ⟨rs, h1, -⟩ := h
  exact ⟨h1.cap, h1.capLe⟩
theorem RowsOw.mono {w : World} {base base' : Nat} {A : Option Addr} {c : Nat} {rows : List (List UInt8)} (h : RowsOw w base A c rows) (hb : base' ≤ base) : RowsOw w base' A c rows := by
  obtain ⟨rs, h1, h2, h3⟩ := h
  exact ⟨rs, h1.mono hb, fun i t l ht hl => (h2 i t l ht hl).mono hb, h3⟩
/-- A row more, laid behind the others. -/
theorem RowsOw.app {V w6 : World} {base : Nat} {A A6 : Option Addr} {c c6 : Nat} {rows : List (List UInt8)} {rs : List (Option Addr × Nat × Nat)} {t : Option Addr × Nat × Nat} {l : List UInt8}
    (h1 : Own V base 27 IsSl A rows.length c (rs.map sl)) (h2 : ∀ (i : Nat) (t : Option Addr × Nat × Nat) (l : List UInt8), rs[i]? = some t → rows[i]? = some l → Own V base 5 IsU8 t.1 t.2.1 t.2.2 (l.map cB)) (h3 : rs.Pairwise fun s t => Sep s.1 t.1)
    (hb : Own V base 5 IsU8 t.1 t.2.1 t.2.2 (l.map cB)) (hs : ∀ s ∈ rs, Sep s.1 t.1) (hown : Own w6 base 27 IsSl A6 (rows.length + 1) c6 (rs.map sl ++ [sl t])) (hg : V.grownBy w6 (blk A)) : RowsOw w6 base A6 c6 (rows ++ [l]) := by
  have hk : ∀ k, k < V.heap.size → TyAt V k 5 → w6.heap[k]? = V.heap[k]? := fun k hlt hT => hg.block k hlt (fun e => absurd (hT.inj (h1.ty e.symm)) (by decide))
  have hl : rs.length = rows.length := by have := h1.len; simpa using this
  refine ⟨rs ++ [t], by rw [List.map_append, List.length_append]; exact hown, fun i t' l' ht hl' => ?_, ?_⟩
  · rcases Nat.lt_or_ge i rs.length with hlt | hge
    · rw [List.getElem?_append_left hlt] at ht
      rw [List.getElem?_append_left (by omega)] at hl'
      exact (h2 i t' l' ht hl').kept fun g hg' => hk g ((h2 i t' l' ht hl').lt g hg').2 ((h2 i t' l' ht hl').ty hg')
    · rw [List.getElem?_append_right hge] at ht
      rw [List.getElem?_append_right (by omega)] at hl'
      have hi : i - rs.length = 0 := by
        rcases Nat.eq_zero_or_pos (i - rs.length) with h0 | h0
        · exact h0
        · rw [List.getElem?_eq_none (by simp; omega)] at ht; cases ht
      rw [hi] at ht
      rw [← hl, hi] at hl'
      simp only [List.getElem?_cons_zero, Option.some.injEq] at ht hl'
      subst ht hl'
      exact hb.kept fun g hg' => hk g (hb.lt g hg').2 (hb.ty hg')
  · rw [List.pairwise_append]
    refine ⟨h3, by simp, fun s hs' t' ht' => ?_⟩
    simp only [List.mem_singleton] at ht'
    subst ht'
    exact hs s hs'

theorem app_sl {ops : Array Oper} {rest : List Oper} {o : Oper} {a : Act} {Q : Exit → Act → World → Prop} (w : World) (hgd : o.guard = none) (s x : Operand)
    (ho : o.op = .call { callee := .builtin .append, args := #[s, x], argTypes := #[22, 22] })
    {base : Nat} {A : Option Addr} {n c : Nat} {xs : List Value} (hs : a.eval s = .slice A n c) (hown : Own w base 27 IsSl A n c xs)
    {A' : Option Addr} {m c' : Nat} {news : List Value} (hx : a.eval x = .slice A' m c') (hr : Rd w A' m news) (hnp : ∀ u ∈ news, IsSl u) (hsz : n + m ≤ 4398046511104) (hbase : base ≤ w.heap.size)
    (h : ∀ A1 c1 w1, Own w1 base 27 IsSl A1 (n + m) c1 (xs ++ news) → w.grownBy w1 (blk A) → (blk A1 = blk A ∨ blk A1 = some w.heap.size) → wpList Try.prog ops Q rest (a.put o.dst (.slice A1 (n + m) c1)) w1) : wpList Try.prog ops Q (o :: rest) a w :=
  wpList_append_Own w hgd s x _ ho IsSl base _ (.slice none 0 0) 24 Try.underlying22 info_sl8 rfl ⟨none, 0, 0, rfl⟩ (fun _ => isSl_one) A n c xs hs hown A' m c' news hx hr hnp (by omega) (by omega) hbase h

theorem got_any (p : Nat) (F : Nat → Prop) (d : SinkD) (w : World) (h : SinkAt w p F d) (hz : d.rows.length ≤ 1000000) (hz2 : ∀ l ∈ d.rows, l.length ≤ 1000000) :
    Calls Try.prog 17 #[pS p] w (fun e w' => ∃ A c, e = .returned (.slice A d.rows.length c) ∧ RowsOw w' w.heap.size A c d.rows ∧ Ext w w') := by
  obtain ⟨A, c, v, g, hrow, hrows, -⟩ := h
  have d0 : w.cell? ⟨p, 0, none⟩ = some (.slice A d.rows.length c) := (cell_of_row _ _ _ _ _ _ hrow).trans rfl
  have HRD := Lib.hid hrows.rd
  have hcap := hrows.cap
  clear hrow hrows
  obtain ⟨rows, done⟩ := d
  simp only at *
  obtain ⟨n, hn⟩ : ∃ n, rows.length = n := ⟨_, rfl⟩
  rw [hn] at d0 HRD hcap hz ⊢
  have HN := Lib.hid hn
  have HZ2 : Hid (∀ k, (rows.getD k []).length ≤ 1000000) := fun k => by
    rw [List.getD_eq_getElem?_getD]
    rcases Nat.lt_or_ge k rows.length with h | h
    · rw [List.getElem?_eq_getElem h]; exact hz2 _ (List.getElem_mem _)
    · rw [List.getElem?_eq_none h]; simp
  clear hn hz2
  unfold pS
  go_enter Try.func17, Try.ntmps17
  go_wp2_with fail
  go_loopw [3, 11] (fun l i wr => ∃ (k : Nat) (A1 : Option Addr) (c1 : Nat), k ≤ n ∧ l = .slice A1 k c1 ∧ i = .int .i64 (k : Int) ∧ Hid (RowsOw wr w.heap.size A1 c1 (rows.take k)) ∧ Hid (Ext w wr)) (fun _ i _ => n - (intOf i).toNat)
  case atStart => exact ⟨0, none, 0, Nat.zero_le _, rfl, rfl, RowsOw.nil_ _ _, Ext.refl _⟩
  case round =>
    obtain ⟨k, A1, c1, hk, rfl, rfl, HO, HX⟩ := hrel
    rcases Nat.lt_or_ge k n with hlt | hge
    · obtain ⟨bk, off, B, m, cb, hA, hbk, hcell, hrb, hmb, hcb⟩ := rows_at (HRD.out.ext HX.out) hlt
      subst hA
      have hm2 : m ≤ 1000000 := by have h1 := HZ2.out k; have h2 := hrb.length; omega
      obtain ⟨rs, o1, o2, o3⟩ := HO.out
      have e1 : (rows.take k).length = k := by rw [List.length_take, HN.out]; omega
      have hrl : ∀ s ∈ rs, ∀ g, blk s.1 = some g → g < wr.heap.size := fun s hs g hg => by
        obtain ⟨i, hi, rfl⟩ := List.mem_iff_getElem.1 hs
        have h1 : rs.length = (rows.take k).length := by have := o1.len; simpa using this
        exact ((o2 i rs[i] (rows.take k)[i] (List.getElem?_eq_getElem hi) (List.getElem?_eq_getElem (by omega))).lt g hg).2
      rw [e1] at o1
      have HTK : Hid (rows.take (k + 1) = rows.take k ++ [rows.getD k []]) := by
        unfold Hid
        rw [List.take_add_one, List.getD_eq_getElem?_getD, List.getElem?_eq_getElem (by rw [HN.out]; exact hlt)]; rfl
      have HRB := Lib.hid hrb; have O1 := Lib.hid o1; have O2 := Lib.hid o2; have O3 := Lib.hid o3; have E1 := Lib.hid e1; have HRL := Lib.hid hrl
      have HE0 : Hid (Own (wr.alloc (.cells #[] 5)) wr.heap.size 5 IsU8 (some ⟨wr.heap.size, 0, none⟩) 0 0 []) := by
        have := Own.new wr (Nat.le_refl _) 5 (#[] : Array Value) 0 (Nat.le_refl _) (by simp) (p := IsU8) (by simp)
        exact this
      have i1 : (0 : Int) ≤ (k : Int) := by omega
      have i2 : (k : Int) < (n : Int) := by omega
      have i5 : IntKind.i64.wrap ((k : Int) + 1) = (k : Int) + 1 := IntWalk.i64_in _ (by omega)
      have HSZ := Lib.hid HX.out.size
      clear hrb o1 o2 o3 e1 hrl HO
      go_wp2_with (at_builtin; first
        | (refine app_u8 (base := wr.heap.size) _ rfl (.tmp 16) (.tmp 17) rfl rfl HE0.out rfl (HRB.out.ext (Ext.alloc _ _)) isU8_map (by omega) (by simp) ?_
           intro A2 c2 w2 hown hg hbk2
           rw [Nat.zero_add, List.nil_append] at hown
           have X2 := Lib.hid ((Ext.alloc wr (.cells #[] 5)).grown' hg (fun g hg => by have := (HE0.out.lt g hg).1; exact this))
           have HO2 := Lib.hid hown
           clear hown hg hbk2)
        | (go_must (refine app_sl (base := w.heap.size) _ rfl (.tmp 15) (.tmp 19) rfl rfl (O1.out.ext (X2.out.trans (Ext.alloc _ _))) rfl (Rd.one w2 _ _) (by intro u hu; simp at hu; subst hu; exact ⟨_, _, _, rfl⟩) (by omega) (Nat.le_trans HSZ.out (X2.out.trans (Ext.alloc _ _)).size) ?_)
           intro A3 c3 w3 hown hg hbk3
           have X23 := X2.out.trans (Ext.alloc w2 (.cells #[.slice A2 m c2] 27))
           have KO := RowsOw.app (V := w2.alloc (.cells #[.slice A2 m c2] 27)) (rows := rows.take k) (t := (A2, m, c2)) (l := rows.getD k []) (by rw [E1.out]; exact O1.out.ext X23) (fun i t l ht hl => (O2.out i t l ht hl).ext X23) O3.out
             ((HO2.out.ext (Ext.alloc _ _)).mono HSZ.out) (fun s hs g h1 h2 => by have := HRL.out s hs g h1; have := (HO2.out.lt g h2).1; omega) (by rw [E1.out]; exact hown) hg
           rw [← HTK.out] at KO
           have KR := Lib.hid KO
           have KX := Lib.hid ((HX.out.trans X23).grown' hg (fun g hg => (O1.out.lt g hg).1))
           clear hown hg hbk3 X23 KO))
      go_roundw
      case rel => exact ⟨k + 1, A3, c3, by omega, rfl, by go_num, KR, KX⟩
      case measure => simp [intOf]; omega
    · have hkn : k = n := by omega
      have HF : Hid (RowsOw wr w.heap.size A1 c1 rows) := by
        have := HO.out
        rwa [hkn, List.take_of_length_le (by rw [HN.out]; exact Nat.le_refl _)] at this
      have i2 : ¬ (k : Int) < (n : Int) := by omega
      subst hkn
      clear HO
      go_wp2_with fail
      go_ret
      exact ⟨A1, c1, rfl, HF.out, HX.out⟩
/-- A list of packets of the call's own, out of another. -/
theorem app_pacs {ops : Array Oper} {rest : List Oper} {o : Oper} {a : Act} {Q : Exit → Act → World → Prop} (w : World) (hgd : o.guard = none) (s x : Operand)
    (ho : o.op = .call { callee := .builtin .append, args := #[s, x], argTypes := #[45, 45] })
    {base b2 n m : Nat} {v v2 : Value} {xs ys : List Value} (hs : a.eval s = v) (hown : w.ownsRow base 32 6 v n xs) (hx : a.eval x = v2) (h2 : w.ownsRow b2 32 6 v2 m ys) (h1 : ∀ u ∈ ys, u.oneCell' = true)
    (hsz : n + m ≤ 1099511627776) (hbase : base ≤ w.heap.size)
    (h : ∀ v' w', w'.ownsRow base 32 6 v' (n + m) (xs ++ ys) → w.grownBy w' v.ownBlock → wpList Try.prog ops Q rest (a.put o.dst v') w') : wpList Try.prog ops Q (o :: rest) a w := by
  obtain ⟨i0, hi, hz0, hz1, hz2⟩ := info_parts info_pac
  rcases h2.2 with ⟨rfl, rfl⟩ | ⟨g, cap, cur, rfl, -, hh, hcap, -, hsz2, ht⟩
  · have hy : ys = [] := List.eq_nil_of_length_eq_zero (by have := h2.1; omega)
    subst hy
    obtain ⟨A, c, rfl, hnc, -, -⟩ := ownsRow_slice hown
    refine wpList_plain hgd fun _ hK => ?_
    unfold Oper.wp execOp
    simp only [ho, resolve, invoke, builtin, Sem.run_bind, Sem.run_pure, Result.andThen_ok, List.map_toArray, List.map_cons, List.map_nil, hs, hx, run_append_nilsrc (P := Try.prog) w 45 o.type 32 i0 Try.underlying45 hi A n c 0 hnc]
    exact hK _ _ (h (.slice A n c) w (by simpa using hown) (World.grownBy.refl w _))
  · refine wpList_append_own w hgd s x 45 ho base 32 i0 _ 6 64 Try.underlying45 hi hz0 hz1 hz2 rfl (by decide) v n xs hs hown ⟨g, 0, none⟩ m cap ys hx h2.1
      (fun j u hu => by
        rw [Addr.add_lit, cell_of_row _ _ _ _ _ _ hh, Nat.zero_add, ← Array.getElem?_toList]
        rw [← ht, List.getElem?_take] at hu
        split at hu
        · exact hu
        · cases hu) h1 (by unfold maxLen; omega) (by omega) hbase fun v' w' q2 q3 _ => h v' w' q2 q3
theorem items_one {done : List PacD} {xs : List Value} (h : ∀ w, Items doneK w xs done) : ∀ u ∈ xs, u.oneCell' = true := by
  intro u hu
  obtain ⟨j, hj, rfl⟩ := List.mem_iff_getElem.1 hu
  have h0 := h (default : World)
  have hl : xs.length = done.length * 6 := h0.1
  have hk : j / 6 < done.length := by omega
  have h2 := h0.2 (j / 6) done[j / 6] (List.getElem?_eq_getElem hk)
  obtain ⟨-, -, A, c, -, he, -⟩ := h2
  have hm : j % 6 < 6 := Nat.mod_lt _ (by omega)
  have hdj : (xs.drop (j / 6 * 6))[j % 6]? = some xs[j] := by
    rw [List.getElem?_drop, show j / 6 * 6 + j % 6 = j from by omega, List.getElem?_eq_getElem hj]
  have hdk : ((xs.drop (j / 6 * 6)).take 6)[j % 6]? = some xs[j] := by rw [List.getElem?_take, if_pos hm]; exact hdj
  have he' : (xs.drop (j / 6 * 6)).take 6 = _ := he
  rw [he'] at hdk
  have := List.mem_of_getElem? hdk
  simp only [List.mem_cons, List.not_mem_nil, or_false] at this
  rcases this with e | e | e | e | e | e <;> rw [e] <;> rfl
theorem results_any (p : Nat) (F : Nat → Prop) (d : SinkD) (w : World) (h : SinkAt w p F d) (hz : d.done.length ≤ 1000000) :
    Calls Try.prog 23 #[pS p] w (fun e w' => ∃ v xs, e = .returned v ∧ w'.ownsRow w.heap.size 32 6 v d.done.length xs ∧ (∀ w, Items doneK w xs d.done) ∧ Ext w w') := by
  obtain ⟨A, c, v, g, hrow, -, ⟨xs, h1, h2, -⟩, -⟩ := h
  have d1 : ∀ o, (w.alloc o).cell? ⟨p, 1, none⟩ = some v := fun o => (cell_of_row _ _ _ _ _ _ ((Ext.alloc w o).block hrow)).trans rfl
  clear hrow
  obtain ⟨rows, done⟩ := d
  simp only at h1 h2 hz ⊢
  obtain ⟨n, hn⟩ : ∃ n, done.length = n := ⟨_, rfl⟩
  rw [hn] at h1 hz ⊢
  have HO := Lib.hid h1; have HI := Lib.hid h2; have H1 := Lib.hid (items_one h2)
  obtain ⟨B, cap, rfl, -, -, -⟩ := ownsRow_slice h1
  clear h1 h2 hn
  have HE0 : Hid ((w.alloc (.cells #[] 32)).ownsRow w.heap.size 32 6 (.slice (some ⟨w.heap.size, 0, none⟩) 0 0) 0 []) := ⟨rfl, .inr ⟨_, 0, #[], rfl, Nat.le_refl _, heap_alloc_new w _, Nat.le_refl _, Nat.zero_le _, rfl, rfl⟩⟩
  unfold pS
  go_enter Try.func23, Try.ntmps23
  go_wp2_with (at_builtin
               go_must (refine app_pacs _ rfl (.tmp 3) (.tmp 7) rfl rfl HE0.out rfl (ownsRow_ext HO.out (Ext.alloc _ _)) H1.out (by omega) (by simp) ?_)
               intro v2 w2 hown hg
               rw [Nat.zero_add, List.nil_append] at hown
               obtain ⟨A6, c6, rfl, -, -, -⟩ := ownsRow_slice hown
               have HO2 := Lib.hid hown
               have X2 := Lib.hid ((Ext.alloc w (.cells #[] 32)).grown' hg (fun g hg => (HE0.out.lt g hg).1))
               clear hown hg)
  go_wp2_with fail
  go_ret
  exact ⟨_, xs, rfl, HO2.out, HI.out, X2.out⟩
end Go.Proofs.Ytifojmmggcenkaa
