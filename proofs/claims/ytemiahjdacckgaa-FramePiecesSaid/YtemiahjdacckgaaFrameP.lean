/- The walk of FramePieces: for every input true; nothing that was there turns. -/
import Derived.Test.YtemiahjdacckgaaStream4
import Derived.Laws.AppendOwnNone
namespace Go.Proofs.Ytemiahjdacckgaa
set_option linter.unusedVariables false
open Go Go.RowKit Go.Out

theorem items_one {base : Nat} {w : World} {xs : List Value} {l : List TcpD} (h : Items (tcpO base) w xs l) : ∀ u ∈ xs, u.oneCell' = true := by
  intro u hu
  obtain ⟨j, hj, rfl⟩ := List.getElem_of_mem hu
  have hk : (tcpO base).k = 3 := rfl
  have hl := h.1
  rw [hk] at hl
  have hi : j / 3 < l.length := by omega
  have hr := h.2 (j / 3) l[j / 3] (List.getElem?_eq_getElem hi)
  rw [hk] at hr
  obtain ⟨A, n, c, hcs, _, _⟩ := hr
  have hx : ((xs.drop (j / 3 * 3)).take 3)[j % 3]? = some xs[j] := by
    rw [List.getElem?_take, if_pos (by omega), List.getElem?_drop, show j / 3 * 3 + j % 3 = j from by omega, List.getElem?_eq_getElem hj]
  rw [hcs] at hx
  have hm := List.mem_of_getElem? hx
  unfold tcpCells at hm
  simp only [List.mem_cons, List.not_mem_nil, or_false] at hm
  rcases hm with e | e | e <;> rw [e] <;> rfl

theorem app_tcps {ops : Array Oper} {rest : List Oper} {o : Oper} {a : Act} {Q : Exit → Act → World → Prop} (w : World) (hw : Region.wanted o (yielded ops a.tmps) = true) (s x : Operand)
    (ho : o.op = .call { callee := .builtin .append, args := #[s, x], argTypes := #[41, 41] })
    {base n : Nat} {v : Value} {xs : List Value} (hs : a.eval s = v) (hown : w.ownsRow base 34 3 v n xs)
    {base' m : Nat} {u : Value} {ys : List Value} (hx : a.eval x = u) (hsrc : w.ownsRow base' 34 3 u m ys) (h1 : ∀ y ∈ ys, y.oneCell' = true)
    (hsz : n + m ≤ 4398046511104) (hbase : base ≤ w.heap.size)
    (h : ∀ v' w', w'.ownsRow base 34 3 v' (n + m) (xs ++ ys) → w.grownBy w' v.ownBlock → wpList Try.prog ops Q rest (a.put o.dst v') w') :
    wpList Try.prog ops Q (o :: rest) a w := by
  obtain ⟨i0, hi, hz0, hz1, hz2⟩ := info_parts info_tcp
  refine wpList_step fun K hK => ?_
  rw [if_pos hw]
  rcases hsrc.2 with ⟨rfl, rfl⟩ | ⟨g, cap, cur, rfl, hb, hh, hc, hm, hs', ht⟩
  · have hys : ys = [] := by have := hsrc.1; simpa using this
    subst hys
    have hrun := run_append_owned_none (P := Try.prog) (w := w) base 41 o.type 34 i0 3 Try.underlying41 hi v n xs hown
    unfold Oper.wp
    simp [execOp, ho, resolve, invoke, builtin, hs, hx, hrun, Result.andThen]
    exact hK _ _ (h v w (by simpa using hown) (World.grownBy.refl _ _))
  · exact wp_append_own w s x 41 ho base 34 i0 _ 3 32 Try.underlying41 hi hz0 hz1 hz2 rfl (by decide) v n xs hs hown ⟨g, 0, none⟩ m cap ys hx hsrc.1
      (fun j u hu => by rw [Addr.add_lit, cell_of_row _ _ _ _ _ _ hh, Nat.zero_add, ← Array.getElem?_toList]; rw [← ht, List.getElem?_take] at hu; split at hu; exact hu; cases hu) h1 (by unfold maxLen; omega) (by omega) hbase fun v' w' h2 h3 _ => hK _ _ (h v' w' h2 h3)

theorem owl_lower {base base' : Nat} {w : World} {e : TypeId} {v : Value} {l : List TcpD} (h : OwL (tcpO base) w base e v l) (hb : base' ≤ base) : OwL (tcpO base') w base' e v l := by
  obtain ⟨xs, h1, h2⟩ := h.mono hb
  exact ⟨xs, h1, h2.1, fun i x hi => by
    obtain ⟨A, n, c, k1, k2, k3⟩ := h2.2 i x hi
    exact ⟨A, n, c, k1, k2.mono hb, k3⟩⟩
theorem items_grown {base base' m : Nat} {w w' : World} {v : Value} {xs ys : List Value} {l : List TcpD} (h : Items (tcpO base) w xs l) (hr : w.ownsRow base' 34 3 v m ys) (hg : w.grownBy w' v.ownBlock) : Items (tcpO base) w' xs l :=
  h.mono fun cs y ⟨A', n', c', h1, h2, h3⟩ => ⟨A', n', c', h1, h2.grown_ty hr (by decide) hg, h3⟩
theorem rdl_own' {w : World} {base base' : Nat} {e : TypeId} {A : Option Addr} {n c : Nat} {l : List TcpD} (h : OwL (tcpO base) w base' e (.slice A n c) l) : RdL tcpK w A n l := by
  obtain ⟨A', c', hv, _, _, hr, _⟩ := h.form
  injection hv with h1 h2 h3
  subst h1; subst h2
  exact rdl_tcp hr
theorem flat_le {α β : Type} (f : α → List β) (l : List α) (j : Nat) : ((l.take j).flatMap f).length ≤ (l.flatMap f).length := by
  have h : l.flatMap f = (l.take j).flatMap f ++ (l.drop j).flatMap f := by rw [← List.flatMap_append, List.take_append_drop]
  rw [h, List.length_append]; omega
theorem flat_succ {α β : Type} (f : α → List β) (l : List α) (j : Nat) (h : j < l.length) : (l.take (j + 1)).flatMap f = (l.take j).flatMap f ++ f l[j] := by
  rw [List.take_succ_eq_append_getElem h, List.flatMap_append]; simp

set_option maxHeartbeats 4000000 in
theorem lawFramePieces (b : List UInt8) (A : Option Addr) (m c : Nat) (x : Int) (w : World) (hr : Rd w A m (b.map cB)) (hc : m ≤ c) (hc63 : c ≤ 9223372036854775807) (hb : c * 1 ≤ 140737488351232) (wfx : (Lit.int .i64 x).wf = true) :
    Calls Try.prog 13 #[.slice A m c, .int .i64 x] w fun e w' => e = .returned (.bool true) ∧ Below w.heap.size w w' := by
  have hl := hr.length
  have Hr := Lib.hid hr; clear hr wfx
  rcases Nat.lt_or_ge 16384 m with hm | hm
  · clear hl
    go_enter Try.func13, Try.ntmps13
    go_wp2_with fail
    refine (known5_any _).mono ?_
    rintro e w4 ⟨rfl, hb4⟩
    go_wp2_with fail
    go_ret
    exact ⟨rfl, hb4⟩
  · have hm0 : ¬ 16384 < m := by omega
    have hP := split_pieces m b (by omega)
    have hB := split_back m b (by omega)
    have hle := splitF_le m b (by omega)
    have hcall1 := tcpSplit_any b A m c w Hr.out hc hc63 (by omega)
    rw [hl] at hP hle
    generalize splitF b = s at *
    obtain ⟨L, n, er⟩ := s
    simp only at hB hle
    obtain ⟨hnm, h8L, her⟩ := hle
    have HP := Lib.hid hP; have HB := Lib.hid hB; have Hc1 := Lib.hid hcall1; have Hl := Lib.hid hl; have Her := Lib.hid her; clear hP hB hcall1 hl her
    have hn1 : (m : Int) + 1 = ((m + 1 : Nat) : Int) := by omega
    have Hn1 := Lib.hid hn1; clear hn1
    go_enter Try.func13, Try.ntmps13
    go_wp2_with fail
    refine (Hc1.out).mono ?_
    rintro e w1 ⟨v1, rfl, hv1, hb1⟩
    have X1 : Ext w w1 := hb1
    obtain ⟨A1, c1, rfl, hc1, hm1, -, -⟩ := hv1.form
    have Hv1 := Lib.hid hv1; clear hv1 hb1
    go_wp2_with fail
    rw [Hn1.out]
    refine (pick_any x (m + 1) _ (by omega) (by omega)).mono ?_
    rintro e v_ ⟨k, hk, rfl, rfl⟩
    have hk' : k ≤ m := by omega
    have hPk := HP.out k hk'
    have hcall2 := tcpSplit_any (b.take k) A k c w1 (by rw [List.map_take]; exact (Hr.out.ext X1).take hk') (by omega) hc63 (by omega)
    generalize splitF (b.take k) = s1 at *
    obtain ⟨one, at1, f⟩ := s1
    simp only at hPk
    obtain ⟨ha1, ha2, hcs⟩ := hPk
    have Hc2 := Lib.hid hcall2; clear hcall2
    rcases hcs with ⟨hf, heq⟩ | ⟨rfl, heq⟩
    · simp only [Prod.mk.injEq] at heq
      obtain ⟨rfl, rfl, rfl⟩ := heq
      have ht1 : (f != 0) = true := by simp [hf]
      go_wp2_with fail
      refine (Hc2.out).mono ?_
      rintro e w2 ⟨v2, rfl, hv2, hb2⟩
      have X2 : Ext w1 w2 := hb2
      obtain ⟨A2, c2, rfl, hc2, hm2, -, -⟩ := hv2.form
      have Hv2 := Lib.hid hv2; clear hv2 hb2
      have ht2 : ¬ k < at1 := by omega
      have ht3 : ¬ m < at1 := by omega
      go_wp2_with fail
      refine (tcpSameAll_any one _ _ _ _ _ _ _ (rdl_own' Hv2.out) (rdl_own' (Hv1.out.ext X2)) (by omega)).mono ?_
      rintro e w3 ⟨rfl, hb3⟩
      go_wp2_with fail
      refine (known5_any _).mono ?_
      rintro e w4 ⟨rfl, hb4⟩
      go_wp2_with fail
      go_ret
      exact ⟨rfl, (X1.trans (X2.trans ((Ext.of hb3).trans hb4))).below⟩
    · have hat : at1 ≤ m := by omega
      have hcall3 : ∀ W, Ext w W → Calls Try.prog 33 #[.slice (if c = at1 then A else Option.map (fun x => x.add at1) A) (m - at1) (c - at1)] W (RetSp W (splitF (b.drop at1))) := fun W X =>
        tcpSplit_any (b.drop at1) _ (m - at1) (c - at1) W ((Hr.out.from8 hat hc).ext X) (by omega) (by omega) (by omega)
      generalize splitF (b.drop at1) = s2 at *
      obtain ⟨two_, mo, g⟩ := s2
      simp only [restF, Prod.mk.injEq] at heq
      obtain ⟨rfl, rfl, rfl⟩ := heq
      obtain ⟨B, hB, HB'⟩ : ∃ B, (if c = at1 then A else Option.map (fun x => x.add at1) A) = B ∧ Hid (∀ W, Ext w W → Calls Try.prog 33 #[.slice B (m - at1) (c - at1)] W (RetSp W (two_, mo, er))) := ⟨_, rfl, hcall3⟩
      clear hcall3
      go_wp2_with fail
      refine (Hc2.out).mono ?_
      rintro e w2 ⟨v2, rfl, hv2, hb2⟩
      have X2 : Ext w1 w2 := hb2
      obtain ⟨A2, c2, rfl, hc2, hm2, -, -⟩ := hv2.form
      have Hv2 := Lib.hid hv2; clear hv2 hb2
      have ht2 : ¬ k < at1 := by omega
      have ht3 : ¬ m < at1 + mo := by omega
      have ht4 : ¬ at1 + mo < at1 := by omega
      go_wp2_with fail
      refine (HB'.out _ (X1.trans X2)).mono ?_
      rintro e w3 ⟨v3, rfl, hv3, hb3⟩
      have X3 : Ext w2 w3 := hb3
      obtain ⟨A3, c3, rfl, hc3, hm3, -, -⟩ := hv3.form
      have hv3' := owl_lower hv3 (X1.trans X2).size
      have hv2' := owl_lower Hv2.out X1.size
      clear hv3 hb3
      obtain ⟨xs2, hrow2, hit2⟩ := hv2'
      obtain ⟨xs3, hrow3, hit3⟩ := hv3'
      have hlit : (w3.alloc (.cells #[] 34)).ownsRow w3.heap.size 34 3 (.slice (some ⟨w3.heap.size, 0, none⟩) 0 0) 0 [] := World.ownsRow_lit w3 #[] 0 (Nat.le_refl _) (Nat.zero_le _) rfl
      have hrow2a := ownsRow_ext hrow2 (X3.trans (Ext.alloc w3 (.cells #[] 34)))
      have ho2 := items_one hit2; have ho3 := items_one hit3
      have hlen2 : one.length ≤ 16384 := by simp at h8L; omega
      have hlen3 : two_.length ≤ 16384 := by simp at h8L; omega
      have Hlit := Lib.hid hlit; have Hrow2a := Lib.hid hrow2a; have Ho2 := Lib.hid ho2; have Ho3 := Lib.hid ho3; have Hrow3 := Lib.hid hrow3; have Hit2 := Lib.hid hit2; have Hit3 := Lib.hid hit3
      clear hlit hrow2a ho2 ho3 hrow3 hit2 hit3 hrow2
      have ht5 : ((at1 : Int) + (mo : Int) != (at1 : Int) + (mo : Int)) = false := by simp
      have ht6 : (er != er) = false := by simp
      go_wp2_with (first
        | (refine app_tcps _ (by rfl) (.tmp 97) (.tmp 98) rfl rfl Hlit.out rfl Hrow2a.out Ho2.out (by omega) (by simp) ?_; intro v4 w4 hrow4 hg4; have X4 : Ext w3 w4 := (Ext.alloc _ _).grown' hg4 (by intro k hk; cases hk; exact Nat.le_refl _); have hlt4 := hrow4.lt; have Hrow4 := Lib.hid hrow4; have Hlt4 := Lib.hid hlt4; clear hrow4 hg4 hlt4)
        | (refine app_tcps _ (by rfl) (.tmp 99) (.tmp 100) rfl rfl Hrow4.out rfl (ownsRow_ext Hrow3.out X4) Ho3.out (by omega) X4.size ?_; intro v5 w5 hrow5 hg5; have X5 : Ext w3 w5 := X4.grown' hg5 (fun k hk => (Hlt4.out k hk).1); rw [List.nil_append, Nat.zero_add] at hrow5; obtain ⟨A5, c5, hv5, hc5, hm5, -⟩ := ownsRow_slice hrow5; rw [hv5] at hrow5; rw [hv5]; have Hrow5 := Lib.hid hrow5; clear hrow5 hg5 hv5))
      have hLl : (one ++ two_).length = one.length + two_.length := List.length_append
      have hOw5 : OwL (tcpO w.heap.size) w5 w3.heap.size 34 (.slice A5 (one.length + two_.length) c5) (one ++ two_) := ⟨_, by rw [hLl]; exact Hrow5.out, (Hit2.out.ext (X3.trans X5)).append (Hit3.out.ext X5)⟩
      have hR1 : RdL tcpK w1 A1 (one.length + two_.length) (one ++ two_) := by have h := rdl_own' Hv1.out; rwa [hLl] at h
      have HR1 := Lib.hid hR1; have HOw5 := Lib.hid hOw5; clear hR1 hOw5
      refine (tcpSameAll_any (one ++ two_) _ _ _ _ _ _ _ (rdl_own' HOw5.out) (HR1.out.ext (X2.trans (X3.trans X5))) (by omega)).mono ?_
      rintro e w6 ⟨rfl, hb6⟩
      have X6 : Ext w1 w6 := (X2.trans (X3.trans X5)).trans hb6
      clear hb6
      generalize hLg : one ++ two_ = L at *
      have HLl := Lib.hid hLl; clear hLl hLg
      obtain ⟨N, hN⟩ : ∃ N, one.length + two_.length = N := ⟨_, rfl⟩
      have hNi : (one.length : Int) + (two_.length : Int) = (N : Int) := by omega
      have hN2 : N ≤ 32768 := by omega
      rw [hN] at HLl
      have HR1' : Hid (RdL tcpK w1 A1 N L) := by rw [← hN]; exact HR1.out
      clear HOw5 HR1
      have hflat : ∀ j, ((L.take j).flatMap fun x => (putTF x).1).length ≤ m := fun j => by
        have h1 := flat_le (fun x => (putTF x).1) L j
        rw [HB.out.2] at h1
        have h2 : (b.take (at1 + mo)).length ≤ m := by rw [List.length_take, Hl.out]; omega
        omega
      have Hflat := Lib.hid hflat; clear hflat
      have hbk0 : Own (w6.alloc (.cells #[] 5)) w6.heap.size 5 IsU8 (some ⟨w6.heap.size, 0, none⟩) 0 0 [] := by
        have h := Own.new (p := IsU8) (base := w6.heap.size) w6 (Nat.le_refl _) 5 #[] 0 (by simp) (by simp) (by simp)
        simpa using h
      have Hbk0 := Lib.hid hbk0; clear hbk0
      have HN := Lib.hid hN; clear hN
      go_wp2_with fail
      go_loopw [15, 16] (fun bk i wr => ∃ (j : Nat) (Aq : Option Addr) (nq cq : Nat), j ≤ N ∧ i = .int .i64 j ∧ bk = .slice Aq nq cq ∧ Own wr w6.heap.size 5 IsU8 Aq nq cq (((L.take j).flatMap fun x => (putTF x).1).map cB) ∧ Ext w6 wr) (fun _ i _ => N - (intOf i).toNat)
      case atStart => exact ⟨0, _, _, _, Nat.zero_le _, rfl, rfl, by simpa using Hbk0.out, Ext.alloc _ _⟩
      case round =>
        obtain ⟨j, Aq, nq, cq, hj, rfl, rfl, hown, hx6⟩ := hrel
        have hx : Ext w1 wr := X6.trans hx6
        by_cases hjN : j < N
        · obtain ⟨b1, o1, rfl, hbl1, hl1, cs1, _, hcell1, B1, k1, q1, rfl, hr1', hkq1, hm1', hid1⟩ := HR1'.out.at_ hjN
          have d0 : wr.cell? ⟨b1, o1 + j * 3, none⟩ = some (.int .u16 (L[j].id : Int)) := hx.cell hbl1 (hcell1 0 _ rfl)
          have d1 : wr.cell? ⟨b1, o1 + j * 3 + 1, none⟩ = some (.int .u8 (L[j].unit.toNat : Int)) := hx.cell hbl1 (hcell1 1 _ rfl)
          have d2 : wr.cell? ⟨b1, o1 + j * 3 + 2, none⟩ = some (.slice B1 k1 q1) := hx.cell hbl1 (hcell1 2 _ rfl)
          have hpx := (HB.out.1 L[j] (List.getElem_mem _)).1
          have hsucc := flat_succ (fun x => (putTF x).1) L j hl1
          have hle1 := Hflat.out (j + 1)
          have hle0 := Hflat.out j
          rw [hsucc] at hle1
          have HRx := Lib.hid (hr1'.ext hx)
          have hnq := hown.len
          rw [List.length_map] at hnq
          generalize L[j] = y at *
          have hputc := fun W X => tcpPut_any y.id y.unit y.pdu B1 k1 q1 W hid1 (HRx.out.ext X)
          have hk1 : k1 ≤ 140737488355200 := by
            have h1 := HRx.out.length
            have h2 := put_fits.1 hpx
            omega
          have hSl : (putTF ⟨y.id, y.unit, y.pdu⟩).1 = (putTF y).1 ∧ (putTF ⟨y.id, y.unit, y.pdu⟩).2 = 0 := ⟨rfl, hpx⟩
          generalize putTF ⟨y.id, y.unit, y.pdu⟩ = P1 at *
          obtain ⟨S, e1⟩ := P1
          obtain rfl : e1 = 0 := hSl.2
          simp only at hsucc hle1
          have Hputc := Lib.hid hputc; have Hsucc := Lib.hid hsucc; have Hown := Lib.hid hown; have Hnq := Lib.hid hnq; have Hle0 := Lib.hid hle0; have Hle1 := Lib.hid hle1
          clear hputc hsucc hown hSl hpx hr1' hcell1 hnq hle0 hle1
          have hjl : j < one.length + two_.length := by have := HN.out; omega
          have hji : (j : Int) < (N : Int) := by omega
          go_wp2_with fail
          refine (Hputc.out _ (Ext.refl _) hk1).mono ?_
          rintro e w7 ⟨A7, n7, c7, rfl, ho, hb7⟩
          have X7 : Ext wr w7 := hb7
          have hn7 : n7 = S.length := by have := ho.len; simpa using this.symm
          have Ho7 := Lib.hid ho; have Hn7 := Lib.hid hn7; clear ho hb7 hn7
          have hbs : nq + n7 ≤ 32768 := by have h1 := Hle1.out; have h2 := Hnq.out; have h3 := Hn7.out; rw [List.length_append] at h1; omega
          go_wp2_with (at_builtin; go_must (refine app_u8 _ rfl (.tmp 123) (.tmp 124) rfl rfl (Hown.out.ext X7) rfl Ho7.out.rd isU8_map (by omega) (hx6.trans X7).size ?_); intro A8 c8 w8 hown8 hg8 hbk8)
          have X8 : Ext w6 w8 := (hx6.trans X7).grown' hg8 (fun g hg => (Hown.out.lt g hg).1)
          rw [← List.map_append, ← Hsucc.out] at hown8
          have Hown8 := Lib.hid hown8; clear hown8 hg8 hbk8
          go_roundw
          case rel => exact ⟨j + 1, A8, nq + n7, c8, by omega, by go_num, rfl, Hown8.out, X8⟩
          case measure => simp [intOf]; omega
        · obtain rfl : j = N := by omega
          have hjl : ¬ j < one.length + two_.length := by have := HN.out; omega
          rw [List.take_of_length_le (by rw [HLl.out]; exact Nat.le_refl _), HB.out.2] at hown
          have Hown := Lib.hid hown; clear hown
          have hRb : Rd wr A (at1 + mo) ((b.take (at1 + mo)).map cB) := by rw [List.map_take]; exact (Hr.out.ext (X1.trans hx)).take hnm
          have HRb := Lib.hid hRb; clear hRb
          have hs1 : (at1 : Int) + (mo : Int) ≤ (c : Int) := by omega
          go_wp2_with fail
          refine (same_any _ _ _ _ _ _ _ _ _ Hown.out.rd HRb.out (by have h1 := Hown.out.cap; have h2 := Hown.out.capLe; unfold maxLen; omega)).mono ?_
          rintro e w9 ⟨rfl, hb9⟩
          rw [decide_eq_true rfl]
          go_wp2_with fail
          refine (known5_any _).mono ?_
          rintro e w10 ⟨rfl, hb10⟩
          go_wp2_with fail
          go_ret
          exact ⟨rfl, (X1.trans (hx.trans ((Ext.of hb9).trans hb10))).below⟩
end Go.Proofs.Ytemiahjdacckgaa
