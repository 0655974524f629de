/- Contracts of the frames on a stream: the statements' sameAll; Split, and the reference's. -/
import Derived.Test.YtemiahjdacckgaaFrameW
import Derived.Test.YtemiahjdacckgaaList2
namespace Go.Proofs.Ytemiahjdacckgaa
set_option linter.unusedVariables false
open Go Go.RowKit Go.Out

def tcpCells (x : TcpD) (A : Option Addr) (n c : Nat) : List Value := [.int .u16 (x.id : Int), .int .u8 (x.unit.toNat : Int), .slice A n c]
/-- A frame on a stream, as its three cells. -/
def tcpK : Kind TcpD := ⟨3, fun w cs x => ∃ A n c, cs = tcpCells x A n c ∧ Rd w A n (x.pdu.map cB) ∧ n ≤ c ∧ c ≤ 9223372036854775807 ∧ x.id < 65536, fun ⟨A, n, c, h1, h2, h3⟩ hx => ⟨A, n, c, h1, h2.ext hx, h3⟩⟩
/-- The same, its bytes being the call's own. -/
def tcpO (base : Nat) : Kind TcpD := ⟨3, fun w cs x => ∃ A n c, cs = tcpCells x A n c ∧ Own w base 5 IsU8 A n c (x.pdu.map cB) ∧ x.id < 65536, fun ⟨A, n, c, h1, h2, h3⟩ hx => ⟨A, n, c, h1, h2.ext hx, h3⟩⟩
theorem tcpO_K {base : Nat} {w : World} {cs : List Value} {x : TcpD} (h : (tcpO base).R w cs x) : tcpK.R w cs x := by
  obtain ⟨A, n, c, h1, h2, h3⟩ := h
  exact ⟨A, n, c, h1, h2.rd, h2.cap, h2.capLe, h3⟩
theorem rdl_tcp {base : Nat} {w : World} {A : Option Addr} {n : Nat} {l : List TcpD} (h : RdL (tcpO base) w A n l) : RdL tcpK w A n l :=
  ⟨h.1, fun hn => by
    obtain ⟨b, off, e, hb, hc⟩ := h.2 hn
    exact ⟨b, off, e, hb, fun i x hi => by
      obtain ⟨cs, h1, h2, h3⟩ := hc i x hi
      exact ⟨cs, h1, h2, tcpO_K h3⟩⟩⟩
theorem info_tcp : (Try.prog.info? 34).map (fun i => (i.zero, i.size, i.bytes)) = some (some (.agg #[.int .u16 0, .int .u8 0, .slice none 0 0]), 3, 32) := by kernel_rfl
theorem app_tcp {ops : Array Oper} {rest : List Oper} {o : Oper} {a : Act} {Q : Exit → Act → World → Prop} (w : World) (hgd : o.guard = none) (s x : Operand)
    (ho : o.op = .call { callee := .builtin .append, args := #[s, x], argTypes := #[41, 41] })
    {base n g : Nat} {v : Value} {xs : List Value} (hs : a.eval s = v) (hown : w.ownsRow base 34 3 v n xs) {v0 v1 v2 : Value}
    (hx : a.eval x = .slice (some ⟨g, 0, none⟩) 1 1) (hh : w.heap[g]? = some (.cells #[v0, v1, v2] 34 (0, 0))) (h1 : ∀ u ∈ [v0, v1, v2], u.oneCell' = true)
    (hsz : n + 1 ≤ 4398046511104) (hbase : base ≤ w.heap.size)
    (h : ∀ v' w', w'.ownsRow base 34 3 v' (n + 1) (xs ++ [v0, v1, v2]) → w.grownBy w' v.ownBlock → wpList Try.prog ops Q rest (a.put o.dst v') w') :
    wpList Try.prog ops Q (o :: rest) a w := by
  obtain ⟨i0, hi, hz0, hz1, hz2⟩ := info_parts info_tcp
  exact wpList_append_own w hgd s x 41 ho base 34 i0 _ 3 32 Try.underlying41 hi hz0 hz1 hz2 rfl (by decide) v n xs hs hown ⟨g, 0, none⟩ 1 1 [v0, v1, v2] hx rfl
    (fun j u hu => by rw [Addr.add_lit, cell_of_row _ _ _ _ _ _ hh, Nat.zero_add]; simpa using hu) h1 (by unfold maxLen; omega) (by omega) hbase fun v' w' h2 h3 _ => h v' w' h2 h3

/-- What a call of Split hands back. -/
def RetSp (w : World) (r : List TcpD × Nat × Int) (e : Ending) (w' : World) : Prop :=
  ∃ v, e = .returned (.tuple #[v, .int .i64 (r.2.1 : Int), .int .i64 r.2.2]) ∧ OwL (tcpO w.heap.size) w' w.heap.size 34 v r.1 ∧ Ext w w'

theorem split_more {b : List UInt8} {k : Nat} {done : List TcpD} (h : splitF b = restF done k (splitF (b.drop k))) (h0 : (getTF (b.drop k)).2.2 = 0) :
    splitF b = restF (done ++ [(getTF (b.drop k)).1]) (k + (getTF (b.drop k)).2.1) (splitF (b.drop (k + (getTF (b.drop k)).2.1))) := by
  rw [h, splitF_ok h0, List.drop_drop]
  simp [restF, Nat.add_assoc]
theorem split_short {b : List UInt8} {k : Nat} {done : List TcpD} (h : splitF b = restF done k (splitF (b.drop k))) (h0 : (getTF (b.drop k)).2.2 = 1) : splitF b = (done, k, 0) := by
  rw [h, splitF_short h0]; simp [restF]
theorem split_bad {b : List UInt8} {k : Nat} {done : List TcpD} (h : splitF b = restF done k (splitF (b.drop k))) (h0 : (getTF (b.drop k)).2.2 = 4) : splitF b = (done, k, 4) := by
  rw [h, splitF_bad (by omega) (by omega), h0]; simp [restF]

theorem getTF_id (b : List UInt8) : (getTF b).1.id < 65536 := by
  unfold getTF
  split
  · simp [tcp0]
  · split
    · simp [tcp0]
    · split
      · simp [tcp0]
      · exact at2_lt _ _
theorem heap_new_at (w : World) (o : Obj) (g : Nat) (h : g = w.heap.size) : (w.alloc o).heap[g]? = some o := by subst h; exact heap_alloc_new w o
theorem tcpSplit_any (b : List UInt8) (A : Option Addr) (m c : Nat) (w : World) (hr : Rd w A m (b.map cB)) (hc : m ≤ c) (hc63 : c ≤ 9223372036854775807) (hm : m ≤ 4398046511104) :
    Calls Try.prog 33 #[.slice A m c] w (RetSp w (splitF b)) := by
  have Hl := Lib.hid hr.length
  have Hr := Lib.hid hr; clear hr
  go_enter Try.func33, Try.ntmps33
  go_wp2_with fail
  go_step3
  go_wp2_with fail
  go_step3
  go_wp2_with fail
  go_loopw [5, 6, 7] (fun v i x wr => ∃ (k : Nat) (done : List TcpD), k ≤ m ∧ i = .int .i64 k ∧ x = .int .i64 0 ∧ OwL (tcpO w.heap.size) wr w.heap.size 34 v done ∧ Hid (splitF b = restF done k (splitF (b.drop k))) ∧ 8 * done.length ≤ k ∧ Ext w wr) (fun _ i _ _ => m - (intOf i).toNat)
  case atStart => exact ⟨0, [], Nat.zero_le _, rfl, rfl, OwL.nil_ _ _ _ _, by simp [Hid, restF], by simp, Ext.refl _⟩
  case round =>
    obtain ⟨k, done, hk, rfl, rfl, hown, HS, h8, hx⟩ := hrel
    obtain ⟨B, hB, HB⟩ : ∃ B, (if c = k then A else Option.map (fun x => x.add k) A) = B ∧ Hid (Rd wr B (m - k) ((b.drop k).map cB)) := ⟨_, rfl, (Hr.out.from8 hk hc).ext hx⟩
    obtain ⟨xs, hrow, hit⟩ := hown
    have Hrow := Lib.hid hrow; have Hit := Lib.hid hit; clear hrow hit
    have hgt := getTF_ok (b := b.drop k)
    have hid := getTF_id (b.drop k)
    have hcall := tcpGet_any (b.drop k) B (m - k) (c - k) wr HB.out (by omega) (by omega)
    have hmo := @split_more b k done HS.out; have hsh := @split_short b k done HS.out; have hba := @split_bad b k done HS.out
    have hcase := getTF_err (b.drop k)
    generalize getTF (b.drop k) = r at *
    obtain ⟨x, n0, e0⟩ := r
    simp only at hgt hid hcase hmo hsh hba
    have Hcall := Lib.hid hcall; clear hcall
    rcases hcase with rfl | ⟨-, -, rfl | rfl⟩
    · obtain ⟨g1, g2, -⟩ := hgt rfl
      rw [List.length_drop, Hl.out] at g2
      have Hmo := Lib.hid (hmo rfl); clear hmo hsh hba hgt
      have hB' : Option.map (fun x => x.add k) A = B := by rw [← hB, if_neg (by omega)]
      go_wp2_with fail
      refine (Hcall.out).mono ?_
      rintro e w1 ⟨A1, n1, c1, rfl, ho, hb1⟩
      have X1 : Ext wr w1 := hb1
      have Ho := Lib.hid ho; clear ho hb1
      go_wp2_with (at_builtin; go_must (refine app_tcp _ rfl (.tmp 23) (.tmp 25) rfl rfl (ownsRow_ext Hrow.out (X1.trans ((Ext.alloc _ _).trans (Ext.alloc _ _)))) rfl (heap_new_at _ _ _ (by simp)) (by intro u hu; simp at hu; rcases hu with rfl | rfl | rfl <;> rfl) (by omega) (Nat.le_trans hx.size (X1.trans ((Ext.alloc _ _).trans (Ext.alloc _ _))).size) ?_); intro v' w2 hrow2 hg2)
      have XA := X1.trans ((Ext.alloc w1 (.cells #[.int .u16 (x.id : Int), .int .u8 (x.unit.toNat : Int), .slice A1 n1 c1] 34)).trans (Ext.alloc _ (.cells #[.int .u16 (x.id : Int), .int .u8 (x.unit.toNat : Int), .slice A1 n1 c1] 34)))
      have hrow1 := ownsRow_ext Hrow.out XA
      have hit2 : Items (tcpO w.heap.size) w2 (xs ++ tcpCells x A1 n1 c1) (done ++ [x]) := (Hit.out.mono fun cs y ⟨A', n', c', h1, h2, h3⟩ => ⟨A', n', c', h1, (h2.ext XA).grown_ty hrow1 (by decide) hg2, h3⟩).snoc ⟨A1, n1, c1, rfl, (((Ho.out.mono (hx.size)).ext ((Ext.alloc _ _).trans (Ext.alloc _ _))).grown_ty hrow1 (by decide) hg2), hid⟩ rfl
      have X2 : Ext w w2 := (hx.trans XA).grown' hg2 (fun g hg => (Hrow.out.lt g hg).1)
      have HI2 := Lib.hid hit2; have Hrow2 := Lib.hid hrow2; clear hit2 hrow2 hrow1 hg2
      go_roundw
      case rel => exact ⟨k + n0, done ++ [x], by omega, by go_num, rfl, ⟨_, by rw [List.length_append]; exact Hrow2.out, HI2.out⟩, Hmo.out, by simp; omega, X2⟩
      case measure => simp [intOf]; omega
    · have Hsh := Lib.hid (hsh rfl); clear hmo hsh hba hgt
      go_wp2_with fail
      refine (Hcall.out).mono ?_
      rintro e w1 ⟨A1, n1, c1, rfl, ho, hb1⟩
      have X1 : Ext wr w1 := hb1
      clear ho hb1
      go_wp2_with fail
      rw [Exit.noGoto_ret, Hsh.out]
      have XA := X1.trans (Ext.alloc w1 (.cells #[.int .u16 (x.id : Int), .int .u8 (x.unit.toNat : Int), .slice A1 n1 c1] 34))
      go_ret3
      exact ⟨_, rfl, ⟨xs, ownsRow_ext Hrow.out XA, Hit.out.ext XA⟩, hx.trans XA⟩
    · have Hba := Lib.hid (hba rfl); clear hmo hsh hba hgt
      go_wp2_with fail
      refine (Hcall.out).mono ?_
      rintro e w1 ⟨A1, n1, c1, rfl, ho, hb1⟩
      have X1 : Ext wr w1 := hb1
      clear ho hb1
      go_wp2_with fail
      rw [Exit.noGoto_ret, Hba.out]
      have XA := X1.trans (Ext.alloc w1 (.cells #[.int .u16 (x.id : Int), .int .u8 (x.unit.toNat : Int), .slice A1 n1 c1] 34))
      go_ret3
      exact ⟨_, rfl, ⟨xs, ownsRow_ext Hrow.out XA, Hit.out.ext XA⟩, hx.trans XA⟩
theorem refTcpSplit_any (b : List UInt8) (A : Option Addr) (m c : Nat) (w : World) (hr : Rd w A m (b.map cB)) (hc : m ≤ c) (hc63 : c ≤ 9223372036854775807) (hm : m ≤ 4398046511104) :
    Calls Try.prog 34 #[.slice A m c] w (RetSp w (splitF b)) := by
  have Hl := Lib.hid hr.length
  have Hr := Lib.hid hr; clear hr
  go_enter Try.func34, Try.ntmps34
  go_wp2_with fail
  go_loopw [5, 6] (fun v i wr => ∃ (k : Nat) (done : List TcpD), k ≤ m ∧ i = .int .i64 k ∧ OwL (tcpO w.heap.size) wr w.heap.size 34 v done ∧ Hid (splitF b = restF done k (splitF (b.drop k))) ∧ 8 * done.length ≤ k ∧ Ext w wr) (fun _ i _ => m - (intOf i).toNat)
  case atStart => exact ⟨0, [], Nat.zero_le _, rfl, OwL.nil_ _ _ _ _, by simp [Hid, restF], by simp, Ext.refl _⟩
  case round =>
    obtain ⟨k, done, hk, rfl, hown, HS, h8, hx⟩ := hrel
    obtain ⟨B, hB, HB⟩ : ∃ B, (if c = k then A else Option.map (fun x => x.add k) A) = B ∧ Hid (Rd wr B (m - k) ((b.drop k).map cB)) := ⟨_, rfl, (Hr.out.from8 hk hc).ext hx⟩
    obtain ⟨xs, hrow, hit⟩ := hown
    have Hrow := Lib.hid hrow; have Hit := Lib.hid hit; clear hrow hit
    have hgt := getTF_ok (b := b.drop k)
    have hid := getTF_id (b.drop k)
    have hcall := refTcpGet_any (b.drop k) B (m - k) (c - k) wr HB.out (by omega) (by omega)
    have hmo := @split_more b k done HS.out; have hsh := @split_short b k done HS.out; have hba := @split_bad b k done HS.out
    have hcase := getTF_err (b.drop k)
    generalize getTF (b.drop k) = r at *
    obtain ⟨x, n0, e0⟩ := r
    simp only at hgt hid hcase hmo hsh hba
    have Hcall := Lib.hid hcall; clear hcall
    rcases hcase with rfl | ⟨-, -, rfl | rfl⟩
    · obtain ⟨g1, g2, -⟩ := hgt rfl
      rw [List.length_drop, Hl.out] at g2
      have Hmo := Lib.hid (hmo rfl); clear hmo hsh hba hgt
      have hB' : Option.map (fun x => x.add k) A = B := by rw [← hB, if_neg (by omega)]
      go_wp2_with fail
      refine (Hcall.out).mono ?_
      rintro e w1 ⟨A1, n1, c1, rfl, ho, hb1⟩
      have X1 : Ext wr w1 := hb1
      have Ho := Lib.hid ho; clear ho hb1
      go_wp2_with (at_builtin; go_must (refine app_tcp _ rfl (.tmp 27) (.tmp 29) rfl rfl (ownsRow_ext Hrow.out (X1.trans ((Ext.alloc _ _).trans (Ext.alloc _ _)))) rfl (heap_new_at _ _ _ (by simp)) (by intro u hu; simp at hu; rcases hu with rfl | rfl | rfl <;> rfl) (by omega) (Nat.le_trans hx.size (X1.trans ((Ext.alloc _ _).trans (Ext.alloc _ _))).size) ?_); intro v' w2 hrow2 hg2)
      have XA := X1.trans ((Ext.alloc w1 (.cells #[.int .u16 (x.id : Int), .int .u8 (x.unit.toNat : Int), .slice A1 n1 c1] 34)).trans (Ext.alloc _ (.cells #[.int .u16 (x.id : Int), .int .u8 (x.unit.toNat : Int), .slice A1 n1 c1] 34)))
      have hrow1 := ownsRow_ext Hrow.out XA
      have hit2 : Items (tcpO w.heap.size) w2 (xs ++ tcpCells x A1 n1 c1) (done ++ [x]) := (Hit.out.mono fun cs y ⟨A', n', c', h1, h2, h3⟩ => ⟨A', n', c', h1, (h2.ext XA).grown_ty hrow1 (by decide) hg2, h3⟩).snoc ⟨A1, n1, c1, rfl, (((Ho.out.mono (hx.size)).ext ((Ext.alloc _ _).trans (Ext.alloc _ _))).grown_ty hrow1 (by decide) hg2), hid⟩ rfl
      have X2 : Ext w w2 := (hx.trans XA).grown' hg2 (fun g hg => (Hrow.out.lt g hg).1)
      have HI2 := Lib.hid hit2; have Hrow2 := Lib.hid hrow2; clear hit2 hrow2 hrow1 hg2
      go_roundw
      case rel => exact ⟨k + n0, done ++ [x], by omega, by go_num, ⟨_, by rw [List.length_append]; exact Hrow2.out, HI2.out⟩, Hmo.out, by simp; omega, X2⟩
      case measure => simp [intOf]; omega
    · have Hsh := Lib.hid (hsh rfl); clear hmo hsh hba hgt
      go_wp2_with fail
      refine (Hcall.out).mono ?_
      rintro e w1 ⟨A1, n1, c1, rfl, ho, hb1⟩
      have X1 : Ext wr w1 := hb1
      clear ho hb1
      go_wp2_with fail
      rw [Hsh.out]
      have XA := X1.trans (Ext.alloc w1 (.cells #[.int .u16 (x.id : Int), .int .u8 (x.unit.toNat : Int), .slice A1 n1 c1] 34))
      go_ret3
      exact ⟨_, rfl, ⟨xs, ownsRow_ext Hrow.out XA, Hit.out.ext XA⟩, hx.trans XA⟩
    · have Hba := Lib.hid (hba rfl); clear hmo hsh hba hgt
      go_wp2_with fail
      refine (Hcall.out).mono ?_
      rintro e w1 ⟨A1, n1, c1, rfl, ho, hb1⟩
      have X1 : Ext wr w1 := hb1
      clear ho hb1
      go_wp2_with fail
      rw [Hba.out]
      have XA := X1.trans (Ext.alloc w1 (.cells #[.int .u16 (x.id : Int), .int .u8 (x.unit.toNat : Int), .slice A1 n1 c1] 34))
      go_ret3
      exact ⟨_, rfl, ⟨xs, ownsRow_ext Hrow.out XA, Hit.out.ext XA⟩, hx.trans XA⟩
end Go.Proofs.Ytemiahjdacckgaa
