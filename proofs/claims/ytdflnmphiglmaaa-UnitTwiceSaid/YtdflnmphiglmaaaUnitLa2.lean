/- Chapter 19's laws: what their helpers do; the example that all of them ask. -/
import Derived.Test.YtdflnmphiglmaaaUnitHea3
import Derived.Test.YtdflnmphiglmaaaPick
import Derived.Test.YtdflnmphiglmaaaAskSees
namespace Go.Out
def pickF (k : Int) (n : Nat) : Nat := if k.tmod n < 0 then (k.tmod n + n).toNat else (k.tmod n).toNat
end Go.Out
namespace Go.Proofs.Ytdflnmphiglmaaa
set_option linter.unusedVariables false
set_option linter.unusedSimpArgs false
set_option maxRecDepth 100000
set_option maxHeartbeats 1000000
open Go Go.RowKit Go.Out

theorem pick_eq (k : Int) (n : Nat) (w : World) (h : 1 ≤ n) (hn : n ≤ 1125899906842624) :
    Calls Try.prog 15 #[.int .i64 k, .int .i64 n] w fun e w' => e = .returned (.int .i64 (pickF k n : Int)) ∧ w = w' := by
  have h0 : ¬ (n : Int) = 0 := by omega
  have h0' : ¬ n = 0 := by omega
  have h1 : ¬ (n : Int) < 1 := by omega
  have ht := tmod_cases k n h
  obtain ⟨P, hP⟩ : ∃ P, pickF k n = P := ⟨_, rfl⟩
  rw [hP]
  unfold pickF at hP
  generalize hT : k.tmod n = T at *
  have ew : IntKind.i64.wrap T = T := IntWalk.i64_in _ (by omega)
  rcases ht with ⟨h2, h3⟩ | ⟨h2, h3⟩
  · have h4 : ¬ T < 0 := by omega
    rw [if_neg h4] at hP
    have HP : Hid (T = (P : Int)) := by unfold Hid; omega
    clear hP
    go_enter Try.func15, Try.ntmps15
    go_wp2_with fail
    go_ret
    exact ⟨ret_int HP.out, rfl⟩
  · rw [if_pos h2] at hP
    have HP : Hid (T + n = (P : Int)) := by unfold Hid; omega
    clear hP
    go_enter Try.func15, Try.ntmps15
    go_wp2_with fail
    go_ret
    exact ⟨ret_int HP.out, rfl⟩
theorem pickF_lt (k : Int) (n : Nat) (h : 1 ≤ n) : pickF k n < n := by
  have ht := tmod_cases k n h
  unfold pickF
  split <;> omega
def LtU (s : UnitS) (B : Nat) : Prop := s.p < B ∧ s.g1 < B ∧ s.g2 < B ∧ s.g3 < B ∧ s.g4 < B
theorem OnlyU.keep {s : UnitS} {a b : World} {B k : Nat} {o : Obj} (h : OnlyU s a b) (hl : LtU s B) (hk : B ≤ k) (he : a.heap[k]? = some o) : b.heap[k]? = some o := by
  obtain ⟨l0, l1, l2, l3, l4⟩ := hl
  exact (h.block k (lt_of_heap he) (by omega) (by omega) (by omega) (by omega) (by omega)).trans he
theorem rep_only {s : UnitS} {a b : World} {B base : Nat} {r : RepD} {t : RepS} (hr : RepOw a base r t) (hf : r.files = []) (h : OnlyU s a b) (hl : LtU s B) (hB : B ≤ base) : RepRd b r t := by
  obtain ⟨l0, l1, l2, l3, l4⟩ := hl
  have hk : ∀ g, base ≤ g → g < a.heap.size → b.heap[g]? = a.heap[g]? := fun g hg hw => h.block g hw (by omega) (by omega) (by omega) (by omega) (by omega)
  have h1 := (hr.on.kept (w' := b) fun g hg => hk g (hr.on.lt g hg).1 (hr.on.lt g hg).2).rd
  have h2 := (hr.set.kept (w' := b) fun g hg => hk g (hr.set.lt g hg).1 (hr.set.lt g hg).2).rd
  have hd := hr.rd
  refine ⟨h1, h2, ?_, hd.exc, hd.cap1, hd.cap2, hd.cap3⟩
  have h3 := hr.n3
  rw [hf] at h3 ⊢
  rw [← h3]
  exact RdL.nil_ _ _ _
/-- Do, its request and its answer written out. -/
theorem do_v {u u' : UnitD} {s : UnitS} {w : World} (h : UnitAt w s u) (hu : UnitOk u) (hwr : u.wrote < 4611686018427387904) {code addr count ex : Int} {on on' : List Bool} {set set' : List UInt16} {parts : List PartD} {files' : List (List UInt16)}
    {A1 A2 A3 : Option Addr} {n1 c1 n2 c2 n3 c3 : Nat} (ha : AskRd w ⟨code, addr, count, on, set, parts⟩ ⟨A1, n1, c1, A2, n2, c2, A3, n3, c3⟩) (hd : doU u ⟨code, addr, count, on, set, parts⟩ = (u', ⟨ex, on', set', files'⟩)) :
    Calls Try.prog 10 #[.pointer (some ⟨s.p, 0, none⟩), .agg #[.int .i64 code, .int .i64 addr, .int .i64 count, .slice A1 n1 c1, .slice A2 n2 c2, .slice A3 n3 c3]] w
      (fun e w' => ∃ B1 m1 k1 B2 m2 k2 B3 m3 k3, e = .returned (.agg #[.int .i64 ex, .slice B1 m1 k1, .slice B2 m2 k2, .slice B3 m3 k3]) ∧ RepOw w' w.heap.size ⟨ex, on', set', files'⟩ ⟨B1, m1, k1, B2, m2, k2, B3, m3, k3⟩ ∧ UnitAt w' s u' ∧ OnlyU s w w') := by
  refine (do_any u s ⟨code, addr, count, on, set, parts⟩ ⟨A1, n1, c1, A2, n2, c2, A3, n3, c3⟩ w h hu ha hwr).mono ?_
  rintro e w' ⟨⟨B1, m1, k1, B2, m2, k2, B3, m3, k3⟩, rfl, hr, hU, hO, -⟩
  rw [hd] at hr hU ⊢
  exact ⟨B1, m1, k1, B2, m2, k2, B3, m3, k3, rfl, hr, hU, hO⟩
theorem new_v (a z : Nat) (w : World) (ha : 1 ≤ a ∧ a ≤ 247) (hz : 1 ≤ z ∧ z ≤ 1024) : Calls Try.prog 14 #[.int .i64 (a : Int), .int .i64 (z : Int)] w
    (fun e w' => ∃ s, e = .returned (.tuple #[.pointer (some ⟨s.p, 0, none⟩), .int .i64 0]) ∧ UnitAt w' s (newU a z) ∧ Ext w w' ∧ FromU w.heap.size s) := by
  refine (new_u a z w).mono ?_
  have h0 : newE a z = 0 := by unfold newE; rw [if_neg (by omega), if_neg (by omega)]
  rintro e w' (⟨h, -⟩ | ⟨-, s, rfl, hU, hx, hF⟩)
  · exact absurd h0 h
  · exact ⟨s, rfl, by simpa using hU, hx, hF⟩
theorem ask_set {w : World} {code addr count : Int} (h1 : i64P code) (h2 : i64P addr) (h3 : i64P count) {A : Option Addr} {n : Nat} {l : List UInt16} (hr : Rd w A n (l.map cW)) (hn : n ≤ 9223372036854775807) : AskRd w ⟨code, addr, count, [], l, []⟩ ⟨none, 0, 0, A, n, n, none, 0, 0⟩ :=
  ⟨Rd.nil_ _, hr, RdL.nil_ _ _ _, h1, h2, h3, by simp, by simp [hn], by simp⟩
def un1 : UnitD := { newU 17 10 with t3 := [0, 0, 0, 0, 0, 0, 0, 0, 5, 6], wrote := 1 }
theorem un1_ok : UnitOk un1 := ⟨rfl, rfl, rfl, rfl, by decide, by decide⟩
theorem do1 : doU (newU 17 10) ⟨16, 8, 0, [], [5, 6], []⟩ = (un1, ⟨0, [], [], []⟩) := by kernel_rfl
theorem do2 : doU un1 ⟨3, 7, 3, [], [], []⟩ = (un1, ⟨0, [], [0, 5, 6], []⟩) := by kernel_rfl
theorem do3 : doU un1 ⟨3, 8, 3, [], [], []⟩ = (un1, ⟨2, [], [], []⟩) := by kernel_rfl
theorem known19_any (w : World) : Calls Try.prog 6 #[] w (RetQ w true) := by
  have HD1 := Lib.hid do1; have HD2 := Lib.hid do2; have HD3 := Lib.hid do3
  go_enter Try.func6, Try.ntmps6
  go_wp2_with fail
  refine (new_v 17 10 _ (by decide) (by decide)).mono ?_
  rintro e w1 ⟨s, rfl, hU, hx, hF⟩
  have HU := Lib.hid hU; have HX := Lib.hid hx; have HF := Lib.hid hF; have HL : Hid (LtU s w1.heap.size) := hU.lt
  clear hU hx hF
  go_wp2_with fail
  refine (do_v (HU.out.ext (Ext.alloc _ _)) (newU_ok (by decide) (by decide)) (by decide) (ask_set (by unfold i64P; decide) (by unfold i64P; decide) (by unfold i64P; decide) (l := [5, 6]) (Rd.two _ _ _ _) (by decide)) HD1.out).mono ?_
  rintro e w2 ⟨B1, m1, k1, B2, m2, k2, B3, m3, k3, rfl, r2, u2, o2⟩
  have R2 := Lib.hid r2; have U2 := Lib.hid u2; have O2 := Lib.hid ((OnlyU.of_ext (Ext.alloc w1 _)).trans o2)
  have hz2 : w1.heap.size + 1 ≤ w2.heap.size := by have := o2.size; simpa using this
  clear r2 u2 o2
  go_wp2_with fail
  have A0 := fun W => (ask_set (w := W) (code := 3) (addr := 7) (count := 3) (l := []) (by unfold i64P; decide) (by unfold i64P; decide) (by unfold i64P; decide) (Rd.nil_ _) (by decide))
  refine (do_v (U2.out.ext (Ext.alloc _ _)) un1_ok (by decide) (A0 _) HD2.out).mono ?_
  rintro e w3 ⟨C1, p1, d1, C2, p2, d2, C3, p3, d3, rfl, r3, u3, o3⟩
  have K3 := Lib.hid (o3.keep HL.out (by omega) (heap_alloc_new w2 (.cells #[.int .i64 0, .slice B1 m1 k1, .slice B2 m2 k2, .slice B3 m3 k3] 37)))
  have R3 := Lib.hid r3; have U3 := Lib.hid u3; have P3 := Lib.hid ((OnlyU.of_ext (Ext.alloc w2 _)).trans o3)
  have hz3 : w2.heap.size + 1 ≤ w3.heap.size := by have := o3.size; simpa using this
  clear r3 u3 o3 A0
  go_wp2_with fail
  have A0 := fun W => (ask_set (w := W) (code := 3) (addr := 8) (count := 3) (l := []) (by unfold i64P; decide) (by unfold i64P; decide) (by unfold i64P; decide) (Rd.nil_ _) (by decide))
  refine (do_v (U3.out.ext (Ext.alloc _ _)) un1_ok (by decide) (A0 _) HD3.out).mono ?_
  rintro e w4 ⟨D1, q1, f1, D2, q2, f2, D3, q3, f3, rfl, r4, u4, o4⟩
  have K3' := Lib.hid (o4.keep HL.out (by omega) ((Ext.alloc w3 (.cells #[.int .i64 0, .slice C1 p1 d1, .slice C2 p2 d2, .slice C3 p3 d3] 37)).block K3.out))
  have K4 := Lib.hid (o4.keep HL.out (by omega) (heap_alloc_new w3 (.cells #[.int .i64 0, .slice C1 p1 d1, .slice C2 p2 d2, .slice C3 p3 d3] 37)))
  have U4 := Lib.hid u4; have P4 := Lib.hid ((OnlyU.of_ext (Ext.alloc w3 _)).trans o4)
  have hz4 : w3.heap.size + 1 ≤ w4.heap.size := by have := o4.size; simpa using this
  have Q2 := Lib.hid (rep_only R2.out rfl (P3.out.trans P4.out) HL.out (by simp))
  have Q3 := Lib.hid (rep_only R3.out rfl P4.out HL.out (by simp; omega))
  have X4 := Lib.hid (OnlyU.ext ((O2.out.trans P3.out).trans P4.out) HF.out HX.out)
  clear r4 u4 o4 A0 K3 U2 U3 HU R2 R3 O2 P3 P4
  have E5 := Lib.hid (Ext.alloc w4 (.cells #[.int .i64 2, .slice D1 q1 f1, .slice D2 q2 f2, .slice D3 q3 f3] 37))
  have K5 := Lib.hid (heap_alloc_new w4 (.cells #[.int .i64 2, .slice D1 q1 f1, .slice D2 q2 f2, .slice D3 q3 f3] 37))
  obtain ⟨a0, a1, a2, a3⟩ := cells4 (E5.out.block K3'.out)
  go_wp2_with fail
  refine (same_reply ⟨0, [], [], []⟩ ⟨B1, m1, k1, B2, m2, k2, B3, m3, k3⟩ repS0 _ (Q2.out.ext (Ext.alloc _ _)) (rep0_rd _)).mono ?_
  rintro e w5 ⟨rfl, hx5⟩
  clear a0 a1 a2 a3
  have E6 := Lib.hid (E5.out.trans hx5)
  obtain ⟨a0, a1, a2, a3⟩ := cells4 (E6.out.block K4.out)
  obtain ⟨b0, b1, b2, b3⟩ := cells4 (hx5.block K5.out)
  have K7 := Lib.hid (hx5.block K5.out)
  clear hx5
  go_wp2_with fail
  refine (same_reply ⟨0, [], [0, 5, 6], []⟩ ⟨C1, p1, d1, C2, p2, d2, C3, p3, d3⟩ ⟨none, 0, 0, some ⟨w5.heap.size, 0, none⟩, 3, 3, none, 0, 0⟩ _ (Q3.out.ext (E6.out.trans (Ext.alloc _ _))) ⟨Rd.nil_ _, Rd.lit w5 [.int .u16 0, .int .u16 5, .int .u16 6] _ _ 3 _ rfl rfl, RdL.nil_ _ _ _, by unfold i64P; decide, by simp, by simp, by simp⟩).mono ?_
  rintro e w6 ⟨rfl, hx6⟩
  have E7 := Lib.hid (E6.out.trans ((Ext.alloc _ _).trans hx6))
  obtain ⟨c0, c1, c2, c3⟩ := cells4 (hx6.block ((Ext.alloc w5 _).block K7.out))
  clear a0 a1 a2 a3 b0 b1 b2 b3 hx6
  go_wp2_with fail
  refine (writes_u un1 s _ (U4.out.ext E7.out)).mono ?_
  rintro e w7 ⟨rfl, rfl⟩
  go_wp2_with fail
  go_ret
  exact ⟨rfl, X4.out.trans E7.out⟩
end Go.Proofs.Ytdflnmphiglmaaa

namespace Go.Out
open Go Go.RowKit Go.ChangeShapes Go.WideShapes Go.Deep
set_option linter.unusedVariables false
/-- A list of items of some cells each, as it comes in. -/
theorem sees_list {H : Type} {enc : TypeId × Value → H} {P : Program} {w : World} {t e : TypeId} {v : Value} {α : Type} (x0 : α) (K : Kind α) (ht : P.underlying t = some (.slice e)) (hC : P.cellsOf e = K.k) (hk : 0 < K.k)
    (hel : ∀ cs, Sees enc P w e cs → ∃ x, K.R w cs x) (h : Sees enc P w t [v]) : ∃ (l : List α) (A : Option Addr) (n c : Nat), v = .slice A n c ∧ RdL K w A n l ∧ n ≤ c ∧ c ≤ 9223372036854775807 := by
  obtain ⟨A, n, c, rfl, hnc, hc, hb, hsl⟩ := sees_slice ht h
  rcases Nat.eq_zero_or_pos n with h0 | h0
  · subst h0
    exact ⟨[], A, 0, c, rfl, RdL.nil_ _ _ _, hnc, hc⟩
  · obtain ⟨a, rfl, hi⟩ := hsl h0
    rw [hC] at hi
    have hQ : ∀ i, i < n → ∃ p : α, ∃ cs, w.cells? 0 (a.add (i * K.k)) K.k = some cs ∧ K.R w cs p := fun i hlt => by
      obtain ⟨cs, h1, h2⟩ := hi i hlt
      obtain ⟨p, hp⟩ := hel cs h2
      exact ⟨p, cs, h1, hp⟩
    obtain ⟨f, hf⟩ : ∃ f : Nat → α, ∀ i, i < n → ∃ cs, w.cells? 0 (a.add (i * K.k)) K.k = some cs ∧ K.R w cs (f i) :=
      ⟨fun i => if h : i < n then Classical.choose (hQ i h) else x0, fun i hi => by
        simp only [dif_pos hi]
        exact Classical.choose_spec (hQ i hi)⟩
    have hcell : ∀ i, i < n → ∃ cs, cs.length = K.k ∧ (∀ j u, cs[j]? = some u → w.cell? ((a.add (i * K.k)).add j) = some u) ∧ K.R w cs (f i) := fun i hlt => by
      obtain ⟨cs, h1, h2⟩ := hf i hlt
      obtain ⟨_, hcl, hat⟩ := World.cells?_some h1
      refine ⟨cs, hcl, fun j u hu => ?_, h2⟩
      obtain ⟨hj, rfl⟩ := List.getElem?_eq_some_iff.1 hu
      rw [hat j (by omega), hu]
    obtain ⟨cs0, hl0, hc0, hR0⟩ := hcell 0 h0
    obtain ⟨v0, hv0⟩ : ∃ v0, w.cell? ((a.add (0 * K.k)).add 0) = some v0 := ⟨cs0[0]'(by omega), hc0 0 _ (List.getElem?_eq_getElem (by omega))⟩
    have hsp := World.cell?_spot hv0
    obtain ⟨b, off, spot⟩ := a
    have hs : spot = none := by simpa [Addr.add] using hsp
    subst hs
    refine ⟨(List.range n).map f, _, n, c, rfl, ⟨by simp, fun _ => ⟨b, off, rfl, by have := World.block_lt_of_cell? w _ hv0; simpa [Addr.add] using this, fun i x hx => ?_⟩⟩, hnc, hc⟩
    obtain ⟨hlt, rfl⟩ := List.getElem?_eq_some_iff.1 hx
    simp only [List.length_map, List.length_range] at hlt
    obtain ⟨cs, hl, hcj, hR⟩ := hcell i hlt
    refine ⟨cs, hl, fun j u hu => ?_, by simpa using hR⟩
    have := hcj j u hu
    rw [Addr.add_lit, add_off] at this
    rw [show off + (i * K.k + j) = off + i * K.k + j by omega]
    exact this
end Go.Out
namespace Go.Proofs.Ytdflnmphiglmaaa
open Go Go.RowKit Go.ChangeShapes Go.WideShapes Go.Deep Go.Out
/-- A request's six cells. -/
def askK : Kind AskD := ⟨6, fun w cs x => ∃ t : AskS, cs = [.int .i64 x.code, .int .i64 x.addr, .int .i64 x.count, .slice t.A1 t.n1 t.c1, .slice t.A2 t.n2 t.c2, .slice t.A3 t.n3 t.c3] ∧ AskRd w x t,
  fun ⟨t, h, hr⟩ hx => ⟨t, h, hr.ext hx⟩⟩
theorem sees_asks {H : Type} {enc : TypeId × Value → H} {w : World} {v : Value} (h : Sees enc Try.prog w 22 [v]) :
    ∃ (l : List AskD) (A : Option Addr) (n c : Nat), v = .slice A n c ∧ RdL askK w A n l ∧ n ≤ c ∧ c ≤ 9223372036854775807 :=
  sees_list ⟨0, 0, 0, [], [], []⟩ askK Try.underlying22 (by kernel_rfl) (by decide) (fun cs hs => by
    obtain ⟨a, t, he, hr⟩ := sees_ask (cs := cs.toArray) (by simpa using hs)
    exact ⟨a, t, by simpa using congrArg Array.toList he, hr⟩) h
end Go.Proofs.Ytdflnmphiglmaaa

namespace Go.Out
open Go Go.RowKit
def rowU (u : UnitD) (k m : Nat) : List UInt16 := (List.range m).map fun i : Nat => (getU u (k : Int) (i : Int)).1
def wholeK (u : UnitD) (m : Nat) : Nat → List UInt16
  | 0 => []
  | k + 1 => wholeK u m k ++ rowU u (k + 1) m
def wholeU (u : UnitD) (m : Nat) : List UInt16 := wholeK u (m + 1) 4
theorem rowU_snoc (u : UnitD) (k m : Nat) : rowU u k (m + 1) = rowU u k m ++ [(getU u (k : Int) (m : Int)).1] := by
  unfold rowU; rw [List.range_succ, List.map_append]; rfl
theorem rowU_length (u : UnitD) (k m : Nat) : (rowU u k m).length = m := by unfold rowU; simp
theorem wholeK_length (u : UnitD) (m k : Nat) : (wholeK u m k).length = k * m := by
  induction k with
  | zero => simp [wholeK]
  | succ k ih => rw [wholeK, List.length_append, ih, rowU_length, Nat.succ_mul]
def playU (u : UnitD) (l : List AskD) : UnitD := l.foldl (fun u a => (doU u a).1) u
def madeU (z : Int) (l : List AskD) : UnitD := playU (newU 5 (1 + pickF z 64)) (l.take 60)
theorem doU_wrote (u : UnitD) (a : AskD) : (doU u a).1.wrote ≤ u.wrote + 1 := by
  unfold doU
  split
  · simp
  · split
    · simp
    · split
      · simp
      · split
        · simp
        · split
          · simp
          · split <;> simp
theorem playU_wrote (u : UnitD) (l : List AskD) : (playU u l).wrote ≤ u.wrote + l.length := by
  induction l generalizing u with
  | nil => simp [playU]
  | cons a l ih =>
    have h1 := ih (doU u a).1
    have h2 := doU_wrote u a
    simp only [List.length_cons]
    show (playU (doU u a).1 l).wrote ≤ _
    omega
theorem playU_ok {u : UnitD} {l : List AskD} (h : UnitOk u) : UnitOk (playU u l) := by
  induction l generalizing u with
  | nil => exact h
  | cons a l ih => exact ih (doU_ok (a := a) h)
theorem playU_snoc (u : UnitD) (l : List AskD) (a : AskD) : playU u (l ++ [a]) = (doU (playU u l) a).1 := by unfold playU; rw [List.foldl_append]; rfl
theorem doU_addr (u : UnitD) (a : AskD) : (doU u a).1.addr = u.addr ∧ (doU u a).1.size = u.size := by
  unfold doU
  split
  · exact ⟨rfl, rfl⟩
  · split
    · exact ⟨rfl, rfl⟩
    · split
      · exact ⟨rfl, rfl⟩
      · split
        · exact ⟨rfl, rfl⟩
        · split
          · exact ⟨rfl, rfl⟩
          · split <;> exact ⟨rfl, rfl⟩
theorem playU_addr (u : UnitD) (l : List AskD) : (playU u l).addr = u.addr ∧ (playU u l).size = u.size := by
  induction l generalizing u with
  | nil => exact ⟨rfl, rfl⟩
  | cons a l ih =>
    have h := ih (doU u a).1
    have h2 := doU_addr u a
    exact ⟨h.1.trans h2.1, h.2.trans h2.2⟩
end Go.Out
namespace Go.Proofs.Ytdflnmphiglmaaa
set_option linter.unusedVariables false
set_option linter.unusedSimpArgs false
set_option maxRecDepth 100000
set_option maxHeartbeats 1000000
open Go Go.RowKit Go.Out

theorem asks_at {w : World} {A : Option Addr} {n k : Nat} {l : List AskD} (h : RdL askK w A n l) (hk : k < n) : ∃ b off, ∃ hl : k < l.length, ∃ t : AskS, A = some ⟨b, off, none⟩ ∧ AskRd w l[k] t ∧
    w.cell? ⟨b, off + k * 6, none⟩ = some (.int .i64 l[k].code) ∧ w.cell? ⟨b, off + k * 6 + 1, none⟩ = some (.int .i64 l[k].addr) ∧ w.cell? ⟨b, off + k * 6 + 2, none⟩ = some (.int .i64 l[k].count) ∧
    w.cell? ⟨b, off + k * 6 + 3, none⟩ = some (.slice t.A1 t.n1 t.c1) ∧ w.cell? ⟨b, off + k * 6 + 4, none⟩ = some (.slice t.A2 t.n2 t.c2) ∧ w.cell? ⟨b, off + k * 6 + 5, none⟩ = some (.slice t.A3 t.n3 t.c3) := by
  obtain ⟨b, off, rfl, hbk, hl', cs, -, hc, t, rfl, hR⟩ := h.at_ hk
  exact ⟨b, off, hl', t, rfl, hR, hc 0 _ rfl, hc 1 _ rfl, hc 2 _ rfl, hc 3 _ rfl, hc 4 _ rfl, hc 5 _ rfl⟩
/-- Some Bool; the world has only grown. -/
def RetSome (w : World) (e : Ending) (w' : World) : Prop := ∃ b, e = .returned (.bool b) ∧ Ext w w'
theorem long19_any (l : List AskD) (A : Option Addr) (n c : Nat) (w : World) (hr : RdL askK w A n l) (hn : n ≤ 9223372036854775807) : Calls Try.prog 4 #[.slice A n c] w (RetSome w) := by
  have HR := Lib.hid hr
  clear hr
  go_enter Try.func4, Try.ntmps4
  go_wp2_with fail
  go_loopw [3] (fun i wr => ∃ k : Nat, k ≤ n ∧ k ≤ 60 ∧ i = .int .i64 (k : Int) ∧ Hid (Ext w wr)) (fun i _ => n - (intOf i).toNat)
  case atStart => exact ⟨0, Nat.zero_le _, by omega, rfl, Ext.refl _⟩
  case round =>
    obtain ⟨k, hk, hk6, rfl, HX⟩ := hrel
    by_cases hlt : k < n
    · by_cases h60 : k < 60
      · obtain ⟨b, off, hl, t, rfl, hA, a0, a1, a2, a3, a4, a5⟩ := asks_at (HR.out.ext HX.out) hlt
        have hLA := longAsk_any l[k] t wr
        simp only [askV] at hLA
        have HLA := Lib.hid hLA
        clear hLA hA
        generalize l[k] = a at *
        go_wp2_with fail
        refine HLA.out.mono ?_
        rintro e w2 ⟨rfl, hx⟩
        have HX2 := Lib.hid (HX.out.trans hx)
        clear hx HLA
        generalize decide (70000 < t.n1 ∨ 70000 < t.n2 ∨ 70000 < t.n3) = P at *
        cases P
        · go_wp2_with fail
          go_roundw
          case rel => exact ⟨k + 1, by omega, by omega, by go_num, HX2⟩
          case measure => simp [intOf]; omega
        · go_wp2_with fail
          go_ret
          exact ⟨true, rfl, HX2.out⟩
      · go_wp2_with fail
        go_ret
        exact ⟨false, rfl, HX.out⟩
    · go_wp2_with fail
      go_ret
      exact ⟨false, rfl, HX.out⟩
theorem made19_any (z : Int) (l : List AskD) (A : Option Addr) (n c : Nat) (w : World) (hr : RdL askK w A n l) (hn : n ≤ 9223372036854775807) : Calls Try.prog 7 #[.int .i64 z, .slice A n c] w
    (fun e w' => ∃ s, e = .returned (.pointer (some ⟨s.p, 0, none⟩)) ∧ UnitAt w' s (madeU z l) ∧ Ext w w' ∧ FromU w.heap.size s) := by
  have hlen := hr.length
  have HR := Lib.hid hr
  have HP := Lib.hid (pick_eq z 64)
  have hp := pickF_lt z 64 (by omega)
  unfold madeU
  have HM := Lib.hid (show l = l from rfl)
  clear hr
  generalize pickF z 64 = m at *
  have hw : IntKind.i64.wrap (1 + (m : Int)) = 1 + (m : Int) := IntWalk.i64_in _ (by omega)
  have HN : Hid (∀ w, Calls Try.prog 14 #[.int .i64 5, .int .i64 (1 + (m : Int))] w (fun e w' => ∃ s, e = .returned (.tuple #[.pointer (some ⟨s.p, 0, none⟩), .int .i64 0]) ∧ UnitAt w' s (newU 5 (1 + m)) ∧ Ext w w' ∧ FromU w.heap.size s)) := fun w => by
    have h := new_v 5 (1 + m) w (by omega) (by omega)
    rw [show ((1 + m : Nat) : Int) = 1 + (m : Int) by omega] at h
    exact h
  have H0 : Hid (UnitOk (newU 5 (1 + m))) := newU_ok (by omega) (by omega)
  go_enter Try.func7, Try.ntmps7
  go_wp2_with fail
  refine (HP.out _ (by omega) (by omega)).mono ?_
  rintro e w0 ⟨rfl, rfl⟩
  go_wp2_with fail
  refine (HN.out _).mono ?_
  rintro e w1 ⟨s, rfl, hU, hx, hF⟩
  have HU := Lib.hid hU; have HX := Lib.hid hx; have HF := Lib.hid hF
  clear hU hx hF HN HP hw
  go_wp2_with fail
  go_loopw [7] (fun i wr => ∃ k : Nat, k ≤ n ∧ k ≤ 60 ∧ i = .int .i64 (k : Int) ∧ Hid (UnitAt wr s (playU (newU 5 (1 + m)) (l.take k))) ∧ Hid (Ext w wr)) (fun i _ => n - (intOf i).toNat)
  case atStart => exact ⟨0, Nat.zero_le _, by omega, rfl, by unfold Hid; rw [List.take_zero]; exact HU.out, HX.out⟩
  case round =>
    obtain ⟨k, hk, hk6, rfl, HA, HXr⟩ := hrel
    by_cases hlt : k < n
    · by_cases h60 : k < 60
      · obtain ⟨b, off, hl, t, rfl, hA, a0, a1, a2, a3, a4, a5⟩ := asks_at (HR.out.ext HXr.out) hlt
        have hwr : (playU (newU 5 (1 + m)) (l.take k)).wrote < 4611686018427387904 := by
          have h := playU_wrote (newU 5 (1 + m)) (l.take k)
          rw [List.length_take] at h
          have h2 : (newU 5 (1 + m)).wrote = 0 := rfl
          omega
        have hD := do_any (playU (newU 5 (1 + m)) (l.take k)) s l[k] t wr HA.out (playU_ok H0.out) hA hwr
        have HE : Hid (playU (newU 5 (1 + m)) (l.take (k + 1)) = (doU (playU (newU 5 (1 + m)) (l.take k)) l[k]).1) := by
          unfold Hid; rw [List.take_add_one, List.getElem?_eq_getElem hl]; exact playU_snoc _ _ _
        unfold pU at hD
        simp only [askV] at hD
        have HD := Lib.hid hD
        clear hD hA hwr
        generalize l[k] = a at *
        go_wp2_with fail
        refine HD.out.mono ?_
        rintro e w2 ⟨r, rfl, -, hU2, hO2, -⟩
        have HX2 := Lib.hid (OnlyU.ext hO2 HF.out HXr.out)
        have HU2 : Hid (UnitAt w2 s (playU (newU 5 (1 + m)) (l.take (k + 1)))) := by unfold Hid; rw [HE.out]; exact hU2
        clear hU2 hO2 HD HE a0 a1 a2 a3 a4 a5
        go_wp2_with fail
        go_roundw
        case rel => exact ⟨k + 1, by omega, by omega, by go_num, HU2, HX2⟩
        case measure => simp [intOf]; omega
      · have hke : k = 60 := by omega
        have HU3 : Hid (UnitAt wr s (playU (newU 5 (1 + m)) (l.take 60))) := by unfold Hid; rw [← hke]; exact HA.out
        go_wp2_with fail
        go_ret
        exact ⟨s, rfl, HU3.out, HXr.out, HF.out⟩
    · have HU3 : Hid (UnitAt wr s (playU (newU 5 (1 + m)) (l.take 60))) := by unfold Hid; have h := HA.out; rw [List.take_of_length_le (by omega)] at h ⊢; exact h
      go_wp2_with fail
      go_ret
      exact ⟨s, rfl, HU3.out, HXr.out, HF.out⟩
theorem whole_any (u : UnitD) (s : UnitS) (z : Int) (w : World) (hU : UnitAt w s u) (hu : UnitOk u) : Calls Try.prog 9 #[.pointer (some ⟨s.p, 0, none⟩), .int .i64 z] w
    (fun e w' => ∃ A n c, e = .returned (.slice A n c) ∧ Own w' w.heap.size 46 IsU16 A n c ((wholeU u (pickF z 64)).map cW) ∧ Ext w w') := by
  have HP := Lib.hid (pick_eq z 64)
  have hp := pickF_lt z 64 (by omega)
  unfold wholeU
  generalize pickF z 64 = m at *
  have HU := Lib.hid hU; have HOK := Lib.hid hu
  clear hU hu
  go_enter Try.func9, Try.ntmps9
  go_wp2_with fail
  go_loopw [5, 6, 7, 8, 9] (fun o i _ _ _ wr => ∃ (k : Nat) (A5 : Option Addr) (c5 : Nat), k ≤ 4 ∧ i = .int .i64 ((k + 1 : Nat) : Int) ∧ o = .slice A5 (k * (m + 1)) c5 ∧ Hid (Own wr w.heap.size 46 IsU16 A5 (k * (m + 1)) c5 ((wholeK u (m + 1) k).map cW)) ∧ Hid (Ext w wr)) (fun _ i _ _ _ _ => 6 - (intOf i).toNat)
  case atStart => exact ⟨0, none, 0, by omega, rfl, by simp, by unfold Hid; simp only [Nat.zero_mul]; exact Own.nil_ _ _ _ _, Ext.refl _⟩
  case round =>
    obtain ⟨k, A5, c5, hk, rfl, rfl, HO, HX⟩ := hrel
    rcases Nat.lt_or_ge k 4 with hlt | hge
    · have h4 : ((k + 1 : Nat) : Int) ≤ 4 := by omega
      obtain ⟨kk, hkk⟩ : ∃ kk, k + 1 = kk := ⟨_, rfl⟩
      rw [hkk] at h4 ⊢
      go_wp2_with fail
      go_loopw [5, 7, 8, 9] (fun o i _ _ w3 => ∃ (j : Nat) (A6 : Option Addr) (c6 : Nat), j ≤ m + 1 ∧ i = .int .i64 (j : Int) ∧ o = .slice A6 (k * (m + 1) + j) c6 ∧ Hid (Own w3 w.heap.size 46 IsU16 A6 (k * (m + 1) + j) c6 ((wholeK u (m + 1) k ++ rowU u kk j).map cW)) ∧ Hid (Ext w w3)) (fun _ i _ _ _ => m + 1 - (intOf i).toNat)
      case atStart => exact ⟨0, A5, c5, by omega, rfl, rfl, by unfold Hid; rw [show rowU u kk 0 = [] from rfl, List.append_nil]; exact HO.out, HX⟩
      case round =>
        obtain ⟨j, A6, c6, hj, rfl, rfl, HO6, HX6⟩ := hrel
        go_wp2_with fail
        refine (HP.out _ (by omega) (by omega)).mono ?_
        rintro e w0 ⟨rfl, rfl⟩
        rcases Nat.lt_or_ge j (m + 1) with hjl | hjg
        · have hjm : (j : Int) ≤ (m : Int) := by omega
          have hG := get_u u s (kk : Int) (j : Int) _ HOK.out (HU.out.ext HX6.out)
          unfold pU getV at hG
          have HG := Lib.hid hG
          have HRS := Lib.hid (rowU_snoc u kk j)
          clear hG
          generalize getU u (kk : Int) (j : Int) = g at *
          have hlt5 : k * (m + 1) ≤ 300 := Nat.le_trans (Nat.mul_le_mul_right _ (by omega : k ≤ 4)) (by omega)
          go_wp2_with fail
          refine HG.out.mono ?_
          rintro e w4 ⟨rfl, rfl⟩
          go_wp2_with (at_builtin; refine app_u16 _ rfl (.tmp 27) (.tmp 29) rfl rfl (HO6.out.ext (Ext.alloc _ _)) rfl (Rd.one _ _ _) (by intro u hu; simp at hu; subst hu; exact ⟨_, rfl⟩) (by omega) (Nat.le_trans HX6.out.size (Ext.alloc _ _).size) ?_
                       intro A7 c7 w7 hown hgr hbk
                       have KX := Lib.hid ((HX6.out.trans (Ext.alloc _ _)).grown' hgr (fun g' e => (HO6.out.lt g' e).1))
                       have KO := Lib.hid hown
                       clear hown hgr hbk)
          go_roundw
          case rel =>
            refine ⟨j + 1, A7, c7, by omega, by go_num, rfl, Lib.hid ?_, KX⟩
            have h := KO.out
            rw [HRS.out, ← List.append_assoc, List.map_append]
            exact h
          case measure => simp [intOf]; omega
        · have hje : j = m + 1 := by omega
          have hjm : ¬ (j : Int) ≤ (m : Int) := by omega
          have HO7 : Hid (Own wr w.heap.size 46 IsU16 A6 ((k + 1) * (m + 1)) c6 ((wholeK u (m + 1) (k + 1)).map cW)) := by
            have h := HO6.out
            rw [hje, ← hkk] at h
            unfold Hid
            rw [wholeK, Nat.succ_mul]
            exact h
          have hn7 : k * (m + 1) + j = (k + 1) * (m + 1) := by rw [hje, Nat.succ_mul]
          rw [hn7]
          clear HO6 hn7 hje
          go_wp2_with fail
          go_roundw
          case rel => exact ⟨k + 1, A6, c6, by omega, by rw [← hkk]; go_num, by rw [← hkk], HO7, HX6⟩
          case measure => rw [← hkk]; simp [intOf]; omega
    · obtain rfl : k = 4 := by omega
      go_wp2_with fail
      go_ret
      exact ⟨A5, _, c5, rfl, HO.out, HX.out⟩
end Go.Proofs.Ytdflnmphiglmaaa
