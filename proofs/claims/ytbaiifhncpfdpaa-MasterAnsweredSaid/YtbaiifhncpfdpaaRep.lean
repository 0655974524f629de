/- Answers to requests (chapter 04): what they read as; contracts of reply.foreign and reply.counted. -/
import Derived.Test.YtbaiifhncpfdpaaAskP
import Derived.Test.YtbaiifhncpfdpaaKitW
import Derived.BigQuiet
import Derived.Deep.QuietTactic
namespace Go.Out
set_option linter.unusedVariables false
open Go Go.RowKit
structure RepD where
  exc : Int
  on : List Bool
  set : List UInt16
  files : List (List UInt16)
def rep0 : RepD := ⟨0, [], [], []⟩
structure RepS where
  A1 : Option Addr
  n1 : Nat
  c1 : Nat
  A2 : Option Addr
  n2 : Nat
  c2 : Nat
  A3 : Option Addr
  n3 : Nat
  c3 : Nat
def repS0 : RepS := ⟨none, 0, 0, none, 0, 0, none, 0, 0⟩
def repV (r : RepD) (s : RepS) : Value := .agg #[.int .i64 r.exc, .slice s.A1 s.n1 s.c1, .slice s.A2 s.n2 s.c2, .slice s.A3 s.n3 s.c3]
/-- A row of words, as its one cell. -/
def fileK : Kind (List UInt16) := ⟨1, fun w cs x => ∃ A n c, cs = [.slice A n c] ∧ Rd w A n (x.map cW) ∧ n ≤ c ∧ c ≤ 9223372036854775807 ∧ n ≤ 70368744175616, fun ⟨A, n, c, h1, h2, h3⟩ hx => ⟨A, n, c, h1, h2.ext hx, h3⟩⟩
/-- Has an answer that is no exception a list that it should not have? -/
def foreignB (code : Int) (n1 n2 n3 : Nat) : Bool :=
  if code = 1 ∨ code = 2 then decide (0 < n2) || decide (0 < n3) else if code = 3 ∨ code = 4 then decide (0 < n1) || decide (0 < n3)
  else if code = 20 then decide (0 < n1) || decide (0 < n2) else decide (0 < n1) || decide (0 < n2) || decide (0 < n3)
/-- Are the rows as long as the parts say? -/
def sizedB : List (List UInt16) → List PartD → Bool
  | [], [] => true
  | f :: fs, p :: ps => decide ((f.length : Int) = p.len) && sizedB fs ps
  | _, _ => false
def countedB (a : AskD) (r : RepD) : Bool :=
  if a.code = 1 ∨ a.code = 2 then decide ((r.on.length : Int) = a.count) else if a.code = 3 ∨ a.code = 4 then decide ((r.set.length : Int) = a.count) else sizedB r.files a.parts
def checkR (a : AskD) (r : RepD) : Int :=
  if checkF a ≠ 0 then checkF a else if r.exc ≠ 0 then (if r.exc < 1 ∨ 127 < r.exc then 3 else if 0 < r.on.length ∨ 0 < r.set.length ∨ 0 < r.files.length then 23 else 0)
  else if foreignB a.code r.on.length r.set.length r.files.length = true then 23 else if countedB a r = false then 22 else 0
theorem sizedB_len : ∀ {fs : List (List UInt16)} {ps : List PartD}, fs.length ≠ ps.length → sizedB fs ps = false
  | [], [], h => absurd rfl h
  | [], _ :: _, _ => rfl
  | _ :: _, [], _ => rfl
  | f :: fs, p :: ps, h => by
    unfold sizedB
    rw [sizedB_len (by simpa using h), Bool.and_false]
theorem sizedB_iff : ∀ {fs : List (List UInt16)} {ps : List PartD}, fs.length = ps.length → (sizedB fs ps = true ↔ ∀ (k : Nat) (h1 : k < fs.length) (h2 : k < ps.length), (fs[k].length : Int) = ps[k].len)
  | [], [], _ => by simp [sizedB]
  | [], _ :: _, h => by simp at h
  | _ :: _, [], h => by simp at h
  | f :: fs, p :: ps, h => by
    have ih := sizedB_iff (fs := fs) (ps := ps) (by simpa using h)
    unfold sizedB
    rw [Bool.and_eq_true, decide_eq_true_iff, ih]
    constructor
    · rintro ⟨h1, h2⟩ k q1 q2
      rcases k with _ | k
      · exact h1
      · exact h2 k (by simpa using q1) (by simpa using q2)
    · intro hh
      exact ⟨hh 0 (by simp) (by simp), fun k q1 q2 => hh (k + 1) (by simpa using q1) (by simpa using q2)⟩
theorem rep_cells (W : World) {w : World} {v0 v1 v2 v3 : Value} {t : TypeId} (hX : Ext (w.alloc (.cells #[v0, v1, v2, v3] t)) W) :
    W.cell? ⟨w.heap.size, 0, none⟩ = some v0 ∧ W.cell? ⟨w.heap.size, 1, none⟩ = some v1 ∧ W.cell? ⟨w.heap.size, 2, none⟩ = some v2 ∧ W.cell? ⟨w.heap.size, 3, none⟩ = some v3 := by
  have h := hX.block (heap_alloc_new w _)
  exact ⟨cell_of_row _ _ _ _ _ _ h, cell_of_row _ _ _ _ _ _ h, cell_of_row _ _ _ _ _ _ h, cell_of_row _ _ _ _ _ _ h⟩
end Go.Out
namespace Go.Proofs.Ytbaiifhncpfdpaa
set_option linter.unusedVariables false
set_option linter.unusedSimpArgs false
set_option maxRecDepth 100000
set_option maxHeartbeats 2000000
open Go Go.RowKit Go.Out

structure RepRd (w : World) (r : RepD) (s : RepS) : Prop where
  on : Rd w s.A1 s.n1 (r.on.map cL)
  set : Rd w s.A2 s.n2 (r.set.map cW)
  files : RdL fileK w s.A3 s.n3 r.files
  exc : i64P r.exc
  cap1 : s.n1 ≤ s.c1 ∧ s.c1 ≤ 9223372036854775807
  cap2 : s.n2 ≤ s.c2 ∧ s.c2 ≤ 9223372036854775807
  cap3 : s.n3 ≤ s.c3 ∧ s.c3 ≤ 9223372036854775807
theorem RepRd.ext {w w' : World} {r : RepD} {s : RepS} (h : RepRd w r s) (hx : Ext w w') : RepRd w' r s :=
  ⟨h.on.ext hx, h.set.ext hx, h.files.ext hx, h.exc, h.cap1, h.cap2, h.cap3⟩
theorem RepRd.n1 {w : World} {r : RepD} {s : RepS} (h : RepRd w r s) : r.on.length = s.n1 := by have := h.on.length; simpa using this
theorem RepRd.n2 {w : World} {r : RepD} {s : RepS} (h : RepRd w r s) : r.set.length = s.n2 := by have := h.set.length; simpa using this
theorem RepRd.n3 {w : World} {r : RepD} {s : RepS} (h : RepRd w r s) : r.files.length = s.n3 := h.files.length

theorem foreign_any (code exc : Int) (A1 A2 A3 : Option Addr) (n1 c1 n2 c2 n3 c3 : Nat) (w : World) (hp : codeP code) :
    Calls Try.prog 49 #[.int .i64 code, .agg #[.int .i64 exc, .slice A1 n1 c1, .slice A2 n2 c2, .slice A3 n3 c3]] w (RetQ w (foreignB code n1 n2 n3)) := by
  rcases codeP_cases hp with rfl | rfl | rfl | rfl | rfl | rfl | rfl | rfl | rfl
  all_goals
    clear hp
    go_enter Try.func49, Try.ntmps49
    go_wp2_with fail
    go_quiet (fail)
    go_wp2_with fail
    all_goals
      go_ret
      refine RetQ.of ?_ (by repeat' (first | with_reducible exact Ext.alloc _ _ | with_reducible refine Ext.drewN' ?_ _ | with_reducible refine Ext.drew' ?_))
      simp [foreignB]
      try omega
theorem counted_len (a : AskD) (r : RepD) (s : AskS) (t : RepS) (w : World) (h1 : a.code = 1 ∨ a.code = 2 ∨ a.code = 3 ∨ a.code = 4) (hr : RepRd w r t) :
    Calls Try.prog 50 #[askV a s, repV r t] w (RetQ w (countedB a r)) := by
  have e1 := hr.n1; have e2 := hr.n2
  obtain ⟨code, addr, count, on, set, parts⟩ := a
  obtain ⟨exc, ron, rset, files⟩ := r
  obtain ⟨A1, n1, c1, A2, n2, c2, A3, n3, c3⟩ := s
  obtain ⟨B1, m1, k1, B2, m2, k2, B3, m3, k3⟩ := t
  simp only at e1 e2 h1
  simp only [askV, repV]
  clear hr
  rcases h1 with rfl | rfl | rfl | rfl
  all_goals
    go_enter Try.func50, Try.ntmps50
    go_wp2_with fail
    go_ret
    refine RetQ.of ?_ ((Ext.alloc _ _).trans (Ext.alloc _ _))
    simp [countedB, e1, e2]
    try rfl
theorem counted_rows (a : AskD) (r : RepD) (s : AskS) (t : RepS) (w : World) (h1 : a.code ≠ 1) (h2 : a.code ≠ 2) (h3 : a.code ≠ 3) (h4 : a.code ≠ 4) (ha : AskRd w a s) (hr : RepRd w r t) :
    Calls Try.prog 50 #[askV a s, repV r t] w (RetQ w (countedB a r)) := by
  have e3 := ha.n3; have g3 := hr.n3
  have hC : countedB a r = sizedB r.files a.parts := by unfold countedB; rw [if_neg (by omega), if_neg (by omega)]
  have HA := Lib.hid ha.parts
  have HR := Lib.hid hr.files
  have q1 := hr.cap3; have q2 := ha.cap3
  obtain ⟨code, addr, count, on, set, parts⟩ := a
  obtain ⟨exc, ron, rset, files⟩ := r
  obtain ⟨A1, n1, c1, A2, n2, c2, A3, n3, c3⟩ := s
  obtain ⟨B1, m1, k1, B2, m2, k2, B3, m3, k3⟩ := t
  simp only at e3 g3 h1 h2 h3 h4 q1 q2 HA HR hC
  simp only [askV, repV]
  rw [hC]
  clear ha hr hC
  by_cases hl : m3 = n3
  · subst hl
    have HI := Lib.hid (sizedB_iff (fs := files) (ps := parts) (by omega))
    have G3 := Lib.hid g3; have E3 := Lib.hid e3
    clear e3 g3
    go_enter Try.func50, Try.ntmps50
    go_wp2_with fail
    obtain ⟨V, hV⟩ : ∃ V, (w.alloc (.cells #[.int .i64 code, .int .i64 addr, .int .i64 count, .slice A1 n1 c1, .slice A2 n2 c2, .slice A3 m3 c3] 26)).alloc (.cells #[.int .i64 exc, .slice B1 m1 k1, .slice B2 m2 k2, .slice B3 m3 k3] 41) = V := ⟨_, rfl⟩
    have XV := Lib.hid (show Ext w V from hV ▸ (Ext.alloc _ _).trans (Ext.alloc _ _))
    have HB := Lib.hid (show V.heap[w.heap.size + 1]? = some (.cells #[.int .i64 exc, .slice B1 m1 k1, .slice B2 m2 k2, .slice B3 m3 k3] 41 (0, 0)) from hV ▸ heap_at _ _ _ (by simp))
    rw [hV]
    clear hV
    go_loopw [5, 6, 37] (fun i p j wr => ∃ k : Nat, k ≤ m3 ∧ j = .int .i64 (k : Int) ∧ Ext V wr ∧ Hid (∀ (q : Nat) (h1 : q < files.length) (h2 : q < parts.length), q < k → (files[q].length : Int) = parts[q].len)) (fun _ _ j _ => m3 - (intOf j).toNat)
    case atStart => exact ⟨0, by omega, rfl, Ext.refl _, Lib.hid fun q _ _ h => absurd h (by omega)⟩
    case round =>
      obtain ⟨k, hk, rfl, hx, HG⟩ := hrel
      rcases Nat.lt_or_ge k m3 with hlt | hge
      · have hf : k < files.length := by rw [G3.out]; exact hlt
        have hp : k < parts.length := by rw [E3.out]; exact hlt
        obtain ⟨b, off, rfl, hbk, hl', cs, -, hc, hR⟩ := (HA.out.ext (XV.out.trans hx)).at_ hlt
        obtain ⟨rfl, -⟩ := id hR
        have d0 : wr.cell? ⟨b, off + k * 3, none⟩ = some (.int .i64 parts[k].file) := hc 0 _ rfl
        have d1 : wr.cell? ⟨b, off + k * 3 + 1, none⟩ = some (.int .i64 parts[k].record) := hc 1 _ rfl
        have d2 : wr.cell? ⟨b, off + k * 3 + 2, none⟩ = some (.int .i64 parts[k].len) := hc 2 _ rfl
        have e3 : wr.cell? ⟨w.heap.size + 1, 3, none⟩ = some (.slice B3 m3 k3) := cell_of_row _ _ _ _ _ _ (hx.block HB.out)
        obtain ⟨g, of2, rfl, hgk, hl2, cs2, -, hc2, A5, n5, c5, rfl, hr5, -⟩ := (HR.out.ext (XV.out.trans hx)).at_ hlt
        have f0 : wr.cell? ⟨g, of2 + k, none⟩ = some (.slice A5 n5 c5) := by have := hc2 0 _ rfl; simpa [fileK] using this
        have hn5 : files[k].length = n5 := by have := hr5.length; simpa using this
        have hz : w.heap.size + 1 < wr.heap.size := Nat.lt_of_lt_of_le (lt_of_heap HB.out) hx.size
        have e3' := fun o : Obj => (Ext.alloc wr o).cell hz e3
        have f0' := fun o : Obj => (Ext.alloc wr o).cell hgk f0
        have HN := Lib.hid hn5
        have X0 := Lib.hid hx
        have HGS : Hid ((n5 : Int) = parts[k].len → ∀ (q : Nat) (h1 : q < files.length) (h2 : q < parts.length), q < k + 1 → (files[q].length : Int) = parts[q].len) := fun he q q1 q2 hq => by
          by_cases hqk : q = k
          · subst hqk; rw [HN.out]; exact he
          · exact HG.out q q1 q2 (by omega)
        have HGN : Hid ((n5 : Int) ≠ parts[k].len → sizedB files parts = false) := fun he => by
          cases hs : sizedB files parts with
          | false => rfl
          | true => exact absurd (by rw [← HN.out]; exact HI.out.1 hs k hf hp) he
        generalize parts[k].file = P0 at *
        generalize parts[k].record = P1 at *
        generalize parts[k].len = P2 at *
        clear hc hR hc2 hr5 hn5 hx HI HG
        by_cases he : (n5 : Int) = P2
        · have ht : ((n5 : Int) != P2) = false := by simpa using he
          go_wp2_with fail
          go_quiet (fail)
          go_wp2_with fail
          go_roundw
          case rel => exact ⟨k + 1, by omega, by go_num, by repeat' (first | with_reducible exact X0.out | with_reducible refine Ext.drewN' ?_ _ | with_reducible refine Ext.drew' ?_ | with_reducible refine Ext.alloc' ?_ _), Lib.hid (HGS.out he)⟩
          case measure => simp [intOf]; omega
        · have ht : ((n5 : Int) != P2) = true := by simpa using he
          go_wp2_with fail
          go_quiet (fail)
          go_wp2_with fail
          go_ret
          refine RetQ.of (HGN.out he) (XV.out.trans ?_)
          repeat' (first | with_reducible exact X0.out | with_reducible refine Ext.drewN' ?_ _ | with_reducible refine Ext.drew' ?_ | with_reducible refine Ext.alloc' ?_ _)
      · obtain rfl : k = m3 := by omega
        go_wp2_with fail
        all_goals
          go_ret
          refine RetQ.of ?_ (XV.out.trans hx)
          exact HI.out.2 fun q h1 h2 => HG.out q h1 h2 (by rw [← G3.out]; exact h1)
  · have hf : sizedB files parts = false := sizedB_len (by omega)
    rw [hf]
    have hl2 : ((m3 : Int) != (n3 : Int)) = true := by simp; omega
    go_enter Try.func50, Try.ntmps50
    go_wp2_with fail
    go_ret
    exact ⟨rfl, (Ext.alloc _ _).trans (Ext.alloc _ _)⟩
end Go.Proofs.Ytbaiifhncpfdpaa
