/- Answers to requests (chapter 04): what they read as; contracts of reply.foreign and reply.counted. -/
import Derived.Test.YtcnjhjfepojdaaaAskP
import Derived.Test.YtcnjhjfepojdaaaKitW
import Derived.BigQuiet
import Derived.Deep.QuietTactic
namespace Go.Out
set_option linter.unusedVariables false
open Go Go.RowKit
structure RepD where
  exc : Int
  on : List Bool
  set : List UInt16
  files : List (List UInt16)
def rep0 : RepD := ⟨0, [], [], []⟩
structure RepS where
  A1 : Option Addr
  n1 : Nat
  c1 : Nat
  A2 : Option Addr
  n2 : Nat
  c2 : Nat
  A3 : Option Addr
  n3 : Nat
  c3 : Nat
def repS0 : RepS := ⟨none, 0, 0, none, 0, 0, none, 0, 0⟩
def repV (r : RepD) (s : RepS) : Value := .agg #[.int .i64 r.exc, .slice s.A1 s.n1 s.c1, .slice s.A2 s.n2 s.c2, .slice s.A3 s.n3 s.c3]
/-- A row of words, as its one cell. -/
def fileK : Kind (List UInt16) := ⟨1, fun w cs x => ∃ A n c, cs = [.slice A n c] ∧ Rd w A n (x.map cW) ∧ n ≤ c ∧ c ≤ 9223372036854775807 ∧ n ≤ 70368744175616, fun ⟨A, n, c, h1, h2, h3⟩ hx => ⟨A, n, c, h1, h2.ext hx, h3⟩⟩
/-- Has an answer that is no exception a list that it should not have? -/
def foreignB (code : Int) (n1 n2 n3 : Nat) : Bool :=
  if code = 1 ∨ code = 2 then decide (0 < n2) || decide (0 < n3) else if code = 3 ∨ code = 4 then decide (0 < n1) || decide (0 < n3)
  else if code = 20 then decide (0 < n1) || decide (0 < n2) else decide (0 < n1) || decide (0 < n2) || decide (0 < n3)
/-- Are the rows as long as the parts say? -/
def sizedB : List (List UInt16) → List PartD → Bool
  | [], [] => true
  | f :: fs, p :: ps => decide ((f.length : Int) = p.len) && sizedB fs ps
  | _, _ => false
def countedB (a : AskD) (r : RepD) : Bool :=
  if a.code = 1 ∨ a.code = 2 then decide ((r.on.length : Int) = a.count) else if a.code = 3 ∨ a.code = 4 then decide ((r.set.length : Int) = a.count) else sizedB r.files a.parts
def checkR (a : AskD) (r : RepD) : Int :=
  if checkF a ≠ 0 then checkF a else if r.exc ≠ 0 then (if r.exc < 1 ∨ 127 < r.exc then 3 else if 0 < r.on.length ∨ 0 < r.set.length ∨ 0 < r.files.length then 23 else 0)
  else if foreignB a.code r.on.length r.set.length r.files.length = true then 23 else if countedB a r = false then 22 else 0
theorem sizedB_len : ∀ {fs : List (List UInt16)} {ps : List PartD}, fs.length ≠ ps.length → sizedB fs ps = false
  | [], [], h => absurd rfl h
  | [], _ :: _, _ => rfl
  | _ :: _, [], _ => rfl
  | f :: fs, p :: ps, h => by
    unfold sizedB
    rw [sizedB_len (by simpa using h), Bool.and_false]
theorem sizedB_iff : ∀ {fs : List (List UInt16)} {ps : List PartD}, fs.length = ps.length → (sizedB fs ps = true ↔ ∀ (k : Nat) (h1 : k < fs.length) (h2 : k < ps.length), (fs[k].length : Int) = ps[k].len)
  | [], [], _ => by simp [sizedB]
  | [], _ :: _, h => by simp at h
  | _ :: _, [], h => by simp at h
  | f :: fs, p :: ps, h => by
    have ih := sizedB_iff (fs := fs) (ps := ps) (by simpa using h)
    unfold sizedB
    rw [Bool.and_eq_true, decide_eq_true_iff, ih]
    constructor
    · rintro ⟨h1, h2⟩ k q1 q2
      rcases k with _ | k
      · exact h1
      · exact h2 k (by simpa using q1) (by simpa using q2)
    · intro hh
      exact ⟨hh 0 (by simp) (by simp), fun k q1 q2 => hh (k + 1) (by simpa using q1) (by simpa using q2)⟩
theorem rep_cells (W : World) {w : World} {v0 v1 v2 v3 : Value} {t : TypeId} (hX : Ext (w.alloc (.cells #[v0, v1, v2, v3] t)) W) :
    W.cell? ⟨w.heap.size, 0, none⟩ = some v0 ∧ W.cell? ⟨w.heap.size, 1, none⟩ = some v1 ∧ W.cell? ⟨w.heap.size, 2, none⟩ = some v2 ∧ W.cell? ⟨w.heap.size, 3, none⟩ = some v3 := by
  have h := hX.block (heap_alloc_new w _)
  exact ⟨cell_of_row _ _ _ _ _ _ h, cell_of_row _ _ _ _ _ _ h, cell_of_row _ _ _ _ _ _ h, cell_of_row _ _ _ _ _ _ h⟩
end Go.Out
namespace Go.Proofs.Ytcnjhjfepojdaaa
set_option linter.unusedVariables false
set_option linter.unusedSimpArgs false
set_option maxRecDepth 100000
set_option maxHeartbeats 2000000
open Go Go.RowKit Go.Out

structure RepRd (w : World) (r : RepD) (s : RepS) : Prop where
  on : Rd w s.A1 s.n1 (r.on.map cL)
  set : Rd w s.A2 s.n2 (r.set.map cW)
  files : RdL fileK w s.A3 s.n3 r.files
  exc : i64P r.exc
  cap1 : s.n1 ≤ s.c1 ∧ s.c1 ≤ 9223372036854775807
  cap2 : s.n2 ≤ s.c2 ∧ s.c2 ≤ 9223372036854775807
  cap3 : s.n3 ≤ s.c3 ∧ s.c3 ≤ 9223372036854775807
theorem RepRd.ext {w w' : World} {r : RepD} {s : RepS} (h : RepRd w r s) (hx : Ext w w') : RepRd w' r s :=
  ⟨h.on.ext hx, h.set.ext hx, h.files.ext hx, h.exc, h.cap1, h.cap2, h.cap3⟩
theorem RepRd.n1 {w : World} {r : RepD} {s : RepS} (h : RepRd w r s) : r.on.length = s.n1 := by have := h.on.length; simpa using this
theorem RepRd.n2 {w : World} {r : RepD} {s : RepS} (h : RepRd w r s) : r.set.length = s.n2 := by have := h.set.length; simpa using this
theorem RepRd.n3 {w : World} {r : RepD} {s : RepS} (h : RepRd w r s) : r.files.length = s.n3 := h.files.length

end Go.Proofs.Ytcnjhjfepojdaaa
