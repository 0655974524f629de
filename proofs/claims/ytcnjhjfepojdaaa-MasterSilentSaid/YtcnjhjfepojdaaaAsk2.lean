/- Contracts of the requests: what a code's requests are like. -/
import Derived.Test.YtcnjhjfepojdaaaAskPure2
import Derived.Test.YtcnjhjfepojdaaaIntRow
import Derived.Test.YtcnjhjfepojdaaaKitA
namespace Go.Proofs.Ytcnjhjfepojdaaa
set_option linter.unusedVariables false
set_option linter.unusedSimpArgs false
open Go Go.RowKit Go.Out

def shapeV (c : Int) : Value := .agg #[.int .i64 (if codeP c then mostF c else 0), .bool (decide (isCnt c)), .bool (decide (isOn c)), .bool (decide (isSet c)), .bool (decide (c = 20))]
theorem notCode {c : Int} (h : ¬ codeP c) : ¬ c = 1 ∧ ¬ c = 2 ∧ ¬ c = 3 ∧ ¬ c = 4 ∧ ¬ c = 5 ∧ ¬ c = 6 ∧ ¬ c = 15 ∧ ¬ c = 16 ∧ ¬ c = 20 := by
  unfold codeP isCnt isOn isSet at h; omega

theorem shapeOf_any (c : Int) (w : World) :
    Calls Try.prog 31 #[.int .i64 c] w fun e w' => e = .returned (.tuple #[shapeV c, .bool (decide (codeP c))]) ∧ Ext w w' := by
  by_cases hp : codeP c
  · rcases codeP_cases hp with rfl | rfl | rfl | rfl | rfl | rfl | rfl | rfl | rfl
    all_goals
      go_enter Try.func31, Try.ntmps31
      go_wp2_with fail
      exact bodyPost_ret (by simp [results, Try.results31, go_sem]; exact ⟨rfl, hp⟩) rfl ⟨rfl, Ext.alloc _ _⟩
  · obtain ⟨h1, h2, h3, h4, h5, h6, h7, h8, h9⟩ := notCode hp
    have hs : shapeV c = .agg #[.int .i64 0, .bool false, .bool false, .bool false, .bool false] := by
      have hq := hp
      unfold codeP at hq
      simp only [not_or] at hq
      unfold shapeV
      rw [if_neg hp, decide_eq_false hq.1, decide_eq_false hq.2.1, decide_eq_false hq.2.2.1, decide_eq_false hq.2.2.2]
    rw [hs, decide_eq_false hp]
    clear hs
    go_enter Try.func31, Try.ntmps31
    go_wp2_with fail
    exact bodyPost_ret (by simp [results, Try.results31, go_sem]) rfl ⟨rfl, Ext.alloc _ _⟩
end Go.Proofs.Ytcnjhjfepojdaaa

namespace Go.Proofs.Ytcnjhjfepojdaaa
set_option linter.unusedVariables false
set_option linter.unusedSimpArgs false
open Go Go.RowKit Go.Out

def i64P (x : Int) : Prop := -9223372036854775808 ≤ x ∧ x ≤ 9223372036854775807
def partCells (p : PartD) : List Value := [.int .i64 p.file, .int .i64 p.record, .int .i64 p.len]
/-- A part of a file, as its three cells. -/
def partK : Kind PartD := ⟨3, fun _ cs p => cs = partCells p ∧ i64P p.file ∧ i64P p.record ∧ i64P p.len, fun h _ => h⟩
structure AskS where
  A1 : Option Addr
  n1 : Nat
  c1 : Nat
  A2 : Option Addr
  n2 : Nat
  c2 : Nat
  A3 : Option Addr
  n3 : Nat
  c3 : Nat
def askV (a : AskD) (s : AskS) : Value := .agg #[.int .i64 a.code, .int .i64 a.addr, .int .i64 a.count, .slice s.A1 s.n1 s.c1, .slice s.A2 s.n2 s.c2, .slice s.A3 s.n3 s.c3]
/-- A request value reads so. -/
structure AskRd (w : World) (a : AskD) (s : AskS) : Prop where
  on : Rd w s.A1 s.n1 (a.on.map cL)
  set : Rd w s.A2 s.n2 (a.set.map cW)
  parts : RdL partK w s.A3 s.n3 a.parts
  code : i64P a.code
  addr : i64P a.addr
  count : i64P a.count
  cap1 : s.n1 ≤ s.c1 ∧ s.c1 ≤ 9223372036854775807
  cap2 : s.n2 ≤ s.c2 ∧ s.c2 ≤ 9223372036854775807
  cap3 : s.n3 ≤ s.c3 ∧ s.c3 ≤ 9223372036854775807
theorem AskRd.ext {w w' : World} {a : AskD} {s : AskS} (h : AskRd w a s) (hx : Ext w w') : AskRd w' a s :=
  ⟨h.on.ext hx, h.set.ext hx, h.parts.ext hx, h.code, h.addr, h.count, h.cap1, h.cap2, h.cap3⟩
theorem AskRd.n1 {w : World} {a : AskD} {s : AskS} (h : AskRd w a s) : a.on.length = s.n1 := by have := h.on.length; simpa using this
theorem AskRd.n2 {w : World} {a : AskD} {s : AskS} (h : AskRd w a s) : a.set.length = s.n2 := by have := h.set.length; simpa using this
theorem AskRd.n3 {w : World} {a : AskD} {s : AskS} (h : AskRd w a s) : a.parts.length = s.n3 := h.parts.length

theorem shape_kind {c : Int} (h : codeP c) : 1 ≤ mostF c ∧ mostF c ≤ 2000 ∧
    ((isCnt c ∧ ¬ isOn c ∧ ¬ isSet c ∧ c ≠ 20 ∧ shapeV c = .agg #[.int .i64 (mostF c), .bool true, .bool false, .bool false, .bool false]) ∨
    (¬ isCnt c ∧ isOn c ∧ ¬ isSet c ∧ c ≠ 20 ∧ shapeV c = .agg #[.int .i64 (mostF c), .bool false, .bool true, .bool false, .bool false]) ∨
    (¬ isCnt c ∧ ¬ isOn c ∧ isSet c ∧ c ≠ 20 ∧ shapeV c = .agg #[.int .i64 (mostF c), .bool false, .bool false, .bool true, .bool false]) ∨
    (¬ isCnt c ∧ ¬ isOn c ∧ ¬ isSet c ∧ c = 20 ∧ mostF c = 35 ∧ shapeV c = .agg #[.int .i64 35, .bool false, .bool false, .bool false, .bool true])) := by
  refine ⟨?_, ?_, ?_⟩
  · unfold mostF; repeat' split
    all_goals omega
  · unfold mostF; repeat' split
    all_goals omega
  · rcases codeP_cases h with rfl | rfl | rfl | rfl | rfl | rfl | rfl | rfl | rfl
    · exact .inl ⟨by decide, by decide, by decide, by decide, rfl⟩
    · exact .inl ⟨by decide, by decide, by decide, by decide, rfl⟩
    · exact .inl ⟨by decide, by decide, by decide, by decide, rfl⟩
    · exact .inl ⟨by decide, by decide, by decide, by decide, rfl⟩
    · exact .inr (.inl ⟨by decide, by decide, by decide, by decide, rfl⟩)
    · exact .inr (.inr (.inl ⟨by decide, by decide, by decide, by decide, rfl⟩))
    · exact .inr (.inl ⟨by decide, by decide, by decide, by decide, rfl⟩)
    · exact .inr (.inr (.inl ⟨by decide, by decide, by decide, by decide, rfl⟩))
    · exact .inr (.inr (.inr ⟨by decide, by decide, by decide, by decide, rfl, rfl⟩))

theorem many_any (a : AskD) (s : AskS) (w : World) (h1 : a.on.length = s.n1) (h2 : a.set.length = s.n2) (h3 : a.parts.length = s.n3) (hp : codeP a.code) :
    Calls Try.prog 39 #[shapeV a.code, askV a s] w fun e w' => e = .returned (.int .i64 (manyF a)) ∧ Ext w w' := by
  unfold manyF
  rw [h1, h2, h3]
  clear h1 h2 h3
  obtain ⟨code, addr, count, on, set, parts⟩ := a
  obtain ⟨A1, n1, c1, A2, n2, c2, A3, n3, c3⟩ := s
  simp only [askV] at hp ⊢
  obtain ⟨-, -, hk⟩ := shape_kind hp
  rcases hk with ⟨k1, k2, k3, k4, hs⟩ | ⟨k1, k2, k3, k4, hs⟩ | ⟨k1, k2, k3, k4, hs⟩ | ⟨k1, k2, k3, k4, k5, hs⟩
  · rw [hs, if_pos k1]
    go_enter Try.func39, Try.ntmps39
    go_wp2_with fail
    go_ret
    exact ⟨rfl, (Ext.alloc _ _).trans (Ext.alloc _ _)⟩
  · rw [hs, if_neg k1, if_pos k2]
    go_enter Try.func39, Try.ntmps39
    go_wp2_with fail
    go_ret
    exact ⟨rfl, (Ext.alloc _ _).trans (Ext.alloc _ _)⟩
  · rw [hs, if_neg k1, if_neg k2, if_pos k3]
    go_enter Try.func39, Try.ntmps39
    go_wp2_with fail
    go_ret
    exact ⟨rfl, (Ext.alloc _ _).trans (Ext.alloc _ _)⟩
  · rw [hs, if_neg k1, if_neg k2, if_neg k3]
    go_enter Try.func39, Try.ntmps39
    go_wp2_with fail
    go_ret
    exact ⟨rfl, (Ext.alloc _ _).trans (Ext.alloc _ _)⟩
end Go.Proofs.Ytcnjhjfepojdaaa
