/- How the structs of layer 05 are opened. -/
import Derived.Test.YtemiahjdacckgaaSees
import Derived.Test.YtemiahjdacckgaaKitA
import Derived.Lib.SmallJoins
namespace Go.Proofs.Ytemiahjdacckgaa
set_option linter.unusedVariables false
open Go Go.RowKit Go.Out Go.ChangeShapes Go.WideShapes

theorem c_u8 : Try.prog.cellsOf 5 = 1 := by kernel_rfl
theorem c_u16 : Try.prog.cellsOf 23 = 1 := by kernel_rfl
theorem c_int : Try.prog.cellsOf 3 = 1 := by kernel_rfl
theorem c_u8s : Try.prog.cellsOf 22 = 1 := by kernel_rfl
theorem by_u8 : Try.prog.bytesOf 5 = 1 := by kernel_rfl
theorem u8_ex {a : Int} (wf : (Lit.int .u8 a).wf = true) : ∃ u : UInt8, a = (u.toNat : Int) :=
  ⟨UInt8.ofNat a.toNat, by have h1 := (bounds_u8 wf).1; have h2 := (bounds_u8 wf).2; simp; omega⟩
theorem u16_ex {a : Int} (wf : (Lit.int .u16 a).wf = true) : ∃ M : Nat, a = (M : Int) ∧ M < 65536 :=
  ⟨a.toNat, by have h1 := (bounds_u16 wf).1; have h2 := (bounds_u16 wf).2; omega, by have h1 := (bounds_u16 wf).1; have h2 := (bounds_u16 wf).2; omega⟩

theorem sees_turn {H : Type} {enc : TypeId × Value → H} {w : World} {cs : Array Value} (h : Sees enc Try.prog w 59 cs.toList) :
    ∃ (u : UInt8) (l : List UInt8) (A : Option Addr) (n c : Nat) (x : Int) (M : Nat), cs = #[.int .u8 (u.toNat : Int), .slice A n c, .int .i64 x, .int .u16 (M : Int)] ∧ Rd w A n (l.map cB) ∧ n ≤ c ∧ c * 1 ≤ 140737488351232 ∧ M < 65536 := by
  obtain ⟨hl, hf⟩ := sees_struct Try.underlying59 h
  rw [show Try.prog.cellsOf 59 = 4 from by kernel_rfl] at hl
  obtain ⟨v0, v1, v2, v3, rfl⟩ := Go.Joins.array4 (by simpa using hl)
  have h0 := hf 0 _ rfl; have h1 := hf 1 _ rfl; have h2 := hf 2 _ rfl; have h3 := hf 3 _ rfl
  obtain ⟨a0, rfl, wf0⟩ := sees_int Try.underlying5 h0
  obtain ⟨l, A, n, c, rfl, hr, hc, _, hb⟩ := sees_u8s Try.underlying22 c_u8 Try.underlying5 h1
  obtain ⟨x, rfl, _⟩ := sees_int Try.underlying3 h2
  obtain ⟨a3, rfl, wf3⟩ := sees_int Try.underlying23 h3
  obtain ⟨u, rfl⟩ := u8_ex wf0
  obtain ⟨M, rfl, hM⟩ := u16_ex wf3
  rw [by_u8] at hb
  exact ⟨u, l, A, n, c, x, M, rfl, hr, hc, hb, hM⟩

theorem sees_tcp {H : Type} {enc : TypeId × Value → H} {w : World} {cs : Array Value} (h : Sees enc Try.prog w 34 cs.toList) :
    ∃ (id : Nat) (u : UInt8) (l : List UInt8) (A : Option Addr) (n c : Nat), cs = #[.int .u16 (id : Int), .int .u8 (u.toNat : Int), .slice A n c] ∧ id < 65536 ∧ Rd w A n (l.map cB) ∧ n ≤ c ∧ c * 1 ≤ 140737488351232 := by
  obtain ⟨hl, hf⟩ := sees_struct Try.underlying34 h
  rw [show Try.prog.cellsOf 34 = 3 from by kernel_rfl] at hl
  obtain ⟨v0, v1, v2, rfl⟩ := Go.Joins.array3 (by simpa using hl)
  have h0 := hf 0 _ rfl; have h1 := hf 1 _ rfl; have h2 := hf 2 _ rfl
  obtain ⟨a0, rfl, wf0⟩ := sees_int Try.underlying23 h0
  obtain ⟨a1, rfl, wf1⟩ := sees_int Try.underlying5 h1
  obtain ⟨l, A, n, c, rfl, hr, hc, _, hb⟩ := sees_u8s Try.underlying22 c_u8 Try.underlying5 h2
  obtain ⟨u, rfl⟩ := u8_ex wf1
  obtain ⟨M, rfl, hM⟩ := u16_ex wf0
  rw [by_u8] at hb
  exact ⟨M, u, l, A, n, c, rfl, hM, hr, hc, hb⟩
end Go.Proofs.Ytemiahjdacckgaa
