/- Contracts of the requests: a request as a PDU: parts of files. -/
import Derived.Test.YtifojmmggcenkaaAskP
import Derived.Test.YtifojmmggcenkaaAskKit
import Derived.Deep.RegionHeld3
namespace Go.Proofs.Ytifojmmggcenkaa
set_option linter.unusedVariables false
set_option linter.unusedSimpArgs false
set_option maxRecDepth 100000
set_option maxHeartbeats 1000000
open Go Go.RowKit Go.Out

theorem step_u8 {ops : Array Oper} {o : Oper} {a : Act} {w : World} {K : Act → World → Prop} {Q : Exit → Act → World → Prop} {E : Prop} (hgd : o.guard = none) (s x : Operand)
    (ho : o.op = .call { callee := .builtin .append, args := #[s, x], argTypes := #[27, 27] })
    {base : Nat} {A : Option Addr} {n c : Nat} {xs : List Value} (hs : a.eval s = .slice A n c) (hown : Own w base 5 IsU8 A n c xs)
    {A' : Option Addr} {m c' : Nat} {news : List Value} (hx : a.eval x = .slice A' m c') (hr : Rd w A' m news) (hnp : ∀ u ∈ news, IsU8 u) (hsz : n + m ≤ 140737488355328) (hbase : base ≤ w.heap.size)
    (h : ∀ A1 c1 w1, Own w1 base 5 IsU8 A1 (n + m) c1 (xs ++ news) → w.grownBy w1 (blk A) → (blk A1 = blk A ∨ blk A1 = some w.heap.size) → K (a.put o.dst (.slice A1 (n + m) c1)) w1) :
    if Region.wanted o (yielded ops a.tmps) = true then Oper.wp Try.prog o a w K Q else E :=
  step_append_Own hgd s x _ ho IsU8 base _ (.int .u8 0) 1 Try.underlying27 info_u8 rfl ⟨0, rfl⟩ (fun _ => isU8_one) A n c xs hs hown A' m c' news hx hr hnp (by omega) (by omega) hbase h


theorem part_nat {p : PartD} (h : ¬ badP p) : ∃ F R L : Nat, p.file = F ∧ p.record = R ∧ p.len = L ∧ F < 65536 ∧ R < 65536 ∧ L < 65536 := by
  unfold badP at h
  exact ⟨p.file.toNat, p.record.toNat, p.len.toNat, by omega, by omega, by omega, by omega, by omega, by omega⟩
theorem partsB_take {l : List PartD} {k : Nat} {p : PartD} (h : l[k]? = some p) : partsB (l.take (k + 1)) = partsB (l.take k) ++ partB p := by
  obtain ⟨hk, rfl⟩ := List.getElem?_eq_some_iff.1 h
  unfold partsB
  rw [List.take_succ_eq_append_getElem hk, List.flatMap_append]
  simp

theorem lt_of_cell {w : World} {q off : Nat} {v : Value} (h : w.cell? ⟨q, off, none⟩ = some v) : q < w.heap.size := by
  rcases Nat.lt_or_ge q w.heap.size with h1 | h1
  · exact h1
  · unfold World.cell? at h
    rw [Array.getElem?_eq_none (by simpa using h1)] at h
    cases h
end Go.Proofs.Ytifojmmggcenkaa
