/- The table of PacketKnown: its region draws its order, and makes memory in whatever order. (genpackn.py prints this.) -/
import Derived.Test.YtjmddiffeffgnaaRegInv
import Derived.Test.YtjmddiffeffgnaaPac7
namespace Go.Proofs.Ytjmddiffeffgnaa
set_option linter.unusedVariables false
set_option linter.unusedSimpArgs false
set_option maxRecDepth 100000
set_option maxHeartbeats 2000000
open Go Go.RowKit Go.Out

def zer (n : Nat) : Array Value := Array.replicate n (.int .u8 0)
theorem make_zer (n : Nat) (h : n ≤ 2000) : ∀ W : World, (Instr.makeSlice 32 (.int .i64 (n : Int)) (.int .i64 (n : Int))).run Try.prog W = .ok (.slice (some ⟨W.heap.size, 0, none⟩) n n) (W.alloc (.cells (zer n) 5)) :=
  fun W => run_make1 (P := Try.prog) 32 5 (.int .u8 0) 1 Try.underlying32 info_u8 rfl n (by omega) (by omega) W
def FR (u : Nat → Value) : Act := ⟨#[.bool false, u 1, undef, undef, undef, undef, undef, undef, undef, undef, undef, undef, undef, undef, undef, undef, undef, undef, undef, undef, undef, undef, undef, undef, u 24, u 25, u 26, u 27, u 28, u 29, u 30, u 31, u 32, u 33, u 34, u 35, u 36, u 37, u 38, u 39, u 40, u 41, u 42, u 43, u 44, u 45, u 46, u 47, u 48, u 49, u 50, u 51, u 52, undef, undef, undef, undef, undef, undef, undef, undef, undef, undef, undef, undef, undef, undef, undef, undef, undef, undef, undef, undef, undef, undef, undef, undef, undef, undef, undef, undef, undef, undef, undef, undef, undef, undef, undef, undef, undef, undef, undef, undef, undef, undef, undef, undef, undef, undef, undef, undef, undef, undef, undef, undef, undef, undef, undef, undef, undef, undef, undef, undef, undef, undef, undef, undef, undef, undef, undef, undef, undef, undef, undef, undef, undef, undef, undef, undef, undef, undef, undef, undef, undef, undef, undef, undef, undef, undef, undef, undef, undef, undef, undef, undef, undef, undef, undef, undef, undef, undef, undef, undef, undef, undef, undef, undef, undef, undef, undef, undef, undef, undef, undef, undef], []⟩
def upd (u : Nat → Value) (d : Nat) (v : Value) : Nat → Value := fun j => if j = d then v else u j
theorem upd_at (u : Nat → Value) (d : Nat) (v : Value) : upd u d v d = v := by simp [upd]
theorem upd_ne (u : Nat → Value) {d j : Nat} (v : Value) (h : j ≠ d) : upd u d v j = u j := by simp [upd, h]
/-- The slot of an operation. -/
def DS (i : Nat) : Nat := if i = 29 then 1 else 24 + i
def noL : List Int := [0, 23, 1, 28, 28, 3, 0, 3, 3, 0, 2, 1, 0, 2, 3, 0, 3, 23, 23, 23]
/-- What a line of the table says. -/
def KnP (W : World) (g k : Nat) (p : PacD) (A : Option Addr) (n : Nat) : Prop :=
  (W.cell? ⟨g, k * 6, none⟩ = some (.int .i64 p.kind) ∧ W.cell? ⟨g, k * 6 + 1, none⟩ = some (.int .i64 p.epoch) ∧ W.cell? ⟨g, k * 6 + 2, none⟩ = some (.int .i64 p.seq) ∧ W.cell? ⟨g, k * 6 + 3, none⟩ = some (.int .i64 p.id) ∧ W.cell? ⟨g, k * 6 + 4, none⟩ = some (.int .i64 p.code) ∧ W.cell? ⟨g, k * 6 + 5, none⟩ = some (.slice A n n)) ∧
  PacRd W p A n n ∧ checkP p = noL.getD k 0
theorem kn_packs (W : World) (g g8 g9 g10 g11 g12 g13 g14 g17 : Nat) (h : W.heap[g]? = some (.cells #[.int .i64 2, .int .i64 1, .int .i64 0, .int .i64 0, .int .i64 0, .slice none 0 0, .int .i64 2, .int .i64 1, .int .i64 0, .int .i64 1, .int .i64 0, .slice none 0 0, .int .i64 1, .int .i64 1, .int .i64 0, .int .i64 0, .int .i64 0, .slice none 0 0, .int .i64 5, .int .i64 0, .int .i64 0, .int .i64 0, .int .i64 0, .slice none 0 0, .int .i64 0, .int .i64 0, .int .i64 0, .int .i64 0, .int .i64 0, .slice none 0 0, .int .i64 2, .int .i64 0, .int .i64 0, .int .i64 0, .int .i64 0, .slice none 0 0, .int .i64 2, .int .i64 1099511627776, .int .i64 1099511627776, .int .i64 0, .int .i64 0, .slice none 0 0, .int .i64 2, .int .i64 1, .int .i64 1099511627777, .int .i64 0, .int .i64 0, .slice none 0 0, .int .i64 1, .int .i64 1, .int .i64 1099511627776, .int .i64 0, .int .i64 0, .slice (some ⟨g8, 0, none⟩) 1 1, .int .i64 1, .int .i64 1, .int .i64 1099511627775, .int .i64 0, .int .i64 0, .slice (some ⟨g9, 0, none⟩) 1024 1024, .int .i64 1, .int .i64 1, .int .i64 0, .int .i64 0, .int .i64 0, .slice (some ⟨g10, 0, none⟩) 1025 1025, .int .i64 3, .int .i64 0, .int .i64 0, .int .i64 1, .int .i64 0, .slice (some ⟨g11, 0, none⟩) 1 1, .int .i64 3, .int .i64 0, .int .i64 0, .int .i64 1, .int .i64 0, .slice (some ⟨g12, 0, none⟩) 254 254, .int .i64 3, .int .i64 0, .int .i64 0, .int .i64 1, .int .i64 0, .slice (some ⟨g13, 0, none⟩) 255 255, .int .i64 3, .int .i64 0, .int .i64 0, .int .i64 0, .int .i64 0, .slice (some ⟨g14, 0, none⟩) 9 9, .int .i64 4, .int .i64 0, .int .i64 0, .int .i64 1, .int .i64 255, .slice none 0 0, .int .i64 4, .int .i64 0, .int .i64 0, .int .i64 1, .int .i64 256, .slice none 0 0, .int .i64 4, .int .i64 0, .int .i64 0, .int .i64 1, .int .i64 0, .slice (some ⟨g17, 0, none⟩) 1 1, .int .i64 4, .int .i64 0, .int .i64 1, .int .i64 1, .int .i64 0, .slice none 0 0, .int .i64 3, .int .i64 0, .int .i64 0, .int .i64 1, .int .i64 1, .slice none 0 0] 34 (0, 0))) (h8 : W.heap[g8]? = some (.cells (#[.int .u8 1]) 5 (0, 0))) (h9 : W.heap[g9]? = some (.cells (zer 1024) 5 (0, 0))) (h10 : W.heap[g10]? = some (.cells (zer 1025) 5 (0, 0))) (h11 : W.heap[g11]? = some (.cells (#[.int .u8 1]) 5 (0, 0))) (h12 : W.heap[g12]? = some (.cells (zer 254) 5 (0, 0))) (h13 : W.heap[g13]? = some (.cells (zer 255) 5 (0, 0))) (h14 : W.heap[g14]? = some (.cells (zer 9) 5 (0, 0))) (h17 : W.heap[g17]? = some (.cells (#[.int .u8 1]) 5 (0, 0))) : ∀ k, k < 20 → ∃ p A n, KnP W g k p A n := by
  intro k hk
  have q : ∀ x : Int, -70000 ≤ x ∧ x ≤ 1099511627777 → i64P x := fun x hx => by unfold i64P; omega
  have hc := fun j => cell_of_row W g j _ _ _ h
  have hz : ∀ (gz n : Nat), W.heap[gz]? = some (.cells (zer n) 5 (0, 0)) → Rd W (some ⟨gz, 0, none⟩) n ((List.replicate n (0 : UInt8)).map cB) := fun gz n hh =>
    Rd.of_heap (ys := []) hh (by unfold zer; rw [Array.toList_replicate, List.map_replicate, List.append_nil]; rfl) (by simp)
  match k, hk with
  | 0, _ => exact ⟨⟨2, 1, 0, 0, 0, []⟩, none, 0, ⟨hc 0, hc 1, hc 2, hc 3, hc 4, hc 5⟩, ⟨Rd.nil_ _, q _ (by simp), q _ (by simp), q _ (by simp), q _ (by simp), q _ (by simp), ⟨Nat.le_refl _, by omega⟩⟩, by decide +kernel⟩
  | 1, _ => exact ⟨⟨2, 1, 0, 1, 0, []⟩, none, 0, ⟨hc 6, hc 7, hc 8, hc 9, hc 10, hc 11⟩, ⟨Rd.nil_ _, q _ (by simp), q _ (by simp), q _ (by simp), q _ (by simp), q _ (by simp), ⟨Nat.le_refl _, by omega⟩⟩, by decide +kernel⟩
  | 2, _ => exact ⟨⟨1, 1, 0, 0, 0, []⟩, none, 0, ⟨hc 12, hc 13, hc 14, hc 15, hc 16, hc 17⟩, ⟨Rd.nil_ _, q _ (by simp), q _ (by simp), q _ (by simp), q _ (by simp), q _ (by simp), ⟨Nat.le_refl _, by omega⟩⟩, by decide +kernel⟩
  | 3, _ => exact ⟨⟨5, 0, 0, 0, 0, []⟩, none, 0, ⟨hc 18, hc 19, hc 20, hc 21, hc 22, hc 23⟩, ⟨Rd.nil_ _, q _ (by simp), q _ (by simp), q _ (by simp), q _ (by simp), q _ (by simp), ⟨Nat.le_refl _, by omega⟩⟩, by decide +kernel⟩
  | 4, _ => exact ⟨⟨0, 0, 0, 0, 0, []⟩, none, 0, ⟨hc 24, hc 25, hc 26, hc 27, hc 28, hc 29⟩, ⟨Rd.nil_ _, q _ (by simp), q _ (by simp), q _ (by simp), q _ (by simp), q _ (by simp), ⟨Nat.le_refl _, by omega⟩⟩, by decide +kernel⟩
  | 5, _ => exact ⟨⟨2, 0, 0, 0, 0, []⟩, none, 0, ⟨hc 30, hc 31, hc 32, hc 33, hc 34, hc 35⟩, ⟨Rd.nil_ _, q _ (by simp), q _ (by simp), q _ (by simp), q _ (by simp), q _ (by simp), ⟨Nat.le_refl _, by omega⟩⟩, by decide +kernel⟩
  | 6, _ => exact ⟨⟨2, 1099511627776, 1099511627776, 0, 0, []⟩, none, 0, ⟨hc 36, hc 37, hc 38, hc 39, hc 40, hc 41⟩, ⟨Rd.nil_ _, q _ (by simp), q _ (by simp), q _ (by simp), q _ (by simp), q _ (by simp), ⟨Nat.le_refl _, by omega⟩⟩, by decide +kernel⟩
  | 7, _ => exact ⟨⟨2, 1, 1099511627777, 0, 0, []⟩, none, 0, ⟨hc 42, hc 43, hc 44, hc 45, hc 46, hc 47⟩, ⟨Rd.nil_ _, q _ (by simp), q _ (by simp), q _ (by simp), q _ (by simp), q _ (by simp), ⟨Nat.le_refl _, by omega⟩⟩, by decide +kernel⟩
  | 8, _ => exact ⟨⟨1, 1, 1099511627776, 0, 0, [1]⟩, some ⟨g8, 0, none⟩, 1, ⟨hc 48, hc 49, hc 50, hc 51, hc 52, hc 53⟩, ⟨Rd.of_heap (ys := []) h8 rfl rfl, q _ (by simp), q _ (by simp), q _ (by simp), q _ (by simp), q _ (by simp), ⟨Nat.le_refl _, by omega⟩⟩, by decide +kernel⟩
  | 9, _ => exact ⟨⟨1, 1, 1099511627775, 0, 0, List.replicate 1024 0⟩, some ⟨g9, 0, none⟩, 1024, ⟨hc 54, hc 55, hc 56, hc 57, hc 58, hc 59⟩, ⟨hz _ _ h9, q _ (by simp), q _ (by simp), q _ (by simp), q _ (by simp), q _ (by simp), ⟨Nat.le_refl _, by omega⟩⟩, by decide +kernel⟩
  | 10, _ => exact ⟨⟨1, 1, 0, 0, 0, List.replicate 1025 0⟩, some ⟨g10, 0, none⟩, 1025, ⟨hc 60, hc 61, hc 62, hc 63, hc 64, hc 65⟩, ⟨hz _ _ h10, q _ (by simp), q _ (by simp), q _ (by simp), q _ (by simp), q _ (by simp), ⟨Nat.le_refl _, by omega⟩⟩, by decide +kernel⟩
  | 11, _ => exact ⟨⟨3, 0, 0, 1, 0, [1]⟩, some ⟨g11, 0, none⟩, 1, ⟨hc 66, hc 67, hc 68, hc 69, hc 70, hc 71⟩, ⟨Rd.of_heap (ys := []) h11 rfl rfl, q _ (by simp), q _ (by simp), q _ (by simp), q _ (by simp), q _ (by simp), ⟨Nat.le_refl _, by omega⟩⟩, by decide +kernel⟩
  | 12, _ => exact ⟨⟨3, 0, 0, 1, 0, List.replicate 254 0⟩, some ⟨g12, 0, none⟩, 254, ⟨hc 72, hc 73, hc 74, hc 75, hc 76, hc 77⟩, ⟨hz _ _ h12, q _ (by simp), q _ (by simp), q _ (by simp), q _ (by simp), q _ (by simp), ⟨Nat.le_refl _, by omega⟩⟩, by decide +kernel⟩
  | 13, _ => exact ⟨⟨3, 0, 0, 1, 0, List.replicate 255 0⟩, some ⟨g13, 0, none⟩, 255, ⟨hc 78, hc 79, hc 80, hc 81, hc 82, hc 83⟩, ⟨hz _ _ h13, q _ (by simp), q _ (by simp), q _ (by simp), q _ (by simp), q _ (by simp), ⟨Nat.le_refl _, by omega⟩⟩, by decide +kernel⟩
  | 14, _ => exact ⟨⟨3, 0, 0, 0, 0, List.replicate 9 0⟩, some ⟨g14, 0, none⟩, 9, ⟨hc 84, hc 85, hc 86, hc 87, hc 88, hc 89⟩, ⟨hz _ _ h14, q _ (by simp), q _ (by simp), q _ (by simp), q _ (by simp), q _ (by simp), ⟨Nat.le_refl _, by omega⟩⟩, by decide +kernel⟩
  | 15, _ => exact ⟨⟨4, 0, 0, 1, 255, []⟩, none, 0, ⟨hc 90, hc 91, hc 92, hc 93, hc 94, hc 95⟩, ⟨Rd.nil_ _, q _ (by simp), q _ (by simp), q _ (by simp), q _ (by simp), q _ (by simp), ⟨Nat.le_refl _, by omega⟩⟩, by decide +kernel⟩
  | 16, _ => exact ⟨⟨4, 0, 0, 1, 256, []⟩, none, 0, ⟨hc 96, hc 97, hc 98, hc 99, hc 100, hc 101⟩, ⟨Rd.nil_ _, q _ (by simp), q _ (by simp), q _ (by simp), q _ (by simp), q _ (by simp), ⟨Nat.le_refl _, by omega⟩⟩, by decide +kernel⟩
  | 17, _ => exact ⟨⟨4, 0, 0, 1, 0, [1]⟩, some ⟨g17, 0, none⟩, 1, ⟨hc 102, hc 103, hc 104, hc 105, hc 106, hc 107⟩, ⟨Rd.of_heap (ys := []) h17 rfl rfl, q _ (by simp), q _ (by simp), q _ (by simp), q _ (by simp), q _ (by simp), ⟨Nat.le_refl _, by omega⟩⟩, by decide +kernel⟩
  | 18, _ => exact ⟨⟨4, 0, 1, 1, 0, []⟩, none, 0, ⟨hc 108, hc 109, hc 110, hc 111, hc 112, hc 113⟩, ⟨Rd.nil_ _, q _ (by simp), q _ (by simp), q _ (by simp), q _ (by simp), q _ (by simp), ⟨Nat.le_refl _, by omega⟩⟩, by decide +kernel⟩
  | 19, _ => exact ⟨⟨3, 0, 0, 1, 1, []⟩, none, 0, ⟨hc 114, hc 115, hc 116, hc 117, hc 118, hc 119⟩, ⟨Rd.nil_ _, q _ (by simp), q _ (by simp), q _ (by simp), q _ (by simp), q _ (by simp), ⟨Nat.le_refl _, by omega⟩⟩, by decide +kernel⟩
  | n + 20, h => exact absurd h (by omega)
/-- What holds of an operation that has come up. -/
def GG (u : Nat → Value) (w : World) : Nat → Prop
  | 0 => u 24 = .agg #[.int .i64 2, .int .i64 1, .int .i64 0, .int .i64 0, .int .i64 0, .slice none 0 0]
  | 1 => u 25 = .agg #[.int .i64 2, .int .i64 1, .int .i64 0, .int .i64 1, .int .i64 0, .slice none 0 0]
  | 2 => u 26 = .agg #[.int .i64 1, .int .i64 1, .int .i64 0, .int .i64 0, .int .i64 0, .slice none 0 0]
  | 3 => u 27 = .agg #[.int .i64 5, .int .i64 0, .int .i64 0, .int .i64 0, .int .i64 0, .slice none 0 0]
  | 4 => u 28 = .agg #[.int .i64 0, .int .i64 0, .int .i64 0, .int .i64 0, .int .i64 0, .slice none 0 0]
  | 5 => u 29 = .agg #[.int .i64 2, .int .i64 0, .int .i64 0, .int .i64 0, .int .i64 0, .slice none 0 0]
  | 6 => u 30 = .agg #[.int .i64 2, .int .i64 1099511627776, .int .i64 1099511627776, .int .i64 0, .int .i64 0, .slice none 0 0]
  | 7 => u 31 = .agg #[.int .i64 2, .int .i64 1, .int .i64 1099511627777, .int .i64 0, .int .i64 0, .slice none 0 0]
  | 8 => ∃ g, u 32 = .slice (some ⟨g, 0, none⟩) 1 1 ∧ w.heap[g]? = some (.cells (#[.int .u8 1]) 5 (0, 0))
  | 9 => ∃ g, u 33 = .agg #[.int .i64 1, .int .i64 1, .int .i64 1099511627776, .int .i64 0, .int .i64 0, .slice (some ⟨g, 0, none⟩) 1 1] ∧ w.heap[g]? = some (.cells (#[.int .u8 1]) 5 (0, 0))
  | 10 => ∃ g, u 34 = .slice (some ⟨g, 0, none⟩) 1024 1024 ∧ w.heap[g]? = some (.cells (zer 1024) 5 (0, 0))
  | 11 => ∃ g, u 35 = .agg #[.int .i64 1, .int .i64 1, .int .i64 1099511627775, .int .i64 0, .int .i64 0, .slice (some ⟨g, 0, none⟩) 1024 1024] ∧ w.heap[g]? = some (.cells (zer 1024) 5 (0, 0))
  | 12 => ∃ g, u 36 = .slice (some ⟨g, 0, none⟩) 1025 1025 ∧ w.heap[g]? = some (.cells (zer 1025) 5 (0, 0))
  | 13 => ∃ g, u 37 = .agg #[.int .i64 1, .int .i64 1, .int .i64 0, .int .i64 0, .int .i64 0, .slice (some ⟨g, 0, none⟩) 1025 1025] ∧ w.heap[g]? = some (.cells (zer 1025) 5 (0, 0))
  | 14 => ∃ g, u 38 = .slice (some ⟨g, 0, none⟩) 1 1 ∧ w.heap[g]? = some (.cells (#[.int .u8 1]) 5 (0, 0))
  | 15 => ∃ g, u 39 = .agg #[.int .i64 3, .int .i64 0, .int .i64 0, .int .i64 1, .int .i64 0, .slice (some ⟨g, 0, none⟩) 1 1] ∧ w.heap[g]? = some (.cells (#[.int .u8 1]) 5 (0, 0))
  | 16 => ∃ g, u 40 = .slice (some ⟨g, 0, none⟩) 254 254 ∧ w.heap[g]? = some (.cells (zer 254) 5 (0, 0))
  | 17 => ∃ g, u 41 = .agg #[.int .i64 3, .int .i64 0, .int .i64 0, .int .i64 1, .int .i64 0, .slice (some ⟨g, 0, none⟩) 254 254] ∧ w.heap[g]? = some (.cells (zer 254) 5 (0, 0))
  | 18 => ∃ g, u 42 = .slice (some ⟨g, 0, none⟩) 255 255 ∧ w.heap[g]? = some (.cells (zer 255) 5 (0, 0))
  | 19 => ∃ g, u 43 = .agg #[.int .i64 3, .int .i64 0, .int .i64 0, .int .i64 1, .int .i64 0, .slice (some ⟨g, 0, none⟩) 255 255] ∧ w.heap[g]? = some (.cells (zer 255) 5 (0, 0))
  | 20 => ∃ g, u 44 = .slice (some ⟨g, 0, none⟩) 9 9 ∧ w.heap[g]? = some (.cells (zer 9) 5 (0, 0))
  | 21 => ∃ g, u 45 = .agg #[.int .i64 3, .int .i64 0, .int .i64 0, .int .i64 0, .int .i64 0, .slice (some ⟨g, 0, none⟩) 9 9] ∧ w.heap[g]? = some (.cells (zer 9) 5 (0, 0))
  | 22 => u 46 = .agg #[.int .i64 4, .int .i64 0, .int .i64 0, .int .i64 1, .int .i64 255, .slice none 0 0]
  | 23 => u 47 = .agg #[.int .i64 4, .int .i64 0, .int .i64 0, .int .i64 1, .int .i64 256, .slice none 0 0]
  | 24 => ∃ g, u 48 = .slice (some ⟨g, 0, none⟩) 1 1 ∧ w.heap[g]? = some (.cells (#[.int .u8 1]) 5 (0, 0))
  | 25 => ∃ g, u 49 = .agg #[.int .i64 4, .int .i64 0, .int .i64 0, .int .i64 1, .int .i64 0, .slice (some ⟨g, 0, none⟩) 1 1] ∧ w.heap[g]? = some (.cells (#[.int .u8 1]) 5 (0, 0))
  | 26 => u 50 = .agg #[.int .i64 4, .int .i64 0, .int .i64 1, .int .i64 1, .int .i64 0, .slice none 0 0]
  | 27 => u 51 = .agg #[.int .i64 3, .int .i64 0, .int .i64 0, .int .i64 1, .int .i64 1, .slice none 0 0]
  | 28 => ∃ g, u 52 = .slice (some ⟨g, 0, none⟩) 20 20 ∧ g < w.heap.size ∧ ∀ W, Ext w W → ∀ k, k < 20 → ∃ p A n, KnP W g k p A n
  | 29 => ∃ g, u 1 = .slice (some ⟨g, 0, none⟩) 20 20 ∧ g < w.heap.size ∧ ∀ W, Ext w W → ∀ k, k < 20 → ∃ p A n, KnP W g k p A n
  | _ => True
theorem GG_mono {u u' : Nat → Value} {w w' : World} {i : Nat} (hi : i < 30) (hu : u' (DS i) = u (DS i)) (hx : Ext w w') (h : GG u w i) : GG u' w' i := by
  match i, hi with
  | 0, _ =>
    have hu2 : u' 24 = u 24 := hu
    exact hu2.trans h
  | 1, _ =>
    have hu2 : u' 25 = u 25 := hu
    exact hu2.trans h
  | 2, _ =>
    have hu2 : u' 26 = u 26 := hu
    exact hu2.trans h
  | 3, _ =>
    have hu2 : u' 27 = u 27 := hu
    exact hu2.trans h
  | 4, _ =>
    have hu2 : u' 28 = u 28 := hu
    exact hu2.trans h
  | 5, _ =>
    have hu2 : u' 29 = u 29 := hu
    exact hu2.trans h
  | 6, _ =>
    have hu2 : u' 30 = u 30 := hu
    exact hu2.trans h
  | 7, _ =>
    have hu2 : u' 31 = u 31 := hu
    exact hu2.trans h
  | 8, _ =>
    have hu2 : u' 32 = u 32 := hu
    obtain ⟨g, h1, h2⟩ := h; exact ⟨g, hu2.trans h1, hx.block h2⟩
  | 9, _ =>
    have hu2 : u' 33 = u 33 := hu
    obtain ⟨g, h1, h2⟩ := h; exact ⟨g, hu2.trans h1, hx.block h2⟩
  | 10, _ =>
    have hu2 : u' 34 = u 34 := hu
    obtain ⟨g, h1, h2⟩ := h; exact ⟨g, hu2.trans h1, hx.block h2⟩
  | 11, _ =>
    have hu2 : u' 35 = u 35 := hu
    obtain ⟨g, h1, h2⟩ := h; exact ⟨g, hu2.trans h1, hx.block h2⟩
  | 12, _ =>
    have hu2 : u' 36 = u 36 := hu
    obtain ⟨g, h1, h2⟩ := h; exact ⟨g, hu2.trans h1, hx.block h2⟩
  | 13, _ =>
    have hu2 : u' 37 = u 37 := hu
    obtain ⟨g, h1, h2⟩ := h; exact ⟨g, hu2.trans h1, hx.block h2⟩
  | 14, _ =>
    have hu2 : u' 38 = u 38 := hu
    obtain ⟨g, h1, h2⟩ := h; exact ⟨g, hu2.trans h1, hx.block h2⟩
  | 15, _ =>
    have hu2 : u' 39 = u 39 := hu
    obtain ⟨g, h1, h2⟩ := h; exact ⟨g, hu2.trans h1, hx.block h2⟩
  | 16, _ =>
    have hu2 : u' 40 = u 40 := hu
    obtain ⟨g, h1, h2⟩ := h; exact ⟨g, hu2.trans h1, hx.block h2⟩
  | 17, _ =>
    have hu2 : u' 41 = u 41 := hu
    obtain ⟨g, h1, h2⟩ := h; exact ⟨g, hu2.trans h1, hx.block h2⟩
  | 18, _ =>
    have hu2 : u' 42 = u 42 := hu
    obtain ⟨g, h1, h2⟩ := h; exact ⟨g, hu2.trans h1, hx.block h2⟩
  | 19, _ =>
    have hu2 : u' 43 = u 43 := hu
    obtain ⟨g, h1, h2⟩ := h; exact ⟨g, hu2.trans h1, hx.block h2⟩
  | 20, _ =>
    have hu2 : u' 44 = u 44 := hu
    obtain ⟨g, h1, h2⟩ := h; exact ⟨g, hu2.trans h1, hx.block h2⟩
  | 21, _ =>
    have hu2 : u' 45 = u 45 := hu
    obtain ⟨g, h1, h2⟩ := h; exact ⟨g, hu2.trans h1, hx.block h2⟩
  | 22, _ =>
    have hu2 : u' 46 = u 46 := hu
    exact hu2.trans h
  | 23, _ =>
    have hu2 : u' 47 = u 47 := hu
    exact hu2.trans h
  | 24, _ =>
    have hu2 : u' 48 = u 48 := hu
    obtain ⟨g, h1, h2⟩ := h; exact ⟨g, hu2.trans h1, hx.block h2⟩
  | 25, _ =>
    have hu2 : u' 49 = u 49 := hu
    obtain ⟨g, h1, h2⟩ := h; exact ⟨g, hu2.trans h1, hx.block h2⟩
  | 26, _ =>
    have hu2 : u' 50 = u 50 := hu
    exact hu2.trans h
  | 27, _ =>
    have hu2 : u' 51 = u 51 := hu
    exact hu2.trans h
  | 28, _ =>
    have hu2 : u' 52 = u 52 := hu
    obtain ⟨g, h1, h2, h3⟩ := h; exact ⟨g, hu2.trans h1, Nat.lt_of_lt_of_le h2 hx.size, fun W hW => h3 W (hx.trans hW)⟩
  | 29, _ =>
    have hu2 : u' 1 = u 1 := hu
    obtain ⟨g, h1, h2, h3⟩ := h; exact ⟨g, hu2.trans h1, Nat.lt_of_lt_of_le h2 hx.size, fun W hW => h3 W (hx.trans hW)⟩
  | n + 30, h => exact absurd h (by omega)
def InvK (w0 : World) (listed : Array Bool) (a : Act) (w : World) : Prop := ∃ u, a = FR u ∧ Ext w0 w ∧ ∀ i, i < 30 → listed.getD i false = true → GG u w i
theorem inv_step {w0 w w' : World} {listed : Array Bool} {u : Nat → Value} {i : Nat} {v : Value} (hi : i < 30) (h0 : Ext w0 w) (hG : ∀ j, j < 30 → listed.getD j false = true → GG u w j) (hx : Ext w w') (h : GG (upd u (DS i) v) w' i) :
    InvK w0 (listed.setIfInBounds i true) (FR (upd u (DS i) v)) w' := by
  refine ⟨_, rfl, h0.trans hx, fun j hj hl => ?_⟩
  by_cases hji : j = i
  · subst hji; exact h
  · rw [getD_set_ne false (Ne.symm hji)] at hl
    refine GG_mono hj (upd_ne _ _ ?_) hx (hG j hj hl)
    unfold DS
    split <;> split <;> omega
theorem edge_listed {o : Oper} {listed : Array Bool} (hall : ∀ e ∈ o.after, Region.binds .any e = true → listed.getD e.on false = true) (k : Nat) (hk : (o.after.any fun e => Region.binds .any e && e.on == k) = true) : listed.getD k false = true := by
  obtain ⟨e, he, hb⟩ := Array.any_eq_true'.1 hk
  simp only [Bool.and_eq_true, beq_iff_eq] at hb
  rw [← hb.2]
  exact hall e he hb.1
theorem wp_val {P : Program} {o : Oper} {a : Act} {w w' : World} {K : Act → World → Prop} {Q : Exit → Act → World → Prop} {v : Value} {d : Nat} (hd : o.dst = some d) (hr : (execOp a.eval o).run P w = .ok (.value v) w') (h : K (a.put (some d) v) w') : o.wp P a w K Q := by
  unfold Oper.wp
  rw [hr]
  show K (a.put o.dst v) w'
  rw [hd]; exact h
theorem run_v {P : Program} {s : Sem Value} {w w' : World} {x : Value} (h : s.run P w = .ok x w') : ((do pure (.value (← s)) : Sem Next)).run P w = .ok (.value x) w' := by
  simp [h]
theorem ord_of {ops : Array Oper} (h : ((List.range ops.size).all fun i => ((ops[i]?).map fun o => o.after.all fun e => decide (e.on < i)).getD true) = true) : ∀ (i : Nat) (o : Oper), ops[i]? = some o → ∀ e ∈ o.after, e.on < i := by
  intro i o ho e he
  have hi : i < ops.size := (Array.getElem?_eq_some_iff.1 ho).1
  have h1 := List.all_eq_true.1 h i (List.mem_range.2 hi)
  rw [ho] at h1
  simp only [Option.map_some, Option.getD_some] at h1
  have h2 := Array.all_eq_true_iff_forall_mem.1 h1 e he
  simpa using h2
end Go.Proofs.Ytjmddiffeffgnaa
