/- Contract of ask.read: what a PDU of the right length says. -/
import Derived.Test.YtdflnmphiglmaaaAskR
import Derived.Test.YtdflnmphiglmaaaPackL2
import Derived.Test.YtdflnmphiglmaaaPackW
namespace Go.Proofs.Ytdflnmphiglmaaa
set_option linter.unusedVariables false
set_option linter.unusedSimpArgs false
set_option maxRecDepth 100000
set_option maxHeartbeats 1000000
open Go Go.RowKit Go.Out

/-- A request value in memory of the call's own. -/
structure AskOw (w : World) (base : Nat) (a : AskD) (s : AskS) : Prop where
  on : Own w base 4 IsBo s.A1 s.n1 s.c1 (a.on.map cL)
  set : Own w base 46 IsU16 s.A2 s.n2 s.c2 (a.set.map cW)
  parts : OwP w base (.slice s.A3 s.n3 s.c3) a.parts
  code : i64P a.code
  addr : i64P a.addr
  count : i64P a.count
def askS0 : AskS := ⟨none, 0, 0, none, 0, 0, none, 0, 0⟩
theorem AskOw.ext {w w' : World} {base : Nat} {a : AskD} {s : AskS} (h : AskOw w base a s) (hx : Ext w w') : AskOw w' base a s :=
  ⟨h.on.ext hx, h.set.ext hx, h.parts.ext hx, h.code, h.addr, h.count⟩
theorem AskOw.mono {w : World} {base base' : Nat} {a : AskD} {s : AskS} (h : AskOw w base a s) (hb : base' ≤ base) : AskOw w base' a s :=
  ⟨h.on.mono hb, h.set.mono hb, h.parts.mono hb, h.code, h.addr, h.count⟩
theorem AskOw.rd {w : World} {base : Nat} {a : AskD} {s : AskS} (h : AskOw w base a s) : AskRd w a s := by
  obtain ⟨A, c, e, h1, h2, h3, -⟩ := h.parts.form
  obtain ⟨B1, m1, k1, B2, m2, k2, B3, m3, k3⟩ := s
  simp only at e
  injection e with e1 e2 e3
  subst e1; subst e2; subst e3
  exact ⟨h.on.rd, h.set.rd, h3, h.code, h.addr, h.count, ⟨h.on.cap, h.on.capLe⟩, ⟨h.set.cap, h.set.capLe⟩, ⟨h1, h2⟩⟩
/-- What ask.read hands back. -/
def RetRead (w : World) (r : Option AskD) (e : Ending) (w' : World) : Prop :=
  ∃ (a : AskD) (s : AskS), e = .returned (.tuple #[askV a s, .bool r.isSome]) ∧ (∀ a', r = some a' → a' = a ∧ AskOw w' w.heap.size a s) ∧ Ext w w'

theorem or_w64 (x y : Nat) (hx : x < 256) (hy : y < 256) : bits .or .i64 (wrap64 (wrap64 (x : Int) * 256)) (wrap64 (y : Int)) = ((x * 256 + y : Nat) : Int) := by
  rw [show wrap64 (x : Int) = x by unfold wrap64; omega, show wrap64 (y : Int) = y by unfold wrap64; omega, show wrap64 ((x : Int) * 256) = (x : Int) * 256 by unfold wrap64; omega]
  exact or_i64 x y hx hy
end Go.Proofs.Ytdflnmphiglmaaa

namespace Go.Proofs.Ytdflnmphiglmaaa
set_option linter.unusedVariables false
set_option linter.unusedSimpArgs false
set_option maxRecDepth 100000
set_option maxHeartbeats 1000000
open Go Go.RowKit Go.Out

theorem box_two (w : World) (cs1 cs2 : Array Value) (v : Value) (t e : TypeId) (p : Value → Prop) (hp : p v) : Own ((((w.alloc (.cells cs1 t)).alloc (.cells cs2 t)).alloc (.cells #[v] e)).drew.drew) w.heap.size e p (some ⟨w.heap.size + 1 + 1, 0, none⟩) 1 1 [v] := by
  have h := Own.new (p := p) (base := w.heap.size) ((w.alloc (.cells cs1 t)).alloc (.cells cs2 t)) (by simp; omega) e #[v] 1 (by simp) (by simp [maxLen]) (by intro u hu; simp at hu; subst hu; exact hp)
  simpa using h.drew.drew
end Go.Proofs.Ytdflnmphiglmaaa
