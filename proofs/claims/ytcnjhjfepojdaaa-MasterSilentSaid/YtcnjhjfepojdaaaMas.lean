/- A master (chapter 18): what it answers, and where it lies. -/
import Derived.Test.YtcnjhjfepojdaaaRepLaw
import Derived.Test.YtcnjhjfepojdaaaStreamLaw
import Derived.Test.YtcnjhjfepojdaaaAskS2
import Derived.Test.YtcnjhjfepojdaaaAskKit
import Derived.Test.YtcnjhjfepojdaaaOnly
import Derived.Test.YtcnjhjfepojdaaaFrame2
import Derived.Test.YtcnjhjfepojdaaaAskP6
import Derived.Deep.RegionHeld3
import Derived.Deep.RegionLaw
import Derived.StillTailTactics
import Derived.Lib.SliceRun
namespace Go.Out
open Go Go.RowKit
set_option linter.unusedVariables false

structure MasD where
  timeout : Nat
  retries : Nat
  under : Bool
  unit : Nat
  tries : Nat
  last : Nat
  ask : AskD
  frame : List UInt8
structure OutD where
  what : Int
  rep : RepD
  tries : Nat
def askZ : AskD := ⟨0, 0, 0, [], [], []⟩
def out0 : OutD := ⟨0, rep0, 0⟩
def newE (t r : Int) : Int := if t < 1 ∨ 1048576 < t ∨ r < 0 ∨ 5 < r then 3 else 0
def newM (t r : Nat) : MasD := ⟨t, r, false, 0, 0, 0, askZ, []⟩
def startE (d : MasD) (now unit : Int) (a : AskD) : Int :=
  if d.under = true then 11 else if unit < 1 ∨ 247 < unit then 24 else if checkF a ≠ 0 then checkF a else if now < 0 ∨ 1099511627776 < now then 3 else 0
def frameF (unit : Int) (a : AskD) : List UInt8 := (rtuF (UInt8.ofNat unit.toNat) (putA a).1).1
def startM (d : MasD) (now unit : Int) (a : AskD) : MasD := if startE d now unit a = 0 then ⟨d.timeout, d.retries, true, unit.toNat, 1, now.toNat, a, frameF unit a⟩ else d
def startB (d : MasD) (now unit : Int) (a : AskD) : List UInt8 := if startE d now unit a = 0 then frameF unit a else []
def hearsB (d : MasD) (b : List UInt8) : Bool := d.under && decide ((openRtuF b).2.2 = 0) && decide ((openRtuF b).1.toNat = d.unit) && decide ((getR d.ask (openRtuF b).2.1).2 = 0)
def hearM (d : MasD) (b : List UInt8) : MasD := if hearsB d b = true then { d with under := false } else d
def hearO (d : MasD) (b : List UInt8) : OutD := if hearsB d b = true then ⟨if (getR d.ask (openRtuF b).2.1).1.exc ≠ 0 then 2 else 1, (getR d.ask (openRtuF b).2.1).1, d.tries⟩ else out0
/-- What time does: 0: nothing; 1: the frame once more; 2: it is given up. -/
def tickK (d : MasD) (now : Int) : Nat := if d.under = false ∨ now < 0 ∨ 1099511627776 < now ∨ now < d.last + d.timeout then 0 else if d.retries < d.tries then 2 else 1
def tickM (d : MasD) (now : Int) : MasD := if tickK d now = 0 then d else if tickK d now = 2 then { d with under := false } else { d with tries := d.tries + 1, last := now.toNat }
def tickB (d : MasD) (now : Int) : List UInt8 := if tickK d now = 1 then d.frame else []
def tickO (d : MasD) (now : Int) : OutD := if tickK d now = 2 then ⟨3, rep0, d.tries⟩ else out0
structure MasOk (d : MasD) : Prop where
  t : 1 ≤ d.timeout ∧ d.timeout ≤ 1048576
  r : d.retries ≤ 5
  u : d.under = true → 1 ≤ d.tries ∧ 1 ≤ d.unit
  tr : d.tries ≤ d.retries + 1
  l : d.last ≤ 1099511627776
  un : d.unit ≤ 247
  a : 1 ≤ d.unit → checkF d.ask = 0
  f : d.frame.length ≤ 256
theorem newM_ok {t r : Nat} (h : newE t r = 0) : MasOk (newM t r) := by
  unfold newE at h
  split at h
  · cases h
  · rename_i h0
    exact ⟨show 1 ≤ t ∧ t ≤ 1048576 by omega, show r ≤ 5 by omega, fun e => absurd e (by simp [newM]), Nat.zero_le _, Nat.zero_le _, Nat.zero_le _, fun e => absurd e (by simp [newM]), Nat.zero_le _⟩
theorem startE_zero {d : MasD} {now unit : Int} {a : AskD} (h : startE d now unit a = 0) : d.under = false ∧ (1 ≤ unit ∧ unit ≤ 247) ∧ checkF a = 0 ∧ 0 ≤ now ∧ now ≤ 1099511627776 := by
  unfold startE at h
  split at h
  · cases h
  · rename_i h1
    split at h
    · cases h
    · split at h
      · rename_i h2; exact absurd h h2
      · rename_i h2
        split at h
        · cases h
        · exact ⟨by simpa using h1, by omega, Classical.not_not.1 h2, by omega, by omega⟩
theorem frameF_len {unit : Int} {a : AskD} (h : 1 ≤ unit ∧ unit ≤ 247) (hk : checkF a = 0) : (frameF unit a).length ≤ 256 ∧ (rtuF (UInt8.ofNat unit.toNat) (putA a).1).2 = 0 ∧ openRtuF (frameF unit a) = (UInt8.ofNat unit.toNat, (putA a).1, 0) := by
  have hn : (UInt8.ofNat unit.toNat).toNat = unit.toNat := toNat_ofNat8 (by omega)
  obtain ⟨g1, g2, g3⟩ := getA_put hk
  have hr : (rtuF (UInt8.ofNat unit.toNat) (putA a).1).2 = 0 := rtu_fits.2 (by rw [hn]; omega)
  obtain ⟨o1, o2⟩ := openRtu_rtu hr
  exact ⟨by have := o2.1; unfold frameF; omega, hr, o1⟩
end Go.Out

namespace Go.Proofs.Ytcnjhjfepojdaaa
set_option linter.unusedVariables false
set_option linter.unusedSimpArgs false
set_option maxRecDepth 100000
set_option maxHeartbeats 1000000
open Go Go.RowKit Go.Out

/-- The blocks of F are there, and as they were. -/
def Agr (F : Nat → Prop) (w W : World) : Prop := w.heap.size ≤ W.heap.size ∧ ∀ k, F k → W.heap[k]? = w.heap[k]?
theorem Agr.trans {F : Nat → Prop} {w W V : World} (h : Agr F w W) (k : Agr F W V) : Agr F w V := ⟨Nat.le_trans h.1 k.1, fun g hg => (k.2 g hg).trans (h.2 g hg)⟩
theorem ownsRow_agr {w W : World} {base n size : Nat} {e : TypeId} {v : Value} {xs : List Value} (h : w.ownsRow base e size v n xs) (hk : ∀ k, base ≤ k → k < w.heap.size → W.heap[k]? = w.heap[k]?) : W.ownsRow base e size v n xs := by
  refine ⟨h.1, ?_⟩
  rcases h.2 with h2 | ⟨g, cap, cur, hv, hb, hg, r⟩
  · exact .inl h2
  · exact .inr ⟨g, cap, cur, hv, hb, (hk g hb (lt_of_heap hg)).trans hg, r⟩
theorem Own.agr {w W : World} {base : Nat} {e : TypeId} {q : Value → Prop} {A : Option Addr} {n c : Nat} {xs : List Value} (h : Own w base e q A n c xs) (hk : ∀ k, base ≤ k → k < w.heap.size → W.heap[k]? = w.heap[k]?) : Own W base e q A n c xs :=
  Own.kept h fun g hg => hk g (Own.lt h g hg).1 (Own.lt h g hg).2
theorem OwP.agr {w W : World} {base : Nat} {v : Value} {l : List PartD} (h : OwP w base v l) (hk : ∀ k, base ≤ k → k < w.heap.size → W.heap[k]? = w.heap[k]?) : OwP W base v l := by
  obtain ⟨⟨xs, h1, h2⟩, h3⟩ := h
  exact ⟨⟨xs, ownsRow_agr h1 hk, h2.mono fun cs x hr => hr⟩, h3.kept fun g hg => hk g (h1.lt g hg).1 (h1.lt g hg).2⟩
theorem AskOw.agr {w W : World} {base : Nat} {a : AskD} {s : AskS} (h : AskOw w base a s) (hk : ∀ k, base ≤ k → k < w.heap.size → W.heap[k]? = w.heap[k]?) : AskOw W base a s :=
  ⟨Own.agr h.on hk, Own.agr h.set hk, h.parts.agr hk, h.code, h.addr, h.count⟩

def busyN (d : MasD) : Nat := if d.under = true then d.tries else 0
def masRow (d : MasD) (s : AskS) (A : Option Addr) (n c : Nat) : Obj :=
  .cells #[.int .i64 (d.timeout : Int), .int .i64 (d.retries : Int), .int .i64 (busyN d : Int), .int .i64 (d.last : Int), .int .i64 (d.unit : Int), .int .i64 d.ask.code, .int .i64 d.ask.addr, .int .i64 d.ask.count, .slice s.A1 s.n1 s.c1, .slice s.A2 s.n2 s.c2, .slice s.A3 s.n3 s.c3, .slice A n c] 51 (0, 0)
/-- A master lies at p; all that belongs to it lies in F. -/
def MasAt (w : World) (p : Nat) (F : Nat → Prop) (d : MasD) : Prop :=
  ∃ s A n c, w.heap[p]? = some (masRow d s A n c) ∧ (∀ W, Agr (fun k => F k ∧ k ≠ p) w W → AskRd W d.ask s ∧ Rd W A n (d.frame.map cB)) ∧ n ≤ c ∧ c ≤ 9223372036854775807 ∧ F p ∧ ∀ k, F k → k < w.heap.size
section
variable {w w' : World} {F G : Nat → Prop} {p : Nat} {d : MasD}
theorem MasAt.lt (h : MasAt w p F d) : ∀ k, F k → k < w.heap.size := by obtain ⟨s, A, n, c, -, -, -, -, -, h⟩ := h; exact h
theorem MasAt.foot (h : MasAt w p F d) : F p := by obtain ⟨s, A, n, c, -, -, -, -, h, -⟩ := h; exact h
theorem MasAt.keep (h : MasAt w p F d) (hk : ∀ k, F k → w'.heap[k]? = w.heap[k]?) (hs : w.heap.size ≤ w'.heap.size) : MasAt w' p F d := by
  obtain ⟨s, A, n, c, h1, h2, h3, h4, h5, h6⟩ := h
  exact ⟨s, A, n, c, (hk p h5).trans h1, fun W hW => h2 W (Agr.trans ⟨hs, fun k q => hk k q.1⟩ hW), h3, h4, h5, fun k q => Nat.lt_of_lt_of_le (h6 k q) hs⟩
theorem MasAt.only (h : MasAt w p F d) (ho : Only G w w') (hd : ∀ k, F k → ¬ G k) : MasAt w' p F d := h.keep (fun k q => ho.block k (h.lt k q) (hd k q)) ho.size
theorem MasAt.ext (h : MasAt w p F d) (hx : Ext w w') : MasAt w' p F d := h.keep (fun k q => Below.block hx k (h.lt k q)) hx.size
end
def pM (p : Nat) : Value := .pointer (some ⟨p, 0, none⟩)
theorem cells12 {W : World} {g : Nat} {t : TypeId} {v0 v1 v2 v3 v4 v5 v6 v7 v8 v9 v10 v11 : Value} (h : W.heap[g]? = some (.cells #[v0, v1, v2, v3, v4, v5, v6, v7, v8, v9, v10, v11] t (0, 0))) :
    W.cell? ⟨g, 0, none⟩ = some v0 ∧ W.cell? ⟨g, 1, none⟩ = some v1 ∧ W.cell? ⟨g, 2, none⟩ = some v2 ∧ W.cell? ⟨g, 3, none⟩ = some v3 ∧ W.cell? ⟨g, 4, none⟩ = some v4 ∧ W.cell? ⟨g, 5, none⟩ = some v5 ∧ W.cell? ⟨g, 6, none⟩ = some v6 ∧ W.cell? ⟨g, 7, none⟩ = some v7 ∧ W.cell? ⟨g, 8, none⟩ = some v8 ∧ W.cell? ⟨g, 9, none⟩ = some v9 ∧ W.cell? ⟨g, 10, none⟩ = some v10 ∧ W.cell? ⟨g, 11, none⟩ = some v11 :=
  ⟨(cell_of_row _ _ _ _ _ _ h).trans rfl, (cell_of_row _ _ _ _ _ _ h).trans rfl, (cell_of_row _ _ _ _ _ _ h).trans rfl, (cell_of_row _ _ _ _ _ _ h).trans rfl, (cell_of_row _ _ _ _ _ _ h).trans rfl, (cell_of_row _ _ _ _ _ _ h).trans rfl, (cell_of_row _ _ _ _ _ _ h).trans rfl, (cell_of_row _ _ _ _ _ _ h).trans rfl, (cell_of_row _ _ _ _ _ _ h).trans rfl, (cell_of_row _ _ _ _ _ _ h).trans rfl, (cell_of_row _ _ _ _ _ _ h).trans rfl, (cell_of_row _ _ _ _ _ _ h).trans rfl⟩
theorem askZ_rd (W : World) : AskRd W askZ ⟨none, 0, 0, none, 0, 0, none, 0, 0⟩ := ⟨Rd.nil_ _, Rd.nil_ _, RdL.nil_ _ _ _, by unfold i64P askZ; simp, by unfold i64P askZ; simp, by unfold i64P askZ; simp, ⟨Nat.le_refl _, Nat.zero_le _⟩, ⟨Nat.le_refl _, Nat.zero_le _⟩, ⟨Nat.le_refl _, Nat.zero_le _⟩⟩

/-- What New hands back. -/
def RetNewM (At : World → Nat → (Nat → Prop) → MasD → Prop) (w : World) (d : MasD) (e : Ending) (w' : World) : Prop := ∃ p F, e = .returned (.tuple #[pM p, .int .i64 0]) ∧ At w' p F d ∧ Ext w w' ∧ ∀ k, F k → w.heap.size ≤ k
theorem mas_new (t r : Nat) (h : newE t r = 0) (w : World) : Calls Try.prog 4 #[.int .i64 (t : Int), .int .i64 (r : Int)] w (RetNewM MasAt w (newM t r)) := by
  have hh : (1 : Int) ≤ (t : Int) ∧ (t : Int) ≤ 1048576 ∧ (r : Int) ≤ 5 := by
    unfold newE at h
    split at h
    · cases h
    · omega
  obtain ⟨h1, h2, h3⟩ := hh
  have h4 : ¬ (t : Int) < 1 := by omega
  have h5 : ¬ (1048576 : Int) < (t : Int) := by omega
  have h6 : ¬ (r : Int) < 0 := by omega
  have h7 : ¬ (5 : Int) < (r : Int) := by omega
  clear h
  go_enter Try.func4, Try.ntmps4
  go_wp2_with fail
  go_ret2
  exact ⟨w.heap.size, fun k => k = w.heap.size, rfl, ⟨⟨none, 0, 0, none, 0, 0, none, 0, 0⟩, none, 0, 0, heap_alloc_new _ _, fun W _ => ⟨askZ_rd W, Rd.nil_ _⟩, Nat.le_refl _, Nat.zero_le _, rfl, fun k hk => by rw [hk]; simp⟩, Ext.alloc _ _, fun k hk => by rw [hk]; exact Nat.le_refl _⟩
theorem mas_newNo (t r : Int) (h : newE t r ≠ 0) (w : World) : Calls Try.prog 4 #[.int .i64 t, .int .i64 r] w (fun e w' => e = .returned (.tuple #[.pointer none, .int .i64 3]) ∧ w = w') := by
  have hh : t < 1 ∨ (¬ t < 1 ∧ 1048576 < t) ∨ (¬ t < 1 ∧ ¬ 1048576 < t ∧ r < 0) ∨ (¬ t < 1 ∧ ¬ 1048576 < t ∧ ¬ r < 0 ∧ 5 < r) := by
    unfold newE at h
    split at h
    · omega
    · exact absurd rfl h
  clear h
  go_enter Try.func4, Try.ntmps4
  rcases hh with h1 | ⟨h1, h2⟩ | ⟨h1, h2, h3⟩ | ⟨h1, h2, h3, h4⟩
  all_goals
    go_wp2_with fail
    go_ret2
    exact ⟨rfl, rfl⟩
theorem mas_busy (p : Nat) (F : Nat → Prop) (d : MasD) (w : World) (h : MasAt w p F d) (hok : MasOk d) : Calls Try.prog 8 #[pM p] w (fun e w' => e = .returned (.bool d.under) ∧ w = w') := by
  obtain ⟨s, A, n, c, h1, -⟩ := h
  unfold masRow at h1
  obtain ⟨-, -, c2, -⟩ := cells12 h1
  have hb : decide ((0 : Int) < (busyN d : Int)) = d.under := by
    unfold busyN
    rcases hu : d.under with _ | _
    · simp
    · have := (hok.u hu).1
      simp; omega
  clear h1 hok
  generalize busyN d = N at *
  generalize d.under = u at *
  have hb2 : (0 : Int) < (N : Int) ↔ u = true := by rw [← hb]; simp
  unfold pM
  cases u
  · have h0 : ¬ (0 : Int) < (N : Int) := by simpa using hb2
    clear hb hb2
    go_enter Try.func8, Try.ntmps8
    go_wp2_with fail
    go_ret
    exact ⟨by simpa using h0, rfl⟩
  · have h0 : (0 : Int) < (N : Int) := by simpa using hb2
    clear hb hb2
    go_enter Try.func8, Try.ntmps8
    go_wp2_with fail
    go_ret
    exact ⟨by simpa using h0, rfl⟩
theorem mas_timely (now : Int) (w : World) : Calls Try.prog 16 #[.int .i64 now] w (fun e w' => e = .returned (.bool (decide (0 ≤ now ∧ now ≤ 1099511627776))) ∧ w = w') := by
  by_cases h1 : 0 ≤ now
  · by_cases h2 : now ≤ 1099511627776
    · rw [decide_eq_true (show 0 ≤ now ∧ now ≤ 1099511627776 from ⟨h1, h2⟩)]
      go_enter Try.func16, Try.ntmps16
      go_wp2_with fail
      go_ret
      exact ⟨rfl, rfl⟩
    · rw [decide_eq_false (show ¬ (0 ≤ now ∧ now ≤ 1099511627776) from fun h => h2 h.2)]
      go_enter Try.func16, Try.ntmps16
      go_wp2_with fail
      go_ret
      exact ⟨rfl, rfl⟩
  · rw [decide_eq_false (show ¬ (0 ≤ now ∧ now ≤ 1099511627776) from fun h => h1 h.1)]
    go_enter Try.func16, Try.ntmps16
    go_wp2_with fail
    go_ret
    exact ⟨rfl, rfl⟩
theorem sclone_any (l : List UInt8) (A : Option Addr) (n c : Nat) (w : World) (hr : Rd w A n (l.map cB)) (hn : n ≤ 1000000) : Calls Try.prog 18 #[.slice A n c] w (fun e w' => ∃ A' n' c', e = .returned (.slice A' n' c') ∧ Own w' w.heap.size 5 IsU8 A' n' c' (l.map cB) ∧ Ext w w') := by
  have HR := Lib.hid hr
  have hnil := fun (W : World) (a : Option Addr) (n c : Nat) => Lib.run_eql_slice_nil (P := Try.prog) W 34 5 a n c 0 0 Try.underlying34
  clear hr
  rcases A with _ | a
  · have h0 : n = 0 := by
      rcases Nat.eq_zero_or_pos n with h | h
      · exact h
      · obtain ⟨b, off, e, -⟩ := HR.out.2 h; cases e
    subst h0
    have hl : l = [] := List.eq_nil_of_length_eq_zero HR.out.length
    subst hl
    go_enter Try.func18, Try.ntmps18
    go_wp2_with fail
    go_ret
    exact ⟨none, 0, 0, rfl, Own.nil_ _ _ _ _, Ext.refl _⟩
  · have HE0 : Hid (Own (w.alloc (.cells #[] 5)) w.heap.size 5 IsU8 (some ⟨w.heap.size, 0, none⟩) 0 0 []) := by
      have := Own.new w (Nat.le_refl _) 5 (#[] : Array Value) 0 (Nat.le_refl _) (by simp) (p := IsU8) (by simp)
      exact this
    go_enter Try.func18, Try.ntmps18
    go_wp2_with (at_builtin
                 go_must (refine app_u8 (base := w.heap.size) _ rfl (.tmp 5) (.tmp 6) rfl rfl HE0.out rfl (HR.out.ext (Ext.alloc _ _)) isU8_map (by omega) (by simp) ?_)
                 intro A2 c2 w2 hown hg hbk
                 rw [Nat.zero_add, List.nil_append] at hown
                 have HO := Lib.hid hown
                 have X2 := Lib.hid ((Ext.alloc w (.cells #[] 5)).grown' hg (fun g hg => (HE0.out.lt g hg).1))
                 clear hown hg hbk)
    go_wp2_with fail
    go_ret
    exact ⟨A2, _, c2, rfl, HO.out, X2.out⟩
end Go.Proofs.Ytcnjhjfepojdaaa
