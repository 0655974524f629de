/- Contracts of the requests: a request as a PDU: reads, one coil, one register. -/
import Derived.Test.YtcnjhjfepojdaaaAskX
import Derived.Test.YtcnjhjfepojdaaaAsk6
namespace Go.Proofs.Ytcnjhjfepojdaaa
set_option linter.unusedVariables false
set_option linter.unusedSimpArgs false
set_option maxRecDepth 100000
set_option maxHeartbeats 2000000
open Go Go.RowKit Go.Out

/-- A call that hands back bytes of its own and an error's number. -/
def RetU (w : World) (xs : List UInt8) (err : Int) (e : Ending) (w' : World) : Prop :=
  ∃ A n c, e = .returned (.tuple #[.slice A n c, .int .i64 err]) ∧ Own w' w.heap.size 5 IsU8 A n c (xs.map cB) ∧ Ext w w'
theorem RetU.of {w w' : World} {xs xs' : List UInt8} {A : Option Addr} {n c : Nat} (h : xs' = xs) (ho : Own w' w.heap.size 5 IsU8 A n c (xs'.map cB)) (hx : Ext w w') : RetU w xs 0 (.returned (.tuple #[.slice A n c, .int .i64 0])) w' := ⟨A, n, c, rfl, h ▸ ho, hx⟩
theorem Own.first (w : World) (base : Nat) (h : base ≤ w.heap.size) (x : UInt8) (v : Nat) (hv : x.toNat = v) : Own (w.alloc (.cells #[.int .u8 (v : Int)] 5)) base 5 IsU8 (some ⟨w.heap.size, 0, none⟩) 1 1 ([x].map cB) := by
  subst hv
  exact Own.bytes (l := [x]) h (heap_alloc_new w _) rfl rfl (by unfold maxLen; omega)
/-- A byte and two numbers behind it. -/
theorem first_two (w V : World) (x : UInt8) (b g u v : Nat) (hu : u < 65536) (hv : v < 65536) (hW : Own V w.heap.size 5 IsU8 (some ⟨b, 0, none⟩) 1 1 ([x].map cB)) (hX : Ext w V) (hL : V.heap[g]? = some (.cells #[.int .i64 (u : Int), .int .i64 (v : Int)] 3 (0, 0))) (hne : g ≠ b) :
    Calls Try.prog 28 #[.slice (some ⟨b, 0, none⟩) 1 1, .slice (some ⟨g, 0, none⟩) 2 2] V fun e w' => ∃ A c, e = .returned (.slice A 5 c) ∧ Own w' w.heap.size 5 IsU8 A 5 c ((x :: (two u ++ two v)).map cB) ∧ Ext w w' ∧ Grow V w' (some ⟨b, 0, none⟩) A := by
  refine (two_any [x] [u, v] 1 2 (by simp; omega) rfl _ _ _ _ w.heap.size _ hW hX.size (by omega) (by omega)
    (Rd.of_heap (xs := [u, v].map fun (v : Nat) => (Value.int .i64 (v : Int))) (ys := []) hL rfl rfl) (by intro k hk; simp [blk] at hk ⊢; omega)).mono ?_
  rintro e w' ⟨A, c, rfl, ho, hG⟩
  exact ⟨A, c, rfl, ho, hX.grown' hG.1 (fun k hk => by simp [blk] at hk; subst hk; exact (hW.lt b rfl).1), hG⟩
theorem heap_at (w : World) (o : Obj) (g : Nat) (h : g = w.heap.size) : (w.alloc o).heap[g]? = some o := by subst h; exact heap_alloc_new w o
theorem Grow.ne {w w' : World} {A A' : Option Addr} {g : Nat} (h : Grow w w' A A') (hlt : g < w.heap.size) (hne : blk A ≠ some g) : blk A' ≠ some g := by
  rcases h.2 with e | e
  · rw [e]; exact hne
  · intro h2
    have := e g h2
    omega
theorem Grow.own {w w' : World} {A A' B : Option Addr} {base n c : Nat} {t : TypeId} {p : Value → Prop} {xs : List Value} (h : Grow w w' A A') (ho : Own w base t p B n c xs) (hne : ∀ g, blk B = some g → blk A ≠ some g) : Own w' base t p B n c xs :=
  ho.grown h.1 fun g hg e => hne g hg e.symm
theorem Grow.ext {w w0 w' : World} {A A' : Option Addr} {n c : Nat} {t : TypeId} {p : Value → Prop} {xs : List Value} (h : Grow w w' A A') (hx : Ext w0 w) (ho : Own w w0.heap.size t p A n c xs) : Ext w0 w' :=
  hx.grown' h.1 fun k hk => (ho.lt k hk).1
theorem Grow.of_grown {w w' : World} {A A' : Option Addr} (hg : w.grownBy w' (blk A)) (hb : blk A' = blk A ∨ blk A' = some w.heap.size) : Grow w w' A A' :=
  ⟨hg, hb.imp id fun hb k hk => by rw [hb] at hk; injection hk with hk; omega⟩
/-- A Check that finds nothing wrong. -/
theorem askOk {a : AskD} {s : AskS} {w : World} (hr : AskRd w a s) (h : checkF a = 0) : ∀ W, Ext w W → Calls Try.prog 27 #[askV a s] W (RetI W 0) := by
  intro W hX
  have := check_any a s W (hr.ext hX)
  rwa [h] at this

theorem askNo (a : AskD) (s : AskS) (w : World) (hr : AskRd w a s) (h : checkF a ≠ 0) : Calls Try.prog 15 #[askV a s] w (RetU w [] (checkF a)) := by
  have hc := fun W (hX : Ext w W) => check_any a s W (hr.ext hX)
  obtain ⟨k, hk⟩ : ∃ k, checkF a = k := ⟨_, rfl⟩
  simp only [hk] at hc h ⊢
  have ht : (k != 0) = true := by simpa using h
  have HC := Lib.hid hc; clear hc hr hk h
  obtain ⟨code, addr, count, on, set, parts⟩ := a
  obtain ⟨A1, n1, c1, A2, n2, c2, A3, n3, c3⟩ := s
  simp only [askV] at HC ⊢
  go_enter Try.func15, Try.ntmps15
  go_wp2_with fail
  refine (HC.out _ (Ext.alloc _ _)).mono ?_
  rintro e w1 ⟨rfl, hb⟩
  have X1 := (Ext.alloc _ _).trans hb
  clear hb
  go_wp2_with fail
  go_ret2
  exact ⟨none, 0, 0, rfl, Own.nil_ _ _ _ _, X1⟩

theorem askCnt (c A n : Nat) (s : AskS) (w : World) (hr : AskRd w ⟨c, A, n, [], [], []⟩ s) (h : checkF ⟨c, A, n, [], [], []⟩ = 0) (h1 : 1 ≤ c) (h4 : c ≤ 4) (hA : A ≤ 65535) (hn : n ≤ 2000) :
    Calls Try.prog 15 #[askV ⟨c, A, n, [], [], []⟩ s] w (RetU w (UInt8.ofNat c :: (two A ++ two n)) 0) := by
  have HC := Lib.hid (askOk hr h); clear hr h
  obtain ⟨A1, n1, c1, A2, n2, c2, A3, n3, c3⟩ := s
  simp only [askV] at HC ⊢
  have hc8 : (UInt8.ofNat c).toNat = c := by simp; omega
  go_enter Try.func15, Try.ntmps15
  go_wp2_with fail
  refine (HC.out _ (Ext.alloc _ _)).mono ?_
  rintro e w1 ⟨rfl, hb⟩
  have D := fun o : Obj => ask_cells _ (hb.trans (Ext.alloc _ o))
  obtain ⟨d0, -⟩ := ask_cells _ hb
  have d1 := fun o => (D o).2.1
  have d2 := fun o => (D o).2.2.1
  have d0' := fun o => (D o).1
  have X1 := Lib.hid ((Ext.alloc _ _).trans hb)
  clear hb D
  go_wp2_with fail
  refine (first_two w _ (UInt8.ofNat c) _ _ A n (by omega) (by omega) ((Own.first w1 _ X1.out.size _ _ hc8).ext (Ext.alloc _ _)) (X1.out.trans ((Ext.alloc _ _).trans (Ext.alloc _ _))) (heap_at _ _ _ (by simp)) (by omega)).mono ?_
  rintro e w2 ⟨A', c', rfl, ho, hx, -⟩
  go_wp2_with fail
  go_ret2
  exact RetU.of rfl ho hx

theorem askCoil (A : Nat) (x : Bool) (s : AskS) (w : World) (hr : AskRd w ⟨5, A, 0, [x], [], []⟩ s) (h : checkF ⟨5, A, 0, [x], [], []⟩ = 0) (hA : A ≤ 65535) :
    Calls Try.prog 15 #[askV ⟨5, A, 0, [x], [], []⟩ s] w (RetU w (5 :: (two A ++ two (if x then 65280 else 0))) 0) := by
  have HC := Lib.hid (askOk hr h)
  have h1 := hr.n1
  have hr1 := hr.on
  clear hr h
  obtain ⟨A1, n1, c1, A2, n2, c2, A3, n3, c3⟩ := s
  simp only [askV] at HC h1 hr1 ⊢
  obtain rfl : 1 = n1 := h1
  obtain ⟨bx, ox, rfl, hbx, hlx, hcx⟩ := hr1.boat (k := 0) (by omega)
  simp only [List.getElem_cons_zero, Nat.add_zero] at hcx
  clear hr1
  cases x
  all_goals
    go_enter Try.func15, Try.ntmps15
    go_wp2_with fail
    refine (HC.out _ (Ext.alloc _ _)).mono ?_
    rintro e w1 ⟨rfl, hb⟩
    have D := fun o : Obj => ask_cells _ (hb.trans (Ext.alloc _ o))
    have hcy := fun o : Obj => ((Ext.alloc w _).trans (hb.trans (Ext.alloc _ o))).cell hbx hcx
    obtain ⟨d0, -⟩ := ask_cells _ hb
    have d1 := fun o => (D o).2.1
    have d3 := fun o => (D o).2.2.2.1
    have d0' := fun o => (D o).1
    have X1 := Lib.hid ((Ext.alloc _ _).trans hb)
    clear hb D
    go_wp2_with fail
    first
      | refine (first_two w _ 5 _ _ A 0 (by omega) (by omega) ((Own.first w1 _ X1.out.size 5 5 rfl).ext (Ext.alloc _ _)) (X1.out.trans ((Ext.alloc _ _).trans (Ext.alloc _ _))) (heap_at _ _ _ (by simp)) (by omega)).mono ?_
      | refine (first_two w _ 5 _ _ A 65280 (by omega) (by omega) ((Own.first w1 _ X1.out.size 5 5 rfl).ext (Ext.alloc _ _)) (X1.out.trans ((Ext.alloc _ _).trans (Ext.alloc _ _))) (heap_at _ _ _ (by simp)) (by omega)).mono ?_
    rintro e w2 ⟨A', c', rfl, ho, hx, -⟩
    go_wp2_with fail
    go_ret2
    exact RetU.of rfl ho hx
end Go.Proofs.Ytcnjhjfepojdaaa
