/- Contracts of the frames on a stream: Put, and the reference's. -/
import Derived.Test.YtemiahjdacckgaaStreamPure
import Derived.Test.YtemiahjdacckgaaFrame2
namespace Go.Proofs.Ytemiahjdacckgaa
set_option linter.unusedVariables false
open Go Go.RowKit Go.Out

/-- A row of bytes that the call has just laid. -/
theorem own_lit {base n g : Nat} {e : TypeId} (w : World) (cur : Array Value) (l : List UInt8) (hc : cur.toList = l.map cB) (hn : l.length = n) (hn2 : n ≤ 1000) (hbase : base ≤ w.heap.size) (hg : g = w.heap.size) :
    Own (w.alloc (.cells cur e)) base e IsU8 (some ⟨g, 0, none⟩) n n (l.map cB) := by
  subst hg
  exact Own.bytes hbase (heap_alloc_new w _) hc hn (by unfold maxLen; omega)
theorem u8_eq {x y : Int} (h : x = y) : (.int .u8 x : Value) = .int .u8 y := by rw [h]
theorem headF_cells (id n : Nat) (u : UInt8) (a b c d : Int) (h1 : a = (id : Int) / 256 % 256) (h2 : b = (id : Int) % 256) (h3 : c = (n : Int) / 256 % 256) (h4 : d = (n : Int) % 256) :
    (#[.int .u8 a, .int .u8 b, .int .u8 0, .int .u8 0, .int .u8 c, .int .u8 d, .int .u8 (u.toNat : Int)] : Array Value).toList = (headF id n u).map cB := by
  subst h1 h2 h3 h4
  unfold headF
  simp only [List.map_cons, List.map_nil, cB_of]
  rfl
theorem putTF_ok {id : Nat} {u : UInt8} {b : List UInt8} {m : Nat} (hl : b.length = m) (h : szF m = 0) : putTF ⟨id, u, b⟩ = (headF id (1 + m) u ++ b, 0) := by
  subst hl; unfold putTF; rw [if_neg (by simp [h])]
theorem putTF_no {id : Nat} {u : UInt8} {b : List UInt8} {m : Nat} (hl : b.length = m) (h : ¬ szF m = 0) : putTF ⟨id, u, b⟩ = ([], szF m) := by
  subst hl; unfold putTF; rw [if_pos h]

theorem tcpPut_any (id : Nat) (u : UInt8) (b : List UInt8) (A : Option Addr) (m c : Nat) (w : World) (hid : id < 65536) (hr : Rd w A m (b.map cB)) (hm : m ≤ 140737488355200) :
    Calls Try.prog 27 #[.agg #[.int .u16 (id : Int), .int .u8 (u.toNat : Int), .slice A m c]] w (RetS w 5 (putTF ⟨id, u, b⟩)) := by
  have hl := hr.length
  have Hr := Lib.hid hr; clear hr
  by_cases hsz : szF m = 0
  · have hm1 : 1 ≤ m ∧ m ≤ 253 := by unfold szF at hsz; split at hsz; omega; split at hsz <;> omega
    rw [putTF_ok hl hsz]
    clear hl
    have Hhead := Lib.hid (headF_cells id (1 + m) u ((id : Int) / 256) ((id : Int) % 256) ((1 + (m : Int)) / 256) (1 + (m : Int)) (by omega) (by omega) (by omega) (by omega))
    have hra : ∀ o o' : Obj, Rd ((w.alloc o).alloc o') A m (b.map cB) := fun o o' => (Hr.out.below ((Below.refl _ _).alloc (Nat.le_refl _) _)).below ((Below.refl _ _).alloc (by simp) _)
    have Hra := Lib.hid hra; clear hra
    go_enter Try.func27, Try.ntmps27
    go_wp2_with fail
    refine (sized_any _ _ _ _).mono ?_
    rintro e w1 ⟨rfl, rfl⟩
    rw [hsz]
    go_wp2_with (at_builtin; go_must (refine app_u8 _ rfl (.tmp 32) (.tmp 34) rfl rfl (own_lit (base := w.heap.size) _ _ _ Hhead.out rfl (by omega) (by simp) (by simp)) rfl (Hra.out _ _) isU8_map (by omega) (by simp; omega) ?_); intro A1 c1 w1 hown1 hg1 hb1)
    go_ret2
    exact ⟨_, _, _, rfl, by rw [List.map_append]; exact hown1, ((((Below.refl _ _).alloc (Nat.le_refl _) _).alloc (by simp) _).grown hg1 (by simp; omega) (by simp [blk]))⟩
  · rw [putTF_no hl hsz]
    have ht : (szF m != 0) = true := by simp [hsz]
    go_enter Try.func27, Try.ntmps27
    go_wp2_with fail
    refine (sized_any _ _ _ _).mono ?_
    rintro e w1 ⟨rfl, rfl⟩
    go_wp2_with fail
    go_ret2
    exact ⟨_, _, _, rfl, Own.nil_ _ _ _ _, (Below.refl _ _).alloc (Nat.le_refl _) _⟩

theorem refTcpPut_any (id : Nat) (u : UInt8) (b : List UInt8) (A : Option Addr) (m c : Nat) (w : World) (hid : id < 65536) (hr : Rd w A m (b.map cB)) (hm : m ≤ 140737488355200) :
    Calls Try.prog 28 #[.agg #[.int .u16 (id : Int), .int .u8 (u.toNat : Int), .slice A m c]] w (RetS w 5 (putTF ⟨id, u, b⟩)) := by
  have hl := hr.length
  have Hr := Lib.hid hr; clear hr
  by_cases hsz : szF m = 0
  · have hm1 : 1 ≤ m ∧ m ≤ 253 := by unfold szF at hsz; split at hsz; omega; split at hsz <;> omega
    rw [putTF_ok hl hsz]
    clear hl
    have Hhead := Lib.hid (headF_cells id (1 + m) u ((id : Int) / 256) ((id : Int) % 256) ((1 + (m : Int)) / 256) ((1 + (m : Int)) % 256) (by omega) (by omega) (by omega) (by omega))
    have hra : ∀ o o' : Obj, Rd ((w.alloc o).alloc o') A m (b.map cB) := fun o o' => (Hr.out.below ((Below.refl _ _).alloc (Nat.le_refl _) _)).below ((Below.refl _ _).alloc (by simp) _)
    have Hra := Lib.hid hra; clear hra
    go_enter Try.func28, Try.ntmps28
    go_wp2_with fail
    refine (pdu_any _ _ _ _).mono ?_
    rintro e w1 ⟨rfl, rfl⟩
    rw [hsz]
    go_wp2_with (at_builtin; go_must (refine app_u8 _ rfl (.tmp 32) (.tmp 34) rfl rfl (own_lit (base := w.heap.size) _ _ _ Hhead.out rfl (by omega) (by simp) (by simp)) rfl (Hra.out _ _) isU8_map (by omega) (by simp; omega) ?_); intro A1 c1 w1 hown1 hg1 hb1)
    go_ret2
    exact ⟨_, _, _, rfl, by rw [List.map_append]; exact hown1, ((((Below.refl _ _).alloc (Nat.le_refl _) _).alloc (by simp) _).grown hg1 (by simp; omega) (by simp [blk]))⟩
  · rw [putTF_no hl hsz]
    have ht : (szF m != 0) = true := by simp [hsz]
    go_enter Try.func28, Try.ntmps28
    go_wp2_with fail
    refine (pdu_any _ _ _ _).mono ?_
    rintro e w1 ⟨rfl, rfl⟩
    go_wp2_with fail
    go_ret2
    exact ⟨_, _, _, rfl, Own.nil_ _ _ _ _, (Below.refl _ _).alloc (Nat.le_refl _) _⟩
end Go.Proofs.Ytemiahjdacckgaa
