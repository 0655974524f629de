/- Contracts of Crc16, Crc32, known, and the walks of SumsReckon, SumsPieces and SumsLaid: for every input true; nothing that was there turns. -/
import Derived.Test.YtemiahjdacckgaaSums
import Derived.Deep.RegionWith
import Derived.Lib.SlBytesConst
namespace Go.Proofs.Ytemiahjdacckgaa
set_option linter.unusedVariables false
open Go Go.RowKit Go.Out

theorem crc16_any (l : List UInt8) (A : Option Addr) (m c : Nat) (w : World) (hr : Rd w A m (l.map cB)) (hm : m ≤ 140737488355328) :
    Calls Try.prog 16 #[.slice A m c] w fun e w' => e = .returned (.int .u16 (more16 65535 l : Nat)) ∧ w = w' := by
  have Hr := Lib.hid hr; clear hr
  go_enter Try.func16, Try.ntmps16
  go_wp2_with fail
  refine (more16_any l _ _ _ 65535 _ Hr.out hm (by decide)).mono ?_
  rintro e w1 ⟨rfl, rfl⟩
  go_wp2_with fail
  go_ret
  exact ⟨rfl, rfl⟩
theorem refCrc16_any (l : List UInt8) (A : Option Addr) (m c : Nat) (w : World) (hr : Rd w A m (l.map cB)) (hm : m ≤ 140737488355328) :
    Calls Try.prog 17 #[.slice A m c] w fun e w' => e = .returned (.int .u16 (more16 65535 l : Nat)) ∧ w = w' := by
  have Hr := Lib.hid hr; clear hr
  go_enter Try.func17, Try.ntmps17
  go_wp2_with fail
  refine (refMore16_any l _ _ _ 65535 _ Hr.out hm (by decide)).mono ?_
  rintro e w1 ⟨rfl, rfl⟩
  go_wp2_with fail
  go_ret
  exact ⟨rfl, rfl⟩
theorem crc32_any (l : List UInt8) (A : Option Addr) (m c : Nat) (w : World) (hr : Rd w A m (l.map cB)) (hm : m ≤ 140737488355328) :
    Calls Try.prog 20 #[.slice A m c] w fun e w' => e = .returned (.int .u32 (more32 0 l : Nat)) ∧ w = w' := by
  have Hr := Lib.hid hr; clear hr
  go_enter Try.func20, Try.ntmps20
  go_wp2_with fail
  refine (more32_any l _ _ _ 0 _ Hr.out hm (by decide)).mono ?_
  rintro e w1 ⟨rfl, rfl⟩
  go_wp2_with fail
  go_ret
  exact ⟨rfl, rfl⟩
theorem refCrc32_any (l : List UInt8) (A : Option Addr) (m c : Nat) (w : World) (hr : Rd w A m (l.map cB)) (hm : m ≤ 140737488355328) :
    Calls Try.prog 21 #[.slice A m c] w fun e w' => e = .returned (.int .u32 (more32 0 l : Nat)) ∧ w = w' := by
  have Hr := Lib.hid hr; clear hr
  go_enter Try.func21, Try.ntmps21
  go_wp2_with fail
  refine (refMore32_any l _ _ _ 0 _ Hr.out hm (by decide)).mono ?_
  rintro e w1 ⟨rfl, rfl⟩
  go_wp2_with fail
  go_ret
  exact ⟨rfl, rfl⟩

/-- The bytes of a constant text, in a new block that is marked behind its end. -/
theorem Rd.marked (w : World) (xs : List Value) (t : TypeId) (fr : Nat × Nat) (n : Nat) (hn : xs.length = n) : Rd (w.alloc (.cells xs.toArray t fr)) (some ⟨w.heap.size, 0, none⟩) n xs :=
  ⟨hn, fun _ => ⟨_, 0, rfl, by simp, fun j u hu => by
    rw [cell_of_row _ _ _ _ _ _ (heap_alloc_new w _), Nat.zero_add]; simpa using hu⟩⟩

def digits9 : List UInt8 := [49, 50, 51, 52, 53, 54, 55, 56, 57]
theorem digits16 : more16 65535 digits9 = 19255 := by decide +kernel
theorem digits32 : more32 0 digits9 = 3421780262 := by decide +kernel

theorem known_any (w : World) : Calls Try.prog 25 #[] w fun e w' => e = .returned (.bool true) ∧ Below w.heap.size w w' := by
  have kc := fun (w : World) (C : Array Value) (n c : Nat) => Lib.run_convert_bytes_const (P := Try.prog) w 22 5 C n c Try.underlying22 Try.underlying5
  go_enter Try.func25, Try.ntmps25
  go_wp2_with fail
  refine (crc16_any digits9 _ _ _ _ (Go.Proofs.Ytemiahjdacckgaa.Rd.marked w (digits9.map cB) _ _ 9 rfl) (by omega)).mono ?_
  rintro e w1 ⟨rfl, hw⟩
  have hb : Below w.heap.size w w1 := hw ▸ (Below.refl _ _).alloc (Nat.le_refl _) _
  clear hw
  rw [digits16]
  go_wp2_with fail
  refine (crc32_any digits9 _ _ _ _ (Go.Proofs.Ytemiahjdacckgaa.Rd.marked _ (digits9.map cB) _ _ 9 rfl) (by omega)).mono ?_
  rintro e w2 ⟨rfl, rfl⟩
  rw [digits32]
  go_wp2_with fail
  go_ret
  exact ⟨rfl, hb.alloc hb.size _⟩

theorem lawSumsReckon (b : List UInt8) (A : Option Addr) (m c : Nat) (x y : Int) (w : World) (hr : Rd w A m (b.map cB)) (hc : m ≤ c) (_ : c ≤ 9223372036854775807) (hb : c * 1 ≤ 140737488351232) (wfx : (Lit.int .u16 x).wf = true) (wfy : (Lit.int .u32 y).wf = true) :
    Calls Try.prog 3 #[.slice A m c, .int .u16 x, .int .u32 y] w fun e w' => e = .returned (.bool true) ∧ Below w.heap.size w w' := by
  have Hr := Lib.hid hr; clear hr
  obtain ⟨x, rfl⟩ := Int.eq_ofNat_of_zero_le (bounds_u16 wfx).1
  obtain ⟨y, rfl⟩ := Int.eq_ofNat_of_zero_le (bounds_u32 wfy).1
  have Hx : Hid (x < 65536) := by have := (bounds_u16 wfx).2; unfold Hid; omega
  have Hy : Hid (y < 4294967296) := by have := (bounds_u32 wfy).2; unfold Hid; omega
  clear wfx wfy
  go_enter Try.func3, Try.ntmps3
  go_wp2_with fail
  refine (lent_any b _ _ _ _ Hr.out (by omega)).mono ?_
  rintro e w1 ⟨g, cur, rfl, hg, hh, hcur, hb1⟩
  have hrx : Rd w1 (some ⟨g, 0, none⟩) m (b.map cB) := Rd.of_heap hh hcur (by simpa using Hr.out.length)
  have hrw := Hr.out.below hb1
  have Hh := Lib.hid hh; have Hcur := Lib.hid hcur; have Hrx := Lib.hid hrx; have Hrw := Lib.hid hrw; clear hh hcur hrx hrw
  have hz1 := hb1.size
  go_wp2_with fail
  refine (crc16_any b _ _ _ _ Hrx.out (by omega)).mono ?_
  rintro e w2 ⟨rfl, rfl⟩
  go_wp2_with fail
  refine (refCrc16_any b _ _ _ _ Hrw.out (by omega)).mono ?_
  rintro e w2 ⟨rfl, rfl⟩
  generalize more16 65535 b = S1
  have ht1 : ((S1 : Int) == (S1 : Int)) = true := by simp
  go_wp2_with fail
  refine (more16_any b _ _ _ x _ Hrx.out (by omega) Hx.out).mono ?_
  rintro e w2 ⟨rfl, rfl⟩
  go_wp2_with fail
  refine (refMore16_any b _ _ _ x _ Hrw.out (by omega) Hx.out).mono ?_
  rintro e w2 ⟨rfl, rfl⟩
  generalize more16 x b = S2
  have ht2 : ((S2 : Int) == (S2 : Int)) = true := by simp
  go_wp2_with fail
  refine (crc32_any b _ _ _ _ Hrx.out (by omega)).mono ?_
  rintro e w2 ⟨rfl, rfl⟩
  go_wp2_with fail
  refine (refCrc32_any b _ _ _ _ Hrw.out (by omega)).mono ?_
  rintro e w2 ⟨rfl, rfl⟩
  generalize more32 0 b = S3
  have ht3 : ((S3 : Int) == (S3 : Int)) = true := by simp
  go_wp2_with fail
  refine (more32_any b _ _ _ y _ Hrx.out (by omega) Hy.out).mono ?_
  rintro e w2 ⟨rfl, rfl⟩
  go_wp2_with fail
  refine (refMore32_any b _ _ _ y _ Hrw.out (by omega) Hy.out).mono ?_
  rintro e w2 ⟨rfl, rfl⟩
  generalize more32 y b = S4
  have ht4 : ((S4 : Int) == (S4 : Int)) = true := by simp
  go_wp2_with fail
  refine (kept_any b _ _ _ g cur _ Hrw.out Hh.out Hcur.out (by omega)).mono ?_
  rintro e w3 ⟨rfl, hb3⟩
  go_wp2_with fail
  go_ret
  exact ⟨rfl, hb1.trans (hb3.mono hz1)⟩
end Go.Proofs.Ytemiahjdacckgaa
