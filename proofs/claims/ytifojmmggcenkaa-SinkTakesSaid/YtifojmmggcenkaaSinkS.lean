/- Are two lists of rows, of packets the same; the law's known; how rows and what comes are opened. -/
import Derived.Test.YtifojmmggcenkaaSinkG
import Derived.Test.YtifojmmggcenkaaPacSees
import Derived.Test.YtifojmmggcenkaaPick
namespace Go.Proofs.Ytifojmmggcenkaa
set_option linter.unusedVariables false
set_option linter.unusedSimpArgs false
set_option maxRecDepth 100000
set_option maxHeartbeats 1000000
open Go Go.RowKit Go.Out

theorem sameRows_eq (l : List (List UInt8)) (A B : Option Addr) (n ca cb : Nat) (w : World) (ha : RdL rowK w A n l) (hb : RdL rowK w B n l) (hn : n ≤ 1000000) :
    Calls Try.prog 16 #[.slice A n ca, .slice B n cb] w (RetQ w true) := by
  have HA := Lib.hid ha; have HB := Lib.hid hb
  clear ha hb
  go_enter Try.func16, Try.ntmps16
  go_wp2_with fail
  go_loopw [5] (fun i wr => ∃ k : Nat, k ≤ n ∧ i = .int .i64 (k : Int) ∧ Hid (Ext w wr)) (fun i _ => n - (intOf i).toNat)
  case atStart => exact ⟨0, Nat.zero_le _, rfl, Ext.refl _⟩
  case round =>
    obtain ⟨k, hk, rfl, HX⟩ := hrel
    rcases Nat.lt_or_ge k n with hlt | hge
    · obtain ⟨b1, o1, B1, m1, c1, rfl, hb1, hc1, hr1, hm1, hcm1⟩ := rows_at (HA.out.ext HX.out) hlt
      obtain ⟨b2, o2, B2, m2, c2, rfl, hb2, hc2, hr2, hm2, hcm2⟩ := rows_at (HB.out.ext HX.out) hlt
      have HQ := Lib.hid (fun W (hX : Ext wr W) => same_any (l.getD k []) (l.getD k []) B1 B2 m1 m2 c1 c2 W (hr1.ext hX) (hr2.ext hX) (by unfold maxLen; omega))
      rw [decide_eq_true rfl] at HQ
      have HSS : Hid (∀ W, Ext wr W → W.cell? ⟨b1, o1 + k, none⟩ = some (.slice B1 m1 c1) ∧ W.cell? ⟨b2, o2 + k, none⟩ = some (.slice B2 m2 c2)) := fun W hX => ⟨hX.cell hb1 hc1, hX.cell hb2 hc2⟩
      have i1 : (0 : Int) ≤ (k : Int) := by omega
      have i2 : (k : Int) < (n : Int) := by omega
      have i5 : IntKind.i64.wrap ((k : Int) + 1) = (k : Int) + 1 := IntWalk.i64_in _ (by omega)
      clear hr1 hr2
      go_wp2_with fail
      go_region_held3 (fun W => W.cell? ⟨b1, o1 + k, none⟩ = some (.slice B1 m1 c1) ∧ W.cell? ⟨b2, o2 + k, none⟩ = some (.slice B2 m2 c2)) (first | go_keep | exact HSS.out _ X5.out) ((first
        | (go_at_call 19
           with_reducible refine Calls.mono (HQ.out _ (Ext.draw _)) ?_
           rintro e w5 ⟨rfl, hx5⟩
           have X5 := Lib.hid ((Ext.draw wr).trans (Ext.of hx5))
           clear hx5)))
      go_wp2_with fail
      go_roundw
      case rel => exact ⟨k + 1, by omega, by go_num, HX.out.trans X5.out⟩
      case measure => simp [intOf]; omega
    · have i2 : ¬ (k : Int) < (n : Int) := by omega
      go_wp2_with fail
      go_ret
      exact ⟨rfl, HX.out⟩
theorem done_at {w : World} {A : Option Addr} {n k : Nat} {l : List PacD} (h : RdL doneK w A n l) (hk : k < n) : ∃ b off B c P, A = some ⟨b, off, none⟩ ∧ b < w.heap.size ∧ (∀ W, PacRd W P B 0 c) ∧ P.body = [] ∧ ∀ W, Ext w W →
    W.cell? ⟨b, off + k * 6, none⟩ = some (.int .i64 P.kind) ∧ W.cell? ⟨b, off + k * 6 + 1, none⟩ = some (.int .i64 P.epoch) ∧ W.cell? ⟨b, off + k * 6 + 2, none⟩ = some (.int .i64 P.seq) ∧ W.cell? ⟨b, off + k * 6 + 3, none⟩ = some (.int .i64 P.id) ∧ W.cell? ⟨b, off + k * 6 + 4, none⟩ = some (.int .i64 P.code) ∧ W.cell? ⟨b, off + k * 6 + 5, none⟩ = some (.slice B 0 c) ∧ P = l.getD k pac0 := by
  obtain ⟨b, off, e, hb, hl, cs, -, hc, h1, h2, B, c, h3, rfl, h4, h5, h6, h7⟩ := h.at_ hk
  refine ⟨b, off, B, c, l[k], e, hb, fun W => ⟨by rw [h1]; exact Rd.empty_ _ _, h4, h5, h6, h2, h7, Nat.zero_le _, h3⟩, h1, fun W hX => ?_⟩
  have hcj : ∀ j v, [Value.int .i64 l[k].kind, .int .i64 l[k].epoch, .int .i64 l[k].seq, .int .i64 l[k].id, .int .i64 l[k].code, .slice B 0 c][j]? = some v → W.cell? ⟨b, off + k * 6 + j, none⟩ = some v := fun j v hv => by
    have := hX.cell hb (hc j v hv)
    rw [show off + k * 6 + j = off + (k * doneK.k + j) from by show _ = off + (k * 6 + j); omega]
    exact this
  refine ⟨hcj 0 _ rfl, hcj 1 _ rfl, hcj 2 _ rfl, hcj 3 _ rfl, hcj 4 _ rfl, hcj 5 _ rfl, ?_⟩
  rw [List.getD_eq_getElem?_getD, List.getElem?_eq_getElem hl]; rfl
theorem samePackets_eq (l : List PacD) (A B : Option Addr) (n ca cb : Nat) (w : World) (ha : RdL doneK w A n l) (hb : RdL doneK w B n l) (hn : n ≤ 1000000) :
    Calls Try.prog 24 #[.slice A n ca, .slice B n cb] w (RetQ w true) := by
  have HA := Lib.hid ha; have HB := Lib.hid hb
  clear ha hb
  go_enter Try.func24, Try.ntmps24
  go_wp2_with fail
  go_loopw [5] (fun i wr => ∃ k : Nat, k ≤ n ∧ i = .int .i64 (k : Int) ∧ Hid (Ext w wr)) (fun i _ => n - (intOf i).toNat)
  case atStart => exact ⟨0, Nat.zero_le _, rfl, Ext.refl _⟩
  case round =>
    obtain ⟨k, hk, rfl, HX⟩ := hrel
    rcases Nat.lt_or_ge k n with hlt | hge
    · obtain ⟨b1, o1, B1, c1, P1, rfl, hb1, hp1, hy1, hc1⟩ := done_at (HA.out.ext HX.out) hlt
      obtain ⟨b2, o2, B2, c2, P2, rfl, hb2, hp2, hy2, hc2⟩ := done_at (HB.out.ext HX.out) hlt
      obtain rfl : P1 = P2 := ((hc1 wr (Ext.refl _)).2.2.2.2.2.2).trans ((hc2 wr (Ext.refl _)).2.2.2.2.2.2).symm
      have HQ := Lib.hid (fun W => samePac_eq P1 B1 B2 0 0 c1 c2 W (hp1 W) (hp2 W))
      obtain ⟨k0, k1, k2, k3, k4, l5⟩ := P1
      simp only [pacV] at HQ hc1 hc2
      have HSS : Hid (∀ W, Ext wr W → (W.cell? ⟨b1, o1 + k * 6, none⟩ = some (.int .i64 k0) ∧ W.cell? ⟨b1, o1 + k * 6 + 1, none⟩ = some (.int .i64 k1) ∧ W.cell? ⟨b1, o1 + k * 6 + 2, none⟩ = some (.int .i64 k2) ∧ W.cell? ⟨b1, o1 + k * 6 + 3, none⟩ = some (.int .i64 k3) ∧ W.cell? ⟨b1, o1 + k * 6 + 4, none⟩ = some (.int .i64 k4) ∧ W.cell? ⟨b1, o1 + k * 6 + 5, none⟩ = some (.slice B1 0 c1)) ∧
          W.cell? ⟨b2, o2 + k * 6, none⟩ = some (.int .i64 k0) ∧ W.cell? ⟨b2, o2 + k * 6 + 1, none⟩ = some (.int .i64 k1) ∧ W.cell? ⟨b2, o2 + k * 6 + 2, none⟩ = some (.int .i64 k2) ∧ W.cell? ⟨b2, o2 + k * 6 + 3, none⟩ = some (.int .i64 k3) ∧ W.cell? ⟨b2, o2 + k * 6 + 4, none⟩ = some (.int .i64 k4) ∧ W.cell? ⟨b2, o2 + k * 6 + 5, none⟩ = some (.slice B2 0 c2)) := fun W hX => by
        obtain ⟨x0, x1, x2, x3, x4, x5, -⟩ := hc1 W hX
        obtain ⟨y0, y1, y2, y3, y4, y5, -⟩ := hc2 W hX
        exact ⟨⟨x0, x1, x2, x3, x4, x5⟩, y0, y1, y2, y3, y4, y5⟩
      have i1 : (0 : Int) ≤ (k : Int) := by omega
      have i2 : (k : Int) < (n : Int) := by omega
      have i5 : IntKind.i64.wrap ((k : Int) + 1) = (k : Int) + 1 := IntWalk.i64_in _ (by omega)
      clear hp1 hp2 hc1 hc2 hy1 hy2
      go_wp2_with fail
      go_region_held3 (fun W => (W.cell? ⟨b1, o1 + k * 6, none⟩ = some (.int .i64 k0) ∧ W.cell? ⟨b1, o1 + k * 6 + 1, none⟩ = some (.int .i64 k1) ∧ W.cell? ⟨b1, o1 + k * 6 + 2, none⟩ = some (.int .i64 k2) ∧ W.cell? ⟨b1, o1 + k * 6 + 3, none⟩ = some (.int .i64 k3) ∧ W.cell? ⟨b1, o1 + k * 6 + 4, none⟩ = some (.int .i64 k4) ∧ W.cell? ⟨b1, o1 + k * 6 + 5, none⟩ = some (.slice B1 0 c1)) ∧
          W.cell? ⟨b2, o2 + k * 6, none⟩ = some (.int .i64 k0) ∧ W.cell? ⟨b2, o2 + k * 6 + 1, none⟩ = some (.int .i64 k1) ∧ W.cell? ⟨b2, o2 + k * 6 + 2, none⟩ = some (.int .i64 k2) ∧ W.cell? ⟨b2, o2 + k * 6 + 3, none⟩ = some (.int .i64 k3) ∧ W.cell? ⟨b2, o2 + k * 6 + 4, none⟩ = some (.int .i64 k4) ∧ W.cell? ⟨b2, o2 + k * 6 + 5, none⟩ = some (.slice B2 0 c2)) (first | exact HSS.out _ (Ext.refl _) | exact HSS.out _ (Ext.draw _) | go_keep | exact HSS.out _ X5.out) ((first
        | (go_at_call 33
           with_reducible refine Calls.mono (HQ.out _) ?_
           rintro e w5 ⟨rfl, hx5⟩
           have X5 := Lib.hid ((Ext.draw wr).trans hx5)
           clear hx5)))
      go_wp2_with fail
      go_roundw
      case rel => exact ⟨k + 1, by omega, by go_num, HX.out.trans X5.out⟩
      case measure => simp [intOf]; omega
    · have i2 : ¬ (k : Int) < (n : Int) := by omega
      go_wp2_with fail
      go_ret
      exact ⟨rfl, HX.out⟩
end Go.Proofs.Ytifojmmggcenkaa
