/- A unit: the contract of Do, whatever is asked. -/
import Derived.Test.YtpjmhckdeeonbaaUnit9
import Derived.Test.YtpjmhckdeeonbaaAskG5
import Derived.Test.YtpjmhckdeeonbaaFrame2
import Derived.Test.YtpjmhckdeeonbaaKitA
import Derived.Test.YtpjmhckdeeonbaaOpen
import Derived.Test.YtpjmhckdeeonbaaAsk2
namespace Go.Proofs.Ytpjmhckdeeonbaa
set_option linter.unusedVariables false
set_option linter.unusedSimpArgs false
open Go Go.RowKit Go.Out

theorem do_any (u : UnitD) (s : UnitS) (a : AskD) (t : AskS) (w : World) (h : UnitAt w s u) (hu : UnitOk u) (ha : AskRd w a t) (hwr : u.wrote < 4611686018427387904) :
    Calls Try.prog 47 #[pU s, askV a t] w (RetDo w s u a) := by
  by_cases h1 : checkF a = 20 ∨ a.code = 20
  · exact do_told 1 (.inl rfl) u s a t w h ha (by unfold doU; rw [if_pos h1]) (iff_of_true rfl h1) (fun h => by omega)
  · by_cases h2 : checkF a = 0
    · by_cases h3 : (u.size : Int) < a.addr + manyF a
      · exact do_far u s a t w h hu ha h2 (fun h => h1 (.inr h)) h3
      · have hc := codeP_cases (checkF_parts a h2).1
        by_cases c1 : a.code = 1 ∨ a.code = 2
        · exact do_bits u s a t w h hu ha h2 c1 h3
        · by_cases c3 : a.code = 3 ∨ a.code = 4
          · exact do_regs u s a t w h hu ha h2 c3 h3
          · by_cases c5 : a.code = 5 ∨ a.code = 15
            · exact do_coils u s a t w h hu ha h2 c5 h3 hwr
            · exact do_words u s a t w h hu ha h2 (by omega) h3 hwr
    · exact do_told 3 (.inr rfl) u s a t w h ha (by unfold doU; rw [if_neg h1, if_pos h2]) (iff_of_false (by decide) h1) (fun _ => h2)
end Go.Proofs.Ytpjmhckdeeonbaa

namespace Go.Out
open Go Go.RowKit
theorem open_some {b : List UInt8} (h : (openRtuF b).2.2 = 0) : 1 ≤ (openRtuF b).2.1.length ∧ (openRtuF b).2.1.length ≤ 253 ∧ 1 ≤ (openRtuF b).1.toNat ∧ (openRtuF b).1.toNat ≤ 247 := by
  unfold openRtuF at h ⊢
  split at h
  · simp at h
  · split at h
    · simp at h
    · rename_i h1 h2
      rw [if_neg h1, if_neg h2]
      by_cases hz : (openF 2 (more16 65535) b).2 = 0
      · have hzz := openF_ok hz
        have h2 : (openF 2 (more16 65535) b).1.length = b.length - 2 := by rw [hzz]; simp
        cases h3 : openF 2 (more16 65535) b with
        | mk o e =>
          rw [h3] at h2 hz h
          simp only at hz h2
          subst hz
          cases o with
          | nil => simp at h2; omega
          | cons x l =>
            by_cases hx : x.toNat < 1 ∨ 247 < x.toNat
            · have e1 : lineF (x :: l, 0) = (0, [], 24) := by unfold lineF; rw [if_neg (by simp)]; exact if_pos hx
              rw [e1] at h; simp at h
            · have e1 : lineF (x :: l, 0) = (x, l, 0) := by unfold lineF; rw [if_neg (by simp)]; exact if_neg hx
              rw [e1]; simp at h2 ⊢; omega
      · have e1 : lineF (openF 2 (more16 65535) b) = (0, [], (openF 2 (more16 65535) b).2) := if_pos hz
        rw [e1] at h; exact absurd h hz
end Go.Out
namespace Go.Proofs.Ytpjmhckdeeonbaa
set_option linter.unusedVariables false
set_option linter.unusedSimpArgs false
set_option maxRecDepth 100000
set_option maxHeartbeats 1000000
open Go Go.RowKit Go.Out

/-- What Hear hands back: the bytes, in memory of its own; only the unit has turned. -/
def RetH (w : World) (s : UnitS) (u : UnitD) (b : List UInt8) (e : Ending) (w' : World) : Prop :=
  ∃ A n c, e = .returned (.slice A n c) ∧ Own w' w.heap.size 5 IsU8 A n c ((hearU u b).2.map cB) ∧ UnitAt w' s (hearU u b).1 ∧ OnlyU s w w'
theorem hear_no (u : UnitD) (s : UnitS) (b : List UInt8) (A : Option Addr) (n c : Nat) (w : World) (h : UnitAt w s u) (hu : UnitOk u) (hr : Rd w A n (b.map cB)) (hc : n ≤ c)
    (hno : (openRtuF b).2.2 ≠ 0 ∨ (openRtuF b).1.toNat ≠ u.addr ∨ 128 ≤ b0 (openRtuF b).2.1) : Calls Try.prog 40 #[pU s, .slice A n c] w (RetH w s u b) := by
  have hO := openRtu_any b A n c w hr hc
  have hx0 : hearU u b = (u, []) := by unfold hearU; rw [if_pos hno]
  have HFin := Lib.hid (show ∀ W, Ext w W → RetH w s u b (.returned (.slice none 0 0)) W from fun W hX => ⟨none, 0, 0, rfl, by rw [hx0]; exact Own.nil_ _ _ _ _, by rw [hx0]; exact h.ext hX, .of_ext hX⟩)
  have HLEN := Lib.hid (@open_some b)
  have HU := Lib.hid (fun W (hX : Ext w W) => (h.ext hX).cells)
  clear hx0 h hr hc
  obtain ⟨O, hOO⟩ : ∃ O, openRtuF b = O := ⟨_, rfl⟩
  rw [hOO] at hO HLEN hno
  obtain ⟨to, pdu, e0⟩ := O
  simp only at hno HLEN
  clear hOO
  have hwt : IntKind.i64.wrap (to.toNat : Int) = (to.toNat : Int) := IntWalk.i64_in _ (by have := to.toNat_lt; omega)
  have HO := Lib.hid hO
  clear hO
  unfold pU
  go_enter Try.func40, Try.ntmps40
  go_wp2_with fail
  refine HO.out.mono ?_
  rintro e w1 ⟨A1, n1, c1, rfl, ho, hb⟩
  have HX := Lib.hid (Ext.of hb)
  have Ho := Lib.hid ho
  clear ho hb HO
  obtain ⟨d0, d1, d2, d3, d4, d5⟩ := HU.out _ HX.out
  by_cases he : e0 = 0
  · subst he
    obtain ⟨l1, -⟩ := HLEN.out rfl
    obtain ⟨b1, o1, rfl, hb1, hl1, hc1⟩ := Ho.out.rd.u8at (k := 0) (by have := Ho.out.len; simp at this; omega)
    have hn1 : (0 : Int) < (n1 : Int) := by have := Ho.out.len; simp at this; omega
    have hx : b0 pdu = pdu[0].toNat := by unfold b0; rw [List.getD_eq_getElem?_getD, List.getElem?_eq_getElem hl1]; rfl
    rw [hx] at hno
    rw [Nat.add_zero] at hc1
    generalize pdu[0].toNat = x at *
    by_cases ht : to.toNat = u.addr
    · have h128 : (128 : Int) ≤ (x : Int) := by omega
      have hta : ((to.toNat : Int) != (u.addr : Int)) = false := by simp; omega
      clear hno ht
      go_wp2_with fail
      all_goals (go_ret; exact HFin.out _ HX.out)
    · have hta : ((to.toNat : Int) != (u.addr : Int)) = true := by simp; omega
      clear hno ht
      go_wp2_with fail
      all_goals (go_ret; exact HFin.out _ HX.out)
  · have hee : (e0 != 0) = true := by simp [he]
    clear hno
    go_wp2_with fail
    all_goals (go_ret; exact HFin.out _ HX.out)
theorem ask_only {w W : World} {base : Nat} {s : UnitS} {a : AskD} {t : AskS} (h : AskOw w base a t) (hlt : s.p < base ∧ s.g1 < base ∧ s.g2 < base ∧ s.g3 < base ∧ s.g4 < base) (ho : OnlyU s w W) (hp : a.parts ≠ [] → Ext w W) : AskRd W a t := by
  have hk : ∀ g, base ≤ g → g < w.heap.size → W.heap[g]? = w.heap[g]? := fun g hg hw => ho.block g hw (by omega) (by omega) (by omega) (by omega) (by omega)
  have h1 := (h.on.kept (w' := W) fun g hg => hk g (h.on.lt g hg).1 (h.on.lt g hg).2).rd
  have h2 := (h.set.kept (w' := W) fun g hg => hk g (h.set.lt g hg).1 (h.set.lt g hg).2).rd
  have hr := h.rd
  refine ⟨h1, h2, ?_, hr.code, hr.addr, hr.count, hr.cap1, hr.cap2, hr.cap3⟩
  by_cases e : a.parts = []
  · have h3 := hr.n3
    rw [e] at h3 ⊢
    rw [← h3]
    exact RdL.nil_ _ _ _
  · exact hr.parts.ext (hp e)
theorem or128 (x : Nat) (h : x < 128) : bits .or .u8 (x : Int) 128 = ((x + 128 : Nat) : Int) := bit_or x 7 (by omega) (by omega)
end Go.Proofs.Ytpjmhckdeeonbaa

namespace Go.Proofs.Ytpjmhckdeeonbaa
set_option linter.unusedVariables false
set_option linter.unusedSimpArgs false
set_option maxRecDepth 100000
set_option maxHeartbeats 1000000
open Go Go.RowKit Go.Out

theorem hear_do (u : UnitD) (s : UnitS) (b : List UInt8) (A : Option Addr) (n c : Nat) (w : World) (h : UnitAt w s u) (hu : UnitOk u) (hr : Rd w A n (b.map cB)) (hc : n ≤ c) (hwr : u.wrote < 4611686018427387904)
    (h0 : (openRtuF b).2.2 = 0) (h1 : (openRtuF b).1.toNat = u.addr) (h2 : b0 (openRtuF b).2.1 < 128) (h3 : (getA (openRtuF b).2.1).2 = 0) : Calls Try.prog 40 #[pU s, .slice A n c] w (RetH w s u b) := by
  have hO := openRtu_any b A n c w hr hc
  have hLEN := open_some h0
  have hx0 : hearU u b = ((doU u (getA (openRtuF b).2.1).1).1, (rtuF (openRtuF b).1 (putR (getA (openRtuF b).2.1).1 (doU u (getA (openRtuF b).2.1).1).2).1).1) := by
    unfold hearU; rw [if_neg (by simp [h0, h1]; omega), if_neg (by simp [h3]), if_neg (by simp [h3])]
  have HE := Lib.hid hx0
  have hck := getA_ok_check h3
  have HU := Lib.hid (fun W (hX : Ext w W) => (h.ext hX).cells)
  have HUA := Lib.hid h
  have HUO := Lib.hid hu
  have HLT := Lib.hid h.lt
  clear hx0 h hu hr hc
  obtain ⟨O, hOO⟩ : ∃ O, openRtuF b = O := ⟨_, rfl⟩
  rw [hOO] at hO hLEN HE h0 h1 h2 h3 hck
  obtain ⟨to, pdu, e0⟩ := O
  simp only at hLEN h0 h1 h2 h3 HE hck
  clear hOO
  subst h0
  obtain ⟨G, hGG⟩ : ∃ G, getA pdu = G := ⟨_, rfl⟩
  have HG : Hid (∀ (A : Option Addr) (m c : Nat) (w : World), Rd w A m (pdu.map cB) → m ≤ c → c ≤ 9223372036854775807 → m ≤ 9223372036854775807 → Calls Try.prog 84 #[.slice A m c] w (RetGA w G)) := by
    intro A m c w g1 g2 g3 g4; rw [← hGG]; exact askGet_any pdu A m c w g1 g2 g3 g4
  rw [hGG] at h3 hck HE
  obtain ⟨a, e3⟩ := G
  simp only at h3 hck HE
  subst h3
  clear hGG
  have hwt : IntKind.i64.wrap (to.toNat : Int) = (to.toNat : Int) := IntWalk.i64_in _ (by have := to.toNat_lt; omega)
  have hta : ((to.toNat : Int) != (u.addr : Int)) = false := by simp; omega
  clear h1
  have HCK := Lib.hid hck
  obtain ⟨code, addr, count, on, set, parts⟩ := a
  have HDO : Hid (∀ t W, UnitAt W s u → AskRd W ⟨code, addr, count, on, set, parts⟩ t → Calls Try.prog 47 #[.pointer (some ⟨s.p, 0, none⟩), .agg #[.int .i64 code, .int .i64 addr, .int .i64 count, .slice t.A1 t.n1 t.c1, .slice t.A2 t.n2 t.c2, .slice t.A3 t.n3 t.c3]] W (RetDo W s u ⟨code, addr, count, on, set, parts⟩)) :=
    fun t W hU hA => do_any u s ⟨code, addr, count, on, set, parts⟩ t W hU HUO.out hA hwr
  have HPUT : Hid (∀ t r W, AskRd W ⟨code, addr, count, on, set, parts⟩ t → RepRd W (doU u ⟨code, addr, count, on, set, parts⟩).2 r → Calls Try.prog 20 #[.agg #[.int .i64 code, .int .i64 addr, .int .i64 count, .slice t.A1 t.n1 t.c1, .slice t.A2 t.n2 t.c2, .slice t.A3 t.n3 t.c3], repV (doU u ⟨code, addr, count, on, set, parts⟩).2 r] W (RetU W (putR ⟨code, addr, count, on, set, parts⟩ (doU u ⟨code, addr, count, on, set, parts⟩).2).1 (putR ⟨code, addr, count, on, set, parts⟩ (doU u ⟨code, addr, count, on, set, parts⟩).2).2)) :=
    fun t r W hA hR => replyPut_any ⟨code, addr, count, on, set, parts⟩ _ t r W hA hR
  have HSZ : Hid ((putR ⟨code, addr, count, on, set, parts⟩ (doU u ⟨code, addr, count, on, set, parts⟩).2).1.length ≤ 253) := (getR_putR (doU_check HUO.out hck)).2.2.2
  have HO := Lib.hid hO
  clear hO hck
  unfold pU
  go_enter Try.func40, Try.ntmps40
  go_wp2_with fail
  refine HO.out.mono ?_
  rintro e w1 ⟨A1, n1, c1, rfl, ho, hb⟩
  have HX := Lib.hid (Ext.of hb)
  have hol := ho.len
  have hcap := ho.cap
  have hcap2 := ho.capLe
  have Ho := Lib.hid ho
  clear ho hb HO
  obtain ⟨d0, d1, d2, d3, d4, d5⟩ := HU.out _ HX.out
  obtain ⟨l1, l2, -⟩ := hLEN
  simp only [List.length_map] at hol
  obtain ⟨b1, o1, rfl, hb1, hl1, hc1⟩ := Ho.out.rd.u8at (k := 0) (by omega)
  have hn1 : (0 : Int) < (n1 : Int) := by omega
  have hx : b0 pdu = pdu[0].toNat := by unfold b0; rw [List.getD_eq_getElem?_getD, List.getElem?_eq_getElem hl1]; rfl
  rw [hx] at h2
  rw [Nat.add_zero] at hc1
  generalize pdu[0].toNat = x at *
  have h128 : ¬ (128 : Int) ≤ (x : Int) := by omega
  have hor := or128 x h2
  go_wp2_with fail
  refine (HG.out _ _ _ _ (Ho.out.rd.ext (Ext.alloc _ _)) hcap hcap2 (by omega)).mono ?_
  rintro e w3 ⟨⟨B1, m1, k1, B2, m2, k2, B3, m3, k3⟩, rfl, hao, hx3⟩
  simp only [askV]
  have X3 := Lib.hid (HX.out.trans ((Ext.alloc _ _).trans hx3))
  have HA4 := Lib.hid ((hao.mono (base' := w.heap.size) (by have := HX.out.size; simp; omega)).ext (Ext.alloc w3 (.cells #[.int .i64 code, .int .i64 addr, .int .i64 count, .slice B1 m1 k1, .slice B2 m2 k2, .slice B3 m3 k3] 26)))
  have HB4 := Lib.hid (heap_alloc_new w3 (.cells #[.int .i64 code, .int .i64 addr, .int .i64 count, .slice B1 m1 k1, .slice B2 m2 k2, .slice B3 m3 k3] 26))
  have X4 := Lib.hid (X3.out.trans (Ext.alloc w3 (.cells #[.int .i64 code, .int .i64 addr, .int .i64 count, .slice B1 m1 k1, .slice B2 m2 k2, .slice B3 m3 k3] 26)))
  clear hx3 hao d0 d1 d2 d3 d4 d5 hc1
  go_wp2_with fail
  generalize w3.alloc (.cells #[.int .i64 code, .int .i64 addr, .int .i64 count, .slice B1 m1 k1, .slice B2 m2 k2, .slice B3 m3 k3] 26) = w4 at *
  have hgz : w.heap.size ≤ w3.heap.size := X3.out.size
  obtain ⟨gq, hgq⟩ : ∃ g, w3.heap.size = g := ⟨_, rfl⟩
  simp only [hgq] at HB4 hgz ⊢
  have HSS : Hid (∀ W : World, W.heap[gq]? = some (.cells #[.int .i64 code, .int .i64 addr, .int .i64 count, .slice B1 m1 k1, .slice B2 m2 k2, .slice B3 m3 k3] 26 (0, 0)) → W.cell? ⟨gq, 0, none⟩ = some (.int .i64 code) ∧ W.cell? ⟨gq, 1, none⟩ = some (.int .i64 addr) ∧ W.cell? ⟨gq, 2, none⟩ = some (.int .i64 count) ∧ W.cell? ⟨gq, 3, none⟩ = some (.slice B1 m1 k1) ∧ W.cell? ⟨gq, 4, none⟩ = some (.slice B2 m2 k2) ∧ W.cell? ⟨gq, 5, none⟩ = some (.slice B3 m3 k3)) := fun W hW => cells6 hW
  obtain ⟨d0, d1, d2, d3, d4, d5⟩ := HSS.out _ HB4.out
  have hgz4 : gq < w4.heap.size := lt_of_heap HB4.out
  have hl := HLT.out
  go_region_held3 (fun W => W.cell? ⟨gq, 0, none⟩ = some (.int .i64 code) ∧ W.cell? ⟨gq, 1, none⟩ = some (.int .i64 addr) ∧ W.cell? ⟨gq, 2, none⟩ = some (.int .i64 count) ∧ W.cell? ⟨gq, 3, none⟩ = some (.slice B1 m1 k1) ∧ W.cell? ⟨gq, 4, none⟩ = some (.slice B2 m2 k2) ∧ W.cell? ⟨gq, 5, none⟩ = some (.slice B3 m3 k3)) (first | go_keep | exact HSS.out _ K6.out | exact HSS.out _ K5.out) ((first
    | (go_at_call 47
       with_reducible refine Calls.mono (HDO.out ⟨B1, m1, k1, B2, m2, k2, B3, m3, k3⟩ _ (HUA.out.ext (X4.out.trans (Ext.draw _))) ((HA4.out.ext (Ext.draw _)).rd)) ?_
       rintro e w5 ⟨r, rfl, hro, hua, hou, hpx⟩
       have K5 : Hid (w5.heap[gq]? = some (.cells #[.int .i64 code, .int .i64 addr, .int .i64 count, .slice B1 m1 k1, .slice B2 m2 k2, .slice B3 m3 k3] 26 (0, 0))) := (hou.block gq hgz4 (by omega) (by omega) (by omega) (by omega) (by omega)).trans HB4.out
       have A5 : Hid (AskRd w5 ⟨code, addr, count, on, set, parts⟩ ⟨B1, m1, k1, B2, m2, k2, B3, m3, k3⟩) := ask_only (HA4.out.ext (Ext.draw _)) hl hou hpx
       have R5 := Lib.hid hro.rd
       have U5 := Lib.hid hua
       have O5 := Lib.hid ((OnlyU.of_ext (X4.out.trans (Ext.draw _))).trans hou)
       clear hro hua hou hpx)
    | (go_at_call 20
       with_reducible refine Calls.mono (HPUT.out ⟨B1, m1, k1, B2, m2, k2, B3, m3, k3⟩ _ _ A5.out R5.out) ?_
       rintro e w6 ⟨A6, n6, c6, rfl, ho6, hx6⟩
       have K6 := Lib.hid (hx6.block K5.out)
       have O6 := Lib.hid (O5.out.trans (.of_ext hx6))
       have U6 := Lib.hid (U5.out.ext hx6)
       have H6 := Lib.hid ho6
       clear hx6 ho6)))
  clear d0 d1 d2 d3 d4 d5
  go_wp2_with fail
  refine (rtu_any to _ _ _ _ _ H6.out.rd (by have h1 := H6.out.len; have h2 := HSZ.out; simp only [List.length_map] at h1; omega)).mono ?_
  rintro e w7 ⟨A7, n7, c7, rfl, ho7, hb7⟩
  have O7 := Lib.hid (O6.out.trans (.of_ext (Ext.of hb7)))
  have U7 := Lib.hid (U6.out.ext (Ext.of hb7))
  have H7 := Lib.hid ho7
  clear ho7 hb7
  go_wp2_with fail
  go_ret
  exact ⟨A7, n7, c7, rfl, by rw [HE.out]; exact H7.out.mono O6.out.size, by rw [HE.out]; exact U7.out, O7.out⟩
end Go.Proofs.Ytpjmhckdeeonbaa

namespace Go.Proofs.Ytpjmhckdeeonbaa
set_option linter.unusedVariables false
set_option linter.unusedSimpArgs false
set_option maxRecDepth 100000
set_option maxHeartbeats 1000000
open Go Go.RowKit Go.Out

theorem hear_bad (u : UnitD) (s : UnitS) (b : List UInt8) (A : Option Addr) (n c : Nat) (w : World) (h : UnitAt w s u) (hu : UnitOk u) (hr : Rd w A n (b.map cB)) (hc : n ≤ c)
    (h0 : (openRtuF b).2.2 = 0) (h1 : (openRtuF b).1.toNat = u.addr) (h2 : b0 (openRtuF b).2.1 < 128) (h3 : (getA (openRtuF b).2.1).2 ≠ 0) : Calls Try.prog 40 #[pU s, .slice A n c] w (RetH w s u b) := by
  have hO := openRtu_any b A n c w hr hc
  have hLEN := open_some h0
  have hx0 : hearU u b = (u, (rtuF (openRtuF b).1 [UInt8.ofNat (b0 (openRtuF b).2.1 + 128), if (getA (openRtuF b).2.1).2 = 20 then 1 else 3]).1) := by
    unfold hearU; rw [if_neg (by simp [h0, h1]; omega)]
    by_cases h4 : (getA (openRtuF b).2.1).2 = 20
    · rw [if_pos h4, if_pos h4]
    · rw [if_neg h4, if_pos h3, if_neg h4]
  have HE := Lib.hid hx0
  have HU := Lib.hid (fun W (hX : Ext w W) => (h.ext hX).cells)
  have HUA := Lib.hid h
  have HUO := Lib.hid hu
  have HLT := Lib.hid h.lt
  clear hx0 h hu hr hc
  obtain ⟨O, hOO⟩ : ∃ O, openRtuF b = O := ⟨_, rfl⟩
  rw [hOO] at hO hLEN HE h0 h1 h2 h3
  obtain ⟨to, pdu, e0⟩ := O
  simp only at hLEN h0 h1 h2 h3 HE
  clear hOO
  subst h0
  obtain ⟨G, hGG⟩ : ∃ G, getA pdu = G := ⟨_, rfl⟩
  have HG : Hid (∀ (A : Option Addr) (m c : Nat) (w : World), Rd w A m (pdu.map cB) → m ≤ c → c ≤ 9223372036854775807 → m ≤ 9223372036854775807 → Calls Try.prog 84 #[.slice A m c] w (RetGA w G)) := by
    intro A m c w g1 g2 g3 g4; rw [← hGG]; exact askGet_any pdu A m c w g1 g2 g3 g4
  rw [hGG] at h3 HE
  obtain ⟨a, e3⟩ := G
  simp only at h3 HE
  clear hGG
  have hwt : IntKind.i64.wrap (to.toNat : Int) = (to.toNat : Int) := IntWalk.i64_in _ (by have := to.toNat_lt; omega)
  have hta : ((to.toNat : Int) != (u.addr : Int)) = false := by simp; omega
  clear h1
  obtain ⟨code, addr, count, on, set, parts⟩ := a
  have HO := Lib.hid hO
  clear hO
  unfold pU
  go_enter Try.func40, Try.ntmps40
  go_wp2_with fail
  refine HO.out.mono ?_
  rintro e w1 ⟨A1, n1, c1, rfl, ho, hb⟩
  have HX := Lib.hid (Ext.of hb)
  have hol := ho.len
  have hcap := ho.cap
  have hcap2 := ho.capLe
  have Ho := Lib.hid ho
  clear ho hb HO
  obtain ⟨d0, d1, d2, d3, d4, d5⟩ := HU.out _ HX.out
  obtain ⟨l1, l2, -⟩ := hLEN
  simp only [List.length_map] at hol
  obtain ⟨b1, o1, rfl, hb1, hl1, hc1⟩ := Ho.out.rd.u8at (k := 0) (by omega)
  have hn1 : (0 : Int) < (n1 : Int) := by omega
  have hx : b0 pdu = pdu[0].toNat := by unfold b0; rw [List.getD_eq_getElem?_getD, List.getElem?_eq_getElem hl1]; rfl
  rw [hx] at h2 HE
  rw [Nat.add_zero] at hc1
  generalize pdu[0].toNat = x at *
  have h128 : ¬ (128 : Int) ≤ (x : Int) := by omega
  have hor := or128 x h2
  go_wp2_with fail
  refine (HG.out _ _ _ _ (Ho.out.rd.ext (Ext.alloc _ _)) hcap hcap2 (by omega)).mono ?_
  rintro e w3 ⟨⟨B1, m1, k1, B2, m2, k2, B3, m3, k3⟩, rfl, hao, hx3⟩
  simp only [askV]
  have X3 := Lib.hid (HX.out.trans ((Ext.alloc _ _).trans hx3))
  have HK3 : Hid (w3.heap[w1.heap.size]? = some (.cells #[.int .u8 ((x : Int) + 128), .int .u8 3] 5 (0, 0))) := hx3.block (heap_alloc_new w1 _)
  clear hx3 hao d0 d1 d2 d3 d4 d5 hc1
  have hlt1 : w1.heap.size < w3.heap.size := lt_of_heap HK3.out
  have hgz : w.heap.size ≤ w1.heap.size := HX.out.size
  have HFin : Hid (∀ W W' A7 n7 c7 y, (y = 1 ∧ e3 = 20 ∨ y = 3 ∧ e3 ≠ 20) → Ext w W → Own W' W.heap.size 5 IsU8 A7 n7 c7 ((rtuF to [UInt8.ofNat (x + 128), y]).1.map cB) → Below W.heap.size W W' → RetH w s u b (.returned (.slice A7 n7 c7)) W') := by
    rintro W W' A7 n7 c7 y hy hX ho7 hb7
    refine ⟨A7, n7, c7, rfl, ?_, by rw [HE.out]; exact (HUA.out.ext hX).ext (Ext.of hb7), .of_ext (hX.trans (Ext.of hb7))⟩
    rw [HE.out]
    have hyy : y = if e3 = 20 then (1 : UInt8) else 3 := by rcases hy with ⟨rfl, hy⟩ | ⟨rfl, hy⟩ <;> simp [hy]
    rw [← hyy]
    exact ho7.mono hX.size
  by_cases h20 : e3 = 20
  · subst h20
    have K4 := fun o => (Ext.alloc w3 o).block HK3.out
    have q1 : ∀ o, (w3.alloc o).cell? ⟨w1.heap.size, 1, none⟩ = some (.int .u8 3) := fun o => by rw [cell_of_row _ _ _ _ _ _ (K4 o)]; rfl
    have z1 := fun o => frozen_of_row _ w1.heap.size 1 _ _ (K4 o)
    have HK4 := Lib.hid K4
    clear K4
    go_wp2_with fail
    have HK5 := Lib.hid (heap_setCell_same w3 w1.heap.size 1 _ _ (.int .u8 1) HK3.out)
    refine (rtu_any to [UInt8.ofNat (x + 128), 1] _ _ _ _ ((Rd.of_heap (ys := []) HK5.out (by simp [cB]; omega) rfl).ext (Ext.alloc _ _)) (by simp)).mono ?_
    rintro e w7 ⟨A7, n7, c7, rfl, ho7, hb7⟩
    have HRR := Lib.hid (HFin.out _ _ _ _ _ 1 (by simp) (Ext.alloc' (Ext.set' X3.out (by simp; omega) _) _) ho7 hb7)
    clear ho7 hb7
    go_wp2_with fail
    go_ret
    exact HRR.out
  · have h20b : (e3 == 20) = false := by simp [h20]
    have h0b : (e3 == 0) = false := by simp [h3]
    go_wp2_with fail
    refine (rtu_any to [UInt8.ofNat (x + 128), 3] _ _ _ _ ((Rd.of_heap (ys := []) HK3.out (by simp [cB]; omega) rfl).ext (Ext.alloc _ _)) (by simp)).mono ?_
    rintro e w7 ⟨A7, n7, c7, rfl, ho7, hb7⟩
    have HRR := Lib.hid (HFin.out _ _ _ _ _ 3 (by simp [h20]) (Ext.alloc' X3.out _) ho7 hb7)
    clear ho7 hb7
    go_wp2_with fail
    go_ret
    exact HRR.out
theorem hear_any (u : UnitD) (s : UnitS) (b : List UInt8) (A : Option Addr) (n c : Nat) (w : World) (h : UnitAt w s u) (hu : UnitOk u) (hr : Rd w A n (b.map cB)) (hc : n ≤ c) (hwr : u.wrote < 4611686018427387904) :
    Calls Try.prog 40 #[pU s, .slice A n c] w (RetH w s u b) := by
  by_cases hno : (openRtuF b).2.2 ≠ 0 ∨ (openRtuF b).1.toNat ≠ u.addr ∨ 128 ≤ b0 (openRtuF b).2.1
  · exact hear_no u s b A n c w h hu hr hc hno
  · have h0 : (openRtuF b).2.2 = 0 := Classical.not_not.1 fun h => hno (.inl h)
    have h1 : (openRtuF b).1.toNat = u.addr := Classical.not_not.1 fun h => hno (.inr (.inl h))
    have h2 : b0 (openRtuF b).2.1 < 128 := Nat.lt_of_not_le fun h => hno (.inr (.inr h))
    by_cases h3 : (getA (openRtuF b).2.1).2 = 0
    · exact hear_do u s b A n c w h hu hr hc hwr h0 h1 h2 h3
    · exact hear_bad u s b A n c w h hu hr hc h0 h1 h2 h3
end Go.Proofs.Ytpjmhckdeeonbaa

namespace Go.Proofs.Ytpjmhckdeeonbaa
set_option linter.unusedVariables false
open Go Go.RowKit Go.Out

theorem tmod_cases (k : Int) (n : Nat) (h : 1 ≤ n) : (0 ≤ k.tmod n ∧ k.tmod n < n) ∨ (k.tmod n < 0 ∧ 0 ≤ k.tmod n + n) := by
  rcases Int.lt_or_le k 0 with hk | hk
  · obtain ⟨a, rfl⟩ : ∃ a : Nat, k = -(a : Int) := ⟨k.natAbs, by omega⟩
    rw [Int.neg_tmod, Int.tmod_eq_emod_of_nonneg (by omega : (0 : Int) ≤ a)]
    have h1 := Int.emod_nonneg (a : Int) (b := (n : Int)) (by omega)
    have h2 := Int.emod_lt_of_pos (a : Int) (b := (n : Int)) (by omega)
    omega
  · rw [Int.tmod_eq_emod_of_nonneg hk]
    exact .inl ⟨Int.emod_nonneg k (by omega), Int.emod_lt_of_pos k (by omega)⟩

theorem pick_any (k : Int) (n : Nat) (w : World) (h : 1 ≤ n) (hn : n ≤ 1125899906842624) :
    Calls Try.prog 32 #[.int .i64 k, .int .i64 n] w fun e w' => ∃ r : Nat, r < n ∧ e = .returned (.int .i64 r) ∧ w = w' := by
  have h0 : ¬ (n : Int) = 0 := by omega
  have h0' : ¬ n = 0 := by omega
  have h1 : ¬ (n : Int) < 1 := by omega
  have ht := tmod_cases k n h
  generalize hT : k.tmod n = T at *
  have ew : IntKind.i64.wrap T = T := IntWalk.i64_in _ (by omega)
  rcases ht with ⟨h2, h3⟩ | ⟨h2, h3⟩
  · have h4 : ¬ T < 0 := by omega
    go_enter Try.func32, Try.ntmps32
    go_wp2_with fail
    go_ret
    exact ⟨T.toNat, by omega, ret_int (by omega), rfl⟩
  · go_enter Try.func32, Try.ntmps32
    go_wp2_with fail
    go_ret
    exact ⟨(T + n).toNat, by omega, ret_int (by omega), rfl⟩
end Go.Proofs.Ytpjmhckdeeonbaa

namespace Go.Out
set_option linter.unusedVariables false
open Go Go.RowKit Go.ChangeShapes Go.WideShapes Go.Deep

/-- The cells cs read as a value of type t, and all that is reached through them is within the form's reach. -/
def Sees {H : Type} (enc : TypeId × Value → H) (P : Program) (w : World) (t : TypeId) (cs : List Value) : Prop :=
  ∃ fuel x, DataW.trod enc P w 0 (fun _ => true) true fuel t cs = some x ∧ ∀ n ∈ DataW.weights P t x.1, n ≤ 140737488351232

section
variable {H : Type} {enc : TypeId × Value → H} {P : Program} {w : World} {t e : TypeId} {v : Value} {cs : List Value}

theorem weights_all {P : Program} {e : TypeId} {n : Nat} : ∀ {ds : List (DataW H)} {j : Nat} {d : DataW H}, ds[j]? = some d → n ∈ DataW.weights P e d → n ∈ DataW.weightsAll P e ds
  | [], _, _, h, _ => by simp at h
  | d0 :: ds, 0, d, h, hn => by
    simp only [List.getElem?_cons_zero, Option.some.injEq] at h
    subst h
    simp only [DataW.weightsAll, List.mem_append]
    exact .inl hn
  | d0 :: ds, j + 1, d, h, hn => by
    simp only [List.getElem?_cons_succ] at h
    simp only [DataW.weightsAll, List.mem_append]
    exact .inr (weights_all h hn)

theorem sees_param {ts : List TypeId} {ds : List (DataW H)} {j fuel : Nat} {x : DataW H × List MemPlace} (h : DataW.trod enc P w 0 (fun _ => true) true fuel t cs = some x)
    (hsz : (DataW.weightsEach P ts ds).all (· ≤ reachBytes) = true) (hj : ts[j]? = some t) (hd : ds[j]? = some x.1) : Sees enc P w t cs :=
  ⟨fuel, x, h, fun n hn => by
    have := List.all_eq_true.1 hsz n (DataW.weights_mem_each hj hd n hn)
    have h2 : n ≤ reachBytes := of_decide_eq_true this
    unfold reachBytes at h2; omega⟩

theorem sees_int {k : IntKind} (ht : P.underlying t = some (.int k)) (h : Sees enc P w t [v]) : ∃ n, v = .int k n ∧ (Lit.int k n).wf = true := by
  obtain ⟨fuel, x, h, _⟩ := h
  obtain ⟨n, hn, rfl, wf⟩ := DataW.trod_int ht h
  simp at hn
  exact ⟨n, hn, wf⟩
theorem sees_bool (ht : P.underlying t = some .bool) (h : Sees enc P w t [v]) : ∃ b, v = .bool b := by
  obtain ⟨fuel, x, h, _⟩ := h
  obtain ⟨n, hn, rfl⟩ := DataW.trod_bool ht h
  simp at hn
  exact ⟨n, hn⟩

theorem sees_slice (ht : P.underlying t = some (.slice e)) (h : Sees enc P w t [v]) :
    ∃ A n c, v = .slice A n c ∧ n ≤ c ∧ c ≤ 9223372036854775807 ∧ c * P.bytesOf e ≤ 140737488351232 ∧ (0 < n → ∃ a, A = some a ∧ ∀ i, i < n → ∃ cs', w.cells? 0 (a.add (i * P.cellsOf e)) (P.cellsOf e) = some cs' ∧ Sees enc P w e cs') := by
  obtain ⟨fuel, x, h, hw⟩ := h
  rcases open_slice ht h with ⟨hcs, hx⟩ | ⟨a, len, cap, m, k, D, Pl, hcs, hb, hl, hm, hmm, hx, hi⟩
  · injection hcs with hcs _
    subst hcs
    exact ⟨_, _, _, rfl, by omega, by omega, by omega, fun h => absurd h (by omega)⟩
  · injection hcs with hcs _
    subst hcs
    rw [if_pos rfl] at hmm
    subst hmm
    subst hx
    have hw1 := hw ((((List.range len).map D).length + ((List.range (m - len)).map fun j => D (len + j)).length) * P.bytesOf e) (by simp [DataW.weights, ht])
    simp only [List.length_map, List.length_range] at hw1
    rw [show len + (m - len) = m from by omega] at hw1
    refine ⟨_, _, _, rfl, hl, by simpa [maxLen] using hm, hw1, fun hn => ⟨a, rfl, fun i hlt => ?_⟩⟩
    obtain ⟨cs', hc, htr⟩ := hi i (by omega)
    refine ⟨cs', hc, k, _, htr, fun n hn' => hw n ?_⟩
    simp only [DataW.weights, ht, List.mem_cons, List.mem_append]
    exact .inr (.inl (weights_all (j := i) (by simp [hlt]) hn'))

theorem sees_struct {fs : Array Field} (ht : P.underlying t = some (.struct fs)) (h : Sees enc P w t cs) :
    cs.length = P.cellsOf t ∧ ∀ (i : Nat) (f : Field), fs[i]? = some f → Sees enc P w f.type ((cs.drop f.offset).take (P.cellsOf f.type)) := by
  obtain ⟨fuel, x, h, hw⟩ := h
  obtain ⟨xs, n, _, rfl, hl, hxl, hf⟩ := DataW.trod_struct ht h
  refine ⟨hl, fun i f hi => ?_⟩
  have hil : i < fs.size := (Array.getElem?_eq_some_iff.1 hi).1
  have hx : xs[i]? = some (xs[i]'(by omega)) := List.getElem?_eq_getElem (by omega)
  refine ⟨n, _, (hf i f hi).trans hx, fun k hk => hw k ?_⟩
  simp only [DataW.weights, ht]
  exact DataW.weights_mem_each (j := i) (t := f.type) (d := (xs[i]'(by omega)).1) (by simp [hi]) (by simp [hx]) k hk

/-- A cell of a slice's element. -/
theorem cells_at {base i : Nat} {a : Addr} {k : Nat} {cs : List Value} (h : w.cells? base a k = some cs) (hi : i < k) : ∃ hl : i < cs.length, w.cell? (a.add i) = some cs[i] := by
  obtain ⟨_, hcl, hat⟩ := World.cells?_some h
  have hl : i < cs.length := by omega
  exact ⟨hl, by rw [hat i hi, List.getElem?_eq_getElem hl]⟩

theorem add_off (b off i : Nat) : (⟨b, off, none⟩ : Addr).add i = ⟨b, off + i, none⟩ := by
  unfold Addr.add; split
  · subst_vars; rfl
  · rfl

theorem sees_row (ht : P.underlying t = some (.slice e)) (hC : P.cellsOf e = 1) (p : Value → Prop) (hp : ∀ v, Sees enc P w e [v] → p v) (h : Sees enc P w t [v]) :
    ∃ A n c xs, v = .slice A n c ∧ Rd w A n xs ∧ (∀ u ∈ xs, p u) ∧ n ≤ c ∧ c ≤ 9223372036854775807 ∧ c * P.bytesOf e ≤ 140737488351232 := by
  obtain ⟨A, n, c, rfl, hnc, hc, hb, hel⟩ := sees_slice ht h
  rcases Nat.eq_zero_or_pos n with h0 | h0
  · subst h0
    exact ⟨A, 0, c, [], rfl, Rd.empty_ _ _, by simp, hnc, hc, hb⟩
  · obtain ⟨a, rfl, hi⟩ := hel h0
    have hcell : ∀ i, i < n → ∃ v, w.cell? (a.add i) = some v ∧ p v := by
      intro i hlt
      obtain ⟨cs', hc', hs⟩ := hi i hlt
      rw [hC, Nat.mul_one] at hc'
      obtain ⟨_, hcl, hat⟩ := World.cells?_some hc'
      obtain ⟨v, rfl⟩ : ∃ v, cs' = [v] := by
        match cs', hcl with
        | [v], _ => exact ⟨v, rfl⟩
      refine ⟨v, ?_, hp _ hs⟩
      have := hat 0 (by omega)
      have h0 : (a.add i).add 0 = a.add i := by simp [Addr.add]
      rw [h0] at this
      simpa using this
    have hex : ∀ j : Nat, j ≤ n → ∃ xs : List Value, xs.length = j ∧ (∀ u ∈ xs, p u) ∧ ∀ i u, xs[i]? = some u → w.cell? (a.add i) = some u := by
      intro j
      induction j with
      | zero => intro _; exact ⟨[], rfl, by simp, by simp⟩
      | succ j ih =>
        intro hj
        obtain ⟨xs, hl, hpx, hc⟩ := ih (by omega)
        obtain ⟨v, hv, hpv⟩ := hcell j (by omega)
        refine ⟨xs ++ [v], by simp [hl], ?_, ?_⟩
        · intro u hu
          rcases List.mem_append.1 hu with hu | hu
          · exact hpx u hu
          · simp at hu; subst hu; exact hpv
        · intro i u hu
          rcases Nat.lt_or_ge i xs.length with hlt | hge
          · rw [List.getElem?_append_left hlt] at hu; exact hc i u hu
          · rw [List.getElem?_append_right hge] at hu
            have : i = j := by
              rcases Nat.eq_zero_or_pos (i - xs.length) with h0 | h0
              · omega
              · rw [List.getElem?_eq_none (by simp; omega)] at hu; cases hu
            subst this
            rw [show i - xs.length = 0 from by omega] at hu
            simp at hu; subst hu; exact hv
    obtain ⟨xs, hxl, hpx, hcx⟩ := hex n (by omega)
    refine ⟨_, _, _, xs, rfl, ⟨hxl, fun hn => ?_⟩, hpx, hnc, hc, hb⟩
    obtain ⟨v, hv, _⟩ := hcell 0 (by omega)
    have hsp := World.cell?_spot hv
    obtain ⟨b, off, spot⟩ := a
    have hs : spot = none := by simpa [Addr.add] using hsp
    subst hs
    refine ⟨b, off, rfl, by have := World.block_lt_of_cell? w _ hv; simpa [Addr.add] using this, fun j u hu => ?_⟩
    have := hcx j u hu
    rwa [Addr.add_lit] at this

theorem sees_u8s (ht : P.underlying t = some (.slice e)) (hC : P.cellsOf e = 1) (he : P.underlying e = some (.int .u8)) (h : Sees enc P w t [v]) :
    ∃ (l : List UInt8) (A : Option Addr) (n c : Nat), v = .slice A n c ∧ Rd w A n (l.map cB) ∧ n ≤ c ∧ c ≤ 9223372036854775807 ∧ c * P.bytesOf e ≤ 140737488351232 := by
  obtain ⟨A, n, c, xs, h1, h2, h3, h4, h5, h6⟩ := sees_row ht hC IsU8 (fun v hv => by
    obtain ⟨n, rfl, wf⟩ := sees_int he hv
    have := bounds_u8 wf
    exact isU8_of this.1 this.2) h
  obtain ⟨l, rfl⟩ := all_u8 h3
  exact ⟨l, A, n, c, h1, h2, h4, h5, h6⟩
theorem sees_u16s (ht : P.underlying t = some (.slice e)) (hC : P.cellsOf e = 1) (he : P.underlying e = some (.int .u16)) (h : Sees enc P w t [v]) :
    ∃ (l : List UInt16) (A : Option Addr) (n c : Nat), v = .slice A n c ∧ Rd w A n (l.map cW) ∧ n ≤ c ∧ c ≤ 9223372036854775807 ∧ c * P.bytesOf e ≤ 140737488351232 := by
  obtain ⟨A, n, c, xs, h1, h2, h3, h4, h5, h6⟩ := sees_row ht hC IsU16 (fun v hv => by
    obtain ⟨n, rfl, wf⟩ := sees_int he hv
    have := bounds_u16 wf
    exact isU16_of this.1 this.2) h
  obtain ⟨l, rfl⟩ := all_u16 h3
  exact ⟨l, A, n, c, h1, h2, h4, h5, h6⟩
theorem sees_bos (ht : P.underlying t = some (.slice e)) (hC : P.cellsOf e = 1) (he : P.underlying e = some .bool) (h : Sees enc P w t [v]) :
    ∃ (l : List Bool) (A : Option Addr) (n c : Nat), v = .slice A n c ∧ Rd w A n (l.map cL) ∧ n ≤ c ∧ c ≤ 9223372036854775807 ∧ c * P.bytesOf e ≤ 140737488351232 := by
  obtain ⟨A, n, c, xs, h1, h2, h3, h4, h5, h6⟩ := sees_row ht hC IsBo (fun v hv => by
    obtain ⟨b, rfl⟩ := sees_bool he hv
    exact ⟨b, rfl⟩) h
  obtain ⟨l, rfl⟩ := all_bo h3
  exact ⟨l, A, n, c, h1, h2, h4, h5, h6⟩
end
end Go.Out

namespace Go.Proofs.Ytpjmhckdeeonbaa
set_option linter.unusedVariables false
set_option linter.unusedSimpArgs false
set_option maxRecDepth 100000
open Go Go.RowKit Go.ChangeShapes Go.WideShapes Go.Deep Go.Out

section
variable {H : Type} {enc : TypeId × Value → H} {w : World}
theorem i64P_of {x : Int} (h : (Lit.int .i64 x).wf = true) : i64P x := by
  have := bounds_i64 h
  unfold i64P; omega
theorem sees_part {cs : List Value} (h : Sees enc Try.prog w 85 cs) : ∃ p : PartD, partK.R w cs p := by
  obtain ⟨hl, hf⟩ := sees_struct Try.underlying85 h
  rw [show Try.prog.cellsOf 85 = 3 from by kernel_rfl] at hl
  match cs, hl with
  | [v0, v1, v2], _ =>
    have h0 := hf 0 _ rfl; have h1 := hf 1 _ rfl; have h2 := hf 2 _ rfl
    obtain ⟨a0, rfl, wf0⟩ := sees_int Try.underlying3 h0
    obtain ⟨a1, rfl, wf1⟩ := sees_int Try.underlying3 h1
    obtain ⟨a2, rfl, wf2⟩ := sees_int Try.underlying3 h2
    exact ⟨⟨a0, a1, a2⟩, rfl, i64P_of wf0, i64P_of wf1, i64P_of wf2⟩
theorem sees_parts {v : Value} (h : Sees enc Try.prog w 24 [v]) :
    ∃ (l : List PartD) (A : Option Addr) (n c : Nat), v = .slice A n c ∧ RdL partK w A n l ∧ n ≤ c ∧ c ≤ 9223372036854775807 := by
  obtain ⟨A, n, c, rfl, hnc, hc, hb, hel⟩ := sees_slice Try.underlying24 h
  rcases Nat.eq_zero_or_pos n with h0 | h0
  · subst h0
    exact ⟨[], A, 0, c, rfl, RdL.nil_ _ _ _, hnc, hc⟩
  · obtain ⟨a, rfl, hi⟩ := hel h0
    rw [show Try.prog.cellsOf 85 = 3 from by kernel_rfl] at hi
    have hQ : ∀ i, i < n → ∃ p : PartD, ∃ cs, w.cells? 0 (a.add (i * 3)) 3 = some cs ∧ partK.R w cs p := fun i hlt => by
      obtain ⟨cs, h1, h2⟩ := hi i hlt
      obtain ⟨p, hp⟩ := sees_part h2
      exact ⟨p, cs, h1, hp⟩
    obtain ⟨f, hf⟩ : ∃ f : Nat → PartD, ∀ i, i < n → ∃ cs, w.cells? 0 (a.add (i * 3)) 3 = some cs ∧ partK.R w cs (f i) :=
      ⟨fun i => if h : i < n then Classical.choose (hQ i h) else ⟨0, 0, 0⟩, fun i hi => by
        simp only [dif_pos hi]
        exact Classical.choose_spec (hQ i hi)⟩
    have hcell : ∀ i, i < n → ∃ cs, cs.length = 3 ∧ (∀ j u, cs[j]? = some u → w.cell? ((a.add (i * 3)).add j) = some u) ∧ partK.R w cs (f i) := fun i hlt => by
      obtain ⟨cs, h1, h2⟩ := hf i hlt
      obtain ⟨_, hcl, hat⟩ := World.cells?_some h1
      refine ⟨cs, hcl, fun j u hu => ?_, h2⟩
      obtain ⟨hj, rfl⟩ := List.getElem?_eq_some_iff.1 hu
      rw [hat j (by omega), hu]
    obtain ⟨cs0, hl0, hc0, hR0⟩ := hcell 0 h0
    obtain ⟨v0, hv0⟩ : ∃ v0, w.cell? ((a.add (0 * 3)).add 0) = some v0 := ⟨cs0[0]'(by omega), hc0 0 _ (List.getElem?_eq_getElem (by omega))⟩
    have hsp := World.cell?_spot hv0
    obtain ⟨b, off, spot⟩ := a
    have hs : spot = none := by simpa [Addr.add] using hsp
    subst hs
    refine ⟨(List.range n).map f, _, n, c, rfl, ⟨by simp, fun _ => ⟨b, off, rfl, by have := World.block_lt_of_cell? w _ hv0; simpa [Addr.add] using this, fun i x hx => ?_⟩⟩, hnc, hc⟩
    obtain ⟨hlt, rfl⟩ := List.getElem?_eq_some_iff.1 hx
    simp only [List.length_map, List.length_range] at hlt
    obtain ⟨cs, hl, hcj, hR⟩ := hcell i hlt
    refine ⟨cs, hl, fun j u hu => ?_, by simpa using hR⟩
    have := hcj j u hu
    rw [Addr.add_lit, add_off] at this
    rw [show off + (i * partK.k + j) = off + i * 3 + j by show off + (i * 3 + j) = _; omega]
    exact this
theorem sees_ask {cs : Array Value} (h : Sees enc Try.prog w 26 cs.toList) :
    ∃ (a : AskD) (s : AskS), cs = #[.int .i64 a.code, .int .i64 a.addr, .int .i64 a.count, .slice s.A1 s.n1 s.c1, .slice s.A2 s.n2 s.c2, .slice s.A3 s.n3 s.c3] ∧ AskRd w a s := by
  obtain ⟨hl, hf⟩ := sees_struct Try.underlying26 h
  rw [show Try.prog.cellsOf 26 = 6 from by kernel_rfl] at hl
  obtain ⟨l⟩ := cs
  match l, hl with
  | [v0, v1, v2, v3, v4, v5], _ =>
    have h0 := hf 0 _ rfl; have h1 := hf 1 _ rfl; have h2 := hf 2 _ rfl; have h3 := hf 3 _ rfl; have h4 := hf 4 _ rfl; have h5 := hf 5 _ rfl
    obtain ⟨a0, rfl, wf0⟩ := sees_int Try.underlying3 h0
    obtain ⟨a1, rfl, wf1⟩ := sees_int Try.underlying3 h1
    obtain ⟨a2, rfl, wf2⟩ := sees_int Try.underlying3 h2
    obtain ⟨l1, A1, n1, c1, rfl, hr1, hc1, hm1, _⟩ := sees_bos Try.underlying22 (by kernel_rfl) Try.underlying4 h3
    obtain ⟨l2, A2, n2, c2, rfl, hr2, hc2, hm2, _⟩ := sees_u16s Try.underlying23 (by kernel_rfl) Try.underlying54 h4
    obtain ⟨l3, A3, n3, c3, rfl, hr3, hc3, hm3⟩ := sees_parts h5
    exact ⟨⟨a0, a1, a2, l1, l2, l3⟩, ⟨A1, n1, c1, A2, n2, c2, A3, n3, c3⟩, rfl, ⟨hr1, hr2, hr3, i64P_of wf0, i64P_of wf1, i64P_of wf2, ⟨hc1, hm1⟩, ⟨hc2, hm2⟩, ⟨hc3, hm3⟩⟩⟩
end
end Go.Proofs.Ytpjmhckdeeonbaa

namespace Go.Out
def pickF (k : Int) (n : Nat) : Nat := if k.tmod n < 0 then (k.tmod n + n).toNat else (k.tmod n).toNat
end Go.Out
namespace Go.Proofs.Ytpjmhckdeeonbaa
set_option linter.unusedVariables false
set_option linter.unusedSimpArgs false
set_option maxRecDepth 100000
set_option maxHeartbeats 1000000
open Go Go.RowKit Go.Out

theorem pick_eq (k : Int) (n : Nat) (w : World) (h : 1 ≤ n) (hn : n ≤ 1125899906842624) :
    Calls Try.prog 32 #[.int .i64 k, .int .i64 n] w fun e w' => e = .returned (.int .i64 (pickF k n : Int)) ∧ w = w' := by
  have h0 : ¬ (n : Int) = 0 := by omega
  have h0' : ¬ n = 0 := by omega
  have h1 : ¬ (n : Int) < 1 := by omega
  have ht := tmod_cases k n h
  obtain ⟨P, hP⟩ : ∃ P, pickF k n = P := ⟨_, rfl⟩
  rw [hP]
  unfold pickF at hP
  generalize hT : k.tmod n = T at *
  have ew : IntKind.i64.wrap T = T := IntWalk.i64_in _ (by omega)
  rcases ht with ⟨h2, h3⟩ | ⟨h2, h3⟩
  · have h4 : ¬ T < 0 := by omega
    rw [if_neg h4] at hP
    have HP : Hid (T = (P : Int)) := by unfold Hid; omega
    clear hP
    go_enter Try.func32, Try.ntmps32
    go_wp2_with fail
    go_ret
    exact ⟨ret_int HP.out, rfl⟩
  · rw [if_pos h2] at hP
    have HP : Hid (T + n = (P : Int)) := by unfold Hid; omega
    clear hP
    go_enter Try.func32, Try.ntmps32
    go_wp2_with fail
    go_ret
    exact ⟨ret_int HP.out, rfl⟩
theorem pickF_lt (k : Int) (n : Nat) (h : 1 ≤ n) : pickF k n < n := by
  have ht := tmod_cases k n h
  unfold pickF
  split <;> omega
def LtU (s : UnitS) (B : Nat) : Prop := s.p < B ∧ s.g1 < B ∧ s.g2 < B ∧ s.g3 < B ∧ s.g4 < B
theorem OnlyU.keep {s : UnitS} {a b : World} {B k : Nat} {o : Obj} (h : OnlyU s a b) (hl : LtU s B) (hk : B ≤ k) (he : a.heap[k]? = some o) : b.heap[k]? = some o := by
  obtain ⟨l0, l1, l2, l3, l4⟩ := hl
  exact (h.block k (lt_of_heap he) (by omega) (by omega) (by omega) (by omega) (by omega)).trans he
theorem rep_only {s : UnitS} {a b : World} {B base : Nat} {r : RepD} {t : RepS} (hr : RepOw a base r t) (hf : r.files = []) (h : OnlyU s a b) (hl : LtU s B) (hB : B ≤ base) : RepRd b r t := by
  obtain ⟨l0, l1, l2, l3, l4⟩ := hl
  have hk : ∀ g, base ≤ g → g < a.heap.size → b.heap[g]? = a.heap[g]? := fun g hg hw => h.block g hw (by omega) (by omega) (by omega) (by omega) (by omega)
  have h1 := (hr.on.kept (w' := b) fun g hg => hk g (hr.on.lt g hg).1 (hr.on.lt g hg).2).rd
  have h2 := (hr.set.kept (w' := b) fun g hg => hk g (hr.set.lt g hg).1 (hr.set.lt g hg).2).rd
  have hd := hr.rd
  refine ⟨h1, h2, ?_, hd.exc, hd.cap1, hd.cap2, hd.cap3⟩
  have h3 := hr.n3
  rw [hf] at h3 ⊢
  rw [← h3]
  exact RdL.nil_ _ _ _
/-- Do, its request and its answer written out. -/
theorem do_v {u u' : UnitD} {s : UnitS} {w : World} (h : UnitAt w s u) (hu : UnitOk u) (hwr : u.wrote < 4611686018427387904) {code addr count ex : Int} {on on' : List Bool} {set set' : List UInt16} {parts : List PartD} {files' : List (List UInt16)}
    {A1 A2 A3 : Option Addr} {n1 c1 n2 c2 n3 c3 : Nat} (ha : AskRd w ⟨code, addr, count, on, set, parts⟩ ⟨A1, n1, c1, A2, n2, c2, A3, n3, c3⟩) (hd : doU u ⟨code, addr, count, on, set, parts⟩ = (u', ⟨ex, on', set', files'⟩)) :
    Calls Try.prog 47 #[.pointer (some ⟨s.p, 0, none⟩), .agg #[.int .i64 code, .int .i64 addr, .int .i64 count, .slice A1 n1 c1, .slice A2 n2 c2, .slice A3 n3 c3]] w
      (fun e w' => ∃ B1 m1 k1 B2 m2 k2 B3 m3 k3, e = .returned (.agg #[.int .i64 ex, .slice B1 m1 k1, .slice B2 m2 k2, .slice B3 m3 k3]) ∧ RepOw w' w.heap.size ⟨ex, on', set', files'⟩ ⟨B1, m1, k1, B2, m2, k2, B3, m3, k3⟩ ∧ UnitAt w' s u' ∧ OnlyU s w w') := by
  refine (do_any u s ⟨code, addr, count, on, set, parts⟩ ⟨A1, n1, c1, A2, n2, c2, A3, n3, c3⟩ w h hu ha hwr).mono ?_
  rintro e w' ⟨⟨B1, m1, k1, B2, m2, k2, B3, m3, k3⟩, rfl, hr, hU, hO, -⟩
  rw [hd] at hr hU ⊢
  exact ⟨B1, m1, k1, B2, m2, k2, B3, m3, k3, rfl, hr, hU, hO⟩
theorem new_v (a z : Nat) (w : World) (ha : 1 ≤ a ∧ a ≤ 247) (hz : 1 ≤ z ∧ z ≤ 1024) : Calls Try.prog 43 #[.int .i64 (a : Int), .int .i64 (z : Int)] w
    (fun e w' => ∃ s, e = .returned (.tuple #[.pointer (some ⟨s.p, 0, none⟩), .int .i64 0]) ∧ UnitAt w' s (newU a z) ∧ Ext w w' ∧ FromU w.heap.size s) := by
  refine (new_u a z w).mono ?_
  have h0 : newE a z = 0 := by unfold newE; rw [if_neg (by omega), if_neg (by omega)]
  rintro e w' (⟨h, -⟩ | ⟨-, s, rfl, hU, hx, hF⟩)
  · exact absurd h0 h
  · exact ⟨s, rfl, by simpa using hU, hx, hF⟩
theorem ask_set {w : World} {code addr count : Int} (h1 : i64P code) (h2 : i64P addr) (h3 : i64P count) {A : Option Addr} {n : Nat} {l : List UInt16} (hr : Rd w A n (l.map cW)) (hn : n ≤ 9223372036854775807) : AskRd w ⟨code, addr, count, [], l, []⟩ ⟨none, 0, 0, A, n, n, none, 0, 0⟩ :=
  ⟨Rd.nil_ _, hr, RdL.nil_ _ _ _, h1, h2, h3, by simp, by simp [hn], by simp⟩
def un1 : UnitD := { newU 17 10 with t3 := [0, 0, 0, 0, 0, 0, 0, 0, 5, 6], wrote := 1 }
theorem un1_ok : UnitOk un1 := ⟨rfl, rfl, rfl, rfl, by decide, by decide⟩
theorem do1 : doU (newU 17 10) ⟨16, 8, 0, [], [5, 6], []⟩ = (un1, ⟨0, [], [], []⟩) := by kernel_rfl
theorem do2 : doU un1 ⟨3, 7, 3, [], [], []⟩ = (un1, ⟨0, [], [0, 5, 6], []⟩) := by kernel_rfl
theorem do3 : doU un1 ⟨3, 8, 3, [], [], []⟩ = (un1, ⟨2, [], [], []⟩) := by kernel_rfl
theorem known19_any (w : World) : Calls Try.prog 36 #[] w (RetQ w true) := by
  have HD1 := Lib.hid do1; have HD2 := Lib.hid do2; have HD3 := Lib.hid do3
  go_enter Try.func36, Try.ntmps36
  go_wp2_with fail
  refine (new_v 17 10 _ (by decide) (by decide)).mono ?_
  rintro e w1 ⟨s, rfl, hU, hx, hF⟩
  have HU := Lib.hid hU; have HX := Lib.hid hx; have HF := Lib.hid hF; have HL : Hid (LtU s w1.heap.size) := hU.lt
  clear hU hx hF
  go_wp2_with fail
  refine (do_v (HU.out.ext (Ext.alloc _ _)) (newU_ok (by decide) (by decide)) (by decide) (ask_set (by unfold i64P; decide) (by unfold i64P; decide) (by unfold i64P; decide) (l := [5, 6]) (Rd.two _ _ _ _) (by decide)) HD1.out).mono ?_
  rintro e w2 ⟨B1, m1, k1, B2, m2, k2, B3, m3, k3, rfl, r2, u2, o2⟩
  have R2 := Lib.hid r2; have U2 := Lib.hid u2; have O2 := Lib.hid ((OnlyU.of_ext (Ext.alloc w1 _)).trans o2)
  have hz2 : w1.heap.size + 1 ≤ w2.heap.size := by have := o2.size; simpa using this
  clear r2 u2 o2
  go_wp2_with fail
  have A0 := fun W => (ask_set (w := W) (code := 3) (addr := 7) (count := 3) (l := []) (by unfold i64P; decide) (by unfold i64P; decide) (by unfold i64P; decide) (Rd.nil_ _) (by decide))
  refine (do_v (U2.out.ext (Ext.alloc _ _)) un1_ok (by decide) (A0 _) HD2.out).mono ?_
  rintro e w3 ⟨C1, p1, d1, C2, p2, d2, C3, p3, d3, rfl, r3, u3, o3⟩
  have K3 := Lib.hid (o3.keep HL.out (by omega) (heap_alloc_new w2 (.cells #[.int .i64 0, .slice B1 m1 k1, .slice B2 m2 k2, .slice B3 m3 k3] 29)))
  have R3 := Lib.hid r3; have U3 := Lib.hid u3; have P3 := Lib.hid ((OnlyU.of_ext (Ext.alloc w2 _)).trans o3)
  have hz3 : w2.heap.size + 1 ≤ w3.heap.size := by have := o3.size; simpa using this
  clear r3 u3 o3 A0
  go_wp2_with fail
  have A0 := fun W => (ask_set (w := W) (code := 3) (addr := 8) (count := 3) (l := []) (by unfold i64P; decide) (by unfold i64P; decide) (by unfold i64P; decide) (Rd.nil_ _) (by decide))
  refine (do_v (U3.out.ext (Ext.alloc _ _)) un1_ok (by decide) (A0 _) HD3.out).mono ?_
  rintro e w4 ⟨D1, q1, f1, D2, q2, f2, D3, q3, f3, rfl, r4, u4, o4⟩
  have K3' := Lib.hid (o4.keep HL.out (by omega) ((Ext.alloc w3 (.cells #[.int .i64 0, .slice C1 p1 d1, .slice C2 p2 d2, .slice C3 p3 d3] 29)).block K3.out))
  have K4 := Lib.hid (o4.keep HL.out (by omega) (heap_alloc_new w3 (.cells #[.int .i64 0, .slice C1 p1 d1, .slice C2 p2 d2, .slice C3 p3 d3] 29)))
  have U4 := Lib.hid u4; have P4 := Lib.hid ((OnlyU.of_ext (Ext.alloc w3 _)).trans o4)
  have hz4 : w3.heap.size + 1 ≤ w4.heap.size := by have := o4.size; simpa using this
  have Q2 := Lib.hid (rep_only R2.out rfl (P3.out.trans P4.out) HL.out (by simp))
  have Q3 := Lib.hid (rep_only R3.out rfl P4.out HL.out (by simp; omega))
  have X4 := Lib.hid (OnlyU.ext ((O2.out.trans P3.out).trans P4.out) HF.out HX.out)
  clear r4 u4 o4 A0 K3 U2 U3 HU R2 R3 O2 P3 P4
  have E5 := Lib.hid (Ext.alloc w4 (.cells #[.int .i64 2, .slice D1 q1 f1, .slice D2 q2 f2, .slice D3 q3 f3] 29))
  have K5 := Lib.hid (heap_alloc_new w4 (.cells #[.int .i64 2, .slice D1 q1 f1, .slice D2 q2 f2, .slice D3 q3 f3] 29))
  obtain ⟨a0, a1, a2, a3⟩ := cells4 (E5.out.block K3'.out)
  go_wp2_with fail
  refine (same_reply ⟨0, [], [], []⟩ ⟨B1, m1, k1, B2, m2, k2, B3, m3, k3⟩ repS0 _ (Q2.out.ext (Ext.alloc _ _)) (rep0_rd _)).mono ?_
  rintro e w5 ⟨rfl, hx5⟩
  clear a0 a1 a2 a3
  have E6 := Lib.hid (E5.out.trans hx5)
  obtain ⟨a0, a1, a2, a3⟩ := cells4 (E6.out.block K4.out)
  obtain ⟨b0, b1, b2, b3⟩ := cells4 (hx5.block K5.out)
  have K7 := Lib.hid (hx5.block K5.out)
  clear hx5
  go_wp2_with fail
  refine (same_reply ⟨0, [], [0, 5, 6], []⟩ ⟨C1, p1, d1, C2, p2, d2, C3, p3, d3⟩ ⟨none, 0, 0, some ⟨w5.heap.size, 0, none⟩, 3, 3, none, 0, 0⟩ _ (Q3.out.ext (E6.out.trans (Ext.alloc _ _))) ⟨Rd.nil_ _, Rd.lit w5 [.int .u16 0, .int .u16 5, .int .u16 6] _ _ 3 _ rfl rfl, RdL.nil_ _ _ _, by unfold i64P; decide, by simp, by simp, by simp⟩).mono ?_
  rintro e w6 ⟨rfl, hx6⟩
  have E7 := Lib.hid (E6.out.trans ((Ext.alloc _ _).trans hx6))
  obtain ⟨c0, c1, c2, c3⟩ := cells4 (hx6.block ((Ext.alloc w5 _).block K7.out))
  clear a0 a1 a2 a3 b0 b1 b2 b3 hx6
  go_wp2_with fail
  refine (writes_u un1 s _ (U4.out.ext E7.out)).mono ?_
  rintro e w7 ⟨rfl, rfl⟩
  go_wp2_with fail
  go_ret
  exact ⟨rfl, X4.out.trans E7.out⟩
end Go.Proofs.Ytpjmhckdeeonbaa

namespace Go.Out
open Go Go.RowKit Go.ChangeShapes Go.WideShapes Go.Deep
set_option linter.unusedVariables false
/-- A list of items of some cells each, as it comes in. -/
theorem sees_list {H : Type} {enc : TypeId × Value → H} {P : Program} {w : World} {t e : TypeId} {v : Value} {α : Type} (x0 : α) (K : Kind α) (ht : P.underlying t = some (.slice e)) (hC : P.cellsOf e = K.k) (hk : 0 < K.k)
    (hel : ∀ cs, Sees enc P w e cs → ∃ x, K.R w cs x) (h : Sees enc P w t [v]) : ∃ (l : List α) (A : Option Addr) (n c : Nat), v = .slice A n c ∧ RdL K w A n l ∧ n ≤ c ∧ c ≤ 9223372036854775807 := by
  obtain ⟨A, n, c, rfl, hnc, hc, hb, hsl⟩ := sees_slice ht h
  rcases Nat.eq_zero_or_pos n with h0 | h0
  · subst h0
    exact ⟨[], A, 0, c, rfl, RdL.nil_ _ _ _, hnc, hc⟩
  · obtain ⟨a, rfl, hi⟩ := hsl h0
    rw [hC] at hi
    have hQ : ∀ i, i < n → ∃ p : α, ∃ cs, w.cells? 0 (a.add (i * K.k)) K.k = some cs ∧ K.R w cs p := fun i hlt => by
      obtain ⟨cs, h1, h2⟩ := hi i hlt
      obtain ⟨p, hp⟩ := hel cs h2
      exact ⟨p, cs, h1, hp⟩
    obtain ⟨f, hf⟩ : ∃ f : Nat → α, ∀ i, i < n → ∃ cs, w.cells? 0 (a.add (i * K.k)) K.k = some cs ∧ K.R w cs (f i) :=
      ⟨fun i => if h : i < n then Classical.choose (hQ i h) else x0, fun i hi => by
        simp only [dif_pos hi]
        exact Classical.choose_spec (hQ i hi)⟩
    have hcell : ∀ i, i < n → ∃ cs, cs.length = K.k ∧ (∀ j u, cs[j]? = some u → w.cell? ((a.add (i * K.k)).add j) = some u) ∧ K.R w cs (f i) := fun i hlt => by
      obtain ⟨cs, h1, h2⟩ := hf i hlt
      obtain ⟨_, hcl, hat⟩ := World.cells?_some h1
      refine ⟨cs, hcl, fun j u hu => ?_, h2⟩
      obtain ⟨hj, rfl⟩ := List.getElem?_eq_some_iff.1 hu
      rw [hat j (by omega), hu]
    obtain ⟨cs0, hl0, hc0, hR0⟩ := hcell 0 h0
    obtain ⟨v0, hv0⟩ : ∃ v0, w.cell? ((a.add (0 * K.k)).add 0) = some v0 := ⟨cs0[0]'(by omega), hc0 0 _ (List.getElem?_eq_getElem (by omega))⟩
    have hsp := World.cell?_spot hv0
    obtain ⟨b, off, spot⟩ := a
    have hs : spot = none := by simpa [Addr.add] using hsp
    subst hs
    refine ⟨(List.range n).map f, _, n, c, rfl, ⟨by simp, fun _ => ⟨b, off, rfl, by have := World.block_lt_of_cell? w _ hv0; simpa [Addr.add] using this, fun i x hx => ?_⟩⟩, hnc, hc⟩
    obtain ⟨hlt, rfl⟩ := List.getElem?_eq_some_iff.1 hx
    simp only [List.length_map, List.length_range] at hlt
    obtain ⟨cs, hl, hcj, hR⟩ := hcell i hlt
    refine ⟨cs, hl, fun j u hu => ?_, by simpa using hR⟩
    have := hcj j u hu
    rw [Addr.add_lit, add_off] at this
    rw [show off + (i * K.k + j) = off + i * K.k + j by omega]
    exact this
end Go.Out
namespace Go.Proofs.Ytpjmhckdeeonbaa
open Go Go.RowKit Go.ChangeShapes Go.WideShapes Go.Deep Go.Out
/-- A request's six cells. -/
def askK : Kind AskD := ⟨6, fun w cs x => ∃ t : AskS, cs = [.int .i64 x.code, .int .i64 x.addr, .int .i64 x.count, .slice t.A1 t.n1 t.c1, .slice t.A2 t.n2 t.c2, .slice t.A3 t.n3 t.c3] ∧ AskRd w x t,
  fun ⟨t, h, hr⟩ hx => ⟨t, h, hr.ext hx⟩⟩
theorem sees_asks {H : Type} {enc : TypeId × Value → H} {w : World} {v : Value} (h : Sees enc Try.prog w 57 [v]) :
    ∃ (l : List AskD) (A : Option Addr) (n c : Nat), v = .slice A n c ∧ RdL askK w A n l ∧ n ≤ c ∧ c ≤ 9223372036854775807 :=
  sees_list ⟨0, 0, 0, [], [], []⟩ askK Try.underlying57 (by kernel_rfl) (by decide) (fun cs hs => by
    obtain ⟨a, t, he, hr⟩ := sees_ask (cs := cs.toArray) (by simpa using hs)
    exact ⟨a, t, by simpa using congrArg Array.toList he, hr⟩) h
end Go.Proofs.Ytpjmhckdeeonbaa

namespace Go.Out
open Go Go.RowKit
def rowU (u : UnitD) (k m : Nat) : List UInt16 := (List.range m).map fun i : Nat => (getU u (k : Int) (i : Int)).1
def wholeK (u : UnitD) (m : Nat) : Nat → List UInt16
  | 0 => []
  | k + 1 => wholeK u m k ++ rowU u (k + 1) m
def wholeU (u : UnitD) (m : Nat) : List UInt16 := wholeK u (m + 1) 4
theorem rowU_snoc (u : UnitD) (k m : Nat) : rowU u k (m + 1) = rowU u k m ++ [(getU u (k : Int) (m : Int)).1] := by
  unfold rowU; rw [List.range_succ, List.map_append]; rfl
theorem rowU_length (u : UnitD) (k m : Nat) : (rowU u k m).length = m := by unfold rowU; simp
theorem wholeK_length (u : UnitD) (m k : Nat) : (wholeK u m k).length = k * m := by
  induction k with
  | zero => simp [wholeK]
  | succ k ih => rw [wholeK, List.length_append, ih, rowU_length, Nat.succ_mul]
def playU (u : UnitD) (l : List AskD) : UnitD := l.foldl (fun u a => (doU u a).1) u
def madeU (z : Int) (l : List AskD) : UnitD := playU (newU 5 (1 + pickF z 64)) (l.take 60)
theorem doU_wrote (u : UnitD) (a : AskD) : (doU u a).1.wrote ≤ u.wrote + 1 := by
  unfold doU
  split
  · simp
  · split
    · simp
    · split
      · simp
      · split
        · simp
        · split
          · simp
          · split <;> simp
theorem playU_wrote (u : UnitD) (l : List AskD) : (playU u l).wrote ≤ u.wrote + l.length := by
  induction l generalizing u with
  | nil => simp [playU]
  | cons a l ih =>
    have h1 := ih (doU u a).1
    have h2 := doU_wrote u a
    simp only [List.length_cons]
    show (playU (doU u a).1 l).wrote ≤ _
    omega
theorem playU_ok {u : UnitD} {l : List AskD} (h : UnitOk u) : UnitOk (playU u l) := by
  induction l generalizing u with
  | nil => exact h
  | cons a l ih => exact ih (doU_ok (a := a) h)
theorem playU_snoc (u : UnitD) (l : List AskD) (a : AskD) : playU u (l ++ [a]) = (doU (playU u l) a).1 := by unfold playU; rw [List.foldl_append]; rfl
theorem doU_addr (u : UnitD) (a : AskD) : (doU u a).1.addr = u.addr ∧ (doU u a).1.size = u.size := by
  unfold doU
  split
  · exact ⟨rfl, rfl⟩
  · split
    · exact ⟨rfl, rfl⟩
    · split
      · exact ⟨rfl, rfl⟩
      · split
        · exact ⟨rfl, rfl⟩
        · split
          · exact ⟨rfl, rfl⟩
          · split <;> exact ⟨rfl, rfl⟩
theorem playU_addr (u : UnitD) (l : List AskD) : (playU u l).addr = u.addr ∧ (playU u l).size = u.size := by
  induction l generalizing u with
  | nil => exact ⟨rfl, rfl⟩
  | cons a l ih =>
    have h := ih (doU u a).1
    have h2 := doU_addr u a
    exact ⟨h.1.trans h2.1, h.2.trans h2.2⟩
end Go.Out
namespace Go.Proofs.Ytpjmhckdeeonbaa
set_option linter.unusedVariables false
set_option linter.unusedSimpArgs false
set_option maxRecDepth 100000
set_option maxHeartbeats 1000000
open Go Go.RowKit Go.Out

theorem asks_at {w : World} {A : Option Addr} {n k : Nat} {l : List AskD} (h : RdL askK w A n l) (hk : k < n) : ∃ b off, ∃ hl : k < l.length, ∃ t : AskS, A = some ⟨b, off, none⟩ ∧ AskRd w l[k] t ∧
    w.cell? ⟨b, off + k * 6, none⟩ = some (.int .i64 l[k].code) ∧ w.cell? ⟨b, off + k * 6 + 1, none⟩ = some (.int .i64 l[k].addr) ∧ w.cell? ⟨b, off + k * 6 + 2, none⟩ = some (.int .i64 l[k].count) ∧
    w.cell? ⟨b, off + k * 6 + 3, none⟩ = some (.slice t.A1 t.n1 t.c1) ∧ w.cell? ⟨b, off + k * 6 + 4, none⟩ = some (.slice t.A2 t.n2 t.c2) ∧ w.cell? ⟨b, off + k * 6 + 5, none⟩ = some (.slice t.A3 t.n3 t.c3) := by
  obtain ⟨b, off, rfl, hbk, hl', cs, -, hc, t, rfl, hR⟩ := h.at_ hk
  exact ⟨b, off, hl', t, rfl, hR, hc 0 _ rfl, hc 1 _ rfl, hc 2 _ rfl, hc 3 _ rfl, hc 4 _ rfl, hc 5 _ rfl⟩
/-- Some Bool; the world has only grown. -/
def RetSome (w : World) (e : Ending) (w' : World) : Prop := ∃ b, e = .returned (.bool b) ∧ Ext w w'
theorem long19_any (l : List AskD) (A : Option Addr) (n c : Nat) (w : World) (hr : RdL askK w A n l) (hn : n ≤ 9223372036854775807) : Calls Try.prog 35 #[.slice A n c] w (RetSome w) := by
  have HR := Lib.hid hr
  clear hr
  go_enter Try.func35, Try.ntmps35
  go_wp2_with fail
  go_loopw [3] (fun i wr => ∃ k : Nat, k ≤ n ∧ k ≤ 60 ∧ i = .int .i64 (k : Int) ∧ Hid (Ext w wr)) (fun i _ => n - (intOf i).toNat)
  case atStart => exact ⟨0, Nat.zero_le _, by omega, rfl, Ext.refl _⟩
  case round =>
    obtain ⟨k, hk, hk6, rfl, HX⟩ := hrel
    by_cases hlt : k < n
    · by_cases h60 : k < 60
      · obtain ⟨b, off, hl, t, rfl, hA, a0, a1, a2, a3, a4, a5⟩ := asks_at (HR.out.ext HX.out) hlt
        have hLA := longAsk_any l[k] t wr
        simp only [askV] at hLA
        have HLA := Lib.hid hLA
        clear hLA hA
        generalize l[k] = a at *
        go_wp2_with fail
        refine HLA.out.mono ?_
        rintro e w2 ⟨rfl, hx⟩
        have HX2 := Lib.hid (HX.out.trans hx)
        clear hx HLA
        generalize decide (70000 < t.n1 ∨ 70000 < t.n2 ∨ 70000 < t.n3) = P at *
        cases P
        · go_wp2_with fail
          go_roundw
          case rel => exact ⟨k + 1, by omega, by omega, by go_num, HX2⟩
          case measure => simp [intOf]; omega
        · go_wp2_with fail
          go_ret
          exact ⟨true, rfl, HX2.out⟩
      · go_wp2_with fail
        go_ret
        exact ⟨false, rfl, HX.out⟩
    · go_wp2_with fail
      go_ret
      exact ⟨false, rfl, HX.out⟩
theorem made19_any (z : Int) (l : List AskD) (A : Option Addr) (n c : Nat) (w : World) (hr : RdL askK w A n l) (hn : n ≤ 9223372036854775807) : Calls Try.prog 37 #[.int .i64 z, .slice A n c] w
    (fun e w' => ∃ s, e = .returned (.pointer (some ⟨s.p, 0, none⟩)) ∧ UnitAt w' s (madeU z l) ∧ Ext w w' ∧ FromU w.heap.size s) := by
  have hlen := hr.length
  have HR := Lib.hid hr
  have HP := Lib.hid (pick_eq z 64)
  have hp := pickF_lt z 64 (by omega)
  unfold madeU
  have HM := Lib.hid (show l = l from rfl)
  clear hr
  generalize pickF z 64 = m at *
  have hw : IntKind.i64.wrap (1 + (m : Int)) = 1 + (m : Int) := IntWalk.i64_in _ (by omega)
  have HN : Hid (∀ w, Calls Try.prog 43 #[.int .i64 5, .int .i64 (1 + (m : Int))] w (fun e w' => ∃ s, e = .returned (.tuple #[.pointer (some ⟨s.p, 0, none⟩), .int .i64 0]) ∧ UnitAt w' s (newU 5 (1 + m)) ∧ Ext w w' ∧ FromU w.heap.size s)) := fun w => by
    have h := new_v 5 (1 + m) w (by omega) (by omega)
    rw [show ((1 + m : Nat) : Int) = 1 + (m : Int) by omega] at h
    exact h
  have H0 : Hid (UnitOk (newU 5 (1 + m))) := newU_ok (by omega) (by omega)
  go_enter Try.func37, Try.ntmps37
  go_wp2_with fail
  refine (HP.out _ (by omega) (by omega)).mono ?_
  rintro e w0 ⟨rfl, rfl⟩
  go_wp2_with fail
  refine (HN.out _).mono ?_
  rintro e w1 ⟨s, rfl, hU, hx, hF⟩
  have HU := Lib.hid hU; have HX := Lib.hid hx; have HF := Lib.hid hF
  clear hU hx hF HN HP hw
  go_wp2_with fail
  go_loopw [7] (fun i wr => ∃ k : Nat, k ≤ n ∧ k ≤ 60 ∧ i = .int .i64 (k : Int) ∧ Hid (UnitAt wr s (playU (newU 5 (1 + m)) (l.take k))) ∧ Hid (Ext w wr)) (fun i _ => n - (intOf i).toNat)
  case atStart => exact ⟨0, Nat.zero_le _, by omega, rfl, by unfold Hid; rw [List.take_zero]; exact HU.out, HX.out⟩
  case round =>
    obtain ⟨k, hk, hk6, rfl, HA, HXr⟩ := hrel
    by_cases hlt : k < n
    · by_cases h60 : k < 60
      · obtain ⟨b, off, hl, t, rfl, hA, a0, a1, a2, a3, a4, a5⟩ := asks_at (HR.out.ext HXr.out) hlt
        have hwr : (playU (newU 5 (1 + m)) (l.take k)).wrote < 4611686018427387904 := by
          have h := playU_wrote (newU 5 (1 + m)) (l.take k)
          rw [List.length_take] at h
          have h2 : (newU 5 (1 + m)).wrote = 0 := rfl
          omega
        have hD := do_any (playU (newU 5 (1 + m)) (l.take k)) s l[k] t wr HA.out (playU_ok H0.out) hA hwr
        have HE : Hid (playU (newU 5 (1 + m)) (l.take (k + 1)) = (doU (playU (newU 5 (1 + m)) (l.take k)) l[k]).1) := by
          unfold Hid; rw [List.take_add_one, List.getElem?_eq_getElem hl]; exact playU_snoc _ _ _
        unfold pU at hD
        simp only [askV] at hD
        have HD := Lib.hid hD
        clear hD hA hwr
        generalize l[k] = a at *
        go_wp2_with fail
        refine HD.out.mono ?_
        rintro e w2 ⟨r, rfl, -, hU2, hO2, -⟩
        have HX2 := Lib.hid (OnlyU.ext hO2 HF.out HXr.out)
        have HU2 : Hid (UnitAt w2 s (playU (newU 5 (1 + m)) (l.take (k + 1)))) := by unfold Hid; rw [HE.out]; exact hU2
        clear hU2 hO2 HD HE a0 a1 a2 a3 a4 a5
        go_wp2_with fail
        go_roundw
        case rel => exact ⟨k + 1, by omega, by omega, by go_num, HU2, HX2⟩
        case measure => simp [intOf]; omega
      · have hke : k = 60 := by omega
        have HU3 : Hid (UnitAt wr s (playU (newU 5 (1 + m)) (l.take 60))) := by unfold Hid; rw [← hke]; exact HA.out
        go_wp2_with fail
        go_ret
        exact ⟨s, rfl, HU3.out, HXr.out, HF.out⟩
    · have HU3 : Hid (UnitAt wr s (playU (newU 5 (1 + m)) (l.take 60))) := by unfold Hid; have h := HA.out; rw [List.take_of_length_le (by omega)] at h ⊢; exact h
      go_wp2_with fail
      go_ret
      exact ⟨s, rfl, HU3.out, HXr.out, HF.out⟩
theorem whole_any (u : UnitD) (s : UnitS) (z : Int) (w : World) (hU : UnitAt w s u) (hu : UnitOk u) : Calls Try.prog 38 #[.pointer (some ⟨s.p, 0, none⟩), .int .i64 z] w
    (fun e w' => ∃ A n c, e = .returned (.slice A n c) ∧ Own w' w.heap.size 54 IsU16 A n c ((wholeU u (pickF z 64)).map cW) ∧ Ext w w') := by
  have HP := Lib.hid (pick_eq z 64)
  have hp := pickF_lt z 64 (by omega)
  unfold wholeU
  generalize pickF z 64 = m at *
  have HU := Lib.hid hU; have HOK := Lib.hid hu
  clear hU hu
  go_enter Try.func38, Try.ntmps38
  go_wp2_with fail
  go_loopw [5, 6, 7, 8, 9] (fun o i _ _ _ wr => ∃ (k : Nat) (A5 : Option Addr) (c5 : Nat), k ≤ 4 ∧ i = .int .i64 ((k + 1 : Nat) : Int) ∧ o = .slice A5 (k * (m + 1)) c5 ∧ Hid (Own wr w.heap.size 54 IsU16 A5 (k * (m + 1)) c5 ((wholeK u (m + 1) k).map cW)) ∧ Hid (Ext w wr)) (fun _ i _ _ _ _ => 6 - (intOf i).toNat)
  case atStart => exact ⟨0, none, 0, by omega, rfl, by simp, by unfold Hid; simp only [Nat.zero_mul]; exact Own.nil_ _ _ _ _, Ext.refl _⟩
  case round =>
    obtain ⟨k, A5, c5, hk, rfl, rfl, HO, HX⟩ := hrel
    rcases Nat.lt_or_ge k 4 with hlt | hge
    · have h4 : ((k + 1 : Nat) : Int) ≤ 4 := by omega
      obtain ⟨kk, hkk⟩ : ∃ kk, k + 1 = kk := ⟨_, rfl⟩
      rw [hkk] at h4 ⊢
      go_wp2_with fail
      go_loopw [5, 7, 8, 9] (fun o i _ _ w3 => ∃ (j : Nat) (A6 : Option Addr) (c6 : Nat), j ≤ m + 1 ∧ i = .int .i64 (j : Int) ∧ o = .slice A6 (k * (m + 1) + j) c6 ∧ Hid (Own w3 w.heap.size 54 IsU16 A6 (k * (m + 1) + j) c6 ((wholeK u (m + 1) k ++ rowU u kk j).map cW)) ∧ Hid (Ext w w3)) (fun _ i _ _ _ => m + 1 - (intOf i).toNat)
      case atStart => exact ⟨0, A5, c5, by omega, rfl, rfl, by unfold Hid; rw [show rowU u kk 0 = [] from rfl, List.append_nil]; exact HO.out, HX⟩
      case round =>
        obtain ⟨j, A6, c6, hj, rfl, rfl, HO6, HX6⟩ := hrel
        go_wp2_with fail
        refine (HP.out _ (by omega) (by omega)).mono ?_
        rintro e w0 ⟨rfl, rfl⟩
        rcases Nat.lt_or_ge j (m + 1) with hjl | hjg
        · have hjm : (j : Int) ≤ (m : Int) := by omega
          have hG := get_u u s (kk : Int) (j : Int) _ HOK.out (HU.out.ext HX6.out)
          unfold pU getV at hG
          have HG := Lib.hid hG
          have HRS := Lib.hid (rowU_snoc u kk j)
          clear hG
          generalize getU u (kk : Int) (j : Int) = g at *
          have hlt5 : k * (m + 1) ≤ 300 := Nat.le_trans (Nat.mul_le_mul_right _ (by omega : k ≤ 4)) (by omega)
          go_wp2_with fail
          refine HG.out.mono ?_
          rintro e w4 ⟨rfl, rfl⟩
          go_wp2_with (at_builtin; refine app_u16 _ rfl (.tmp 27) (.tmp 29) rfl rfl (HO6.out.ext (Ext.alloc _ _)) rfl (Rd.one _ _ _) (by intro u hu; simp at hu; subst hu; exact ⟨_, rfl⟩) (by omega) (Nat.le_trans HX6.out.size (Ext.alloc _ _).size) ?_
                       intro A7 c7 w7 hown hgr hbk
                       have KX := Lib.hid ((HX6.out.trans (Ext.alloc _ _)).grown' hgr (fun g' e => (HO6.out.lt g' e).1))
                       have KO := Lib.hid hown
                       clear hown hgr hbk)
          go_roundw
          case rel =>
            refine ⟨j + 1, A7, c7, by omega, by go_num, rfl, Lib.hid ?_, KX⟩
            have h := KO.out
            rw [HRS.out, ← List.append_assoc, List.map_append]
            exact h
          case measure => simp [intOf]; omega
        · have hje : j = m + 1 := by omega
          have hjm : ¬ (j : Int) ≤ (m : Int) := by omega
          have HO7 : Hid (Own wr w.heap.size 54 IsU16 A6 ((k + 1) * (m + 1)) c6 ((wholeK u (m + 1) (k + 1)).map cW)) := by
            have h := HO6.out
            rw [hje, ← hkk] at h
            unfold Hid
            rw [wholeK, Nat.succ_mul]
            exact h
          have hn7 : k * (m + 1) + j = (k + 1) * (m + 1) := by rw [hje, Nat.succ_mul]
          rw [hn7]
          clear HO6 hn7 hje
          go_wp2_with fail
          go_roundw
          case rel => exact ⟨k + 1, A6, c6, by omega, by rw [← hkk]; go_num, by rw [← hkk], HO7, HX6⟩
          case measure => rw [← hkk]; simp [intOf]; omega
    · obtain rfl : k = 4 := by omega
      go_wp2_with fail
      go_ret
      exact ⟨A5, _, c5, rfl, HO.out, HX.out⟩
end Go.Proofs.Ytpjmhckdeeonbaa
