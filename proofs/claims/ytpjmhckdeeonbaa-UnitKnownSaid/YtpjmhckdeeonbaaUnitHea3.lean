/- A unit: the contract of Do, whatever is asked. -/
import Derived.Test.YtpjmhckdeeonbaaUnit9
import Derived.Test.YtpjmhckdeeonbaaAskG5
import Derived.Test.YtpjmhckdeeonbaaFrame2
namespace Go.Proofs.Ytpjmhckdeeonbaa
set_option linter.unusedVariables false
set_option linter.unusedSimpArgs false
open Go Go.RowKit Go.Out

theorem do_any (u : UnitD) (s : UnitS) (a : AskD) (t : AskS) (w : World) (h : UnitAt w s u) (hu : UnitOk u) (ha : AskRd w a t) (hwr : u.wrote < 4611686018427387904) :
    Calls Try.prog 47 #[pU s, askV a t] w (RetDo w s u a) := by
  by_cases h1 : checkF a = 20 ∨ a.code = 20
  · exact do_told 1 (.inl rfl) u s a t w h ha (by unfold doU; rw [if_pos h1]) (iff_of_true rfl h1) (fun h => by omega)
  · by_cases h2 : checkF a = 0
    · by_cases h3 : (u.size : Int) < a.addr + manyF a
      · exact do_far u s a t w h hu ha h2 (fun h => h1 (.inr h)) h3
      · have hc := codeP_cases (checkF_parts a h2).1
        by_cases c1 : a.code = 1 ∨ a.code = 2
        · exact do_bits u s a t w h hu ha h2 c1 h3
        · by_cases c3 : a.code = 3 ∨ a.code = 4
          · exact do_regs u s a t w h hu ha h2 c3 h3
          · by_cases c5 : a.code = 5 ∨ a.code = 15
            · exact do_coils u s a t w h hu ha h2 c5 h3 hwr
            · exact do_words u s a t w h hu ha h2 (by omega) h3 hwr
    · exact do_told 3 (.inr rfl) u s a t w h ha (by unfold doU; rw [if_neg h1, if_pos h2]) (iff_of_false (by decide) h1) (fun _ => h2)
end Go.Proofs.Ytpjmhckdeeonbaa

namespace Go.Out
open Go Go.RowKit
theorem open_some {b : List UInt8} (h : (openRtuF b).2.2 = 0) : 1 ≤ (openRtuF b).2.1.length ∧ (openRtuF b).2.1.length ≤ 253 ∧ 1 ≤ (openRtuF b).1.toNat ∧ (openRtuF b).1.toNat ≤ 247 := by
  unfold openRtuF at h ⊢
  split at h
  · simp at h
  · split at h
    · simp at h
    · rename_i h1 h2
      rw [if_neg h1, if_neg h2]
      by_cases hz : (openF 2 (more16 65535) b).2 = 0
      · have hzz := openF_ok hz
        have h2 : (openF 2 (more16 65535) b).1.length = b.length - 2 := by rw [hzz]; simp
        cases h3 : openF 2 (more16 65535) b with
        | mk o e =>
          rw [h3] at h2 hz h
          simp only at hz h2
          subst hz
          cases o with
          | nil => simp at h2; omega
          | cons x l =>
            by_cases hx : x.toNat < 1 ∨ 247 < x.toNat
            · have e1 : lineF (x :: l, 0) = (0, [], 24) := by unfold lineF; rw [if_neg (by simp)]; exact if_pos hx
              rw [e1] at h; simp at h
            · have e1 : lineF (x :: l, 0) = (x, l, 0) := by unfold lineF; rw [if_neg (by simp)]; exact if_neg hx
              rw [e1]; simp at h2 ⊢; omega
      · have e1 : lineF (openF 2 (more16 65535) b) = (0, [], (openF 2 (more16 65535) b).2) := if_pos hz
        rw [e1] at h; exact absurd h hz
end Go.Out
namespace Go.Proofs.Ytpjmhckdeeonbaa
set_option linter.unusedVariables false
set_option linter.unusedSimpArgs false
set_option maxRecDepth 100000
set_option maxHeartbeats 1000000
open Go Go.RowKit Go.Out

/-- What Hear hands back: the bytes, in memory of its own; only the unit has turned. -/
def RetH (w : World) (s : UnitS) (u : UnitD) (b : List UInt8) (e : Ending) (w' : World) : Prop :=
  ∃ A n c, e = .returned (.slice A n c) ∧ Own w' w.heap.size 5 IsU8 A n c ((hearU u b).2.map cB) ∧ UnitAt w' s (hearU u b).1 ∧ OnlyU s w w'
theorem hear_no (u : UnitD) (s : UnitS) (b : List UInt8) (A : Option Addr) (n c : Nat) (w : World) (h : UnitAt w s u) (hu : UnitOk u) (hr : Rd w A n (b.map cB)) (hc : n ≤ c)
    (hno : (openRtuF b).2.2 ≠ 0 ∨ (openRtuF b).1.toNat ≠ u.addr ∨ 128 ≤ b0 (openRtuF b).2.1) : Calls Try.prog 40 #[pU s, .slice A n c] w (RetH w s u b) := by
  have hO := openRtu_any b A n c w hr hc
  have hx0 : hearU u b = (u, []) := by unfold hearU; rw [if_pos hno]
  have HFin := Lib.hid (show ∀ W, Ext w W → RetH w s u b (.returned (.slice none 0 0)) W from fun W hX => ⟨none, 0, 0, rfl, by rw [hx0]; exact Own.nil_ _ _ _ _, by rw [hx0]; exact h.ext hX, .of_ext hX⟩)
  have HLEN := Lib.hid (@open_some b)
  have HU := Lib.hid (fun W (hX : Ext w W) => (h.ext hX).cells)
  clear hx0 h hr hc
  obtain ⟨O, hOO⟩ : ∃ O, openRtuF b = O := ⟨_, rfl⟩
  rw [hOO] at hO HLEN hno
  obtain ⟨to, pdu, e0⟩ := O
  simp only at hno HLEN
  clear hOO
  have hwt : IntKind.i64.wrap (to.toNat : Int) = (to.toNat : Int) := IntWalk.i64_in _ (by have := to.toNat_lt; omega)
  have HO := Lib.hid hO
  clear hO
  unfold pU
  go_enter Try.func40, Try.ntmps40
  go_wp2_with fail
  refine HO.out.mono ?_
  rintro e w1 ⟨A1, n1, c1, rfl, ho, hb⟩
  have HX := Lib.hid (Ext.of hb)
  have Ho := Lib.hid ho
  clear ho hb HO
  obtain ⟨d0, d1, d2, d3, d4, d5⟩ := HU.out _ HX.out
  by_cases he : e0 = 0
  · subst he
    obtain ⟨l1, -⟩ := HLEN.out rfl
    obtain ⟨b1, o1, rfl, hb1, hl1, hc1⟩ := Ho.out.rd.u8at (k := 0) (by have := Ho.out.len; simp at this; omega)
    have hn1 : (0 : Int) < (n1 : Int) := by have := Ho.out.len; simp at this; omega
    have hx : b0 pdu = pdu[0].toNat := by unfold b0; rw [List.getD_eq_getElem?_getD, List.getElem?_eq_getElem hl1]; rfl
    rw [hx] at hno
    rw [Nat.add_zero] at hc1
    generalize pdu[0].toNat = x at *
    by_cases ht : to.toNat = u.addr
    · have h128 : (128 : Int) ≤ (x : Int) := by omega
      have hta : ((to.toNat : Int) != (u.addr : Int)) = false := by simp; omega
      clear hno ht
      go_wp2_with fail
      all_goals (go_ret; exact HFin.out _ HX.out)
    · have hta : ((to.toNat : Int) != (u.addr : Int)) = true := by simp; omega
      clear hno ht
      go_wp2_with fail
      all_goals (go_ret; exact HFin.out _ HX.out)
  · have hee : (e0 != 0) = true := by simp [he]
    clear hno
    go_wp2_with fail
    all_goals (go_ret; exact HFin.out _ HX.out)
theorem ask_only {w W : World} {base : Nat} {s : UnitS} {a : AskD} {t : AskS} (h : AskOw w base a t) (hlt : s.p < base ∧ s.g1 < base ∧ s.g2 < base ∧ s.g3 < base ∧ s.g4 < base) (ho : OnlyU s w W) (hp : a.parts ≠ [] → Ext w W) : AskRd W a t := by
  have hk : ∀ g, base ≤ g → g < w.heap.size → W.heap[g]? = w.heap[g]? := fun g hg hw => ho.block g hw (by omega) (by omega) (by omega) (by omega) (by omega)
  have h1 := (h.on.kept (w' := W) fun g hg => hk g (h.on.lt g hg).1 (h.on.lt g hg).2).rd
  have h2 := (h.set.kept (w' := W) fun g hg => hk g (h.set.lt g hg).1 (h.set.lt g hg).2).rd
  have hr := h.rd
  refine ⟨h1, h2, ?_, hr.code, hr.addr, hr.count, hr.cap1, hr.cap2, hr.cap3⟩
  by_cases e : a.parts = []
  · have h3 := hr.n3
    rw [e] at h3 ⊢
    rw [← h3]
    exact RdL.nil_ _ _ _
  · exact hr.parts.ext (hp e)
theorem or128 (x : Nat) (h : x < 128) : bits .or .u8 (x : Int) 128 = ((x + 128 : Nat) : Int) := bit_or x 7 (by omega) (by omega)
end Go.Proofs.Ytpjmhckdeeonbaa

namespace Go.Proofs.Ytpjmhckdeeonbaa
set_option linter.unusedVariables false
set_option linter.unusedSimpArgs false
set_option maxRecDepth 100000
set_option maxHeartbeats 1000000
open Go Go.RowKit Go.Out

theorem hear_do (u : UnitD) (s : UnitS) (b : List UInt8) (A : Option Addr) (n c : Nat) (w : World) (h : UnitAt w s u) (hu : UnitOk u) (hr : Rd w A n (b.map cB)) (hc : n ≤ c) (hwr : u.wrote < 4611686018427387904)
    (h0 : (openRtuF b).2.2 = 0) (h1 : (openRtuF b).1.toNat = u.addr) (h2 : b0 (openRtuF b).2.1 < 128) (h3 : (getA (openRtuF b).2.1).2 = 0) : Calls Try.prog 40 #[pU s, .slice A n c] w (RetH w s u b) := by
  have hO := openRtu_any b A n c w hr hc
  have hLEN := open_some h0
  have hx0 : hearU u b = ((doU u (getA (openRtuF b).2.1).1).1, (rtuF (openRtuF b).1 (putR (getA (openRtuF b).2.1).1 (doU u (getA (openRtuF b).2.1).1).2).1).1) := by
    unfold hearU; rw [if_neg (by simp [h0, h1]; omega), if_neg (by simp [h3]), if_neg (by simp [h3])]
  have HE := Lib.hid hx0
  have hck := getA_ok_check h3
  have HU := Lib.hid (fun W (hX : Ext w W) => (h.ext hX).cells)
  have HUA := Lib.hid h
  have HUO := Lib.hid hu
  have HLT := Lib.hid h.lt
  clear hx0 h hu hr hc
  obtain ⟨O, hOO⟩ : ∃ O, openRtuF b = O := ⟨_, rfl⟩
  rw [hOO] at hO hLEN HE h0 h1 h2 h3 hck
  obtain ⟨to, pdu, e0⟩ := O
  simp only at hLEN h0 h1 h2 h3 HE hck
  clear hOO
  subst h0
  obtain ⟨G, hGG⟩ : ∃ G, getA pdu = G := ⟨_, rfl⟩
  have HG : Hid (∀ (A : Option Addr) (m c : Nat) (w : World), Rd w A m (pdu.map cB) → m ≤ c → c ≤ 9223372036854775807 → m ≤ 9223372036854775807 → Calls Try.prog 84 #[.slice A m c] w (RetGA w G)) := by
    intro A m c w g1 g2 g3 g4; rw [← hGG]; exact askGet_any pdu A m c w g1 g2 g3 g4
  rw [hGG] at h3 hck HE
  obtain ⟨a, e3⟩ := G
  simp only at h3 hck HE
  subst h3
  clear hGG
  have hwt : IntKind.i64.wrap (to.toNat : Int) = (to.toNat : Int) := IntWalk.i64_in _ (by have := to.toNat_lt; omega)
  have hta : ((to.toNat : Int) != (u.addr : Int)) = false := by simp; omega
  clear h1
  have HCK := Lib.hid hck
  obtain ⟨code, addr, count, on, set, parts⟩ := a
  have HDO : Hid (∀ t W, UnitAt W s u → AskRd W ⟨code, addr, count, on, set, parts⟩ t → Calls Try.prog 47 #[.pointer (some ⟨s.p, 0, none⟩), .agg #[.int .i64 code, .int .i64 addr, .int .i64 count, .slice t.A1 t.n1 t.c1, .slice t.A2 t.n2 t.c2, .slice t.A3 t.n3 t.c3]] W (RetDo W s u ⟨code, addr, count, on, set, parts⟩)) :=
    fun t W hU hA => do_any u s ⟨code, addr, count, on, set, parts⟩ t W hU HUO.out hA hwr
  have HPUT : Hid (∀ t r W, AskRd W ⟨code, addr, count, on, set, parts⟩ t → RepRd W (doU u ⟨code, addr, count, on, set, parts⟩).2 r → Calls Try.prog 20 #[.agg #[.int .i64 code, .int .i64 addr, .int .i64 count, .slice t.A1 t.n1 t.c1, .slice t.A2 t.n2 t.c2, .slice t.A3 t.n3 t.c3], repV (doU u ⟨code, addr, count, on, set, parts⟩).2 r] W (RetU W (putR ⟨code, addr, count, on, set, parts⟩ (doU u ⟨code, addr, count, on, set, parts⟩).2).1 (putR ⟨code, addr, count, on, set, parts⟩ (doU u ⟨code, addr, count, on, set, parts⟩).2).2)) :=
    fun t r W hA hR => replyPut_any ⟨code, addr, count, on, set, parts⟩ _ t r W hA hR
  have HSZ : Hid ((putR ⟨code, addr, count, on, set, parts⟩ (doU u ⟨code, addr, count, on, set, parts⟩).2).1.length ≤ 253) := (getR_putR (doU_check HUO.out hck)).2.2.2
  have HO := Lib.hid hO
  clear hO hck
  unfold pU
  go_enter Try.func40, Try.ntmps40
  go_wp2_with fail
  refine HO.out.mono ?_
  rintro e w1 ⟨A1, n1, c1, rfl, ho, hb⟩
  have HX := Lib.hid (Ext.of hb)
  have hol := ho.len
  have hcap := ho.cap
  have hcap2 := ho.capLe
  have Ho := Lib.hid ho
  clear ho hb HO
  obtain ⟨d0, d1, d2, d3, d4, d5⟩ := HU.out _ HX.out
  obtain ⟨l1, l2, -⟩ := hLEN
  simp only [List.length_map] at hol
  obtain ⟨b1, o1, rfl, hb1, hl1, hc1⟩ := Ho.out.rd.u8at (k := 0) (by omega)
  have hn1 : (0 : Int) < (n1 : Int) := by omega
  have hx : b0 pdu = pdu[0].toNat := by unfold b0; rw [List.getD_eq_getElem?_getD, List.getElem?_eq_getElem hl1]; rfl
  rw [hx] at h2
  rw [Nat.add_zero] at hc1
  generalize pdu[0].toNat = x at *
  have h128 : ¬ (128 : Int) ≤ (x : Int) := by omega
  have hor := or128 x h2
  go_wp2_with fail
  refine (HG.out _ _ _ _ (Ho.out.rd.ext (Ext.alloc _ _)) hcap hcap2 (by omega)).mono ?_
  rintro e w3 ⟨⟨B1, m1, k1, B2, m2, k2, B3, m3, k3⟩, rfl, hao, hx3⟩
  simp only [askV]
  have X3 := Lib.hid (HX.out.trans ((Ext.alloc _ _).trans hx3))
  have HA4 := Lib.hid ((hao.mono (base' := w.heap.size) (by have := HX.out.size; simp; omega)).ext (Ext.alloc w3 (.cells #[.int .i64 code, .int .i64 addr, .int .i64 count, .slice B1 m1 k1, .slice B2 m2 k2, .slice B3 m3 k3] 26)))
  have HB4 := Lib.hid (heap_alloc_new w3 (.cells #[.int .i64 code, .int .i64 addr, .int .i64 count, .slice B1 m1 k1, .slice B2 m2 k2, .slice B3 m3 k3] 26))
  have X4 := Lib.hid (X3.out.trans (Ext.alloc w3 (.cells #[.int .i64 code, .int .i64 addr, .int .i64 count, .slice B1 m1 k1, .slice B2 m2 k2, .slice B3 m3 k3] 26)))
  clear hx3 hao d0 d1 d2 d3 d4 d5 hc1
  go_wp2_with fail
  generalize w3.alloc (.cells #[.int .i64 code, .int .i64 addr, .int .i64 count, .slice B1 m1 k1, .slice B2 m2 k2, .slice B3 m3 k3] 26) = w4 at *
  have hgz : w.heap.size ≤ w3.heap.size := X3.out.size
  obtain ⟨gq, hgq⟩ : ∃ g, w3.heap.size = g := ⟨_, rfl⟩
  simp only [hgq] at HB4 hgz ⊢
  have HSS : Hid (∀ W : World, W.heap[gq]? = some (.cells #[.int .i64 code, .int .i64 addr, .int .i64 count, .slice B1 m1 k1, .slice B2 m2 k2, .slice B3 m3 k3] 26 (0, 0)) → W.cell? ⟨gq, 0, none⟩ = some (.int .i64 code) ∧ W.cell? ⟨gq, 1, none⟩ = some (.int .i64 addr) ∧ W.cell? ⟨gq, 2, none⟩ = some (.int .i64 count) ∧ W.cell? ⟨gq, 3, none⟩ = some (.slice B1 m1 k1) ∧ W.cell? ⟨gq, 4, none⟩ = some (.slice B2 m2 k2) ∧ W.cell? ⟨gq, 5, none⟩ = some (.slice B3 m3 k3)) := fun W hW => cells6 hW
  obtain ⟨d0, d1, d2, d3, d4, d5⟩ := HSS.out _ HB4.out
  have hgz4 : gq < w4.heap.size := lt_of_heap HB4.out
  have hl := HLT.out
  go_region_held3 (fun W => W.cell? ⟨gq, 0, none⟩ = some (.int .i64 code) ∧ W.cell? ⟨gq, 1, none⟩ = some (.int .i64 addr) ∧ W.cell? ⟨gq, 2, none⟩ = some (.int .i64 count) ∧ W.cell? ⟨gq, 3, none⟩ = some (.slice B1 m1 k1) ∧ W.cell? ⟨gq, 4, none⟩ = some (.slice B2 m2 k2) ∧ W.cell? ⟨gq, 5, none⟩ = some (.slice B3 m3 k3)) (first | go_keep | exact HSS.out _ K6.out | exact HSS.out _ K5.out) ((first
    | (go_at_call 47
       with_reducible refine Calls.mono (HDO.out ⟨B1, m1, k1, B2, m2, k2, B3, m3, k3⟩ _ (HUA.out.ext (X4.out.trans (Ext.draw _))) ((HA4.out.ext (Ext.draw _)).rd)) ?_
       rintro e w5 ⟨r, rfl, hro, hua, hou, hpx⟩
       have K5 : Hid (w5.heap[gq]? = some (.cells #[.int .i64 code, .int .i64 addr, .int .i64 count, .slice B1 m1 k1, .slice B2 m2 k2, .slice B3 m3 k3] 26 (0, 0))) := (hou.block gq hgz4 (by omega) (by omega) (by omega) (by omega) (by omega)).trans HB4.out
       have A5 : Hid (AskRd w5 ⟨code, addr, count, on, set, parts⟩ ⟨B1, m1, k1, B2, m2, k2, B3, m3, k3⟩) := ask_only (HA4.out.ext (Ext.draw _)) hl hou hpx
       have R5 := Lib.hid hro.rd
       have U5 := Lib.hid hua
       have O5 := Lib.hid ((OnlyU.of_ext (X4.out.trans (Ext.draw _))).trans hou)
       clear hro hua hou hpx)
    | (go_at_call 20
       with_reducible refine Calls.mono (HPUT.out ⟨B1, m1, k1, B2, m2, k2, B3, m3, k3⟩ _ _ A5.out R5.out) ?_
       rintro e w6 ⟨A6, n6, c6, rfl, ho6, hx6⟩
       have K6 := Lib.hid (hx6.block K5.out)
       have O6 := Lib.hid (O5.out.trans (.of_ext hx6))
       have U6 := Lib.hid (U5.out.ext hx6)
       have H6 := Lib.hid ho6
       clear hx6 ho6)))
  clear d0 d1 d2 d3 d4 d5
  go_wp2_with fail
  refine (rtu_any to _ _ _ _ _ H6.out.rd (by have h1 := H6.out.len; have h2 := HSZ.out; simp only [List.length_map] at h1; omega)).mono ?_
  rintro e w7 ⟨A7, n7, c7, rfl, ho7, hb7⟩
  have O7 := Lib.hid (O6.out.trans (.of_ext (Ext.of hb7)))
  have U7 := Lib.hid (U6.out.ext (Ext.of hb7))
  have H7 := Lib.hid ho7
  clear ho7 hb7
  go_wp2_with fail
  go_ret
  exact ⟨A7, n7, c7, rfl, by rw [HE.out]; exact H7.out.mono O6.out.size, by rw [HE.out]; exact U7.out, O7.out⟩
end Go.Proofs.Ytpjmhckdeeonbaa

namespace Go.Proofs.Ytpjmhckdeeonbaa
set_option linter.unusedVariables false
set_option linter.unusedSimpArgs false
set_option maxRecDepth 100000
set_option maxHeartbeats 1000000
open Go Go.RowKit Go.Out

theorem hear_bad (u : UnitD) (s : UnitS) (b : List UInt8) (A : Option Addr) (n c : Nat) (w : World) (h : UnitAt w s u) (hu : UnitOk u) (hr : Rd w A n (b.map cB)) (hc : n ≤ c)
    (h0 : (openRtuF b).2.2 = 0) (h1 : (openRtuF b).1.toNat = u.addr) (h2 : b0 (openRtuF b).2.1 < 128) (h3 : (getA (openRtuF b).2.1).2 ≠ 0) : Calls Try.prog 40 #[pU s, .slice A n c] w (RetH w s u b) := by
  have hO := openRtu_any b A n c w hr hc
  have hLEN := open_some h0
  have hx0 : hearU u b = (u, (rtuF (openRtuF b).1 [UInt8.ofNat (b0 (openRtuF b).2.1 + 128), if (getA (openRtuF b).2.1).2 = 20 then 1 else 3]).1) := by
    unfold hearU; rw [if_neg (by simp [h0, h1]; omega)]
    by_cases h4 : (getA (openRtuF b).2.1).2 = 20
    · rw [if_pos h4, if_pos h4]
    · rw [if_neg h4, if_pos h3, if_neg h4]
  have HE := Lib.hid hx0
  have HU := Lib.hid (fun W (hX : Ext w W) => (h.ext hX).cells)
  have HUA := Lib.hid h
  have HUO := Lib.hid hu
  have HLT := Lib.hid h.lt
  clear hx0 h hu hr hc
  obtain ⟨O, hOO⟩ : ∃ O, openRtuF b = O := ⟨_, rfl⟩
  rw [hOO] at hO hLEN HE h0 h1 h2 h3
  obtain ⟨to, pdu, e0⟩ := O
  simp only at hLEN h0 h1 h2 h3 HE
  clear hOO
  subst h0
  obtain ⟨G, hGG⟩ : ∃ G, getA pdu = G := ⟨_, rfl⟩
  have HG : Hid (∀ (A : Option Addr) (m c : Nat) (w : World), Rd w A m (pdu.map cB) → m ≤ c → c ≤ 9223372036854775807 → m ≤ 9223372036854775807 → Calls Try.prog 84 #[.slice A m c] w (RetGA w G)) := by
    intro A m c w g1 g2 g3 g4; rw [← hGG]; exact askGet_any pdu A m c w g1 g2 g3 g4
  rw [hGG] at h3 HE
  obtain ⟨a, e3⟩ := G
  simp only at h3 HE
  clear hGG
  have hwt : IntKind.i64.wrap (to.toNat : Int) = (to.toNat : Int) := IntWalk.i64_in _ (by have := to.toNat_lt; omega)
  have hta : ((to.toNat : Int) != (u.addr : Int)) = false := by simp; omega
  clear h1
  obtain ⟨code, addr, count, on, set, parts⟩ := a
  have HO := Lib.hid hO
  clear hO
  unfold pU
  go_enter Try.func40, Try.ntmps40
  go_wp2_with fail
  refine HO.out.mono ?_
  rintro e w1 ⟨A1, n1, c1, rfl, ho, hb⟩
  have HX := Lib.hid (Ext.of hb)
  have hol := ho.len
  have hcap := ho.cap
  have hcap2 := ho.capLe
  have Ho := Lib.hid ho
  clear ho hb HO
  obtain ⟨d0, d1, d2, d3, d4, d5⟩ := HU.out _ HX.out
  obtain ⟨l1, l2, -⟩ := hLEN
  simp only [List.length_map] at hol
  obtain ⟨b1, o1, rfl, hb1, hl1, hc1⟩ := Ho.out.rd.u8at (k := 0) (by omega)
  have hn1 : (0 : Int) < (n1 : Int) := by omega
  have hx : b0 pdu = pdu[0].toNat := by unfold b0; rw [List.getD_eq_getElem?_getD, List.getElem?_eq_getElem hl1]; rfl
  rw [hx] at h2 HE
  rw [Nat.add_zero] at hc1
  generalize pdu[0].toNat = x at *
  have h128 : ¬ (128 : Int) ≤ (x : Int) := by omega
  have hor := or128 x h2
  go_wp2_with fail
  refine (HG.out _ _ _ _ (Ho.out.rd.ext (Ext.alloc _ _)) hcap hcap2 (by omega)).mono ?_
  rintro e w3 ⟨⟨B1, m1, k1, B2, m2, k2, B3, m3, k3⟩, rfl, hao, hx3⟩
  simp only [askV]
  have X3 := Lib.hid (HX.out.trans ((Ext.alloc _ _).trans hx3))
  have HK3 : Hid (w3.heap[w1.heap.size]? = some (.cells #[.int .u8 ((x : Int) + 128), .int .u8 3] 5 (0, 0))) := hx3.block (heap_alloc_new w1 _)
  clear hx3 hao d0 d1 d2 d3 d4 d5 hc1
  have hlt1 : w1.heap.size < w3.heap.size := lt_of_heap HK3.out
  have hgz : w.heap.size ≤ w1.heap.size := HX.out.size
  have HFin : Hid (∀ W W' A7 n7 c7 y, (y = 1 ∧ e3 = 20 ∨ y = 3 ∧ e3 ≠ 20) → Ext w W → Own W' W.heap.size 5 IsU8 A7 n7 c7 ((rtuF to [UInt8.ofNat (x + 128), y]).1.map cB) → Below W.heap.size W W' → RetH w s u b (.returned (.slice A7 n7 c7)) W') := by
    rintro W W' A7 n7 c7 y hy hX ho7 hb7
    refine ⟨A7, n7, c7, rfl, ?_, by rw [HE.out]; exact (HUA.out.ext hX).ext (Ext.of hb7), .of_ext (hX.trans (Ext.of hb7))⟩
    rw [HE.out]
    have hyy : y = if e3 = 20 then (1 : UInt8) else 3 := by rcases hy with ⟨rfl, hy⟩ | ⟨rfl, hy⟩ <;> simp [hy]
    rw [← hyy]
    exact ho7.mono hX.size
  by_cases h20 : e3 = 20
  · subst h20
    have K4 := fun o => (Ext.alloc w3 o).block HK3.out
    have q1 : ∀ o, (w3.alloc o).cell? ⟨w1.heap.size, 1, none⟩ = some (.int .u8 3) := fun o => by rw [cell_of_row _ _ _ _ _ _ (K4 o)]; rfl
    have z1 := fun o => frozen_of_row _ w1.heap.size 1 _ _ (K4 o)
    have HK4 := Lib.hid K4
    clear K4
    go_wp2_with fail
    have HK5 := Lib.hid (heap_setCell_same w3 w1.heap.size 1 _ _ (.int .u8 1) HK3.out)
    refine (rtu_any to [UInt8.ofNat (x + 128), 1] _ _ _ _ ((Rd.of_heap (ys := []) HK5.out (by simp [cB]; omega) rfl).ext (Ext.alloc _ _)) (by simp)).mono ?_
    rintro e w7 ⟨A7, n7, c7, rfl, ho7, hb7⟩
    have HRR := Lib.hid (HFin.out _ _ _ _ _ 1 (by simp) (Ext.alloc' (Ext.set' X3.out (by simp; omega) _) _) ho7 hb7)
    clear ho7 hb7
    go_wp2_with fail
    go_ret
    exact HRR.out
  · have h20b : (e3 == 20) = false := by simp [h20]
    have h0b : (e3 == 0) = false := by simp [h3]
    go_wp2_with fail
    refine (rtu_any to [UInt8.ofNat (x + 128), 3] _ _ _ _ ((Rd.of_heap (ys := []) HK3.out (by simp [cB]; omega) rfl).ext (Ext.alloc _ _)) (by simp)).mono ?_
    rintro e w7 ⟨A7, n7, c7, rfl, ho7, hb7⟩
    have HRR := Lib.hid (HFin.out _ _ _ _ _ 3 (by simp [h20]) (Ext.alloc' X3.out _) ho7 hb7)
    clear ho7 hb7
    go_wp2_with fail
    go_ret
    exact HRR.out
theorem hear_any (u : UnitD) (s : UnitS) (b : List UInt8) (A : Option Addr) (n c : Nat) (w : World) (h : UnitAt w s u) (hu : UnitOk u) (hr : Rd w A n (b.map cB)) (hc : n ≤ c) (hwr : u.wrote < 4611686018427387904) :
    Calls Try.prog 40 #[pU s, .slice A n c] w (RetH w s u b) := by
  by_cases hno : (openRtuF b).2.2 ≠ 0 ∨ (openRtuF b).1.toNat ≠ u.addr ∨ 128 ≤ b0 (openRtuF b).2.1
  · exact hear_no u s b A n c w h hu hr hc hno
  · have h0 : (openRtuF b).2.2 = 0 := Classical.not_not.1 fun h => hno (.inl h)
    have h1 : (openRtuF b).1.toNat = u.addr := Classical.not_not.1 fun h => hno (.inr (.inl h))
    have h2 : b0 (openRtuF b).2.1 < 128 := Nat.lt_of_not_le fun h => hno (.inr (.inr h))
    by_cases h3 : (getA (openRtuF b).2.1).2 = 0
    · exact hear_do u s b A n c w h hu hr hc hwr h0 h1 h2 h3
    · exact hear_bad u s b A n c w h hu hr hc h0 h1 h2 h3
end Go.Proofs.Ytpjmhckdeeonbaa
