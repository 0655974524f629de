/- Contract of packet.GetCommand, whatever the packet. -/
import Derived.Test.YtjmddiffeffgnaaPac7
import Derived.Test.YtjmddiffeffgnaaAskG5
namespace Go.Proofs.Ytjmddiffeffgnaa
set_option linter.unusedVariables false
set_option linter.unusedSimpArgs false
set_option maxRecDepth 100000
set_option maxHeartbeats 2000000
open Go Go.RowKit Go.Out

/-- The command of a packet, or why there is none. -/
def getC (p : PacD) : (Int × Int × AskD) × Int :=
  if checkP p ≠ 0 then ((0, 0, ask0), checkP p) else if p.kind ≠ 3 then ((0, 0, ask0), 28)
  else if (p.body.getD 0 0).toNat < 1 ∨ 247 < (p.body.getD 0 0).toNat then ((0, 0, ask0), 24)
  else if (getA (p.body.drop 1)).2 ≠ 0 then ((0, 0, ask0), (getA (p.body.drop 1)).2)
  else if writesF (getA (p.body.drop 1)).1.code = false then ((0, 0, ask0), 20)
  else ((p.id, ((p.body.getD 0 0).toNat : Int), (getA (p.body.drop 1)).1), 0)
/-- What GetCommand hands back. -/
def RetGC (w : World) (r : (Int × Int × AskD) × Int) (e : Ending) (w' : World) : Prop :=
  ∃ s : AskS, e = .returned (.tuple #[cmdV r.1.1 r.1.2.1 r.1.2.2 s, .int .i64 r.2]) ∧ AskOw w' w.heap.size r.1.2.2 s ∧ Ext w w'
theorem AskOw.drew' {w : World} {base : Nat} {a : AskD} {s : AskS} (h : AskOw w base a s) : AskOw w.drew base a s := h.ext (Ext.draw _)
theorem box8f {W : World} {g : Nat} {t : TypeId} {v0 v1 v2 v3 v4 v5 v6 v7 : Value} (h : W.heap[g]? = some (.cells #[v0, v1, v2, v3, v4, v5, v6, v7] t (0, 0))) :
    W.frozen? ⟨g, 0, none⟩ = false ∧ W.frozen? ⟨g, 1, none⟩ = false ∧ W.frozen? ⟨g, 2, none⟩ = false ∧ W.frozen? ⟨g, 3, none⟩ = false ∧ W.frozen? ⟨g, 4, none⟩ = false ∧ W.frozen? ⟨g, 5, none⟩ = false ∧ W.frozen? ⟨g, 6, none⟩ = false ∧ W.frozen? ⟨g, 7, none⟩ = false :=
  ⟨frozen_of_row _ _ _ _ _ h, frozen_of_row _ _ _ _ _ h, frozen_of_row _ _ _ _ _ h, frozen_of_row _ _ _ _ _ h, frozen_of_row _ _ _ _ _ h, frozen_of_row _ _ _ _ _ h, frozen_of_row _ _ _ _ _ h, frozen_of_row _ _ _ _ _ h⟩

theorem getCommand_check (p : PacD) (A : Option Addr) (n c : Nat) (w : World) (hr : PacRd w p A n c) (h : checkP p ≠ 0) :
    Calls Try.prog 25 #[pacV p A n c] w (RetGC w ((0, 0, ask0), checkP p)) := by
  have hc := fun W (hX : Ext w W) => pacCheck_any p A n c W (hr.ext hX)
  obtain ⟨k, hk⟩ : ∃ k, checkP p = k := ⟨_, rfl⟩
  simp only [hk] at hc h ⊢
  have ht : (k != 0) = true := by simpa using h
  have HC := Lib.hid hc; clear hc hr hk h
  obtain ⟨kd, ep, sq, I, cd, l⟩ := p
  simp only [pacV] at HC ⊢
  go_enter Try.func25, Try.ntmps25
  go_wp2_with fail
  refine (HC.out _ (Ext.duo _ _ _)).mono ?_
  rintro e w1 ⟨rfl, hx1⟩
  have HBR := Lib.hid (hx1.block (heap_at _ (.cells #[.int .i64 0, .int .i64 0, .int .i64 0, .int .i64 0, .int .i64 0, .slice none 0 0, .slice none 0 0, .slice none 0 0] 28) (w.heap.size + 1) (by simp)))
  obtain ⟨b0, b1, b2, b3, b4, b5, b6, b7⟩ := box8 HBR.out
  obtain ⟨f0, f1, f2, f3, f4, f5, f6, f7⟩ := box8f HBR.out
  have X1 := Lib.hid ((Ext.duo _ _ _).trans hx1)
  clear hx1
  go_wp2_with fail
  refine bodyPost_ret (v := .tuple #[cmdV 0 0 ask0 askS0, .int .i64 k]) (by simp [results, Try.results25, go_sem, cmdV, ask0, askS0, *]) rfl ⟨askS0, rfl, askOw0 _ _, ?_⟩
  repeat' (first | with_reducible exact X1.out | with_reducible refine Ext.set' ?_ (by simp) _)
theorem getCommand_kind (p : PacD) (A : Option Addr) (n c : Nat) (w : World) (hr : PacRd w p A n c) (h : checkP p = 0) (hk : p.kind ≠ 3) :
    Calls Try.prog 25 #[pacV p A n c] w (RetGC w ((0, 0, ask0), 28)) := by
  have hc := fun W (hX : Ext w W) => pacCheck_any p A n c W (hr.ext hX)
  simp only [h] at hc
  have ht : (p.kind != 3) = true := by simpa using hk
  have HC := Lib.hid hc; clear hc hr hk h
  obtain ⟨kd, ep, sq, I, cd, l⟩ := p
  simp only [pacV] at HC ht ⊢
  go_enter Try.func25, Try.ntmps25
  go_wp2_with fail
  refine (HC.out _ (Ext.duo _ _ _)).mono ?_
  rintro e w1 ⟨rfl, hx1⟩
  have HBR := Lib.hid (hx1.block (heap_at _ (.cells #[.int .i64 0, .int .i64 0, .int .i64 0, .int .i64 0, .int .i64 0, .slice none 0 0, .slice none 0 0, .slice none 0 0] 28) (w.heap.size + 1) (by simp)))
  have HBP := Lib.hid (hx1.block ((Ext.alloc _ _).block (heap_alloc_new w (.cells #[.int .i64 kd, .int .i64 ep, .int .i64 sq, .int .i64 I, .int .i64 cd, .slice A n c] 34))))
  obtain ⟨b0, b1, b2, b3, b4, b5, b6, b7⟩ := box8 HBR.out
  obtain ⟨f0, f1, f2, f3, f4, f5, f6, f7⟩ := box8f HBR.out
  obtain ⟨d0, d1, d2, d3, d4, d5, -⟩ := box6 HBP.out
  have X1 := Lib.hid ((Ext.duo _ _ _).trans hx1)
  clear hx1
  go_wp2_with fail
  refine bodyPost_ret (v := .tuple #[cmdV 0 0 ask0 askS0, .int .i64 28]) (by simp [results, Try.results25, go_sem, cmdV, ask0, askS0, *]) rfl ⟨askS0, rfl, askOw0 _ _, ?_⟩
  repeat' (first | with_reducible exact X1.out | with_reducible refine Ext.set' ?_ (by simp) _)
theorem getCommand_unit (I : Int) (x : Nat) (l : List UInt8) (bk off n c : Nat) (w : World) (hr : PacRd w ⟨3, 0, 0, I, 0, l⟩ (some ⟨bk, off, none⟩) n c) (h : checkP ⟨3, 0, 0, I, 0, l⟩ = 0) (hn2 : 2 ≤ n) (hn : n ≤ 254) (hbk : bk < w.heap.size) (hx : (l.getD 0 0).toNat = x) (hx8 : x < 256) (hU : (x : Int) < 1 ∨ (1 ≤ (x : Int) ∧ 247 < (x : Int))) :
    Calls Try.prog 25 #[pacV ⟨3, 0, 0, I, 0, l⟩ (some ⟨bk, off, none⟩) n c] w (RetGC w ((0, 0, ask0), 24)) := by
  have hc := fun W (hX : Ext w W) => pacCheck_any ⟨3, 0, 0, I, 0, l⟩ (some ⟨bk, off, none⟩) n c W (hr.ext hX)
  simp only [h] at hc
  have HC := Lib.hid hc
  have c0 : w.cell? ⟨bk, off, none⟩ = some (.int .u8 (x : Int)) := by
    obtain ⟨bk', off', e, -, hcell⟩ := hr.body.u8all (by omega)
    injection e with e; injection e with e1 e2; subst e1; subst e2
    have := hcell 0 (by omega)
    rw [Nat.add_zero, hx] at this
    exact this
  have HR := Lib.hid hr.body
  have HCAP := Lib.hid hr.cap
  have i0 : 0 < n := by omega
  clear hc hr h hx
  simp only [pacV] at HC ⊢
  have HU := Lib.hid hU
  clear hU
  go_enter Try.func25, Try.ntmps25
  go_wp2_with fail
  refine (HC.out _ (Ext.duo _ _ _)).mono ?_
  rintro e w1 ⟨rfl, hx1⟩
  have HBR := Lib.hid (hx1.block (heap_at _ (.cells #[.int .i64 0, .int .i64 0, .int .i64 0, .int .i64 0, .int .i64 0, .slice none 0 0, .slice none 0 0, .slice none 0 0] 28) (w.heap.size + 1) (by simp)))
  have HBP := Lib.hid (hx1.block ((Ext.alloc _ _).block (heap_alloc_new w (.cells #[.int .i64 3, .int .i64 0, .int .i64 0, .int .i64 I, .int .i64 0, .slice (some ⟨bk, off, none⟩) n c] 34))))
  obtain ⟨d0, d1, d2, d3, d4, d5, -⟩ := box6 HBP.out
  have g0 := ((Ext.duo _ _ _).trans hx1).cell hbk c0
  have X1 := Lib.hid ((Ext.duo _ _ _).trans hx1)
  clear hx1
  go_wp2_with fail
  refine (out_t (x : Int) 1 247 _ HU.out).mono ?_
  rintro e v_ ⟨rfl, rfl⟩
  obtain ⟨b0, b1, b2, b3, b4, b5, b6, b7⟩ := box8 HBR.out
  obtain ⟨f0, f1, f2, f3, f4, f5, f6, f7⟩ := box8f HBR.out
  go_wp2_with fail
  refine bodyPost_ret (v := .tuple #[cmdV 0 0 ask0 askS0, .int .i64 24]) (by simp [results, Try.results25, go_sem, cmdV, ask0, askS0, *]) rfl ⟨askS0, rfl, askOw0 _ _, ?_⟩
  repeat' (first | with_reducible exact X1.out | with_reducible refine Ext.set' ?_ (by simp) _)
theorem getCommand_get (I : Int) (x : Nat) (l : List UInt8) (bk off n c : Nat) (w : World) (hr : PacRd w ⟨3, 0, 0, I, 0, l⟩ (some ⟨bk, off, none⟩) n c) (h : checkP ⟨3, 0, 0, I, 0, l⟩ = 0) (hn2 : 2 ≤ n) (hn : n ≤ 254) (hbk : bk < w.heap.size) (hx : (l.getD 0 0).toNat = x) (hx8 : x < 256) (hU : 1 ≤ (x : Int) ∧ (x : Int) ≤ 247) (E : Int) (hG : getA (l.drop 1) = (ask0, E)) (hE : E ≠ 0) :
    Calls Try.prog 25 #[pacV ⟨3, 0, 0, I, 0, l⟩ (some ⟨bk, off, none⟩) n c] w (RetGC w ((0, 0, ask0), E)) := by
  have hc := fun W (hX : Ext w W) => pacCheck_any ⟨3, 0, 0, I, 0, l⟩ (some ⟨bk, off, none⟩) n c W (hr.ext hX)
  simp only [h] at hc
  have HC := Lib.hid hc
  have c0 : w.cell? ⟨bk, off, none⟩ = some (.int .u8 (x : Int)) := by
    obtain ⟨bk', off', e, -, hcell⟩ := hr.body.u8all (by omega)
    injection e with e; injection e with e1 e2; subst e1; subst e2
    have := hcell 0 (by omega)
    rw [Nat.add_zero, hx] at this
    exact this
  have HR := Lib.hid hr.body
  have HCAP := Lib.hid hr.cap
  have i0 : 0 < n := by omega
  clear hc hr h hx
  simp only [pacV] at HC ⊢
  have ht : (E != 0) = true := by simpa using hE
  clear hE
  have hc1 : ¬ c = 1 := by have := HCAP.out; omega
  have q1 : (1 : Int) ≤ (n : Int) := by omega
  have q2 : (1 : Int) ≤ (c : Int) := by have := HCAP.out; omega
  have HRD := Lib.hid (HR.out.from8 (k := 1) (c := c) (by omega) HCAP.out.1)
  rw [if_neg hc1] at HRD
  have HGA : Hid (∀ W, Ext w W → Calls Try.prog 35 #[.slice (some ⟨bk, off + 1, none⟩) (n - 1) (c - 1)] W (RetGA W (getA (l.drop 1)))) := fun W hX => askGet_any _ _ _ _ W (HRD.out.ext hX) (by have := HCAP.out; omega) (by have := HCAP.out; omega) (by omega)
  rw [hG] at HGA
  have HU := Lib.hid hU
  clear hG hU HRD
  go_enter Try.func25, Try.ntmps25
  go_wp2_with fail
  refine (HC.out _ (Ext.duo _ _ _)).mono ?_
  rintro e w1 ⟨rfl, hx1⟩
  have HBR := Lib.hid (hx1.block (heap_at _ (.cells #[.int .i64 0, .int .i64 0, .int .i64 0, .int .i64 0, .int .i64 0, .slice none 0 0, .slice none 0 0, .slice none 0 0] 28) (w.heap.size + 1) (by simp)))
  have HBP := Lib.hid (hx1.block ((Ext.alloc _ _).block (heap_alloc_new w (.cells #[.int .i64 3, .int .i64 0, .int .i64 0, .int .i64 I, .int .i64 0, .slice (some ⟨bk, off, none⟩) n c] 34))))
  obtain ⟨d0, d1, d2, d3, d4, d5, -⟩ := box6 HBP.out
  have g0 := ((Ext.duo _ _ _).trans hx1).cell hbk c0
  have X1 := Lib.hid ((Ext.duo _ _ _).trans hx1)
  clear hx1
  go_wp2_with fail
  refine (out_f (x : Int) 1 247 _ HU.out).mono ?_
  rintro e v_ ⟨rfl, rfl⟩
  go_wp2_with fail
  refine (HGA.out _ X1.out).mono ?_
  rintro e w2 ⟨⟨B1, m1, k1, B2, m2, k2, B3, m3, k3⟩, rfl, hw2, hx2⟩
  simp only at hw2
  have HW2 := Lib.hid hw2
  have HBR2 := Lib.hid (hx2.block HBR.out)
  have HBP2 := Lib.hid (hx2.block HBP.out)
  have X2 := Lib.hid (X1.out.trans hx2)
  have Y2 := Lib.hid hx2
  clear hw2 hx2 d0 d1 d2 d3 d4 d5 g0
  simp only [askV, ask0]
  have XA := Lib.hid (fun o => X2.out.trans (Ext.alloc w2 o))
  have DB := fun o : Obj => box8 ((Ext.alloc w2 o).block HBR2.out)
  have DF := fun o : Obj => box8f ((Ext.alloc w2 o).block HBR2.out)
  have b0 := fun o => (DB o).1
  have f0 := fun o => (DF o).1
  have b1 := fun o => (DB o).2.1
  have f1 := fun o => (DF o).2.1
  have b2 := fun o => (DB o).2.2.1
  have f2 := fun o => (DF o).2.2.1
  have b3 := fun o => (DB o).2.2.2.1
  have f3 := fun o => (DF o).2.2.2.1
  have b4 := fun o => (DB o).2.2.2.2.1
  have f4 := fun o => (DF o).2.2.2.2.1
  have b5 := fun o => (DB o).2.2.2.2.2.1
  have f5 := fun o => (DF o).2.2.2.2.2.1
  have b6 := fun o => (DB o).2.2.2.2.2.2.1
  have f6 := fun o => (DF o).2.2.2.2.2.2.1
  have b7 := fun o => (DB o).2.2.2.2.2.2.2
  have f7 := fun o => (DF o).2.2.2.2.2.2.2
  clear DB DF
  go_wp2_with fail
  refine bodyPost_ret (v := .tuple #[cmdV 0 0 ask0 askS0, .int .i64 E]) (by simp [results, Try.results25, go_sem, cmdV, ask0, askS0, *]) rfl ⟨askS0, rfl, askOw0 _ _, ?_⟩
  repeat' (first | with_reducible exact XA.out _ | with_reducible refine Ext.set' ?_ (by simp) _)
theorem getCommand_read (I : Int) (x : Nat) (l : List UInt8) (bk off n c : Nat) (w : World) (hr : PacRd w ⟨3, 0, 0, I, 0, l⟩ (some ⟨bk, off, none⟩) n c) (h : checkP ⟨3, 0, 0, I, 0, l⟩ = 0) (hn2 : 2 ≤ n) (hn : n ≤ 254) (hbk : bk < w.heap.size) (hx : (l.getD 0 0).toNat = x) (hx8 : x < 256) (hU : 1 ≤ (x : Int) ∧ (x : Int) ≤ 247) (a : AskD) (hG : getA (l.drop 1) = (a, 0)) (hW : writesF a.code = false) :
    Calls Try.prog 25 #[pacV ⟨3, 0, 0, I, 0, l⟩ (some ⟨bk, off, none⟩) n c] w (RetGC w ((0, 0, ask0), 20)) := by
  have hc := fun W (hX : Ext w W) => pacCheck_any ⟨3, 0, 0, I, 0, l⟩ (some ⟨bk, off, none⟩) n c W (hr.ext hX)
  simp only [h] at hc
  have HC := Lib.hid hc
  have c0 : w.cell? ⟨bk, off, none⟩ = some (.int .u8 (x : Int)) := by
    obtain ⟨bk', off', e, -, hcell⟩ := hr.body.u8all (by omega)
    injection e with e; injection e with e1 e2; subst e1; subst e2
    have := hcell 0 (by omega)
    rw [Nat.add_zero, hx] at this
    exact this
  have HR := Lib.hid hr.body
  have HCAP := Lib.hid hr.cap
  have i0 : 0 < n := by omega
  clear hc hr h hx
  simp only [pacV] at HC ⊢
  have HWR := Lib.hid (fun (W : World) s => writes_any a s W)
  rw [hW] at HWR
  clear hW
  have hc1 : ¬ c = 1 := by have := HCAP.out; omega
  have q1 : (1 : Int) ≤ (n : Int) := by omega
  have q2 : (1 : Int) ≤ (c : Int) := by have := HCAP.out; omega
  have HRD := Lib.hid (HR.out.from8 (k := 1) (c := c) (by omega) HCAP.out.1)
  rw [if_neg hc1] at HRD
  have HGA : Hid (∀ W, Ext w W → Calls Try.prog 35 #[.slice (some ⟨bk, off + 1, none⟩) (n - 1) (c - 1)] W (RetGA W (getA (l.drop 1)))) := fun W hX => askGet_any _ _ _ _ W (HRD.out.ext hX) (by have := HCAP.out; omega) (by have := HCAP.out; omega) (by omega)
  rw [hG] at HGA
  have HU := Lib.hid hU
  clear hG hU HRD
  go_enter Try.func25, Try.ntmps25
  go_wp2_with fail
  refine (HC.out _ (Ext.duo _ _ _)).mono ?_
  rintro e w1 ⟨rfl, hx1⟩
  have HBR := Lib.hid (hx1.block (heap_at _ (.cells #[.int .i64 0, .int .i64 0, .int .i64 0, .int .i64 0, .int .i64 0, .slice none 0 0, .slice none 0 0, .slice none 0 0] 28) (w.heap.size + 1) (by simp)))
  have HBP := Lib.hid (hx1.block ((Ext.alloc _ _).block (heap_alloc_new w (.cells #[.int .i64 3, .int .i64 0, .int .i64 0, .int .i64 I, .int .i64 0, .slice (some ⟨bk, off, none⟩) n c] 34))))
  obtain ⟨d0, d1, d2, d3, d4, d5, -⟩ := box6 HBP.out
  have g0 := ((Ext.duo _ _ _).trans hx1).cell hbk c0
  have X1 := Lib.hid ((Ext.duo _ _ _).trans hx1)
  clear hx1
  go_wp2_with fail
  refine (out_f (x : Int) 1 247 _ HU.out).mono ?_
  rintro e v_ ⟨rfl, rfl⟩
  go_wp2_with fail
  refine (HGA.out _ X1.out).mono ?_
  rintro e w2 ⟨⟨B1, m1, k1, B2, m2, k2, B3, m3, k3⟩, rfl, hw2, hx2⟩
  simp only at hw2
  have HW2 := Lib.hid hw2
  have HBR2 := Lib.hid (hx2.block HBR.out)
  have HBP2 := Lib.hid (hx2.block HBP.out)
  have X2 := Lib.hid (X1.out.trans hx2)
  have Y2 := Lib.hid hx2
  clear hw2 hx2 d0 d1 d2 d3 d4 d5 g0
  obtain ⟨code, addr, count, on, set, parts⟩ := a
  simp only [askV]
  have HWR2 := Lib.hid (fun W => HWR.out W ⟨B1, m1, k1, B2, m2, k2, B3, m3, k3⟩)
  simp only [askV] at HWR2
  clear HWR
  go_wp2_with fail
  refine (HWR2.out _).mono ?_
  rintro e w3 ⟨rfl, hx3⟩
  have HBR3 := Lib.hid (hx3.block ((Ext.alloc _ _).block HBR2.out))
  obtain ⟨b0, b1, b2, b3, b4, b5, b6, b7⟩ := box8 HBR3.out
  obtain ⟨f0, f1, f2, f3, f4, f5, f6, f7⟩ := box8f HBR3.out
  have X3 := Lib.hid (X2.out.trans ((Ext.alloc _ _).trans hx3))
  clear hx3
  go_wp2_with fail
  refine bodyPost_ret (v := .tuple #[cmdV 0 0 ask0 askS0, .int .i64 20]) (by simp [results, Try.results25, go_sem, cmdV, ask0, askS0, *]) rfl ⟨askS0, rfl, askOw0 _ _, ?_⟩
  repeat' (first | with_reducible exact X3.out | with_reducible refine Ext.set' ?_ (by simp) _)
theorem getCommand_ok (I : Int) (x : Nat) (l : List UInt8) (bk off n c : Nat) (w : World) (hr : PacRd w ⟨3, 0, 0, I, 0, l⟩ (some ⟨bk, off, none⟩) n c) (h : checkP ⟨3, 0, 0, I, 0, l⟩ = 0) (hn2 : 2 ≤ n) (hn : n ≤ 254) (hbk : bk < w.heap.size) (hx : (l.getD 0 0).toNat = x) (hx8 : x < 256) (hU : 1 ≤ (x : Int) ∧ (x : Int) ≤ 247) (a : AskD) (hG : getA (l.drop 1) = (a, 0)) (hW : writesF a.code = true) :
    Calls Try.prog 25 #[pacV ⟨3, 0, 0, I, 0, l⟩ (some ⟨bk, off, none⟩) n c] w (RetGC w ((I, (x : Int), a), 0)) := by
  have hc := fun W (hX : Ext w W) => pacCheck_any ⟨3, 0, 0, I, 0, l⟩ (some ⟨bk, off, none⟩) n c W (hr.ext hX)
  simp only [h] at hc
  have HC := Lib.hid hc
  have c0 : w.cell? ⟨bk, off, none⟩ = some (.int .u8 (x : Int)) := by
    obtain ⟨bk', off', e, -, hcell⟩ := hr.body.u8all (by omega)
    injection e with e; injection e with e1 e2; subst e1; subst e2
    have := hcell 0 (by omega)
    rw [Nat.add_zero, hx] at this
    exact this
  have HR := Lib.hid hr.body
  have HCAP := Lib.hid hr.cap
  have i0 : 0 < n := by omega
  clear hc hr h hx
  simp only [pacV] at HC ⊢
  have HWR := Lib.hid (fun (W : World) s => writes_any a s W)
  rw [hW] at HWR
  clear hW
  have hc1 : ¬ c = 1 := by have := HCAP.out; omega
  have q1 : (1 : Int) ≤ (n : Int) := by omega
  have q2 : (1 : Int) ≤ (c : Int) := by have := HCAP.out; omega
  have HRD := Lib.hid (HR.out.from8 (k := 1) (c := c) (by omega) HCAP.out.1)
  rw [if_neg hc1] at HRD
  have HGA : Hid (∀ W, Ext w W → Calls Try.prog 35 #[.slice (some ⟨bk, off + 1, none⟩) (n - 1) (c - 1)] W (RetGA W (getA (l.drop 1)))) := fun W hX => askGet_any _ _ _ _ W (HRD.out.ext hX) (by have := HCAP.out; omega) (by have := HCAP.out; omega) (by omega)
  rw [hG] at HGA
  have HU := Lib.hid hU
  clear hG hU HRD
  go_enter Try.func25, Try.ntmps25
  go_wp2_with fail
  refine (HC.out _ (Ext.duo _ _ _)).mono ?_
  rintro e w1 ⟨rfl, hx1⟩
  have HBR := Lib.hid (hx1.block (heap_at _ (.cells #[.int .i64 0, .int .i64 0, .int .i64 0, .int .i64 0, .int .i64 0, .slice none 0 0, .slice none 0 0, .slice none 0 0] 28) (w.heap.size + 1) (by simp)))
  have HBP := Lib.hid (hx1.block ((Ext.alloc _ _).block (heap_alloc_new w (.cells #[.int .i64 3, .int .i64 0, .int .i64 0, .int .i64 I, .int .i64 0, .slice (some ⟨bk, off, none⟩) n c] 34))))
  obtain ⟨d0, d1, d2, d3, d4, d5, -⟩ := box6 HBP.out
  have g0 := ((Ext.duo _ _ _).trans hx1).cell hbk c0
  have X1 := Lib.hid ((Ext.duo _ _ _).trans hx1)
  clear hx1
  go_wp2_with fail
  refine (out_f (x : Int) 1 247 _ HU.out).mono ?_
  rintro e v_ ⟨rfl, rfl⟩
  go_wp2_with fail
  refine (HGA.out _ X1.out).mono ?_
  rintro e w2 ⟨⟨B1, m1, k1, B2, m2, k2, B3, m3, k3⟩, rfl, hw2, hx2⟩
  simp only at hw2
  have HW2 := Lib.hid hw2
  have HBR2 := Lib.hid (hx2.block HBR.out)
  have HBP2 := Lib.hid (hx2.block HBP.out)
  have X2 := Lib.hid (X1.out.trans hx2)
  have Y2 := Lib.hid hx2
  clear hw2 hx2 d0 d1 d2 d3 d4 d5 g0
  obtain ⟨code, addr, count, on, set, parts⟩ := a
  simp only [askV]
  have HWR2 := Lib.hid (fun W => HWR.out W ⟨B1, m1, k1, B2, m2, k2, B3, m3, k3⟩)
  simp only [askV] at HWR2
  clear HWR
  go_wp2_with fail
  refine (HWR2.out _).mono ?_
  rintro e w3 ⟨rfl, hx3⟩
  have HBR3 := Lib.hid (hx3.block ((Ext.alloc _ _).block HBR2.out))
  obtain ⟨b0, b1, b2, b3, b4, b5, b6, b7⟩ := box8 HBR3.out
  obtain ⟨f0, f1, f2, f3, f4, f5, f6, f7⟩ := box8f HBR3.out
  have X3 := Lib.hid (X2.out.trans ((Ext.alloc _ _).trans hx3))
  have HBP3 := hx3.block ((Ext.alloc _ _).block HBP2.out)
  obtain ⟨d0, d1, d2, d3, d4, d5, -⟩ := box6 HBP3
  obtain ⟨e0, e1, e2, e3, e4, e5⟩ := ask_cells _ hx3
  have g0 := X3.out.cell hbk c0
  have HW3 := Lib.hid ((HW2.out.mono (base' := w.heap.size + 2) (by have := lt_of_heap HBR.out; omega)).ext ((Ext.alloc _ _).trans hx3))
  clear hx3 HBP3
  go_wp2_with fail
  go_still_tail 9, (by kernel_rfl)
  go_wp2_with fail
  refine bodyPost_ret (v := .tuple #[cmdV I (x : Int) ⟨code, addr, count, on, set, parts⟩ ⟨B1, m1, k1, B2, m2, k2, B3, m3, k3⟩, .int .i64 0]) (by simp [results, Try.results25, go_sem, cmdV, *]) rfl ⟨_, rfl, ?_, ?_⟩
  · simp only
    refine AskOw.mono (base := w.heap.size + 2) ?_ (by omega)
    repeat' (first | with_reducible exact HW3.out | with_reducible refine AskOw.drew' ?_ | with_reducible refine AskOw.set_below ?_ (by simp) _)
  · repeat' (first | with_reducible exact X3.out | with_reducible refine Ext.drew' ?_ | with_reducible refine Ext.set' ?_ (by simp) _)
theorem getCommand_any (p : PacD) (A : Option Addr) (n c : Nat) (w : World) (hr : PacRd w p A n c) :
    Calls Try.prog 25 #[pacV p A n c] w (RetGC w (getC p)) := by
  unfold getC
  by_cases h1 : checkP p ≠ 0
  · rw [if_pos h1]; exact getCommand_check p A n c w hr h1
  · rw [if_neg h1]
    have h1' : checkP p = 0 := by simpa using h1
    by_cases h2 : p.kind ≠ 3
    · rw [if_pos h2]; exact getCommand_kind p A n c w hr h1' h2
    · rw [if_neg h2]
      have hp3 : ∃ I l, p = ⟨3, 0, 0, I, 0, l⟩ ∧ 2 ≤ l.length ∧ l.length ≤ 254 := by
        rcases pac_cases h1' with ⟨E, S, l, q1, q2, q3, q4, q5, rfl⟩ | ⟨E, S, q1, q2, q3, rfl⟩ | ⟨I, l, q1, q2, q3, q4, rfl⟩ | ⟨I, C, q1, q2, q3, rfl⟩
        · simp at h2
        · simp at h2
        · exact ⟨_, l, rfl, q3, q4⟩
        · simp at h2
      obtain ⟨I, l, rfl, hl2, hl⟩ := hp3
      have hln := hr.len
      simp only at hln
      obtain ⟨bk, off, rfl, hbk, -⟩ := hr.body.u8all (by omega)
      have hx8 := (l.getD 0 0).toNat_lt
      simp only at h1' ⊢
      by_cases h3 : (l.getD 0 0).toNat < 1 ∨ 247 < (l.getD 0 0).toNat
      · rw [if_pos h3]; exact getCommand_unit I _ l bk off n c w hr h1' (by omega) (by omega) hbk rfl (by omega) (by omega)
      · rw [if_neg h3]
        by_cases h4 : (getA (l.drop 1)).2 ≠ 0
        · rw [if_pos h4]
          exact getCommand_get I _ l bk off n c w hr h1' (by omega) (by omega) hbk rfl (by omega) (by omega) _ (by rw [← getA_err h4]) h4
        · rw [if_neg h4]
          have h4' : (getA (l.drop 1)).2 = 0 := by simpa using h4
          by_cases h5 : writesF (getA (l.drop 1)).1.code = false
          · rw [if_pos h5]; exact getCommand_read I _ l bk off n c w hr h1' (by omega) (by omega) hbk rfl (by omega) (by omega) _ (by rw [← h4']) h5
          · rw [if_neg h5]; exact getCommand_ok I _ l bk off n c w hr h1' (by omega) (by omega) hbk rfl (by omega) (by omega) _ (by rw [← h4']) (by simpa using h5)
theorem sameCommand_eq (id unit : Int) (a : AskD) (s t : AskS) (w : World) (ha : AskRd w a s) (hb : AskRd w a t) (h3 : a.parts.length ≤ 4398046511104) :
    Calls Try.prog 30 #[cmdV id unit a s, cmdV id unit a t] w (RetQ w true) := by
  have HS := Lib.hid (fun W (hX : Ext w W) => sameAsk_eq a s t W (ha.ext hX) (hb.ext hX) (by have := ha.cap1; omega) (by have := ha.cap2; omega) (by have := ha.n3; omega))
  clear ha hb h3
  obtain ⟨code, addr, count, on, set, parts⟩ := a
  obtain ⟨A1, n1, c1, A2, n2, c2, A3, n3, c3⟩ := s
  obtain ⟨B1, m1, k1, B2, m2, k2, B3, m3, k3⟩ := t
  simp only [askV] at HS
  simp only [cmdV]
  go_enter Try.func30, Try.ntmps30
  go_wp2_with fail
  refine (HS.out _ (Ext.duo _ _ _)).mono ?_
  rintro e w1 ⟨rfl, hx1⟩
  go_wp2_with fail
  go_ret
  exact ⟨rfl, (Ext.duo _ _ _).trans hx1⟩
theorem getA_parts (b : List UInt8) : (getA b).1.parts.length ≤ 35 := by
  by_cases h : (getA b).2 = 0
  · obtain ⟨-, -, -, -, hck⟩ := getA_zero h
    rcases Go.Out.ask_cases hck with ⟨_, _, _, _, _, _, _, _, e⟩ | ⟨_, _, _, e⟩ | ⟨_, _, _, e⟩ | ⟨_, _, _, _, _, e⟩ | ⟨_, _, _, _, _, e⟩ | ⟨l, _, hl, _, e⟩
    all_goals (rw [e]; simp only [List.length_nil]; omega)
  · rw [getA_err h]; simp [ask0]
theorem getC_parts (p : PacD) : (getC p).1.2.2.parts.length ≤ 35 := by
  unfold getC
  repeat' split
  all_goals first
    | exact getA_parts _
    | simp [ask0]

end Go.Proofs.Ytjmddiffeffgnaa
