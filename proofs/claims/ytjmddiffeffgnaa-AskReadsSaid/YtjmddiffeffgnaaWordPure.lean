/- Words and bytes, back and forth: plain definitions and laws; no program in sight. -/
import Derived.Test.YtjmddiffeffgnaaPackPure
import Derived.StillTailTactics
import Derived.Deep.RegionLaw
namespace Go.Out
open Go Go.RowKit
set_option linter.unusedVariables false

/-- Words as bytes. -/
def wb : List UInt16 → List UInt8
  | [] => []
  | w :: r => UInt8.ofNat (w.toNat / 256) :: UInt8.ofNat w.toNat :: wb r
/-- Bytes as words. -/
def bw : List UInt8 → List UInt16
  | a :: b :: r => UInt16.ofNat (a.toNat * 256 + b.toNat) :: bw r
  | _ => []
def wordsF (b : List UInt8) : List UInt16 × Int := if b.length % 2 = 1 then ([], 22) else (bw b, 0)

theorem wb_length (l : List UInt16) : (wb l).length = 2 * l.length := by
  induction l with
  | nil => rfl
  | cons w r ih => simp [wb, ih]; omega
theorem wb_append (a b : List UInt16) : wb (a ++ b) = wb a ++ wb b := by
  induction a with
  | nil => rfl
  | cons w r ih => simp [wb, ih]
theorem wb_snoc (l : List UInt16) (k : Nat) (h : k < l.length) : wb (l.take (k + 1)) = wb (l.take k) ++ [UInt8.ofNat (l[k].toNat / 256), UInt8.ofNat l[k].toNat] := by
  rw [List.take_succ_eq_append_getElem h, wb_append]; rfl
theorem bw_wb (l : List UInt16) : bw (wb l) = l := by
  induction l with
  | nil => rfl
  | cons w r ih =>
    simp only [wb, bw, ih]
    congr 1
    apply UInt16.toNat.inj
    have h1 : (UInt8.ofNat (w.toNat / 256)).toNat = w.toNat / 256 % 256 := rfl
    have h2 : (UInt8.ofNat w.toNat).toNat = w.toNat % 256 := rfl
    have h3 := w.toNat_lt
    have h4 : (UInt16.ofNat ((UInt8.ofNat (w.toNat / 256)).toNat * 256 + (UInt8.ofNat w.toNat).toNat)).toNat = ((UInt8.ofNat (w.toNat / 256)).toNat * 256 + (UInt8.ofNat w.toNat).toNat) % 65536 := rfl
    rw [h4, h1, h2]; omega
theorem bw_length : ∀ l : List UInt8, (bw l).length = l.length / 2
  | [] => rfl
  | [_] => by simp [bw]
  | a :: b :: r => by simp [bw, bw_length r]; omega
theorem wb_bw : ∀ l : List UInt8, l.length % 2 = 0 → wb (bw l) = l
  | [], _ => rfl
  | [_], h => by simp at h
  | a :: b :: r, h => by
    have ih := wb_bw r (by simp at h; omega)
    simp only [bw, wb, ih]
    have ha := a.toNat_lt
    have hb := b.toNat_lt
    have h4 : (UInt16.ofNat (a.toNat * 256 + b.toNat)).toNat = (a.toNat * 256 + b.toNat) % 65536 := rfl
    congr 1
    · apply UInt8.toNat.inj
      have h5 : (UInt8.ofNat ((UInt16.ofNat (a.toNat * 256 + b.toNat)).toNat / 256)).toNat = (UInt16.ofNat (a.toNat * 256 + b.toNat)).toNat / 256 % 256 := rfl
      rw [h5, h4]; omega
    · congr 1
      apply UInt8.toNat.inj
      have h5 : (UInt8.ofNat ((UInt16.ofNat (a.toNat * 256 + b.toNat)).toNat)).toNat = (UInt16.ofNat (a.toNat * 256 + b.toNat)).toNat % 256 := rfl
      rw [h5, h4]; omega
theorem bw_get : ∀ (l : List UInt8) (k : Nat) (h : 2 * k + 1 < l.length), (bw l)[k]? = some (UInt16.ofNat (l[2 * k].toNat * 256 + l[2 * k + 1].toNat))
  | [], k, h => by simp at h
  | [_], k, h => by simp at h
  | a :: b :: r, 0, h => by simp [bw]
  | a :: b :: r, k + 1, h => by
    have := bw_get r k (by simp at h; omega)
    simp only [bw, List.getElem?_cons_succ, this]
    rfl

theorem cB_cell (x : Int) (n : Nat) (h : x = ((n % 256 : Nat) : Int)) : (.int .u8 x : Value) = cB (UInt8.ofNat n) := by unfold cB; congr 1
theorem cW_cell (x : Int) (n : Nat) (h : x = ((n % 65536 : Nat) : Int)) : (.int .u16 x : Value) = cW (UInt16.ofNat n) := by unfold cW; congr 1
theorem Rd.two (w : World) (t : TypeId) (v u : Value) : Rd (w.alloc (.cells #[v, u] t)) (some ⟨w.heap.size, 0, none⟩) 2 [v, u] :=
  ⟨rfl, fun _ => ⟨_, 0, rfl, by simp, fun j x hu => by
    rw [cell_of_row _ _ _ _ _ _ (heap_alloc_new w _)]
    rcases j with _ | _ | j
    · simpa using hu
    · simpa using hu
    · simp at hu⟩⟩
theorem run_make0 {P : Program} (t e : TypeId) (z : Value) (bytes : Nat) (ht : P.underlying t = some (.slice e)) (hinfo : (P.info? e).map (fun i => (i.zero, i.size, i.bytes)) = some (some z, 1, bytes)) (hz1 : z.cells = #[z])
    (c : Nat) (hbytes : bytes * c ≤ 281474976710656) (h63 : c ≤ 9223372036854775807) (W : World) :
    (Instr.makeSlice t (.int .i64 0) (.int .i64 (c : Int))).run P W = .ok (.slice (some ⟨W.heap.size, 0, none⟩) 0 c) (W.alloc (.cells (Array.replicate c z) e)) := by
  obtain ⟨i, hi, hz, hs, hb⟩ := info_parts hinfo
  subst hb
  have h := run_make (P := P) W t e i z ht hi hz .i64 .i64 0 (c : Int) (by omega) (by omega) (by have := Int.ofNat_le.2 hbytes; simpa using this) (by omega)
  have e1 : madeCells #[z] c = Array.replicate c z := by apply Array.ext'; rw [toList_madeCells_one]; simp
  simpa [hs, hz1, e1] using h
theorem Own.made {w : World} {base : Nat} {e : TypeId} {p : Value → Prop} {z : Value} {c : Nat} (hb : base ≤ w.heap.size) (hc : c ≤ 9223372036854775807) (hz : p z) : Own (w.alloc (.cells (Array.replicate c z) e)) base e p (some ⟨w.heap.size, 0, none⟩) 0 c [] := by
  have h := Own.of_heap (w := w.alloc (.cells (Array.replicate c z) e)) (p := p) hb (heap_alloc_new w _) (off := 0) 0 c (by omega) (by simp) (by unfold maxLen; omega) (by intro u hu; simp at hu; rw [hu.2]; exact hz)
  simpa using h
theorem Rd.u16in {w wr : World} {A : Option Addr} {n : Nat} {l : List UInt16} (h : Rd w A n (l.map cW)) (hb : Below w.heap.size w wr) {k : Nat} (hk : k < n) :
    ∃ b off, A = some ⟨b, off, none⟩ ∧ b < w.heap.size ∧ ∃ hl : k < l.length, wr.cell? ⟨b, off + k, none⟩ = some (.int .u16 (l[k].toNat : Int)) := by
  obtain ⟨b, off, e, hlt, hl, hc⟩ := h.u16at hk
  exact ⟨b, off, e, hlt, hl, (hb.cell (p := ⟨b, off + k, none⟩) hlt).trans hc⟩
theorem Rd.u8in {w wr : World} {A : Option Addr} {n : Nat} {l : List UInt8} (h : Rd w A n (l.map cB)) (hb : Below w.heap.size w wr) {k : Nat} (hk : k < n) :
    ∃ b off, A = some ⟨b, off, none⟩ ∧ b < w.heap.size ∧ ∃ hl : k < l.length, wr.cell? ⟨b, off + k, none⟩ = some (.int .u8 (l[k].toNat : Int)) := by
  obtain ⟨b, off, e, hlt, hl, hc⟩ := h.u8at hk
  exact ⟨b, off, e, hlt, hl, (hb.cell (p := ⟨b, off + k, none⟩) hlt).trans hc⟩
/-- A cell below the call's own blocks, behind an append to one of these. -/
theorem cell_app {w w2 : World} {o : Obj} {base : Nat} {e : TypeId} {p : Value → Prop} {A : Option Addr} {n c b off : Nat} {xs : List Value} {v : Value} (hc : w.cell? ⟨b, off, none⟩ = some v) (hg : (w.alloc o).grownBy w2 (blk A)) (hown : Own w base e p A n c xs) (hlt : b < base) (hbase : base ≤ w.heap.size) :
    w2.cell? ⟨b, off, none⟩ = some v :=
  (World.cell?_of_block (a := ⟨b, off, none⟩) (hg.block b (by simp; omega) (fun e => by have := (hown.lt b e.symm).1; omega))).trans ((World.cell?_alloc_lt w o ⟨b, off, none⟩ (by simp; omega)).trans hc)
theorem word_or (x y : UInt8) : bits .or .u16 (IntKind.u16.wrap (IntKind.u16.wrap (x.toNat : Int) * 256)) (IntKind.u16.wrap (y.toNat : Int)) = (((x.toNat * 256 + y.toNat) % 65536 : Nat) : Int) := by
  have hx := x.toNat_lt
  have hy := y.toNat_lt
  have e1 : IntKind.u16.wrap (IntKind.u16.wrap (x.toNat : Int) * 256) = ((x.toNat * 256 : Nat) : Int) := by rw [IntKind.wrap_u16, IntKind.wrap_u16]; omega
  have e2 : IntKind.u16.wrap (y.toNat : Int) = ((y.toNat : Nat) : Int) := by rw [IntKind.wrap_u16]; omega
  rw [e1, e2, u16_or_nat _ _ (by omega) (by omega), nat_join 8 _ _ (by omega) (by omega)]
  omega
theorem word_add (x y : UInt8) : IntKind.u16.wrap (IntKind.u16.wrap (IntKind.u16.wrap (x.toNat : Int) * 256) + IntKind.u16.wrap (y.toNat : Int)) = (((x.toNat * 256 + y.toNat) % 65536 : Nat) : Int) := by
  have hx := x.toNat_lt
  have hy := y.toNat_lt
  rw [IntKind.wrap_u16, IntKind.wrap_u16, IntKind.wrap_u16, IntKind.wrap_u16]; omega
theorem bw_get' (l : List UInt8) (k : Nat) (h : 2 * k + 1 < l.length) : ((bw l).map cW)[k]? = some (.int .u16 (((l[2 * k].toNat * 256 + l[2 * k + 1].toNat) % 65536 : Nat) : Int)) := by
  rw [List.getElem?_map, bw_get l k h]; rfl
theorem bw_take (l : List UInt8) (k : Nat) (h : 2 * k + 1 < l.length) : ((bw l).take (k + 1)).map cW = ((bw l).take k).map cW ++ [.int .u16 (((l[2 * k].toNat * 256 + l[2 * k + 1].toNat) % 65536 : Nat) : Int)] := by
  have h1 := bw_get' l k h
  rw [List.getElem?_map] at h1
  have hk : k < (bw l).length := by rw [bw_length]; omega
  rw [map_take_succ cW _ _ hk]
  rw [List.getElem?_eq_getElem hk] at h1
  simp only [Option.map_some, Option.some.injEq] at h1
  rw [h1]
/-- A block filled with words, whole. -/
theorem Own.words {w : World} {base : Nat} {e : TypeId} {g : Nat} {cur : Array Value} {l : List UInt16} {n : Nat} (hb : base ≤ g) (hg : w.heap[g]? = some (.cells cur e (0, 0))) (hc : cur.toList = l.map cW) (hn : l.length = n) (hm : n ≤ maxLen) :
    Own w base e IsU16 (some ⟨g, 0, none⟩) n n (l.map cW) := by
  have hs : cur.size = n := by rw [← Array.length_toList, hc]; simpa using hn
  have h := Own.of_heap (p := IsU16) hb hg (off := 0) n n (Nat.le_refl _) (by omega) hm (by rw [hc]; exact isU16_map)
  rwa [List.drop_zero, hc, List.take_of_length_le (by simp; omega)] at h
/-- append onto a slice of the call's own, as one step of a region that draws. -/
theorem step_append_Own {P : Program} {ops : Array Oper} {o : Oper} {a : Act} {w : World} {K : Act → World → Prop} {Q : Exit → Act → World → Prop} {E : Prop} (hg : o.guard = none) (s x : Operand) (t : TypeId)
    (ho : o.op = .call { callee := .builtin .append, args := #[s, x], argTypes := #[t, t] })
    (p : Value → Prop) (base : Nat) (e : TypeId) (z : Value) (bytes : Nat) (ht : P.underlying t = some (.slice e))
    (hinfo : (P.info? e).map (fun i => (i.zero, i.size, i.bytes)) = some (some z, 1, bytes)) (hzc : z.cells = #[z]) (hpz : p z) (hp1 : ∀ u, p u → u.oneCell' = true)
    (A : Option Addr) (n c : Nat) (xs : List Value) (hs : a.eval s = .slice A n c) (hown : Own w base e p A n c xs)
    (A' : Option Addr) (m c' : Nat) (news : List Value) (hx : a.eval x = .slice A' m c') (hr : Rd w A' m news) (hnp : ∀ u ∈ news, p u) (hbytes : (n + m) * bytes ≤ 140737488355328) (h63 : n + m ≤ 9223372036854775807) (hbase : base ≤ w.heap.size)
    (h : ∀ A1 c1 w1, Own w1 base e p A1 (n + m) c1 (xs ++ news) → w.grownBy w1 (blk A) → (blk A1 = blk A ∨ blk A1 = some w.heap.size) → K (a.put o.dst (.slice A1 (n + m) c1)) w1) :
    if Region.wanted o (yielded ops a.tmps) = true then Oper.wp P o a w K Q else E := by
  have hw : Region.wanted o (yielded ops a.tmps) = true := by simp [Region.wanted, hg]
  rw [if_pos hw]
  exact wp_append_Own w s x t ho p base e z bytes ht hinfo hzc hpz hp1 A n c xs hs hown A' m c' news hx hr hnp hbytes h63 hbase h
end Go.Out
