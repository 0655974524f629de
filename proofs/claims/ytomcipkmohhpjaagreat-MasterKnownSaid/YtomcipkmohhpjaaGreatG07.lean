/- Contract of reply.Check, whatever the request and the answer. -/
import Derived.Test.YtomcipkmohhpjaaGreatG03
import Derived.Test.YtomcipkmohhpjaaGreatG06
import Derived.Test.YtomcipkmohhpjaaGreatG04
import Derived.Lib.SliceRun
import Derived.StillTailTactics
import Derived.Laws.BytesArg
import Derived.Lib.Bytes
namespace Go.Proofs.YtomcipkmohhpjaaGreat
set_option linter.unusedVariables false
set_option linter.unusedSimpArgs false
set_option maxRecDepth 100000
set_option maxHeartbeats 2000000
open Go Go.RowKit Go.Out

theorem ext_pair (w : World) (o1 o2 : Obj) : Ext w ((w.alloc o1).alloc o2) := (Ext.alloc _ _).trans (Ext.alloc _ _)
theorem cells4 {W : World} {g : Nat} {t : TypeId} {v0 v1 v2 v3 : Value} (h : W.heap[g]? = some (.cells #[v0, v1, v2, v3] t (0, 0))) :
    W.cell? ⟨g, 0, none⟩ = some v0 ∧ W.cell? ⟨g, 1, none⟩ = some v1 ∧ W.cell? ⟨g, 2, none⟩ = some v2 ∧ W.cell? ⟨g, 3, none⟩ = some v3 :=
  ⟨cell_of_row _ _ _ _ _ _ h, cell_of_row _ _ _ _ _ _ h, cell_of_row _ _ _ _ _ _ h, cell_of_row _ _ _ _ _ _ h⟩
theorem cells6 {W : World} {g : Nat} {t : TypeId} {v0 v1 v2 v3 v4 v5 : Value} (h : W.heap[g]? = some (.cells #[v0, v1, v2, v3, v4, v5] t (0, 0))) :
    W.cell? ⟨g, 0, none⟩ = some v0 ∧ W.cell? ⟨g, 1, none⟩ = some v1 ∧ W.cell? ⟨g, 2, none⟩ = some v2 ∧ W.cell? ⟨g, 3, none⟩ = some v3 ∧ W.cell? ⟨g, 4, none⟩ = some v4 ∧ W.cell? ⟨g, 5, none⟩ = some v5 :=
  ⟨cell_of_row _ _ _ _ _ _ h, cell_of_row _ _ _ _ _ _ h, cell_of_row _ _ _ _ _ _ h, cell_of_row _ _ _ _ _ _ h, cell_of_row _ _ _ _ _ _ h, cell_of_row _ _ _ _ _ _ h⟩
theorem counted_any (a : AskD) (r : RepD) (s : AskS) (t : RepS) (w : World) (ha : AskRd w a s) (hr : RepRd w r t) :
    Calls Tryz.prog 106 #[askV a s, repV r t] w (RetQ w (countedB a r)) := by
  by_cases h : a.code = 1 ∨ a.code = 2 ∨ a.code = 3 ∨ a.code = 4
  · exact counted_len a r s t w h hr
  · exact counted_rows a r s t w (by omega) (by omega) (by omega) (by omega) ha hr
theorem codeP_of {a : AskD} (h : checkF a = 0) : codeP a.code := by
  unfold checkF at h
  by_cases hp : codeP a.code
  · exact hp
  · rw [if_pos hp] at h; cases h

/-- Both boxes, in every later world. -/
theorem two_boxes (w : World) (va vb : Array Value) (ta tb : TypeId) (W : World) (hX : Ext ((w.alloc (.cells va ta)).alloc (.cells vb tb)) W) :
    W.heap[w.heap.size]? = some (.cells va ta (0, 0)) ∧ W.heap[w.heap.size + 1]? = some (.cells vb tb (0, 0)) :=
  ⟨((Ext.alloc _ _).trans hX).block (heap_alloc_new _ _), hX.block (heap_at _ _ _ (by simp))⟩

theorem replyCheck_any (a : AskD) (r : RepD) (s : AskS) (t : RepS) (w : World) (ha : AskRd w a s) (hr : RepRd w r t) :
    Calls Tryz.prog 72 #[askV a s, repV r t] w (RetI w (checkR a r)) := by
  have HC := Lib.hid (fun W (hX : Ext w W) => check_any a s W (ha.ext hX))
  have HN := Lib.hid (fun W (hX : Ext w W) => counted_any a r s t W (ha.ext hX) (hr.ext hX))
  have e1 := hr.n1; have e2 := hr.n2; have e3 := hr.n3
  obtain ⟨K, hK⟩ : ∃ K, checkF a = K := ⟨_, rfl⟩
  have hp := fun h => @codeP_of a h
  have f0 : K ≠ 0 → checkR a r = K := fun h => by unfold checkR; rw [if_pos (by rw [hK]; exact h), hK]
  have f1 : K = 0 → r.exc ≠ 0 → (r.exc < 1 ∨ 127 < r.exc) → checkR a r = 3 := fun h h1 h2 => by unfold checkR; rw [if_neg (by rw [hK]; simpa using h), if_pos h1, if_pos h2]
  have f2 : K = 0 → r.exc ≠ 0 → ¬ (r.exc < 1 ∨ 127 < r.exc) → (0 < t.n1 ∨ 0 < t.n2 ∨ 0 < t.n3) → checkR a r = 23 := fun h h1 h2 h3 => by unfold checkR; rw [if_neg (by rw [hK]; simpa using h), if_pos h1, if_neg h2, if_pos (by omega)]
  have f3 : K = 0 → r.exc ≠ 0 → ¬ (r.exc < 1 ∨ 127 < r.exc) → ¬ (0 < t.n1 ∨ 0 < t.n2 ∨ 0 < t.n3) → checkR a r = 0 := fun h h1 h2 h3 => by unfold checkR; rw [if_neg (by rw [hK]; simpa using h), if_pos h1, if_neg h2, if_neg (by omega)]
  have f4 : K = 0 → r.exc = 0 → foreignB a.code t.n1 t.n2 t.n3 = true → checkR a r = 23 := fun h h1 h2 => by unfold checkR; rw [if_neg (by rw [hK]; simpa using h), if_neg (by simpa using h1), e1, e2, e3, if_pos h2]
  have f5 : K = 0 → r.exc = 0 → foreignB a.code t.n1 t.n2 t.n3 = false → checkR a r = if countedB a r = false then 22 else 0 := fun h h1 h2 => by unfold checkR; rw [if_neg (by rw [hK]; simpa using h), if_neg (by simpa using h1), e1, e2, e3, if_neg (by simp [h2])]
  rw [hK] at HC hp
  generalize checkR a r = X at *
  generalize countedB a r = CB at *
  have HP := Lib.hid hp
  have F0 := Lib.hid f0; have F1 := Lib.hid f1; have F2 := Lib.hid f2; have F3 := Lib.hid f3; have F4 := Lib.hid f4; have F5 := Lib.hid f5
  clear f0 f1 f2 f3 f4 f5 hp ha hr e1 e2 e3 hK
  obtain ⟨code, addr, count, on, set, parts⟩ := a
  obtain ⟨exc, ron, rset, files⟩ := r
  obtain ⟨A1, n1, c1, A2, n2, c2, A3, n3, c3⟩ := s
  obtain ⟨B1, m1, k1, B2, m2, k2, B3, m3, k3⟩ := t
  simp only [askV, repV] at HC HN HP F1 F2 F3 F4 F5 ⊢
  have HB := Lib.hid (two_boxes w #[.int .i64 code, .int .i64 addr, .int .i64 count, .slice A1 n1 c1, .slice A2 n2 c2, .slice A3 n3 c3] #[.int .i64 exc, .slice B1 m1 k1, .slice B2 m2 k2, .slice B3 m3 k3] 37 40)
  by_cases hK : K = 0
  · subst hK
    have hp := HP.out rfl
    by_cases hE : exc = 0
    · subst hE
      cases hF : foreignB code m1 m2 m3 with
      | true =>
        have hX := F4.out rfl rfl hF
        subst hX
        go_enter Tryz.func72, Tryz.ntmps72
        go_wp2_with fail
        refine (HC.out _ (ext_pair _ _ _)).mono ?_
        rintro e w1 ⟨rfl, hx1⟩
        obtain ⟨hb1, hb2⟩ := HB.out _ hx1
        obtain ⟨d0, d1, d2, d3, d4, d5⟩ := cells6 hb1
        obtain ⟨g0, g1, g2, g3⟩ := cells4 hb2
        have X1 := Lib.hid ((ext_pair _ _ _).trans hx1)
        clear hx1 hb1 hb2
        go_wp2_with fail
        refine (foreign_any code 0 _ _ _ _ _ _ _ _ _ _ hp).mono ?_
        rw [hF]
        rintro e w2 ⟨rfl, hx2⟩
        go_wp2_with fail
        go_ret
        exact ⟨rfl, X1.out.trans hx2⟩
      | false =>
        have hX := F5.out rfl rfl hF
        have HX := Lib.hid hX
        clear hX
        go_enter Tryz.func72, Tryz.ntmps72
        go_wp2_with fail
        refine (HC.out _ (ext_pair _ _ _)).mono ?_
        rintro e w1 ⟨rfl, hx1⟩
        obtain ⟨hb1, hb2⟩ := HB.out _ hx1
        obtain ⟨d0, d1, d2, d3, d4, d5⟩ := cells6 hb1
        obtain ⟨g0, g1, g2, g3⟩ := cells4 hb2
        have X1 := Lib.hid hx1
        clear hx1 hb1 hb2
        go_wp2_with fail
        refine (foreign_any code 0 _ _ _ _ _ _ _ _ _ _ hp).mono ?_
        rw [hF]
        rintro e w2 ⟨rfl, hx2⟩
        obtain ⟨hb1, hb2⟩ := HB.out _ (X1.out.trans hx2)
        clear d0 d1 d2 d3 d4 d5 g0 g1 g2 g3
        obtain ⟨d0, d1, d2, d3, d4, d5⟩ := cells6 hb1
        obtain ⟨g0, g1, g2, g3⟩ := cells4 hb2
        have X2 := Lib.hid ((ext_pair _ _ _).trans (X1.out.trans hx2))
        clear hx2 hb1 hb2
        go_wp2_with fail
        refine (HN.out _ X2.out).mono ?_
        rintro e w3 ⟨rfl, hx3⟩
        cases CB with
        | true =>
          go_wp2_with fail
          go_ret
          exact RetI.of (by rw [HX.out]; rfl) (X2.out.trans hx3)
        | false =>
          go_wp2_with fail
          go_ret
          exact RetI.of (by rw [HX.out]; rfl) (X2.out.trans hx3)
    · have hne : (exc != 0) = true := by simpa using hE
      have F1' := Lib.hid (F1.out rfl hE); have F2' := Lib.hid (F2.out rfl hE); have F3' := Lib.hid (F3.out rfl hE)
      go_enter Tryz.func72, Tryz.ntmps72
      go_wp2_with fail
      refine (HC.out _ (ext_pair _ _ _)).mono ?_
      rintro e w1 ⟨rfl, hx1⟩
      obtain ⟨hb1, hb2⟩ := HB.out _ hx1
      obtain ⟨d0, d1, d2, d3, d4, d5⟩ := cells6 hb1
      obtain ⟨g0, g1, g2, g3⟩ := cells4 hb2
      have X1 := Lib.hid ((ext_pair _ _ _).trans hx1)
      clear hx1 hb1 hb2
      go_wp2_with fail
      all_goals
        go_ret
        first
          | exact RetI.of (F1'.out (by omega)) X1.out
          | exact RetI.of (F2'.out (by omega) (by omega)) X1.out
          | exact RetI.of (F3'.out (by omega) (by omega)) X1.out
  · have hne : (K != 0) = true := by simpa using hK
    have hX := F0.out hK
    subst hX
    go_enter Tryz.func72, Tryz.ntmps72
    go_wp2_with fail
    refine (HC.out _ (ext_pair _ _ _)).mono ?_
    rintro e w1 ⟨rfl, hx1⟩
    go_wp2_with fail
    go_ret
    exact ⟨rfl, (ext_pair _ _ _).trans hx1⟩
end Go.Proofs.YtomcipkmohhpjaaGreat

namespace Go.Proofs.YtomcipkmohhpjaaGreat
set_option linter.unusedVariables false
set_option linter.unusedSimpArgs false
set_option maxRecDepth 100000
set_option maxHeartbeats 2000000
open Go Go.RowKit Go.Out

theorem lit2 (w : World) (base : Nat) (h : base ≤ w.heap.size) (x y : UInt8) (u v : Int) (hu : u = (x.toNat : Int)) (hv : v = (y.toNat : Int)) :
    Own (w.alloc (.cells #[.int .u8 u, .int .u8 v] 5)) base 5 IsU8 (some ⟨w.heap.size, 0, none⟩) 2 2 ([x, y].map cB) := by
  subst hu hv
  exact Own.bytes (l := [x, y]) h (heap_alloc_new w _) rfl rfl (by unfold maxLen; omega)

theorem clone_any (xs : List Value) (A : Addr) (n c : Nat) (w : World) (hr : Rd w (some A) n xs) (hp : ∀ u ∈ xs, IsU8 u) (hn : n ≤ 1000000) :
    Calls Tryz.prog 75 #[.slice (some A) n c] w (RetOwn w 5 IsU8 n xs) := by
  have Hr := Lib.hid hr; have Hp := Lib.hid hp; clear hr hp
  have q22 : ∀ (w : World) (a : Option Addr) (n c n' c' : Nat), (binOp .eql 41 (.slice a n c) (.slice none n' c')).run Tryz.prog w = .ok (.bool a.isNone) w := fun w a n c n' c' => Lib.run_eql_slice_nil w _ _ a n c n' c' Tryz.underlying41
  have HO := Lib.hid (show Own (w.alloc (.cells #[] 5)) w.heap.size 5 IsU8 (some ⟨w.heap.size, 0, none⟩) 0 0 (([] : List UInt8).map cB) from Own.bytes (l := []) (Nat.le_refl _) (heap_alloc_new w _) rfl rfl (by unfold maxLen; omega))
  go_enter Tryz.func75, Tryz.ntmps75
  go_wp2_with (at_builtin; refine app_u8 _ rfl (.tmp 5) (.tmp 6) rfl rfl HO.out rfl (Hr.out.ext (Ext.alloc _ _)) Hp.out (by omega) (Ext.alloc _ _).size ?_; intro A2 c2 w2 hown hg hb)
  go_ret
  refine ⟨A2, c2, ?_, ?_, (Ext.alloc _ _).grown' hg (fun g hg => (HO.out.lt g hg).1)⟩
  · simp
  · simpa using hown

theorem checkOk {a : AskD} {r : RepD} {s : AskS} {t : RepS} {w : World} (ha : AskRd w a s) (hr : RepRd w r t) {K : Int} (h : checkR a r = K) :
    Hid (∀ W, Ext w W → Calls Tryz.prog 72 #[askV a s, repV r t] W (RetI W K)) := fun W hX => by
  have := replyCheck_any a r s t W (ha.ext hX) (hr.ext hX)
  rwa [h] at this

theorem replyPut_no (a : AskD) (r : RepD) (s : AskS) (t : RepS) (w : World) (ha : AskRd w a s) (hr : RepRd w r t) (h : checkR a r ≠ 0) :
    Calls Tryz.prog 34 #[askV a s, repV r t] w (RetU w [] (checkR a r)) := by
  have HC := checkOk ha hr rfl
  have ht : (checkR a r != 0) = true := by simpa using h
  generalize checkR a r = K at *
  clear ha hr h
  obtain ⟨code, addr, count, on, set, parts⟩ := a
  obtain ⟨exc, ron, rset, files⟩ := r
  obtain ⟨A1, n1, c1, A2, n2, c2, A3, n3, c3⟩ := s
  obtain ⟨B1, m1, k1, B2, m2, k2, B3, m3, k3⟩ := t
  simp only [askV, repV] at HC ⊢
  go_enter Tryz.func34, Tryz.ntmps34
  go_wp2_with fail
  refine (HC.out _ (ext_pair _ _ _)).mono ?_
  rintro e w1 ⟨rfl, hx1⟩
  go_wp2_with fail
  go_ret2
  exact ⟨none, 0, 0, rfl, Own.nil_ _ _ _ _, (ext_pair _ _ _).trans hx1⟩

theorem replyPut_ex (a : AskD) (e : Nat) (s : AskS) (t : RepS) (w : World) (ha : AskRd w a s) (hr : RepRd w ⟨(e : Nat), [], [], []⟩ t) (h : checkR a ⟨(e : Nat), [], [], []⟩ = 0) (h1 : 1 ≤ e) (h2 : e ≤ 127) (hc1 : 1 ≤ a.code) (hc2 : a.code ≤ 20) :
    Calls Tryz.prog 34 #[askV a s, repV ⟨(e : Nat), [], [], []⟩ t] w (RetU w [UInt8.ofNat (a.code + 128).toNat, UInt8.ofNat e] 0) := by
  have HC := checkOk ha hr h
  clear ha hr h
  obtain ⟨code, addr, count, on, set, parts⟩ := a
  obtain ⟨A1, n1, c1, A2, n2, c2, A3, n3, c3⟩ := s
  obtain ⟨B1, m1, k1, B2, m2, k2, B3, m3, k3⟩ := t
  simp only [askV, repV] at HC hc1 hc2 ⊢
  obtain ⟨c, rfl⟩ := Int.eq_ofNat_of_zero_le (show 0 ≤ code by omega)
  have hne : ((e : Int) != 0) = true := by simp; omega
  have w1 : IntKind.i64.wrap ((c : Int) + 128) = (c : Int) + 128 := IntWalk.i64_in _ (by omega)
  have w2 : IntKind.u8.wrap ((c : Int) + 128) = (c : Int) + 128 := by rw [IntKind.wrap_u8]; omega
  have w3 : IntKind.u8.wrap (e : Int) = (e : Int) := by rw [IntKind.wrap_u8]; omega
  have e1 : ((c : Int) + 128).toNat = c + 128 := by omega
  rw [e1]
  have e2 : (UInt8.ofNat (c + 128)).toNat = c + 128 := toNat_ofNat8 (by omega)
  have e3 : (UInt8.ofNat e).toNat = e := toNat_ofNat8 (by omega)
  have E2 := Lib.hid e2; have E3 := Lib.hid e3; clear e1 e2 e3
  have HB := Lib.hid (two_boxes w #[.int .i64 (c : Int), .int .i64 addr, .int .i64 count, .slice A1 n1 c1, .slice A2 n2 c2, .slice A3 n3 c3] #[.int .i64 (e : Int), .slice B1 m1 k1, .slice B2 m2 k2, .slice B3 m3 k3] 37 40)
  go_enter Tryz.func34, Tryz.ntmps34
  go_wp2_with fail
  refine (HC.out _ (ext_pair _ _ _)).mono ?_
  rintro e' w1' ⟨rfl, hx1⟩
  obtain ⟨hb1, hb2⟩ := HB.out _ hx1
  obtain ⟨d0, d1, d2, d3, d4, d5⟩ := cells6 hb1
  obtain ⟨g0, g1, g2, g3⟩ := cells4 hb2
  have X1 := Lib.hid ((ext_pair _ _ _).trans hx1)
  clear hx1 hb1 hb2
  go_wp2_with fail
  go_ret2
  exact ⟨_, _, _, rfl, lit2 w1' _ X1.out.size _ _ _ _ (by rw [E2.out]; omega) (by rw [E3.out]), X1.out.trans (Ext.alloc _ _)⟩

theorem replyPut_bits (a : AskD) (l : List Bool) (s : AskS) (t : RepS) (w : World) (ha : AskRd w a s) (hr : RepRd w ⟨0, l, [], []⟩ t) (h : checkR a ⟨0, l, [], []⟩ = 0) (hc : a.code = 1 ∨ a.code = 2) (hl : l.length ≤ 2000) :
    Calls Tryz.prog 34 #[askV a s, repV ⟨0, l, [], []⟩ t] w (RetU w (UInt8.ofNat a.code.toNat :: UInt8.ofNat (bitsF l).length :: bitsF l) 0) := by
  have HC := checkOk ha hr h
  have e2 := hr.n1
  have hr2 := hr.on
  simp only at e2 hr2
  have HCALL := Lib.hid (fun W (hX : Ext w W) => bits_any l t.A1 t.n1 t.c1 W (hr2.ext hX) (by omega))
  have Hlen : (bitsF l).length = need l.length := by rw [bitsF_length]
  clear ha hr h hr2
  obtain ⟨code, addr, count, on, set, parts⟩ := a
  obtain ⟨A1, n1, c1, A2, n2, c2, A3, n3, c3⟩ := s
  obtain ⟨B1, m1, k1, B2, m2, k2, B3, m3, k3⟩ := t
  simp only [askV, repV] at HC HCALL hc e2 ⊢
  subst e2
  obtain ⟨N, hN⟩ : ∃ N, need l.length = N := ⟨_, rfl⟩
  rw [hN] at HCALL Hlen
  rw [Hlen]
  have hNd : N ≤ 250 := by subst hN; exact need_le hl
  have hN8 : (UInt8.ofNat N).toNat = N := toNat_ofNat8 (by omega)
  have w8 : IntKind.u8.wrap (N : Int) = (N : Int) := by rw [IntKind.wrap_u8]; omega
  have H8 := Lib.hid hN8; have HLen := Lib.hid Hlen; clear hN hN8 Hlen
  have HB := Lib.hid (two_boxes w #[.int .i64 code, .int .i64 addr, .int .i64 count, .slice A1 n1 c1, .slice A2 n2 c2, .slice A3 n3 c3] #[.int .i64 0, .slice B1 l.length k1, .slice B2 m2 k2, .slice B3 m3 k3] 37 40)
  rcases hc with rfl | rfl
  · go_enter Tryz.func34, Tryz.ntmps34
    go_wp2_with fail
    refine (HC.out _ (ext_pair _ _ _)).mono ?_
    rintro e w1 ⟨rfl, hx1⟩
    obtain ⟨hb1, hb2⟩ := HB.out _ hx1
    obtain ⟨d0, d1, d2, d3, d4, d5⟩ := cells6 hb1
    obtain ⟨g0, g1, g2, g3⟩ := cells4 hb2
    have Y1 := Lib.hid hx1
    clear hx1 hb1 hb2
    go_wp2_with fail
    refine (HCALL.out _ ((ext_pair _ _ _).trans Y1.out)).mono ?_
    rintro e w2 ⟨A4, c4, rfl, ho4, hb4⟩
    clear d0 d1 d2 d3 d4 d5 g0 g1 g2 g3
    have Y2 := Lib.hid (Y1.out.trans hb4)
    obtain ⟨hb1, hb2⟩ := HB.out _ Y2.out
    obtain ⟨d0, d1, d2, d3, d4, d5⟩ := cells6 hb1
    have X2 := Lib.hid ((ext_pair _ _ _).trans Y2.out)
    have HO4 := Lib.hid ho4
    have HL := Lib.hid (lit2 w2 w.heap.size X2.out.size 1 (UInt8.ofNat N) 1 (N : Int) rfl (by rw [H8.out]))
    clear hb1 hb2 ho4 hb4
    go_wp2_with (at_builtin; refine app_u8 _ rfl (.tmp 79) (.tmp 80) rfl rfl HL.out rfl (HO4.out.rd.ext (Ext.alloc _ _)) isU8_map (by omega) (X2.out.trans (Ext.alloc _ _)).size ?_; intro A6 c6 w4 hown hg hbk)
    go_ret2
    refine ⟨_, _, _, rfl, ?_, (X2.out.trans (Ext.alloc _ _)).grown' hg (fun g hg => (HL.out.lt g hg).1)⟩
    rw [← List.map_append] at hown
    exact hown
  · go_enter Tryz.func34, Tryz.ntmps34
    go_wp2_with fail
    refine (HC.out _ (ext_pair _ _ _)).mono ?_
    rintro e w1 ⟨rfl, hx1⟩
    obtain ⟨hb1, hb2⟩ := HB.out _ hx1
    obtain ⟨d0, d1, d2, d3, d4, d5⟩ := cells6 hb1
    obtain ⟨g0, g1, g2, g3⟩ := cells4 hb2
    have Y1 := Lib.hid hx1
    clear hx1 hb1 hb2
    go_wp2_with fail
    refine (HCALL.out _ ((ext_pair _ _ _).trans Y1.out)).mono ?_
    rintro e w2 ⟨A4, c4, rfl, ho4, hb4⟩
    clear d0 d1 d2 d3 d4 d5 g0 g1 g2 g3
    have Y2 := Lib.hid (Y1.out.trans hb4)
    obtain ⟨hb1, hb2⟩ := HB.out _ Y2.out
    obtain ⟨d0, d1, d2, d3, d4, d5⟩ := cells6 hb1
    have X2 := Lib.hid ((ext_pair _ _ _).trans Y2.out)
    have HO4 := Lib.hid ho4
    have HL := Lib.hid (lit2 w2 w.heap.size X2.out.size 2 (UInt8.ofNat N) 2 (N : Int) rfl (by rw [H8.out]))
    clear hb1 hb2 ho4 hb4
    go_wp2_with (at_builtin; refine app_u8 _ rfl (.tmp 79) (.tmp 80) rfl rfl HL.out rfl (HO4.out.rd.ext (Ext.alloc _ _)) isU8_map (by omega) (X2.out.trans (Ext.alloc _ _)).size ?_; intro A6 c6 w4 hown hg hbk)
    go_ret2
    refine ⟨_, _, _, rfl, ?_, (X2.out.trans (Ext.alloc _ _)).grown' hg (fun g hg => (HL.out.lt g hg).1)⟩
    rw [← List.map_append] at hown
    exact hown

theorem replyPut_words (a : AskD) (l : List UInt16) (s : AskS) (t : RepS) (w : World) (ha : AskRd w a s) (hr : RepRd w ⟨0, [], l, []⟩ t) (h : checkR a ⟨0, [], l, []⟩ = 0) (hc : a.code = 3 ∨ a.code = 4) (hl : l.length ≤ 125) :
    Calls Tryz.prog 34 #[askV a s, repV ⟨0, [], l, []⟩ t] w (RetU w (UInt8.ofNat a.code.toNat :: UInt8.ofNat (wb l).length :: wb l) 0) := by
  have HC := checkOk ha hr h
  have e2 := hr.n2
  have hr2 := hr.set
  simp only at e2 hr2
  have HCALL := Lib.hid (fun W (hX : Ext w W) => bytes_any l t.A2 t.n2 t.c2 W (hr2.ext hX) (by omega))
  have Hlen : (wb l).length = 2 * l.length := by rw [wb_length]
  clear ha hr h hr2
  obtain ⟨code, addr, count, on, set, parts⟩ := a
  obtain ⟨A1, n1, c1, A2, n2, c2, A3, n3, c3⟩ := s
  obtain ⟨B1, m1, k1, B2, m2, k2, B3, m3, k3⟩ := t
  simp only [askV, repV] at HC HCALL hc e2 ⊢
  subst e2
  obtain ⟨N, hN⟩ : ∃ N, 2 * l.length = N := ⟨_, rfl⟩
  rw [hN] at HCALL Hlen
  rw [Hlen]
  have hNd : N ≤ 250 := by subst hN; omega
  have hN8 : (UInt8.ofNat N).toNat = N := toNat_ofNat8 (by omega)
  have w8 : IntKind.u8.wrap (N : Int) = (N : Int) := by rw [IntKind.wrap_u8]; omega
  have H8 := Lib.hid hN8; have HLen := Lib.hid Hlen; clear hN hN8 Hlen
  have HB := Lib.hid (two_boxes w #[.int .i64 code, .int .i64 addr, .int .i64 count, .slice A1 n1 c1, .slice A2 n2 c2, .slice A3 n3 c3] #[.int .i64 0, .slice B1 m1 k1, .slice B2 l.length k2, .slice B3 m3 k3] 37 40)
  rcases hc with rfl | rfl
  · go_enter Tryz.func34, Tryz.ntmps34
    go_wp2_with fail
    refine (HC.out _ (ext_pair _ _ _)).mono ?_
    rintro e w1 ⟨rfl, hx1⟩
    obtain ⟨hb1, hb2⟩ := HB.out _ hx1
    obtain ⟨d0, d1, d2, d3, d4, d5⟩ := cells6 hb1
    obtain ⟨g0, g1, g2, g3⟩ := cells4 hb2
    have Y1 := Lib.hid hx1
    clear hx1 hb1 hb2
    go_wp2_with fail
    refine (HCALL.out _ ((ext_pair _ _ _).trans Y1.out)).mono ?_
    rintro e w2 ⟨A4, c4, rfl, ho4, hb4⟩
    clear d0 d1 d2 d3 d4 d5 g0 g1 g2 g3
    have Y2 := Lib.hid (Y1.out.trans hb4)
    obtain ⟨hb1, hb2⟩ := HB.out _ Y2.out
    obtain ⟨d0, d1, d2, d3, d4, d5⟩ := cells6 hb1
    have X2 := Lib.hid ((ext_pair _ _ _).trans Y2.out)
    have HO4 := Lib.hid ho4
    have HL := Lib.hid (lit2 w2 w.heap.size X2.out.size 3 (UInt8.ofNat N) 3 (N : Int) rfl (by rw [H8.out]))
    clear hb1 hb2 ho4 hb4
    go_wp2_with (at_builtin; refine app_u8 _ rfl (.tmp 79) (.tmp 80) rfl rfl HL.out rfl (HO4.out.rd.ext (Ext.alloc _ _)) isU8_map (by omega) (X2.out.trans (Ext.alloc _ _)).size ?_; intro A6 c6 w4 hown hg hbk)
    go_ret2
    refine ⟨_, _, _, rfl, ?_, (X2.out.trans (Ext.alloc _ _)).grown' hg (fun g hg => (HL.out.lt g hg).1)⟩
    rw [← List.map_append] at hown
    exact hown
  · go_enter Tryz.func34, Tryz.ntmps34
    go_wp2_with fail
    refine (HC.out _ (ext_pair _ _ _)).mono ?_
    rintro e w1 ⟨rfl, hx1⟩
    obtain ⟨hb1, hb2⟩ := HB.out _ hx1
    obtain ⟨d0, d1, d2, d3, d4, d5⟩ := cells6 hb1
    obtain ⟨g0, g1, g2, g3⟩ := cells4 hb2
    have Y1 := Lib.hid hx1
    clear hx1 hb1 hb2
    go_wp2_with fail
    refine (HCALL.out _ ((ext_pair _ _ _).trans Y1.out)).mono ?_
    rintro e w2 ⟨A4, c4, rfl, ho4, hb4⟩
    clear d0 d1 d2 d3 d4 d5 g0 g1 g2 g3
    have Y2 := Lib.hid (Y1.out.trans hb4)
    obtain ⟨hb1, hb2⟩ := HB.out _ Y2.out
    obtain ⟨d0, d1, d2, d3, d4, d5⟩ := cells6 hb1
    have X2 := Lib.hid ((ext_pair _ _ _).trans Y2.out)
    have HO4 := Lib.hid ho4
    have HL := Lib.hid (lit2 w2 w.heap.size X2.out.size 4 (UInt8.ofNat N) 4 (N : Int) rfl (by rw [H8.out]))
    clear hb1 hb2 ho4 hb4
    go_wp2_with (at_builtin; refine app_u8 _ rfl (.tmp 79) (.tmp 80) rfl rfl HL.out rfl (HO4.out.rd.ext (Ext.alloc _ _)) isU8_map (by omega) (X2.out.trans (Ext.alloc _ _)).size ?_; intro A6 c6 w4 hown hg hbk)
    go_ret2
    refine ⟨_, _, _, rfl, ?_, (X2.out.trans (Ext.alloc _ _)).grown' hg (fun g hg => (HL.out.lt g hg).1)⟩
    rw [← List.map_append] at hown
    exact hown

theorem replyPut_write (a : AskD) (s : AskS) (t : RepS) (w : World) (ha : AskRd w a s) (hr : RepRd w rep0 t) (h : checkR a rep0 = 0) (hK : checkF a = 0) (hc : a.code = 5 ∨ a.code = 6 ∨ a.code = 15 ∨ a.code = 16) :
    Calls Tryz.prog 34 #[askV a s, repV rep0 t] w (RetU w ((putA a).1.take 5) 0) := by
  have HC := checkOk ha hr h
  have HP := Lib.hid (fun W (hX : Ext w W) => askPut_any a s W (ha.ext hX))
  have h5 := (getA_put hK).2.1
  have h2 : (putA a).2 = 0 := by rw [putA_ok hK]
  rw [h2] at HP
  have hb := (getA_put hK).2.2
  generalize (putA a).1 = xs at *
  clear ha hr h hK h2
  obtain ⟨code, addr, count, on, set, parts⟩ := a
  obtain ⟨A1, n1, c1, A2, n2, c2, A3, n3, c3⟩ := s
  obtain ⟨B1, m1, k1, B2, m2, k2, B3, m3, k3⟩ := t
  simp only [askV, repV, rep0] at HC HP hc ⊢
  have HB := Lib.hid (two_boxes w #[.int .i64 code, .int .i64 addr, .int .i64 count, .slice A1 n1 c1, .slice A2 n2 c2, .slice A3 n3 c3] #[.int .i64 0, .slice B1 m1 k1, .slice B2 m2 k2, .slice B3 m3 k3] 37 40)
  rcases hc with rfl | rfl | rfl | rfl
  all_goals
    go_enter Tryz.func34, Tryz.ntmps34
    go_wp2_with fail
    refine (HC.out _ (ext_pair _ _ _)).mono ?_
    rintro e w1 ⟨rfl, hx1⟩
    obtain ⟨hb1, hb2⟩ := HB.out _ hx1
    obtain ⟨d0, d1, d2, d3, d4, d5⟩ := cells6 hb1
    obtain ⟨g0, g1, g2, g3⟩ := cells4 hb2
    have X1 := Lib.hid ((ext_pair _ _ _).trans hx1)
    clear hx1 hb1 hb2
    go_wp2_with fail
    refine (HP.out _ X1.out).mono ?_
    rintro e w2 ⟨A4, n, c4, rfl, ho4, hx2⟩
    obtain rfl : xs.length = n := by have := ho4.len; simpa using this
    have hnc := ho4.cap
    obtain ⟨b5, o5, rfl, -⟩ := ho4.rd.2 (by omega)
    have HR5 := Lib.hid (ho4.rd.take (k := 5) (by omega))
    have X2 := Lib.hid (X1.out.trans hx2)
    clear ho4 hx2
    go_wp2_with fail
    refine (clone_any _ ⟨b5, o5, none⟩ 5 _ _ HR5.out (by intro u hu; exact isU8_map u (List.mem_of_mem_take hu)) (by omega)).mono ?_
    rintro e w3 ⟨A6, c6, rfl, ho6, hx6⟩
    go_wp2_with fail
    go_ret2
    refine ⟨_, _, _, rfl, ?_, X2.out.trans hx6⟩
    rw [List.map_take]
    exact ho6.mono X2.out.size
end Go.Proofs.YtomcipkmohhpjaaGreat

namespace Go.Out
open Go Go.RowKit
set_option linter.unusedVariables false
/-- Are there more words in rows of files than a statement goes through? (n: so many till now.) -/
def sumLong : Nat → List (List UInt16) → Bool
  | _, [] => false
  | n, f :: fs => if 70000 < n + min f.length 70000 then true else sumLong (n + min f.length 70000) fs
def longR (r : RepD) : Bool := if 70000 < r.on.length ∨ 70000 < r.set.length ∨ 1000 < r.files.length then true else sumLong 0 r.files
end Go.Out
namespace Go.Proofs.YtomcipkmohhpjaaGreat
set_option linter.unusedVariables false
set_option linter.unusedSimpArgs false
set_option maxRecDepth 100000
set_option maxHeartbeats 2000000
open Go Go.RowKit Go.Out

theorem file_cells {w : World} {A : Option Addr} {n k : Nat} {l : List (List UInt16)} (h : RdL fileK w A n l) (hk : k < n) :
    ∃ b off f A5 n5 c5, l[k]? = some f ∧ A = some ⟨b, off, none⟩ ∧ b < w.heap.size ∧ w.cell? ⟨b, off + k, none⟩ = some (.slice A5 n5 c5) ∧ Rd w A5 n5 (f.map cW) ∧ f.length = n5 ∧ n5 ≤ c5 ∧ n5 ≤ 70368744175616 := by
  obtain ⟨b, off, rfl, hbk, hl', cs, -, hc, A5, n5, c5, rfl, hr5, h5, h6⟩ := h.at_ hk
  exact ⟨b, off, l[k], A5, n5, c5, List.getElem?_eq_getElem hl', rfl, hbk, by have := hc 0 _ rfl; simpa [fileK] using this, hr5, by have := hr5.length; simpa using this, h5, h6.2⟩

theorem sameFiles_eq (l : List (List UInt16)) (A B : Option Addr) (n m ca cb : Nat) (w : World) (ha : RdL fileK w A n l) (hb : RdL fileK w B m l) (hn : n ≤ 9223372036854775807) :
    Calls Tryz.prog 78 #[.slice A n ca, .slice B m cb] w (RetQ w true) := by
  obtain rfl : n = m := ha.length.symm.trans hb.length
  have ht : ((n : Int) != (n : Int)) = false := by simp
  have Ha := Lib.hid ha; have Hb := Lib.hid hb; clear ha hb
  go_enter Tryz.func78, Tryz.ntmps78
  go_wp2_with fail
  go_loopw [5] (fun i wr => ∃ k : Nat, k ≤ n ∧ i = .int .i64 (k : Int) ∧ Ext w wr) (fun i _ => n - (intOf i).toNat)
  case atStart => exact ⟨0, Nat.zero_le _, rfl, Ext.refl _⟩
  case round =>
    obtain ⟨k, hk, rfl, hx⟩ := hrel
    by_cases hlt : k < n
    · obtain ⟨b1, o1, f, A1, n1, c1, hf, rfl, hb1, d0, hr1, hl1, hm1, hm1'⟩ := file_cells (Ha.out.ext hx) hlt
      obtain ⟨b2, o2, f2, A2, n2, c2, hf2, rfl, hb2, e0, hr2, hl2, hm2, hm2'⟩ := file_cells (Hb.out.ext hx) hlt
      obtain rfl : f = f2 := by rw [hf] at hf2; injection hf2
      have HR1 := Lib.hid hr1; have HR2 := Lib.hid hr2
      clear hf hf2 hr1 hr2 hl1 hl2
      go_wp2_with fail
      go_still_tail 8, (by kernel_rfl)
      change wpList _ _ _ _ _ wr.drew
      go_wp2_with fail
      refine (sameW_any f f _ _ _ _ _ _ _ (HR1.out.ext (Ext.draw _)) (HR2.out.ext (Ext.draw _)) (by unfold maxLen; omega)).mono ?_
      rintro e w1 ⟨rfl, hb1⟩
      rw [decide_eq_true rfl]
      have X1 : Ext wr w1 := (Ext.draw _).trans hb1
      go_wp2_with fail
      go_roundw
      case rel => exact ⟨k + 1, by omega, by go_num, hx.trans X1⟩
      case measure => simp [intOf]; omega
    · go_wp2_with fail
      go_ret
      exact ⟨rfl, hx⟩

theorem sameReply_eq (r : RepD) (s t : RepS) (w : World) (ha : RepRd w r s) (hb : RepRd w r t) (h1 : s.n1 ≤ 9223372036854775807) (h2 : s.n2 ≤ 9223372036854775807) (h3 : s.n3 ≤ 9223372036854775807) :
    Calls Tryz.prog 35 #[repV r s, repV r t] w (RetQ w true) := by
  have Ha := Lib.hid ha; have Hb := Lib.hid hb; clear ha hb
  obtain ⟨exc, on, set, files⟩ := r
  obtain ⟨A1, n1, c1, A2, n2, c2, A3, n3, c3⟩ := s
  obtain ⟨B1, m1, k1, B2, m2, k2, B3, m3, k3⟩ := t
  simp only at h1 h2 h3
  simp only [repV]
  have HB := Lib.hid (two_boxes w #[.int .i64 exc, .slice A1 n1 c1, .slice A2 n2 c2, .slice A3 n3 c3] #[.int .i64 exc, .slice B1 m1 k1, .slice B2 m2 k2, .slice B3 m3 k3] 40 40)
  go_enter Tryz.func35, Tryz.ntmps35
  go_wp2_with fail
  refine (sameL_any on on _ _ _ _ _ _ _ (Ha.out.on.ext (ext_pair _ _ _)) (Hb.out.on.ext (ext_pair _ _ _)) (by unfold maxLen; omega)).mono ?_
  rintro e w1 ⟨rfl, hx1⟩
  rw [decide_eq_true rfl]
  obtain ⟨hb1, hb2⟩ := HB.out _ (Ext.of hx1)
  obtain ⟨d0, d1, d2, d3⟩ := cells4 hb1
  obtain ⟨g0, g1, g2, g3⟩ := cells4 hb2
  have Y1 := Lib.hid (Ext.of hx1)
  have X1 := Lib.hid ((ext_pair _ _ _).trans (Ext.of hx1))
  clear hx1 hb1 hb2
  go_wp2_with fail
  refine (sameW_any set set _ _ _ _ _ _ _ (Ha.out.set.ext X1.out) (Hb.out.set.ext X1.out) (by unfold maxLen; omega)).mono ?_
  rintro e w2 ⟨rfl, hx2⟩
  rw [decide_eq_true rfl]
  clear d0 d1 d2 d3 g0 g1 g2 g3
  obtain ⟨hb1, hb2⟩ := HB.out _ (Y1.out.trans hx2)
  obtain ⟨d0, d1, d2, d3⟩ := cells4 hb1
  obtain ⟨g0, g1, g2, g3⟩ := cells4 hb2
  have X2 := Lib.hid (X1.out.trans hx2)
  clear hx2 hb1 hb2
  go_wp2_with fail
  refine (sameFiles_eq files _ _ _ _ _ _ _ (Ha.out.files.ext X2.out) (Hb.out.files.ext X2.out) h3).mono ?_
  rintro e w3 ⟨rfl, hx3⟩
  go_wp2_with fail
  go_ret
  exact ⟨rfl, X2.out.trans hx3⟩

theorem longReply_any (r : RepD) (t : RepS) (w : World) (hr : RepRd w r t) :
    Calls Tryz.prog 16 #[repV r t] w (RetQ w (longR r)) := by
  have e1 := hr.n1; have e2 := hr.n2; have e3 := hr.n3
  have HR := Lib.hid hr.files
  have hL : longR r = if 70000 < t.n1 ∨ 70000 < t.n2 ∨ 1000 < t.n3 then true else sumLong 0 r.files := by unfold longR; rw [e1, e2, e3]
  clear hr e1 e2
  obtain ⟨exc, on, set, files⟩ := r
  obtain ⟨B1, m1, k1, B2, m2, k2, B3, m3, k3⟩ := t
  simp only at e3 hL HR
  simp only [repV]
  have HB := Lib.hid (fun W hX => rep_cells W (w := w) (v0 := .int .i64 exc) (v1 := .slice B1 m1 k1) (v2 := .slice B2 m2 k2) (v3 := .slice B3 m3 k3) (t := 40) hX)
  rw [hL]
  clear hL
  by_cases hb : 70000 < m1 ∨ 70000 < m2 ∨ 1000 < m3
  · rw [if_pos hb]
    go_enter Tryz.func16, Tryz.ntmps16
    go_wp2_with fail
    all_goals first
      | (go_ret; exact ⟨rfl, Ext.alloc _ _⟩)
      | (exfalso; omega)
  · rw [if_neg hb]
    have b1 : m1 ≤ 70000 := by omega
    have b2 : m2 ≤ 70000 := by omega
    have b3 : m3 ≤ 1000 := by omega
    have E3 := Lib.hid e3
    clear hb e3
    go_enter Tryz.func16, Tryz.ntmps16
    go_wp2_with fail
    go_loopw [3, 4] (fun x j wr => ∃ (k q : Nat), k ≤ m3 ∧ q ≤ 70000 ∧ x = .int .i64 (q : Int) ∧ j = .int .i64 (k : Int) ∧ Hid (sumLong 0 files = sumLong q (files.drop k)) ∧ Ext (w.alloc (.cells #[.int .i64 exc, .slice B1 m1 k1, .slice B2 m2 k2, .slice B3 m3 k3] 40)) wr) (fun _ j _ => m3 - (intOf j).toNat)
    case atStart => exact ⟨0, 0, by omega, by omega, rfl, rfl, rfl, Ext.refl _⟩
    case round =>
      obtain ⟨k, q, hk, hq, rfl, rfl, HS, hx⟩ := hrel
      obtain ⟨-, -, -, g3⟩ := HB.out _ hx
      have HX := Lib.hid hx
      rcases Nat.lt_or_ge k m3 with hlt | hge
      · obtain ⟨b1, o1, f, A1, n1, c1, hf, rfl, hb1, d0, hr1, hl1, hm1, hm1'⟩ := file_cells (HR.out.ext ((Ext.alloc _ _).trans hx)) hlt
        obtain ⟨hkl, hfe⟩ := List.getElem?_eq_some_iff.1 hf
        have hst : sumLong q (files.drop k) = if 70000 < q + min n1 70000 then true else sumLong (q + min n1 70000) (files.drop (k + 1)) := by
          rw [List.drop_eq_getElem_cons hkl, hfe, ← hl1]; rfl
        have HST := Lib.hid hst
        clear hst hf hfe hkl hr1 hl1 hx hb1
        have hmn : min (n1 : Int) 70000 = ((min n1 70000 : Nat) : Int) := by omega
        by_cases hov : 70000 < q + min n1 70000
        · have hgt : ((q : Int) + ((min n1 70000 : Nat) : Int) > 70000) := by omega
          go_wp2_with fail
          all_goals first
            | (go_ret; exact ⟨ret_bool (by rw [HS.out, HST.out, if_pos hov]), (Ext.alloc _ _).trans HX.out⟩)
            | (exfalso; omega)
        · go_wp2_with fail
          all_goals first
            | (go_roundw
               case rel => exact ⟨k + 1, q + min n1 70000, by omega, by omega, by go_num, by go_num, Lib.hid (by rw [HS.out, HST.out, if_neg hov]), HX.out⟩
               case measure => simp [intOf]; omega)
            | (exfalso; omega)
      · obtain rfl : k = m3 := by omega
        have hS : sumLong 0 files = false := by rw [HS.out, List.drop_of_length_le (by have := E3.out; omega)]; rfl
        go_wp2_with fail
        go_ret
        exact ⟨ret_bool hS.symm, (Ext.alloc _ _).trans HX.out⟩
end Go.Proofs.YtomcipkmohhpjaaGreat

namespace Go.Proofs.YtomcipkmohhpjaaGreat
set_option linter.unusedVariables false
set_option linter.unusedSimpArgs false
set_option maxRecDepth 100000
set_option maxHeartbeats 2000000
open Go Go.RowKit Go.Out

theorem filesB_take {l : List (List UInt16)} {k : Nat} {f : List UInt16} (h : l[k]? = some f) : filesB (l.take (k + 1)) = filesB (l.take k) ++ fileB f := by
  obtain ⟨hk, rfl⟩ := List.getElem?_eq_some_iff.1 h
  unfold filesB
  rw [List.take_succ_eq_append_getElem hk, List.flatMap_append]
  simp
theorem filesB_take_le (l : List (List UInt16)) (k : Nat) : (filesB (l.take k)).length ≤ (filesB l).length := by
  have h := congrArg List.length (congrArg filesB (List.take_append_drop k l))
  unfold filesB at h ⊢
  rw [List.flatMap_append, List.length_append] at h
  omega
theorem replyPut_files (a : AskD) (l : List (List UInt16)) (s : AskS) (t : RepS) (w : World) (ha : AskRd w a s) (hr : RepRd w ⟨0, [], [], l⟩ t) (h : checkR a ⟨0, [], [], l⟩ = 0) (hc : a.code = 20) (hl : (filesB l).length ≤ 245) :
    Calls Tryz.prog 34 #[askV a s, repV ⟨0, [], [], l⟩ t] w (RetU w (20 :: UInt8.ofNat (filesB l).length :: filesB l) 0) := by
  have HC := checkOk ha hr h
  have e3 := hr.n3
  have HR := Lib.hid hr.files
  simp only at e3 HR
  clear ha hr h
  obtain ⟨code, addr, count, on, set, parts⟩ := a
  obtain ⟨A1, n1, c1, A2, n2, c2, A3, n3, c3⟩ := s
  obtain ⟨B1, m1, k1, B2, m2, k2, B3, m3, k3⟩ := t
  simp only [askV, repV] at HC HR hc e3 ⊢
  subst hc
  obtain ⟨N, hN⟩ : ∃ N, (filesB l).length = N := ⟨_, rfl⟩
  have HT := Lib.hid (fun k => filesB_take_le l k)
  rw [hN] at HT hl ⊢
  have hN8 : (UInt8.ofNat N).toNat = N := toNat_ofNat8 (by omega)
  have w8 : IntKind.u8.wrap (N : Int) = (N : Int) := by rw [IntKind.wrap_u8]; omega
  have H8 := Lib.hid hN8; have HN := Lib.hid hN; have HE := Lib.hid e3; clear hN hN8
  have hm3 : m3 ≤ 245 := by
    have h1 := HN.out
    have h2 : ∀ l : List (List UInt16), l.length ≤ (filesB l).length := fun l => by
      induction l with
      | nil => simp
      | cons f l ih => rw [filesB_cons, List.length_append, fileB_length, List.length_cons]; omega
    have := h2 l
    omega
  have HB := Lib.hid (two_boxes w #[.int .i64 20, .int .i64 addr, .int .i64 count, .slice A1 n1 c1, .slice A2 n2 c2, .slice A3 n3 c3] #[.int .i64 0, .slice B1 m1 k1, .slice B2 m2 k2, .slice B3 m3 k3] 37 40)
  clear e3
  go_enter Tryz.func34, Tryz.ntmps34
  go_wp2_with fail
  refine (HC.out _ (ext_pair _ _ _)).mono ?_
  rintro e w1 ⟨rfl, hx1⟩
  obtain ⟨hb1, hb2⟩ := HB.out _ hx1
  obtain ⟨d0, d1, d2, d3, d4, d5⟩ := cells6 hb1
  obtain ⟨g0, g1, g2, g3⟩ := cells4 hb2
  have Y1 := Lib.hid hx1
  have X1 := Lib.hid ((ext_pair _ _ _).trans hx1)
  clear hx1 hb1 hb2
  go_wp2_with fail
  clear d0 d1 d2 d3 d4 d5 g0 g1 g2 g3
  go_loopw [7, 9, 56] (fun b _ i wr => ∃ (k q : Nat) (A5 : Option Addr) (c5 : Nat), k ≤ m3 ∧ b = .slice A5 q c5 ∧ i = .int .i64 (k : Int) ∧ q ≤ N ∧ Hid (Own wr w1.heap.size 5 IsU8 A5 q c5 ((filesB (l.take k)).map cB)) ∧ Ext w1 wr) (fun _ _ i _ => m3 - (intOf i).toNat)
  case atStart => exact ⟨0, 0, none, 0, Nat.zero_le _, rfl, rfl, by omega, by simpa [Hid, filesB] using Own.nil_ _ _ _ _, Ext.refl _⟩
  case round =>
    obtain ⟨k, q, A5, c5, hk, rfl, rfl, hq, HO, hx⟩ := hrel
    rcases Nat.lt_or_ge k m3 with hlt | hge
    · obtain ⟨b1, o1, f, A6, n6, c6, hf, rfl, hb1, f0w, hr6, hn6, -, -⟩ := file_cells HR.out hlt
      have f0 := (X1.out.trans hx).cell hb1 f0w
      have hst := filesB_take hf
      have hq' : (filesB (l.take k)).length = q := by have := HO.out.len; simpa using this
      have hle := HT.out (k + 1)
      rw [hst, List.length_append, fileB_length, hq', hn6] at hle
      have Hst := Lib.hid hst
      have HX := Lib.hid hx
      obtain ⟨M, hM⟩ : ∃ M, 1 + 2 * n6 = M := ⟨_, rfl⟩
      have hM8 : (UInt8.ofNat M).toNat = M := toNat_ofNat8 (by omega)
      have v1 : IntKind.i64.wrap (2 * (n6 : Int)) = 2 * (n6 : Int) := IntWalk.i64_in _ (by omega)
      have v2 : IntKind.i64.wrap (1 + 2 * (n6 : Int)) = 1 + 2 * (n6 : Int) := IntWalk.i64_in _ (by omega)
      have v3 : IntKind.u8.wrap (1 + 2 * (n6 : Int)) = 1 + 2 * (n6 : Int) := by rw [IntKind.wrap_u8]; omega
      have Hfb := Lib.hid (show fileB f = [UInt8.ofNat M, 6] ++ wb f by unfold fileB; rw [hn6, hM]; rfl)
      have HL := Lib.hid (fun (W : World) => (lit2 W W.heap.size (Nat.le_refl _) (UInt8.ofNat M) 6 (1 + 2 * (n6 : Int)) 6 (by rw [hM8]; omega) rfl).rd)
      have HCALL := Lib.hid (fun W (hX : Ext w W) => bytes_any f A6 n6 c6 W (hr6.ext hX) (by omega))
      clear hf hst hr6 hx hM8 hM f0w hb1
      go_wp2_with (at_builtin; refine app_u8 _ rfl (.tmp 60) (.tmp 66) rfl rfl (HO.out.ext (Ext.alloc _ _)) rfl (HL.out _) isU8_map (by omega) (HX.out.trans (Ext.alloc _ _)).size ?_; intro A7 c7 w3 hown hg hbk; rw [← List.map_append] at hown; have HO3 := Lib.hid hown; have HX3 := Lib.hid ((HX.out.trans (Ext.alloc _ _)).grown' hg (fun g hg => (HO.out.lt g hg).1)); clear hown hg hbk)
      refine (HCALL.out _ (X1.out.trans HX3.out)).mono ?_
      rintro e w4 ⟨A8, c8, rfl, ho8, hb8⟩
      have HO4 := Lib.hid (HO3.out.ext hb8)
      have HX4 := Lib.hid (HX3.out.trans hb8)
      have HO8 := Lib.hid ho8
      clear ho8 hb8
      go_wp2_with (at_builtin; refine app_u8 _ rfl (.tmp 68) (.tmp 70) rfl rfl HO4.out rfl HO8.out.rd isU8_map (by omega) HX4.out.size ?_; intro A9 c9 w5 hown hg hbk; rw [← List.map_append] at hown; have HO5 := Lib.hid hown; have HX5 := Lib.hid (HX4.out.grown' hg (fun g hg => (HO4.out.lt g hg).1)); clear hown hg hbk)
      go_roundw
      case rel => exact ⟨k + 1, q + 2 + 2 * n6, A9, c9, by omega, rfl, by go_num, by omega, by rw [Hst.out, Hfb.out, ← List.append_assoc]; exact HO5, HX5.out⟩
      case measure => simp [intOf]; omega
    · obtain rfl : k = m3 := by omega
      have hall : l.take k = l := List.take_of_length_le (by have := HE.out; omega)
      rw [hall] at HO
      have hqN : q = N := by have h1 := HO.out.len; have := HN.out; simp at h1; omega
      subst hqN
      have HX := Lib.hid hx
      obtain ⟨hb1, hb2⟩ := HB.out _ (Y1.out.trans hx)
      obtain ⟨d0, d1, d2, d3, d4, d5⟩ := cells6 hb1
      have X2 := Lib.hid (X1.out.trans hx)
      have HL := Lib.hid (lit2 wr w.heap.size X2.out.size 20 (UInt8.ofNat q) 20 (q : Int) rfl (by rw [H8.out]))
      clear hb1 hb2 hx hall
      go_wp2_with (at_builtin; refine app_u8 _ rfl (.tmp 79) (.tmp 80) rfl rfl HL.out rfl (HO.out.rd.ext (Ext.alloc _ _)) isU8_map (by omega) (X2.out.trans (Ext.alloc _ _)).size ?_; intro A6 c6 w4 hown hg hbk)
      go_ret2
      refine ⟨_, _, _, rfl, ?_, (X2.out.trans (Ext.alloc _ _)).grown' hg (fun g hg => (HL.out.lt g hg).1)⟩
      rw [← List.map_append] at hown
      exact hown

theorem replyPut_any (a : AskD) (r : RepD) (s : AskS) (t : RepS) (w : World) (ha : AskRd w a s) (hr : RepRd w r t) :
    Calls Tryz.prog 34 #[askV a s, repV r t] w (RetU w (putR a r).1 (putR a r).2) := by
  by_cases h : checkR a r = 0
  · obtain ⟨hK, hrc⟩ := rep_cases h
    have hcl := code_lt hK
    unfold putR
    rw [if_neg (by simpa using h)]
    rcases hrc with ⟨e, h1, h2, rfl⟩ | ⟨hc, l, h1, h2, h3, rfl⟩ | ⟨hc, l, h1, h2, h3, rfl⟩ | ⟨hc, l, h1, h2, rfl⟩ | ⟨hc, rfl⟩
    · rw [if_pos (by simp; omega)]
      exact replyPut_ex a e s t w ha hr h h1 h2 hcl.1 hcl.2
    · rw [if_neg (by simp), if_pos (by unfold plainC; omega)]
      unfold bodyR
      rw [if_pos hc]
      exact replyPut_bits a l s t w ha hr h hc h3
    · rw [if_neg (by simp), if_pos (by unfold plainC; omega)]
      unfold bodyR
      rw [if_neg (by omega), if_pos hc]
      exact replyPut_words a l s t w ha hr h hc h3
    · rw [if_neg (by simp), if_pos (by unfold plainC; omega)]
      unfold bodyR
      rw [if_neg (by omega), if_neg (by omega)]
      have h3 := filesB_length h1
      have h4 := (partsF_zero h2).2
      have h5 := replyPut_files a l s t w ha hr h hc (by omega)
      rw [hc]
      exact h5
    · rw [if_neg (by simp [rep0]), if_neg (by unfold plainC; omega)]
      exact replyPut_write a s t w ha hr h hK hc
  · rw [putR_no h]
    exact replyPut_no a r s t w ha hr h
end Go.Proofs.YtomcipkmohhpjaaGreat

namespace Go.Out
open Go Go.RowKit
set_option linter.unusedVariables false
theorem strOf_list (xs : List UInt8) : (strOfNums (xs.map fun x => (x.toNat : Int))).toList = xs := by
  rw [Lib.strOfNums_toList]
  unfold Lib.bytesOf
  rw [List.map_map]
  have e : ((fun n : Int => UInt8.ofNat n.toNat) ∘ fun x : UInt8 => (x.toNat : Int)) = id := by funext x; simp
  rw [e, List.map_id]
theorem sumP_bound {l : List PartD} {k : Nat} (h : ∀ i (hi : i < l.length), ¬ badP l[i]) (hk : k ≤ l.length) : 0 ≤ sumP (l.take k) ∧ sumP (l.take k) ≤ 20002 * k := sumP_good (fun i hi _ => h i hi) hk
end Go.Out
namespace Go.Proofs.YtomcipkmohhpjaaGreat
set_option linter.unusedVariables false
set_option linter.unusedSimpArgs false
set_option maxRecDepth 100000
set_option maxHeartbeats 2000000
open Go Go.RowKit Go.Out

theorem length_any (a : AskD) (s : AskS) (w : World) (ha : AskRd w a s) (hK : checkF a = 0) :
    Calls Tryz.prog 103 #[askV a s] w (RetI w (lenR a : Nat)) := by
  have hb := checkF_parts a hK
  have hcases := codeP_cases hb.1
  have e3 := ha.n3
  have HA := Lib.hid ha.parts
  have hcnt : (a.code = 1 ∨ a.code = 2 ∨ a.code = 3 ∨ a.code = 4) → 1 ≤ a.count ∧ a.count ≤ 2000 := fun h => by
    have h1 : manyF a = a.count := by unfold manyF; rw [if_pos (by unfold isCnt; omega)]
    have h2 : mostF a.code ≤ 2000 := by unfold mostF; split <;> (try split) <;> omega
    omega
  have hgood := (partsF_zero hb.2.2.2.2.2.2.2).1
  have hgd : ∀ i (hi : i < a.parts.length), ¬ badP a.parts[i] := fun i hi hbd => by
    have := partsF_bad hi hbd
    have := hb.2.2.2.2.2.2.2
    omega
  have hln : a.code = 20 → a.parts.length ≤ 35 := fun h => by
    have h1 : manyF a = a.parts.length := by unfold manyF; rw [if_neg (by unfold isCnt; omega), if_neg (by unfold isOn; omega), if_neg (by unfold isSet; omega)]
    have h2 : mostF a.code = 35 := by unfold mostF; rw [h]; rfl
    omega
  clear ha hb hK hgood
  have hL : (lenR a : Int) = if a.code = 1 ∨ a.code = 2 then 2 + (a.count + 7) / 8 else if a.code = 3 ∨ a.code = 4 then 2 + 2 * a.count else if a.code = 20 then 2 + (sumP (a.parts.take a.parts.length)) else 5 := by
    rw [List.take_length]
    unfold lenR need
    split
    · have := hcnt (by omega); omega
    · split
      · have := hcnt (by omega); omega
      · split
        · have h2 := (sumP_bound hgd (Nat.le_refl _)).1
          rw [List.take_length] at h2
          omega
        · rfl
  rw [hL]
  obtain ⟨code, addr, count, on, set, parts⟩ := a
  obtain ⟨A1, n1, c1, A2, n2, c2, A3, n3, c3⟩ := s
  simp only at e3 hcnt hgd hcases HA hln ⊢
  simp only [askV]
  rw [e3]
  have Hgd := Lib.hid hgd; have E3 := Lib.hid e3
  clear hL hgd e3
  rcases hcases with rfl | rfl | rfl | rfl | rfl | rfl | rfl | rfl | rfl
  case inr.inr.inr.inr.inr.inr.inr.inr =>
    have hn := hln rfl
    rw [E3.out] at hn
    clear hln hcnt
    go_enter Tryz.func103, Tryz.ntmps103
    go_wp2_with fail
    go_loopw [3, 5, 28] (fun x _ j wr => ∃ (k : Nat) (y : Int), k ≤ n3 ∧ x = .int .i64 y ∧ y = 2 + sumP (parts.take k) ∧ j = .int .i64 (k : Int) ∧ Ext w wr) (fun _ _ j _ => n3 - (intOf j).toNat)
    case atStart => exact ⟨0, 2, by omega, rfl, by simp [sumP], rfl, Ext.alloc _ _⟩
    case round =>
      obtain ⟨k, y, hk, rfl, hy, rfl, hx⟩ := hrel
      rcases Nat.lt_or_ge k n3 with hlt | hge
      · obtain ⟨b1, o1, p, hp, rfl, hb1, e0, e1, e2, -⟩ := part_cells (HA.out.ext hx) hlt
        have hkl : k < parts.length := by rw [E3.out]; exact hlt
        have hst := sumP_take hkl
        have hpe : parts[k] = p := by rw [List.getElem?_eq_getElem hkl] at hp; injection hp
        rw [hpe] at hst
        have hbad := Hgd.out k hkl
        rw [hpe] at hbad
        have hbd := sumP_bound Hgd.out (k := k) (by omega)
        unfold badP at hbad
        generalize p.file = F at *
        generalize p.record = R at *
        generalize p.len = L at *
        have v1 : IntKind.i64.wrap (2 * L) = 2 * L := IntWalk.i64_in _ (by omega)
        have v2 : IntKind.i64.wrap (2 + 2 * L) = 2 + 2 * L := IntWalk.i64_in _ (by omega)
        have v3 : IntKind.i64.wrap (y + (2 + 2 * L)) = y + (2 + 2 * L) := IntWalk.i64_in _ (by omega)
        have HS := Lib.hid hst
        have HY := Lib.hid hy
        have HX := Lib.hid hx
        clear hst hpe hbad hbd hp hy hx
        go_wp2_with fail
        go_roundw
        case rel => exact ⟨k + 1, y + (2 + 2 * L), by omega, rfl, by rw [HS.out, HY.out]; omega, by go_num, by repeat' (first | with_reducible exact HX.out | with_reducible refine Ext.drewN' ?_ _ | with_reducible refine Ext.drew' ?_ | with_reducible refine Ext.alloc' ?_ _)⟩
        case measure => simp [intOf]; omega
      · obtain rfl : k = n3 := by omega
        subst hy
        go_wp2_with fail
        go_ret
        exact ⟨rfl, hx⟩
  all_goals
    first
      | (have hct := hcnt (by omega)
         have v1 : IntKind.i64.wrap (2 * count) = 2 * count := IntWalk.i64_in _ (by omega)
         have v2 : IntKind.i64.wrap (2 + 2 * count) = 2 + 2 * count := IntWalk.i64_in _ (by omega)
         have v3 : IntKind.i64.wrap (count + 7) = count + 7 := IntWalk.i64_in _ (by omega)
         have v4 : Int.tdiv (count + 7) 8 = (count + 7) / 8 := Int.tdiv_eq_ediv_of_nonneg (by omega)
         have v5 : IntKind.i64.wrap (2 + (count + 7) / 8) = 2 + (count + 7) / 8 := IntWalk.i64_in _ (by omega)
         have v6 : IntKind.i64.wrap ((count + 7) / 8) = (count + 7) / 8 := IntWalk.i64_in _ (by omega))
      | skip
    clear hln hcnt
    go_enter Tryz.func103, Tryz.ntmps103
    go_wp2_with fail
    go_ret
    refine RetI.of ?_ (Ext.alloc _ _)
    simp

theorem equal_any (a b : List UInt8) (A B : Option Addr) (n m ca cb : Nat) (w : World) (ha : Rd w A n (a.map cB)) (hb : Rd w B m (b.map cB)) (hn : 0 < n) (hm : 0 < m) :
    Calls Tryz.prog 118 #[.slice A n ca, .slice B m cb] w fun e w' => e = .returned (.bool (decide (a = b))) ∧ w = w' := by
  obtain ⟨b1, o1, rfl, hb1, hc1⟩ := ha.2 hn
  obtain ⟨b2, o2, rfl, hb2, hc2⟩ := hb.2 hm
  have hcv : ∀ (l : List UInt8) (b o k c : Nat) (hk : l.length = k) (hc : ∀ j u, (l.map cB)[j]? = some u → w.cell? ⟨b, o + j, none⟩ = some u), (convert 41 9 (.slice (some ⟨b, o, none⟩) k c)).run Tryz.prog w = .ok (.string (strOfNums (l.map fun x => (x.toNat : Int)))) w := fun l b o k c hk hc =>
    run_convert_bytes_arg w 41 5 Tryz.underlying41 Tryz.underlying5 b o k c _ (by simpa using hk) (fun i hi => by
      refine hc i _ ?_
      have hil : i < l.length := by omega
      simp [List.getElem?_eq_getElem hil, List.getD, cB]) _ Tryz.underlying9
  have h1 := hcv a b1 o1 n ca ha.length hc1
  have h2 := hcv b b2 o2 m cb hb.length hc2
  have he : ((strOfNums (a.map fun x => (x.toNat : Int))).toList == (strOfNums (b.map fun x => (x.toNat : Int))).toList) = decide (a = b) := by
    rw [strOf_list, strOf_list]
    by_cases h : a = b
    · subst h; simp
    · rw [decide_eq_false h, beq_eq_false_iff_ne]; exact h
  generalize strOfNums (a.map fun x => (x.toNat : Int)) = S1 at *
  generalize strOfNums (b.map fun x => (x.toNat : Int)) = S2 at *
  clear ha hb hcv hc1 hc2
  go_enter Tryz.func118, Tryz.ntmps118
  go_wp2_with fail
  go_ret
  exact ⟨by rw [← he]; rfl, rfl⟩

/-- The closure that takes the next n bytes. -/
theorem take_any (xs : List Value) (n at_ gA gB N c : Nat) (A : Option Addr) (w : World) (hr : Rd w A N xs) (hc : N ≤ c ∧ c ≤ 9223372036854775807) (hA : w.heap[gA]? = some (.cells #[.int .i64 (at_ : Int)] 3 (0, 0))) (hB : w.heap[gB]? = some (.cells #[.slice A N c] 41 (0, 0))) (hn : at_ + n ≤ N) (hN : N ≤ 1000000) :
    Calls Tryz.prog 117 #[.int .i64 (n : Int), .pointer (some ⟨gA, 0, none⟩), .pointer (some ⟨gB, 0, none⟩)] w fun e w' => ∃ A', e = .returned (.slice A' n (c - at_)) ∧ (∀ X, Rd X A N xs → Rd X A' n ((xs.drop at_).take n)) ∧ w' = w.setCell ⟨gA, 0, none⟩ (.int .i64 ((at_ + n : Nat) : Int)) := by
  have c1 : w.cell? ⟨gA, 0, none⟩ = some (.int .i64 (at_ : Int)) := cell_of_row _ _ _ _ _ _ hA
  have c2 : w.cell? ⟨gB, 0, none⟩ = some (.slice A N c) := cell_of_row _ _ _ _ _ _ hB
  have f1 := frozen_of_row _ _ 0 _ _ hA
  have hne : gB ≠ gA := fun e => by rw [e, hA] at hB; simp at hB
  have v1 : IntKind.i64.wrap ((at_ : Int) + n) = (at_ : Int) + n := IntWalk.i64_in _ (by omega)
  have v2 : IntKind.i64.wrap ((at_ : Int) + n - n) = (at_ : Int) := by rw [IntWalk.i64_in _ (by omega)]; omega
  have HR := Lib.hid hr
  clear hr hA hB
  go_enter Tryz.func117, Tryz.ntmps117
  go_wp2_with fail
  all_goals
    go_ret
    refine ⟨_, rfl, ?_, by first | rfl | rw [Int.natCast_add]⟩
    first
      | exact fun X h => h.cut hn
      | (obtain rfl : n = 0 := by omega
         exact fun X h => by simpa using Rd.empty_ X A)
end Go.Proofs.YtomcipkmohhpjaaGreat
