/- Contracts of bytes.Clone and of reply.Put: what is refused, exceptions, bits, words, writes. -/
import Derived.Test.YtbaiifhncpfdpaaRep2
import Derived.Test.YtbaiifhncpfdpaaRepLaw
import Derived.Test.YtbaiifhncpfdpaaAskP6
import Derived.Test.YtbaiifhncpfdpaaPackL2
import Derived.Lib.SliceRun
namespace Go.Proofs.Ytbaiifhncpfdpaa
set_option linter.unusedVariables false
set_option linter.unusedSimpArgs false
set_option maxRecDepth 100000
set_option maxHeartbeats 2000000
open Go Go.RowKit Go.Out

theorem lit2 (w : World) (base : Nat) (h : base ≤ w.heap.size) (x y : UInt8) (u v : Int) (hu : u = (x.toNat : Int)) (hv : v = (y.toNat : Int)) :
    Own (w.alloc (.cells #[.int .u8 u, .int .u8 v] 5)) base 5 IsU8 (some ⟨w.heap.size, 0, none⟩) 2 2 ([x, y].map cB) := by
  subst hu hv
  exact Own.bytes (l := [x, y]) h (heap_alloc_new w _) rfl rfl (by unfold maxLen; omega)

theorem clone_any (xs : List Value) (A : Addr) (n c : Nat) (w : World) (hr : Rd w (some A) n xs) (hp : ∀ u ∈ xs, IsU8 u) (hn : n ≤ 1000000) :
    Calls Try.prog 35 #[.slice (some A) n c] w (RetOwn w 5 IsU8 n xs) := by
  have Hr := Lib.hid hr; have Hp := Lib.hid hp; clear hr hp
  have q22 : ∀ (w : World) (a : Option Addr) (n c n' c' : Nat), (binOp .eql 34 (.slice a n c) (.slice none n' c')).run Try.prog w = .ok (.bool a.isNone) w := fun w a n c n' c' => Lib.run_eql_slice_nil w _ _ a n c n' c' Try.underlying34
  have HO := Lib.hid (show Own (w.alloc (.cells #[] 5)) w.heap.size 5 IsU8 (some ⟨w.heap.size, 0, none⟩) 0 0 (([] : List UInt8).map cB) from Own.bytes (l := []) (Nat.le_refl _) (heap_alloc_new w _) rfl rfl (by unfold maxLen; omega))
  go_enter Try.func35, Try.ntmps35
  go_wp2_with (at_builtin; refine app_u8 _ rfl (.tmp 5) (.tmp 6) rfl rfl HO.out rfl (Hr.out.ext (Ext.alloc _ _)) Hp.out (by omega) (Ext.alloc _ _).size ?_; intro A2 c2 w2 hown hg hb)
  go_ret
  refine ⟨A2, c2, ?_, ?_, (Ext.alloc _ _).grown' hg (fun g hg => (HO.out.lt g hg).1)⟩
  · simp
  · simpa using hown

theorem checkOk {a : AskD} {r : RepD} {s : AskS} {t : RepS} {w : World} (ha : AskRd w a s) (hr : RepRd w r t) {K : Int} (h : checkR a r = K) :
    Hid (∀ W, Ext w W → Calls Try.prog 32 #[askV a s, repV r t] W (RetI W K)) := fun W hX => by
  have := replyCheck_any a r s t W (ha.ext hX) (hr.ext hX)
  rwa [h] at this

theorem replyPut_no (a : AskD) (r : RepD) (s : AskS) (t : RepS) (w : World) (ha : AskRd w a s) (hr : RepRd w r t) (h : checkR a r ≠ 0) :
    Calls Try.prog 17 #[askV a s, repV r t] w (RetU w [] (checkR a r)) := by
  have HC := checkOk ha hr rfl
  have ht : (checkR a r != 0) = true := by simpa using h
  generalize checkR a r = K at *
  clear ha hr h
  obtain ⟨code, addr, count, on, set, parts⟩ := a
  obtain ⟨exc, ron, rset, files⟩ := r
  obtain ⟨A1, n1, c1, A2, n2, c2, A3, n3, c3⟩ := s
  obtain ⟨B1, m1, k1, B2, m2, k2, B3, m3, k3⟩ := t
  simp only [askV, repV] at HC ⊢
  go_enter Try.func17, Try.ntmps17
  go_wp2_with fail
  refine (HC.out _ (ext_pair _ _ _)).mono ?_
  rintro e w1 ⟨rfl, hx1⟩
  go_wp2_with fail
  go_ret2
  exact ⟨none, 0, 0, rfl, Own.nil_ _ _ _ _, (ext_pair _ _ _).trans hx1⟩

theorem replyPut_ex (a : AskD) (e : Nat) (s : AskS) (t : RepS) (w : World) (ha : AskRd w a s) (hr : RepRd w ⟨(e : Nat), [], [], []⟩ t) (h : checkR a ⟨(e : Nat), [], [], []⟩ = 0) (h1 : 1 ≤ e) (h2 : e ≤ 127) (hc1 : 1 ≤ a.code) (hc2 : a.code ≤ 20) :
    Calls Try.prog 17 #[askV a s, repV ⟨(e : Nat), [], [], []⟩ t] w (RetU w [UInt8.ofNat (a.code + 128).toNat, UInt8.ofNat e] 0) := by
  have HC := checkOk ha hr h
  clear ha hr h
  obtain ⟨code, addr, count, on, set, parts⟩ := a
  obtain ⟨A1, n1, c1, A2, n2, c2, A3, n3, c3⟩ := s
  obtain ⟨B1, m1, k1, B2, m2, k2, B3, m3, k3⟩ := t
  simp only [askV, repV] at HC hc1 hc2 ⊢
  obtain ⟨c, rfl⟩ := Int.eq_ofNat_of_zero_le (show 0 ≤ code by omega)
  have hne : ((e : Int) != 0) = true := by simp; omega
  have w1 : IntKind.i64.wrap ((c : Int) + 128) = (c : Int) + 128 := IntWalk.i64_in _ (by omega)
  have w2 : IntKind.u8.wrap ((c : Int) + 128) = (c : Int) + 128 := by rw [IntKind.wrap_u8]; omega
  have w3 : IntKind.u8.wrap (e : Int) = (e : Int) := by rw [IntKind.wrap_u8]; omega
  have e1 : ((c : Int) + 128).toNat = c + 128 := by omega
  rw [e1]
  have e2 : (UInt8.ofNat (c + 128)).toNat = c + 128 := toNat_ofNat8 (by omega)
  have e3 : (UInt8.ofNat e).toNat = e := toNat_ofNat8 (by omega)
  have E2 := Lib.hid e2; have E3 := Lib.hid e3; clear e1 e2 e3
  have HB := Lib.hid (two_boxes w #[.int .i64 (c : Int), .int .i64 addr, .int .i64 count, .slice A1 n1 c1, .slice A2 n2 c2, .slice A3 n3 c3] #[.int .i64 (e : Int), .slice B1 m1 k1, .slice B2 m2 k2, .slice B3 m3 k3] 26 41)
  go_enter Try.func17, Try.ntmps17
  go_wp2_with fail
  refine (HC.out _ (ext_pair _ _ _)).mono ?_
  rintro e' w1' ⟨rfl, hx1⟩
  obtain ⟨hb1, hb2⟩ := HB.out _ hx1
  obtain ⟨d0, d1, d2, d3, d4, d5⟩ := cells6 hb1
  obtain ⟨g0, g1, g2, g3⟩ := cells4 hb2
  have X1 := Lib.hid ((ext_pair _ _ _).trans hx1)
  clear hx1 hb1 hb2
  go_wp2_with fail
  go_ret2
  exact ⟨_, _, _, rfl, lit2 w1' _ X1.out.size _ _ _ _ (by rw [E2.out]; omega) (by rw [E3.out]), X1.out.trans (Ext.alloc _ _)⟩

theorem replyPut_bits (a : AskD) (l : List Bool) (s : AskS) (t : RepS) (w : World) (ha : AskRd w a s) (hr : RepRd w ⟨0, l, [], []⟩ t) (h : checkR a ⟨0, l, [], []⟩ = 0) (hc : a.code = 1 ∨ a.code = 2) (hl : l.length ≤ 2000) :
    Calls Try.prog 17 #[askV a s, repV ⟨0, l, [], []⟩ t] w (RetU w (UInt8.ofNat a.code.toNat :: UInt8.ofNat (bitsF l).length :: bitsF l) 0) := by
  have HC := checkOk ha hr h
  have e2 := hr.n1
  have hr2 := hr.on
  simp only at e2 hr2
  have HCALL := Lib.hid (fun W (hX : Ext w W) => bits_any l t.A1 t.n1 t.c1 W (hr2.ext hX) (by omega))
  have Hlen : (bitsF l).length = need l.length := by rw [bitsF_length]
  clear ha hr h hr2
  obtain ⟨code, addr, count, on, set, parts⟩ := a
  obtain ⟨A1, n1, c1, A2, n2, c2, A3, n3, c3⟩ := s
  obtain ⟨B1, m1, k1, B2, m2, k2, B3, m3, k3⟩ := t
  simp only [askV, repV] at HC HCALL hc e2 ⊢
  subst e2
  obtain ⟨N, hN⟩ : ∃ N, need l.length = N := ⟨_, rfl⟩
  rw [hN] at HCALL Hlen
  rw [Hlen]
  have hNd : N ≤ 250 := by subst hN; exact need_le hl
  have hN8 : (UInt8.ofNat N).toNat = N := toNat_ofNat8 (by omega)
  have w8 : IntKind.u8.wrap (N : Int) = (N : Int) := by rw [IntKind.wrap_u8]; omega
  have H8 := Lib.hid hN8; have HLen := Lib.hid Hlen; clear hN hN8 Hlen
  have HB := Lib.hid (two_boxes w #[.int .i64 code, .int .i64 addr, .int .i64 count, .slice A1 n1 c1, .slice A2 n2 c2, .slice A3 n3 c3] #[.int .i64 0, .slice B1 l.length k1, .slice B2 m2 k2, .slice B3 m3 k3] 26 41)
  rcases hc with rfl | rfl
  · go_enter Try.func17, Try.ntmps17
    go_wp2_with fail
    refine (HC.out _ (ext_pair _ _ _)).mono ?_
    rintro e w1 ⟨rfl, hx1⟩
    obtain ⟨hb1, hb2⟩ := HB.out _ hx1
    obtain ⟨d0, d1, d2, d3, d4, d5⟩ := cells6 hb1
    obtain ⟨g0, g1, g2, g3⟩ := cells4 hb2
    have Y1 := Lib.hid hx1
    clear hx1 hb1 hb2
    go_wp2_with fail
    refine (HCALL.out _ ((ext_pair _ _ _).trans Y1.out)).mono ?_
    rintro e w2 ⟨A4, c4, rfl, ho4, hb4⟩
    clear d0 d1 d2 d3 d4 d5 g0 g1 g2 g3
    have Y2 := Lib.hid (Y1.out.trans hb4)
    obtain ⟨hb1, hb2⟩ := HB.out _ Y2.out
    obtain ⟨d0, d1, d2, d3, d4, d5⟩ := cells6 hb1
    have X2 := Lib.hid ((ext_pair _ _ _).trans Y2.out)
    have HO4 := Lib.hid ho4
    have HL := Lib.hid (lit2 w2 w.heap.size X2.out.size 1 (UInt8.ofNat N) 1 (N : Int) rfl (by rw [H8.out]))
    clear hb1 hb2 ho4 hb4
    go_wp2_with (at_builtin; refine app_u8 _ rfl (.tmp 79) (.tmp 80) rfl rfl HL.out rfl (HO4.out.rd.ext (Ext.alloc _ _)) isU8_map (by omega) (X2.out.trans (Ext.alloc _ _)).size ?_; intro A6 c6 w4 hown hg hbk)
    go_ret2
    refine ⟨_, _, _, rfl, ?_, (X2.out.trans (Ext.alloc _ _)).grown' hg (fun g hg => (HL.out.lt g hg).1)⟩
    rw [← List.map_append] at hown
    exact hown
  · go_enter Try.func17, Try.ntmps17
    go_wp2_with fail
    refine (HC.out _ (ext_pair _ _ _)).mono ?_
    rintro e w1 ⟨rfl, hx1⟩
    obtain ⟨hb1, hb2⟩ := HB.out _ hx1
    obtain ⟨d0, d1, d2, d3, d4, d5⟩ := cells6 hb1
    obtain ⟨g0, g1, g2, g3⟩ := cells4 hb2
    have Y1 := Lib.hid hx1
    clear hx1 hb1 hb2
    go_wp2_with fail
    refine (HCALL.out _ ((ext_pair _ _ _).trans Y1.out)).mono ?_
    rintro e w2 ⟨A4, c4, rfl, ho4, hb4⟩
    clear d0 d1 d2 d3 d4 d5 g0 g1 g2 g3
    have Y2 := Lib.hid (Y1.out.trans hb4)
    obtain ⟨hb1, hb2⟩ := HB.out _ Y2.out
    obtain ⟨d0, d1, d2, d3, d4, d5⟩ := cells6 hb1
    have X2 := Lib.hid ((ext_pair _ _ _).trans Y2.out)
    have HO4 := Lib.hid ho4
    have HL := Lib.hid (lit2 w2 w.heap.size X2.out.size 2 (UInt8.ofNat N) 2 (N : Int) rfl (by rw [H8.out]))
    clear hb1 hb2 ho4 hb4
    go_wp2_with (at_builtin; refine app_u8 _ rfl (.tmp 79) (.tmp 80) rfl rfl HL.out rfl (HO4.out.rd.ext (Ext.alloc _ _)) isU8_map (by omega) (X2.out.trans (Ext.alloc _ _)).size ?_; intro A6 c6 w4 hown hg hbk)
    go_ret2
    refine ⟨_, _, _, rfl, ?_, (X2.out.trans (Ext.alloc _ _)).grown' hg (fun g hg => (HL.out.lt g hg).1)⟩
    rw [← List.map_append] at hown
    exact hown

theorem replyPut_words (a : AskD) (l : List UInt16) (s : AskS) (t : RepS) (w : World) (ha : AskRd w a s) (hr : RepRd w ⟨0, [], l, []⟩ t) (h : checkR a ⟨0, [], l, []⟩ = 0) (hc : a.code = 3 ∨ a.code = 4) (hl : l.length ≤ 125) :
    Calls Try.prog 17 #[askV a s, repV ⟨0, [], l, []⟩ t] w (RetU w (UInt8.ofNat a.code.toNat :: UInt8.ofNat (wb l).length :: wb l) 0) := by
  have HC := checkOk ha hr h
  have e2 := hr.n2
  have hr2 := hr.set
  simp only at e2 hr2
  have HCALL := Lib.hid (fun W (hX : Ext w W) => bytes_any l t.A2 t.n2 t.c2 W (hr2.ext hX) (by omega))
  have Hlen : (wb l).length = 2 * l.length := by rw [wb_length]
  clear ha hr h hr2
  obtain ⟨code, addr, count, on, set, parts⟩ := a
  obtain ⟨A1, n1, c1, A2, n2, c2, A3, n3, c3⟩ := s
  obtain ⟨B1, m1, k1, B2, m2, k2, B3, m3, k3⟩ := t
  simp only [askV, repV] at HC HCALL hc e2 ⊢
  subst e2
  obtain ⟨N, hN⟩ : ∃ N, 2 * l.length = N := ⟨_, rfl⟩
  rw [hN] at HCALL Hlen
  rw [Hlen]
  have hNd : N ≤ 250 := by subst hN; omega
  have hN8 : (UInt8.ofNat N).toNat = N := toNat_ofNat8 (by omega)
  have w8 : IntKind.u8.wrap (N : Int) = (N : Int) := by rw [IntKind.wrap_u8]; omega
  have H8 := Lib.hid hN8; have HLen := Lib.hid Hlen; clear hN hN8 Hlen
  have HB := Lib.hid (two_boxes w #[.int .i64 code, .int .i64 addr, .int .i64 count, .slice A1 n1 c1, .slice A2 n2 c2, .slice A3 n3 c3] #[.int .i64 0, .slice B1 m1 k1, .slice B2 l.length k2, .slice B3 m3 k3] 26 41)
  rcases hc with rfl | rfl
  · go_enter Try.func17, Try.ntmps17
    go_wp2_with fail
    refine (HC.out _ (ext_pair _ _ _)).mono ?_
    rintro e w1 ⟨rfl, hx1⟩
    obtain ⟨hb1, hb2⟩ := HB.out _ hx1
    obtain ⟨d0, d1, d2, d3, d4, d5⟩ := cells6 hb1
    obtain ⟨g0, g1, g2, g3⟩ := cells4 hb2
    have Y1 := Lib.hid hx1
    clear hx1 hb1 hb2
    go_wp2_with fail
    refine (HCALL.out _ ((ext_pair _ _ _).trans Y1.out)).mono ?_
    rintro e w2 ⟨A4, c4, rfl, ho4, hb4⟩
    clear d0 d1 d2 d3 d4 d5 g0 g1 g2 g3
    have Y2 := Lib.hid (Y1.out.trans hb4)
    obtain ⟨hb1, hb2⟩ := HB.out _ Y2.out
    obtain ⟨d0, d1, d2, d3, d4, d5⟩ := cells6 hb1
    have X2 := Lib.hid ((ext_pair _ _ _).trans Y2.out)
    have HO4 := Lib.hid ho4
    have HL := Lib.hid (lit2 w2 w.heap.size X2.out.size 3 (UInt8.ofNat N) 3 (N : Int) rfl (by rw [H8.out]))
    clear hb1 hb2 ho4 hb4
    go_wp2_with (at_builtin; refine app_u8 _ rfl (.tmp 79) (.tmp 80) rfl rfl HL.out rfl (HO4.out.rd.ext (Ext.alloc _ _)) isU8_map (by omega) (X2.out.trans (Ext.alloc _ _)).size ?_; intro A6 c6 w4 hown hg hbk)
    go_ret2
    refine ⟨_, _, _, rfl, ?_, (X2.out.trans (Ext.alloc _ _)).grown' hg (fun g hg => (HL.out.lt g hg).1)⟩
    rw [← List.map_append] at hown
    exact hown
  · go_enter Try.func17, Try.ntmps17
    go_wp2_with fail
    refine (HC.out _ (ext_pair _ _ _)).mono ?_
    rintro e w1 ⟨rfl, hx1⟩
    obtain ⟨hb1, hb2⟩ := HB.out _ hx1
    obtain ⟨d0, d1, d2, d3, d4, d5⟩ := cells6 hb1
    obtain ⟨g0, g1, g2, g3⟩ := cells4 hb2
    have Y1 := Lib.hid hx1
    clear hx1 hb1 hb2
    go_wp2_with fail
    refine (HCALL.out _ ((ext_pair _ _ _).trans Y1.out)).mono ?_
    rintro e w2 ⟨A4, c4, rfl, ho4, hb4⟩
    clear d0 d1 d2 d3 d4 d5 g0 g1 g2 g3
    have Y2 := Lib.hid (Y1.out.trans hb4)
    obtain ⟨hb1, hb2⟩ := HB.out _ Y2.out
    obtain ⟨d0, d1, d2, d3, d4, d5⟩ := cells6 hb1
    have X2 := Lib.hid ((ext_pair _ _ _).trans Y2.out)
    have HO4 := Lib.hid ho4
    have HL := Lib.hid (lit2 w2 w.heap.size X2.out.size 4 (UInt8.ofNat N) 4 (N : Int) rfl (by rw [H8.out]))
    clear hb1 hb2 ho4 hb4
    go_wp2_with (at_builtin; refine app_u8 _ rfl (.tmp 79) (.tmp 80) rfl rfl HL.out rfl (HO4.out.rd.ext (Ext.alloc _ _)) isU8_map (by omega) (X2.out.trans (Ext.alloc _ _)).size ?_; intro A6 c6 w4 hown hg hbk)
    go_ret2
    refine ⟨_, _, _, rfl, ?_, (X2.out.trans (Ext.alloc _ _)).grown' hg (fun g hg => (HL.out.lt g hg).1)⟩
    rw [← List.map_append] at hown
    exact hown

theorem replyPut_write (a : AskD) (s : AskS) (t : RepS) (w : World) (ha : AskRd w a s) (hr : RepRd w rep0 t) (h : checkR a rep0 = 0) (hK : checkF a = 0) (hc : a.code = 5 ∨ a.code = 6 ∨ a.code = 15 ∨ a.code = 16) :
    Calls Try.prog 17 #[askV a s, repV rep0 t] w (RetU w ((putA a).1.take 5) 0) := by
  have HC := checkOk ha hr h
  have HP := Lib.hid (fun W (hX : Ext w W) => askPut_any a s W (ha.ext hX))
  have h5 := (getA_put hK).2.1
  have h2 : (putA a).2 = 0 := by rw [putA_ok hK]
  rw [h2] at HP
  have hb := (getA_put hK).2.2
  generalize (putA a).1 = xs at *
  clear ha hr h hK h2
  obtain ⟨code, addr, count, on, set, parts⟩ := a
  obtain ⟨A1, n1, c1, A2, n2, c2, A3, n3, c3⟩ := s
  obtain ⟨B1, m1, k1, B2, m2, k2, B3, m3, k3⟩ := t
  simp only [askV, repV, rep0] at HC HP hc ⊢
  have HB := Lib.hid (two_boxes w #[.int .i64 code, .int .i64 addr, .int .i64 count, .slice A1 n1 c1, .slice A2 n2 c2, .slice A3 n3 c3] #[.int .i64 0, .slice B1 m1 k1, .slice B2 m2 k2, .slice B3 m3 k3] 26 41)
  rcases hc with rfl | rfl | rfl | rfl
  all_goals
    go_enter Try.func17, Try.ntmps17
    go_wp2_with fail
    refine (HC.out _ (ext_pair _ _ _)).mono ?_
    rintro e w1 ⟨rfl, hx1⟩
    obtain ⟨hb1, hb2⟩ := HB.out _ hx1
    obtain ⟨d0, d1, d2, d3, d4, d5⟩ := cells6 hb1
    obtain ⟨g0, g1, g2, g3⟩ := cells4 hb2
    have X1 := Lib.hid ((ext_pair _ _ _).trans hx1)
    clear hx1 hb1 hb2
    go_wp2_with fail
    refine (HP.out _ X1.out).mono ?_
    rintro e w2 ⟨A4, n, c4, rfl, ho4, hx2⟩
    obtain rfl : xs.length = n := by have := ho4.len; simpa using this
    have hnc := ho4.cap
    obtain ⟨b5, o5, rfl, -⟩ := ho4.rd.2 (by omega)
    have HR5 := Lib.hid (ho4.rd.take (k := 5) (by omega))
    have X2 := Lib.hid (X1.out.trans hx2)
    clear ho4 hx2
    go_wp2_with fail
    refine (clone_any _ ⟨b5, o5, none⟩ 5 _ _ HR5.out (by intro u hu; exact isU8_map u (List.mem_of_mem_take hu)) (by omega)).mono ?_
    rintro e w3 ⟨A6, c6, rfl, ho6, hx6⟩
    go_wp2_with fail
    go_ret2
    refine ⟨_, _, _, rfl, ?_, X2.out.trans hx6⟩
    rw [List.map_take]
    exact ho6.mono X2.out.size
end Go.Proofs.Ytbaiifhncpfdpaa
