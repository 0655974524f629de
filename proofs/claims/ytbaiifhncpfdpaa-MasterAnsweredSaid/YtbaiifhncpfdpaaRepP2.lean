/- Contract of reply.Put: rows of files, and whatever the request and the answer. -/
import Derived.Test.YtbaiifhncpfdpaaRepP
import Derived.Test.YtbaiifhncpfdpaaRepK
namespace Go.Proofs.Ytbaiifhncpfdpaa
set_option linter.unusedVariables false
set_option linter.unusedSimpArgs false
set_option maxRecDepth 100000
set_option maxHeartbeats 2000000
open Go Go.RowKit Go.Out

theorem filesB_take {l : List (List UInt16)} {k : Nat} {f : List UInt16} (h : l[k]? = some f) : filesB (l.take (k + 1)) = filesB (l.take k) ++ fileB f := by
  obtain ⟨hk, rfl⟩ := List.getElem?_eq_some_iff.1 h
  unfold filesB
  rw [List.take_succ_eq_append_getElem hk, List.flatMap_append]
  simp
theorem filesB_take_le (l : List (List UInt16)) (k : Nat) : (filesB (l.take k)).length ≤ (filesB l).length := by
  have h := congrArg List.length (congrArg filesB (List.take_append_drop k l))
  unfold filesB at h ⊢
  rw [List.flatMap_append, List.length_append] at h
  omega
theorem replyPut_files (a : AskD) (l : List (List UInt16)) (s : AskS) (t : RepS) (w : World) (ha : AskRd w a s) (hr : RepRd w ⟨0, [], [], l⟩ t) (h : checkR a ⟨0, [], [], l⟩ = 0) (hc : a.code = 20) (hl : (filesB l).length ≤ 245) :
    Calls Try.prog 17 #[askV a s, repV ⟨0, [], [], l⟩ t] w (RetU w (20 :: UInt8.ofNat (filesB l).length :: filesB l) 0) := by
  have HC := checkOk ha hr h
  have e3 := hr.n3
  have HR := Lib.hid hr.files
  simp only at e3 HR
  clear ha hr h
  obtain ⟨code, addr, count, on, set, parts⟩ := a
  obtain ⟨A1, n1, c1, A2, n2, c2, A3, n3, c3⟩ := s
  obtain ⟨B1, m1, k1, B2, m2, k2, B3, m3, k3⟩ := t
  simp only [askV, repV] at HC HR hc e3 ⊢
  subst hc
  obtain ⟨N, hN⟩ : ∃ N, (filesB l).length = N := ⟨_, rfl⟩
  have HT := Lib.hid (fun k => filesB_take_le l k)
  rw [hN] at HT hl ⊢
  have hN8 : (UInt8.ofNat N).toNat = N := toNat_ofNat8 (by omega)
  have w8 : IntKind.u8.wrap (N : Int) = (N : Int) := by rw [IntKind.wrap_u8]; omega
  have H8 := Lib.hid hN8; have HN := Lib.hid hN; have HE := Lib.hid e3; clear hN hN8
  have hm3 : m3 ≤ 245 := by
    have h1 := HN.out
    have h2 : ∀ l : List (List UInt16), l.length ≤ (filesB l).length := fun l => by
      induction l with
      | nil => simp
      | cons f l ih => rw [filesB_cons, List.length_append, fileB_length, List.length_cons]; omega
    have := h2 l
    omega
  have HB := Lib.hid (two_boxes w #[.int .i64 20, .int .i64 addr, .int .i64 count, .slice A1 n1 c1, .slice A2 n2 c2, .slice A3 n3 c3] #[.int .i64 0, .slice B1 m1 k1, .slice B2 m2 k2, .slice B3 m3 k3] 26 41)
  clear e3
  go_enter Try.func17, Try.ntmps17
  go_wp2_with fail
  refine (HC.out _ (ext_pair _ _ _)).mono ?_
  rintro e w1 ⟨rfl, hx1⟩
  obtain ⟨hb1, hb2⟩ := HB.out _ hx1
  obtain ⟨d0, d1, d2, d3, d4, d5⟩ := cells6 hb1
  obtain ⟨g0, g1, g2, g3⟩ := cells4 hb2
  have Y1 := Lib.hid hx1
  have X1 := Lib.hid ((ext_pair _ _ _).trans hx1)
  clear hx1 hb1 hb2
  go_wp2_with fail
  clear d0 d1 d2 d3 d4 d5 g0 g1 g2 g3
  go_loopw [7, 9, 56] (fun b _ i wr => ∃ (k q : Nat) (A5 : Option Addr) (c5 : Nat), k ≤ m3 ∧ b = .slice A5 q c5 ∧ i = .int .i64 (k : Int) ∧ q ≤ N ∧ Hid (Own wr w1.heap.size 5 IsU8 A5 q c5 ((filesB (l.take k)).map cB)) ∧ Ext w1 wr) (fun _ _ i _ => m3 - (intOf i).toNat)
  case atStart => exact ⟨0, 0, none, 0, Nat.zero_le _, rfl, rfl, by omega, by simpa [Hid, filesB] using Own.nil_ _ _ _ _, Ext.refl _⟩
  case round =>
    obtain ⟨k, q, A5, c5, hk, rfl, rfl, hq, HO, hx⟩ := hrel
    rcases Nat.lt_or_ge k m3 with hlt | hge
    · obtain ⟨b1, o1, f, A6, n6, c6, hf, rfl, hb1, f0w, hr6, hn6, -, -⟩ := file_cells HR.out hlt
      have f0 := (X1.out.trans hx).cell hb1 f0w
      have hst := filesB_take hf
      have hq' : (filesB (l.take k)).length = q := by have := HO.out.len; simpa using this
      have hle := HT.out (k + 1)
      rw [hst, List.length_append, fileB_length, hq', hn6] at hle
      have Hst := Lib.hid hst
      have HX := Lib.hid hx
      obtain ⟨M, hM⟩ : ∃ M, 1 + 2 * n6 = M := ⟨_, rfl⟩
      have hM8 : (UInt8.ofNat M).toNat = M := toNat_ofNat8 (by omega)
      have v1 : IntKind.i64.wrap (2 * (n6 : Int)) = 2 * (n6 : Int) := IntWalk.i64_in _ (by omega)
      have v2 : IntKind.i64.wrap (1 + 2 * (n6 : Int)) = 1 + 2 * (n6 : Int) := IntWalk.i64_in _ (by omega)
      have v3 : IntKind.u8.wrap (1 + 2 * (n6 : Int)) = 1 + 2 * (n6 : Int) := by rw [IntKind.wrap_u8]; omega
      have Hfb := Lib.hid (show fileB f = [UInt8.ofNat M, 6] ++ wb f by unfold fileB; rw [hn6, hM]; rfl)
      have HL := Lib.hid (fun (W : World) => (lit2 W W.heap.size (Nat.le_refl _) (UInt8.ofNat M) 6 (1 + 2 * (n6 : Int)) 6 (by rw [hM8]; omega) rfl).rd)
      have HCALL := Lib.hid (fun W (hX : Ext w W) => bytes_any f A6 n6 c6 W (hr6.ext hX) (by omega))
      clear hf hst hr6 hx hM8 hM f0w hb1
      go_wp2_with (at_builtin; refine app_u8 _ rfl (.tmp 60) (.tmp 66) rfl rfl (HO.out.ext (Ext.alloc _ _)) rfl (HL.out _) isU8_map (by omega) (HX.out.trans (Ext.alloc _ _)).size ?_; intro A7 c7 w3 hown hg hbk; rw [← List.map_append] at hown; have HO3 := Lib.hid hown; have HX3 := Lib.hid ((HX.out.trans (Ext.alloc _ _)).grown' hg (fun g hg => (HO.out.lt g hg).1)); clear hown hg hbk)
      refine (HCALL.out _ (X1.out.trans HX3.out)).mono ?_
      rintro e w4 ⟨A8, c8, rfl, ho8, hb8⟩
      have HO4 := Lib.hid (HO3.out.ext hb8)
      have HX4 := Lib.hid (HX3.out.trans hb8)
      have HO8 := Lib.hid ho8
      clear ho8 hb8
      go_wp2_with (at_builtin; refine app_u8 _ rfl (.tmp 68) (.tmp 70) rfl rfl HO4.out rfl HO8.out.rd isU8_map (by omega) HX4.out.size ?_; intro A9 c9 w5 hown hg hbk; rw [← List.map_append] at hown; have HO5 := Lib.hid hown; have HX5 := Lib.hid (HX4.out.grown' hg (fun g hg => (HO4.out.lt g hg).1)); clear hown hg hbk)
      go_roundw
      case rel => exact ⟨k + 1, q + 2 + 2 * n6, A9, c9, by omega, rfl, by go_num, by omega, by rw [Hst.out, Hfb.out, ← List.append_assoc]; exact HO5, HX5.out⟩
      case measure => simp [intOf]; omega
    · obtain rfl : k = m3 := by omega
      have hall : l.take k = l := List.take_of_length_le (by have := HE.out; omega)
      rw [hall] at HO
      have hqN : q = N := by have h1 := HO.out.len; have := HN.out; simp at h1; omega
      subst hqN
      have HX := Lib.hid hx
      obtain ⟨hb1, hb2⟩ := HB.out _ (Y1.out.trans hx)
      obtain ⟨d0, d1, d2, d3, d4, d5⟩ := cells6 hb1
      have X2 := Lib.hid (X1.out.trans hx)
      have HL := Lib.hid (lit2 wr w.heap.size X2.out.size 20 (UInt8.ofNat q) 20 (q : Int) rfl (by rw [H8.out]))
      clear hb1 hb2 hx hall
      go_wp2_with (at_builtin; refine app_u8 _ rfl (.tmp 79) (.tmp 80) rfl rfl HL.out rfl (HO.out.rd.ext (Ext.alloc _ _)) isU8_map (by omega) (X2.out.trans (Ext.alloc _ _)).size ?_; intro A6 c6 w4 hown hg hbk)
      go_ret2
      refine ⟨_, _, _, rfl, ?_, (X2.out.trans (Ext.alloc _ _)).grown' hg (fun g hg => (HL.out.lt g hg).1)⟩
      rw [← List.map_append] at hown
      exact hown

theorem replyPut_any (a : AskD) (r : RepD) (s : AskS) (t : RepS) (w : World) (ha : AskRd w a s) (hr : RepRd w r t) :
    Calls Try.prog 17 #[askV a s, repV r t] w (RetU w (putR a r).1 (putR a r).2) := by
  by_cases h : checkR a r = 0
  · obtain ⟨hK, hrc⟩ := rep_cases h
    have hcl := code_lt hK
    unfold putR
    rw [if_neg (by simpa using h)]
    rcases hrc with ⟨e, h1, h2, rfl⟩ | ⟨hc, l, h1, h2, h3, rfl⟩ | ⟨hc, l, h1, h2, h3, rfl⟩ | ⟨hc, l, h1, h2, rfl⟩ | ⟨hc, rfl⟩
    · rw [if_pos (by simp; omega)]
      exact replyPut_ex a e s t w ha hr h h1 h2 hcl.1 hcl.2
    · rw [if_neg (by simp), if_pos (by unfold plainC; omega)]
      unfold bodyR
      rw [if_pos hc]
      exact replyPut_bits a l s t w ha hr h hc h3
    · rw [if_neg (by simp), if_pos (by unfold plainC; omega)]
      unfold bodyR
      rw [if_neg (by omega), if_pos hc]
      exact replyPut_words a l s t w ha hr h hc h3
    · rw [if_neg (by simp), if_pos (by unfold plainC; omega)]
      unfold bodyR
      rw [if_neg (by omega), if_neg (by omega)]
      have h3 := filesB_length h1
      have h4 := (partsF_zero h2).2
      have h5 := replyPut_files a l s t w ha hr h hc (by omega)
      rw [hc]
      exact h5
    · rw [if_neg (by simp [rep0]), if_neg (by unfold plainC; omega)]
      exact replyPut_write a s t w ha hr h hK hc
  · rw [putR_no h]
    exact replyPut_no a r s t w ha hr h
end Go.Proofs.Ytbaiifhncpfdpaa
