/- Walk: the document's own Scan. -/
import Derived.Test.YtfblkahjefdmaaaDoorRaC
import Derived.Test.YtfblkahjefdmaaaDoorRaE
namespace Go.Proofs.YtfblkahjefdmaaaDoor
open Go.RowKit

theorem CF.weaken {B B' : Nat} {w : World} {cs : List Value} {f : FM.Form} (h : CF B w cs f) (hb : B' ≤ B) : CF B' w cs f := by
  obtain ⟨vt, ve, h1, h2, h3⟩ := h
  exact ⟨vt, ve, h1, h2.weaken hb, h3.weaken hb⟩
theorem partA_kind {s : List Int} {k k' : Nat} {f : FM.Form} (hs : s.all RX.isSign = true) (h : partA s k = some (f, k')) : f.kind ≠ 0 := by
  unfold partA at h
  rw [Option.map_eq_some_iff] at h
  obtain ⟨⟨f', c⟩, h3, h4⟩ := h
  injection h4 with h4 h5
  simp only at h4
  subst h4
  exact (FM.part_ok h3 (FM.all_drop hs _)).2.1
theorem Rcs.len {w wr : World} {T n c : Nat} {A : Option Addr} {vt : Value} {cf : List (List Value)} {fs : List FM.Form} {tx : List Int} (h : Rcs w T (.slice A n c) vt cf fs tx wr) : n = (FM.endT fs tx).length := by
  obtain ⟨A', c', hv, _⟩ := h.done.form
  injection hv
theorem Rcs.form {w wr : World} {T : Nat} {v vt : Value} {cf : List (List Value)} {fs : List FM.Form} {tx : List Int} (h : Rcs w T v vt cf fs tx wr) : ∃ A n c, v = .slice A n c ∧ n ≤ c ∧ c ≤ 9223372036854775807 := by
  obtain ⟨A, c, hv, h1, h2⟩ := h.own.form
  exact ⟨A, _, c, hv, h1, h2⟩
set_option maxRecDepth 100000 in
set_option maxHeartbeats 4000000 in
theorem rscan_any (s : List Int) (vs : Value) (a : Int) (w : World) (hs : SlC w vs s) (hsl : s.length ≤ 900000000) :
    Calls Tryd.prog 12 #[vs, .int .i64 a] w (ScanP (scanAt s a) w) := by
  have H := Lib.hid hs
  have HMS := Lib.hid (rmay_any s vs w hs)
  obtain ⟨A, ca, rfl, hlx, hcx, -⟩ := hs
  obtain ⟨R, hR⟩ : ∃ R, scanAt s a = R := ⟨_, rfl⟩
  rw [hR]
  have HR := Lib.hid hR
  clear hR
  by_cases ha0 : a < 0
  · have HN := Lib.hid (show R = none by rw [← HR.out]; unfold scanAt; rw [if_neg (by omega)])
    go_enter Tryd.func12, Tryd.ntmps12
    go_wp2_with fail
    go_ret3
    exact ⟨Ext.refl _, .inr ⟨HN.out, rfl⟩⟩
  by_cases ha1 : (s.length : Int) < a
  · have HN := Lib.hid (show R = none by rw [← HR.out]; unfold scanAt; rw [if_neg (by omega)])
    go_enter Tryd.func12, Tryd.ntmps12
    go_wp2_with fail
    go_ret3
    exact ⟨Ext.refl _, .inr ⟨HN.out, rfl⟩⟩
  obtain ⟨i, rfl⟩ : ∃ i : Nat, a = i := ⟨a.toNat, by omega⟩
  have hd0 : decide ((i : Int) < 0) = false := by simp
  have hd1 : decide ((s.length : Int) < (i : Int)) = false := by simp; omega
  have hd2 : decide (s.length < i) = false := by simp; omega
  have hil : i ≤ s.length := by omega
  rcases hsg : s.all RX.isSign with _ | _
  · have HN := Lib.hid (show R = none by rw [← HR.out]; unfold scanAt; rw [if_neg (by rw [hsg]; simp)])
    rw [hsg] at HMS
    clear hsg ha0 ha1
    go_enter Tryd.func12, Tryd.ntmps12
    go_wp2_with (go_at_call 29; refine HMS.out.mono ?_; rintro e w' ⟨rfl, rfl⟩)
    go_ret3
    exact ⟨Ext.refl _, .inr ⟨HN.out, rfl⟩⟩
  have HS := Lib.hid (show scanK s i [] [] = R by rw [← HR.out]; unfold scanAt; rw [if_pos ⟨by omega, by omega, hsg⟩]; rfl)
  have HSG := Lib.hid hsg
  rw [hsg] at HMS
  clear hsg ha0 ha1
  have HAM := Lib.hid has_outer
  have HPT := Lib.hid (fun (j : Nat) (hj : j < s.length) (W : World) (hW : Ext w W) => rpart_any s _ j W (H.out.ext hW) (by omega) hj)
  go_enter Tryd.func12, Tryd.ntmps12
  go_wp2_with (go_at_call 29; refine HMS.out.mono ?_; rintro e w' ⟨rfl, rfl⟩)
  go_loopw [1, 7] (fun x v wr => ∃ (k T : Nat) (A1 : Option Addr) (n1 c1 : Nat) (vt : Value) (cf : List (List Value)) (fs : List FM.Form) (tx : List Int), k ≤ s.length ∧ x = .int .i64 (k : Int) ∧ v = .slice A1 n1 c1 ∧ Rcs w T (.slice A1 n1 c1) vt cf fs tx wr ∧ fs.length ≤ k ∧ tx.length ≤ k ∧ scanK s k fs tx = R) (fun x _ _ => s.length - (intOf x).toNat)
  case atStart => exact ⟨i, _, _, _, _, _, [], [], [], hil, rfl, rfl, Rcs.start w, Nat.zero_le _, Nat.zero_le _, HS.out⟩
  case round =>
    obtain ⟨k, T, A1, n1, c1, vt, cf, fs, tx, hk, rfl, rfl, hcs, hfl, htl, hT⟩ := hrel
    have HC := Lib.hid hcs
    have HT := Lib.hid hT
    obtain ⟨At, nt, ct, hv, hnc, hcm⟩ := hcs.form
    injection hv with e1 e2 e3
    subst e1 e2 e3
    have HLD := Lib.hid (fun (r : Int) (W : World) (hW : Rcs w T (.slice A1 n1 c1) vt cf fs tx W) => laid_any w T _ vt cf fs tx r W hW (by omega) (by omega))
    clear hcs hT
    by_cases hlt : k < s.length
    rotate_left
    · have HN := Lib.hid (show R = none by rw [← HT.out, sc_end (by omega)])
      go_wp2_with fail
      go_ret3
      exact ⟨HC.out.ext, .inr ⟨HN.out, rfl⟩⟩
    obtain ⟨b, o, rfl, hc⟩ := (H.out.ext HC.out.ext).at_ hlt
    by_cases h47 : s[k] = 47
    · have HN := Lib.hid (show R = some (FM.endT fs tx, k) by rw [← HT.out, sc_slash hlt h47])
      rw [h47] at hc
      clear h47
      have HLN := Lib.hid HC.out.len
      go_wp2_with fail
      go_ret3
      refine ⟨HC.out.ext, .inl ⟨_, k, A1, c1, HN.out, by rw [← HLN.out]; rfl, ?_⟩⟩
      rw [← HLN.out]; exact HC.out.done
    by_cases h36 : s[k] = 36
    · obtain ⟨F, hF⟩ : ∃ F, partA s k = F := ⟨_, rfl⟩
      have HF0 := Lib.hid hF
      have HP := Lib.hid (HPT.out k hlt _ HC.out.ext)
      have hc36 := hc
      rw [h36] at hc36
      cases F with
      | none =>
        have HN := Lib.hid ((sc_plain (fs := fs) (tx := tx) hlt h47 (fun _ => hF) (fun h => absurd (h36.symm.trans h.1) (by decide))).symm.trans HT.out)
        rw [h36] at HN
        clear h47 h36 hF hc
        go_upto_region 12 with (go_at_call 32; go_loud (refine HP.out.mono ?_; rw [HF0.out]; rintro e w2 ⟨hx, hx2⟩; have HC := Lib.hid (HC.out.ext_ hx); have hc36 := hx.cell hc36; clear hx; rcases hx2 with ⟨f, k3, cs, hq, -, -⟩ | ⟨hq, rfl⟩; (exact absurd hq (by simp))))
        have hE3 := (Ext.refl w2).alloc (.cells #[.int .i64 0, .int .i64 0, .int .i64 0, .slice none 0 0, .slice none 0 0] 34)
        have HC := Lib.hid (HC.out.ext_ hE3)
        have hc36 := hE3.cell hc36
        clear hE3
        generalize w2.alloc (.cells #[.int .i64 0, .int .i64 0, .int .i64 0, .slice none 0 0, .slice none 0 0] 34) = w4 at HC hc36 ⊢
        go_wp2_with (go_at_call 31; go_loud (refine (HLD.out 36 _ HC.out).mono ?_; rintro e w3 ⟨T3, A3, n3, c3, vt3, rfl, hn3, hc3⟩; have HC3 := Lib.hid hc3; have HN3 := Lib.hid hn3; clear hc3 hn3))
        go_roundw
        case rel => exact ⟨k + 1, T3, _, _, _, vt3, cf, fs, _, by omega, by go_num, rfl, HC3.out, by omega, by rw [List.length_append]; simp; omega, HN.out⟩
        case measure => simp [intOf]; omega
      | some q =>
        obtain ⟨f, k'⟩ := q
        have hle := partA_le HSG.out hF hlt
        have HK := Lib.hid (partA_kind HSG.out hF)
        have HN := Lib.hid ((sc_part (fs := fs) (tx := tx) hlt h36 hF).symm.trans HT.out)
        clear h47 h36 hF hc
        obtain ⟨hle1, hle2⟩ := hle
        have hpos : decide ((0 : Int) < (k' : Int)) = true := by simp; omega
        go_upto_region 12 with (go_at_call 32; go_loud (refine HP.out.mono ?_; rw [HF0.out]; rintro e w2 ⟨hx, hx2⟩; rcases hx2 with ⟨f', k3, cs, hq, rfl, vt', ve', rfl, ht, he⟩ | ⟨hq, -⟩; rotate_left; (exact absurd hq (by simp)); injection hq with hq; injection hq with hq1 hq2; subst hq1 hq2; obtain ⟨At', ct', rfl, -⟩ := ht.form; obtain ⟨Ae', ce', rfl, -⟩ := he.form; have HCF := Lib.hid (CF.weaken ⟨_, _, rfl, ht, he⟩ HC.out.ext.size : CF w.heap.size w2 [.int .i64 f.kind, .int .i64 f.group, .int .i64 f.cas, .slice At' f.text.length ct', .slice Ae' f.els.length ce'] f); have HC := Lib.hid (HC.out.ext_ hx); clear hx ht he))
        have hE3 := (Ext.refl w2).alloc (.cells #[.int .i64 f.kind, .int .i64 f.group, .int .i64 f.cas, .slice At' f.text.length ct', .slice Ae' f.els.length ce'] 34)
        have HC := Lib.hid (HC.out.ext_ hE3)
        have HCF := Lib.hid (HCF.out.keepT (KeepT.of_ext hE3))
        have hb9 := heap_alloc_new w2 (.cells #[.int .i64 f.kind, .int .i64 f.group, .int .i64 f.cas, .slice At' f.text.length ct', .slice Ae' f.els.length ce'] 34)
        clear hE3 hc36
        generalize w2.alloc (.cells #[.int .i64 f.kind, .int .i64 f.group, .int .i64 f.cas, .slice At' f.text.length ct', .slice Ae' f.els.length ce'] 34) = w4 at HC HCF hb9 ⊢
        generalize w2.heap.size = nb at hb9 ⊢
        have d0 := cell_of_row w4 nb 0 _ _ _ hb9
        have d1 := cell_of_row w4 nb 1 _ _ _ hb9
        have d2 := cell_of_row w4 nb 2 _ _ _ hb9
        have d3 := cell_of_row w4 nb 3 _ _ _ hb9
        have d4 := cell_of_row w4 nb 4 _ _ _ hb9
        have hcl : (cf ++ tl tx vt).length ≤ 1000000000 := by rw [tl_len cf fs tx vt HC.out.fit.1]; unfold FM.endT; split <;> first | omega | (simp; omega)
        have HCL := Lib.hid hcl
        have HLE := Lib.hid (show (FM.endT fs tx ++ [f]).length ≤ k' by rw [List.length_append]; unfold FM.endT; split <;> first | omega | (simp; omega))
        clear hb9 hcl
        go_wp2_with (at_builtin; go_loud (have HCD := Lib.hid (HC.out.ext_ ((Ext.refl w4).alloc (.cells #[.int .i64 f.kind, .int .i64 f.group, .int .i64 f.cas, .slice At' f.text.length ct', .slice Ae' f.els.length ce'] 34))); refine app_lit Tryd.underlying32 info_form rfl (by decide) (by decide) (keeps_raw []) (by simp) rfl _ _ rfl w.heap.size _ (cf ++ tl tx vt) [.int .i64 f.kind, .int .i64 f.group, .int .i64 f.cas, .slice At' f.text.length ct', .slice Ae' f.els.length ce'] [.int .i64 f.kind, .int .i64 f.group, .int .i64 f.cas, .slice At' f.text.length ct', .slice Ae' f.els.length ce'] 34 HC.out.own ⟨rfl, rfl⟩ rfl (by simp [Value.oneCell']) rfl w4.heap.size rfl rfl HCL.out HC.out.ext.size ?_; intro gg cap w1 h1 h2; generalize (cf ++ tl tx vt).length + 1 = nn at h1 ⊢; have HF := Lib.hid (Rcs.part HCD.out ((HCF.out.keepT (KeepT.of_ext ((Ext.refl w4).alloc _))).cft) HK.out h1 h2); clear h1 h2))
        go_roundw
        case rel => exact ⟨k', _, _, _, _, _, _, FM.endT fs tx ++ [f], [], hle2, rfl, rfl, HF.out, HLE.out, Nat.zero_le _, HN.out⟩
        case measure => simp [intOf]; omega
    by_cases h92 : s[k] = 92
    · have b1 : (s[k] == 47) = false := by simpa using h47
      have b3 : (s[k] == 92) = true := by simpa using h92
      have b2 : (s[k] == 36) = false := by simpa using h36
      by_cases hk1 : k + 1 < s.length
      · have hk1i : (k : Int) + 1 < s.length := by omega
        obtain ⟨b', o', hbo, hc'⟩ := (H.out.ext HC.out.ext).at_ hk1
        injection hbo with hbo
        injection hbo with hb1 hb2
        subst hb1 hb2
        by_cases hm : s[k + 1] ∈ FM.outer
        · have HN := Lib.hid ((sc_esc (fs := fs) (tx := tx) hk1 h92 hm).symm.trans HT.out)
          have HMM := Lib.hid (show decide (s[k + 1] ∈ FM.outer) = true from decide_eq_true hm)
          clear h92 h47 h36 hm
          generalize s[k] = x at hc b1 b2 b3
          generalize s[k + 1] = y at hc' HMM HN
          go_wp2_with (first | (go_at_call 30; refine (HAM.out y _).mono ?_; rw [HMM.out]; rintro e' w2 ⟨rfl, rfl⟩) | (go_at_call 31; go_loud (refine (HLD.out y _ HC.out).mono ?_; rintro e w3 ⟨T3, A3, n3, c3, vt3, rfl, hn3, hc3⟩; have HC3 := Lib.hid hc3; have HN3 := Lib.hid hn3; clear hc3 hn3)))
          go_roundw
          case rel => exact ⟨k + 2, T3, _, _, _, vt3, cf, fs, _, by omega, by go_num, rfl, HC3.out, by omega, by rw [List.length_append]; simp; omega, HN.out⟩
          case measure => simp [intOf]; omega
        · have HN := Lib.hid ((sc_plain (fs := fs) (tx := tx) hlt h47 (fun h => absurd h h36) (fun h => by obtain ⟨_, _, h⟩ := h; exact hm h)).symm.trans HT.out)
          have HMM := Lib.hid (show decide (s[k + 1] ∈ FM.outer) = false from decide_eq_false hm)
          clear h92 h47 h36 hm
          generalize s[k] = x at hc b1 b2 b3 HN
          generalize s[k + 1] = y at hc' HMM
          go_wp2_with (first | (go_at_call 30; refine (HAM.out y _).mono ?_; rw [HMM.out]; rintro e' w2 ⟨rfl, rfl⟩) | (go_at_call 31; go_loud (refine (HLD.out x _ HC.out).mono ?_; rintro e w3 ⟨T3, A3, n3, c3, vt3, rfl, hn3, hc3⟩; have HC3 := Lib.hid hc3; have HN3 := Lib.hid hn3; clear hc3 hn3)))
          go_roundw
          case rel => exact ⟨k + 1, T3, _, _, _, vt3, cf, fs, _, by omega, by go_num, rfl, HC3.out, by omega, by rw [List.length_append]; simp; omega, HN.out⟩
          case measure => simp [intOf]; omega
      · have HN := Lib.hid ((sc_plain (fs := fs) (tx := tx) hlt h47 (fun h => absurd h h36) (fun h => by obtain ⟨_, h, _⟩ := h; exact hk1 h)).symm.trans HT.out)
        have hk1i : ¬ (k : Int) + 1 < s.length := by omega
        clear h92 h47 h36 hk1
        generalize s[k] = x at hc b1 b2 b3 HN
        go_wp2_with (go_at_call 31; go_loud (refine (HLD.out x _ HC.out).mono ?_; rintro e w3 ⟨T3, A3, n3, c3, vt3, rfl, hn3, hc3⟩; have HC3 := Lib.hid hc3; have HN3 := Lib.hid hn3; clear hc3 hn3))
        go_roundw
        case rel => exact ⟨k + 1, T3, _, _, _, vt3, cf, fs, _, by omega, by go_num, rfl, HC3.out, by omega, by rw [List.length_append]; simp; omega, HN.out⟩
        case measure => simp [intOf]; omega
    have HN := Lib.hid ((sc_plain (fs := fs) (tx := tx) hlt h47 (fun h => absurd h h36) (fun h => h92 h.1)).symm.trans HT.out)
    have b1 : (s[k] == 47) = false := by simpa using h47
    have b2 : (s[k] == 36) = false := by simpa using h36
    have b3 : (s[k] == 92) = false := by simpa using h92
    clear h47 h36 h92
    generalize s[k] = x at hc b1 b2 b3 HN
    go_wp2_with (go_at_call 31; go_loud (refine (HLD.out x _ HC.out).mono ?_; rintro e w3 ⟨T3, A3, n3, c3, vt3, rfl, hn3, hc3⟩; have HC3 := Lib.hid hc3; have HN3 := Lib.hid hn3; clear hc3 hn3))
    go_roundw
    case rel => exact ⟨k + 1, T3, _, _, _, vt3, cf, fs, _, by omega, by go_num, rfl, HC3.out, by omega, by rw [List.length_append]; simp; omega, HN.out⟩
    case measure => simp [intOf]; omega
end Go.Proofs.YtfblkahjefdmaaaDoor
