/- Walks: the document's own answer: May of signs; laid. -/
import Derived.Test.YtfblkahjefdmaaaDoorRaD
namespace Go.Proofs.YtfblkahjefdmaaaDoor
open Go.RowKit

set_option maxHeartbeats 1000000 in
theorem rmay_any (s : List Int) (vs : Value) (w : World) (hs : SlC w vs s) : Calls Tryd.prog 29 #[vs] w (BoolP (s.all RX.isSign) w) := by
  have H := Lib.hid hs
  obtain ⟨A, ca, rfl, hlx, hcx, -⟩ := hs
  have HSG := Lib.hid sign_any
  go_enter Tryd.func29, Tryd.ntmps29
  go_wp2_with fail
  go_loop [3] (fun i => ∃ k : Nat, k ≤ s.length ∧ i = .int .i64 k ∧ (s.take k).all RX.isSign = true) (fun i => s.length - (intOf i).toNat)
  case atStart => exact ⟨0, Nat.zero_le _, rfl, rfl⟩
  case round =>
    obtain ⟨k, hk, rfl, hpre⟩ := hrel
    have HP := Lib.hid hpre
    clear hpre
    by_cases hlt : k < s.length
    · obtain ⟨b, o, rfl, hc⟩ := H.out.at_ hlt
      have HX := Lib.hid (List.getElem?_eq_getElem hlt)
      have HT := Lib.hid (show (s.take (k + 1)).all RX.isSign = RX.isSign s[k] by rw [List.take_succ_eq_append_getElem hlt, List.all_append, HP.out]; simp)
      have HF := Lib.hid (show RX.isSign s[k] = false → s.all RX.isSign = false from fun h => by
        rw [List.all_eq_false]
        exact ⟨s[k], List.getElem_mem hlt, by simp [h]⟩)
      generalize s[k] = x at hc HT HF HX
      rcases hx : RX.isSign x with _ | _
      · have HM := Lib.hid (HF.out hx)
        have HB := Lib.hid hx
        clear hx
        go_wp2_with (go_at_call 39; go_loud (refine (HSG.out x _).mono ?_; rw [HB.out]; rintro e w2 ⟨rfl, rfl⟩))
        go_ret
        exact ⟨by rw [HM.out]; rfl, rfl⟩
      · have HT2 := Lib.hid (HT.out.trans hx)
        have HB := Lib.hid hx
        clear hx
        go_wp2_with (go_at_call 39; go_loud (refine (HSG.out x _).mono ?_; rw [HB.out]; rintro e w2 ⟨rfl, rfl⟩))
        go_round
        case rel => exact ⟨k + 1, by omega, by go_num, HT2.out⟩
        case measure => simp [intOf]; omega
    · have HM := Lib.hid (show s.all RX.isSign = true by have := HP.out; rwa [List.take_of_length_le (by omega)] at this)
      go_wp2_with fail
      go_ret
      exact ⟨by rw [HM.out]; rfl, rfl⟩

/-- Behind laid: a sign more. -/
def LaidP (w : World) (cf : List (List Value)) (fs : List FM.Form) (tx : List Int) (e : Ending) (w' : World) : Prop :=
  ∃ (T : Nat) (A : Option Addr) (n c : Nat) (vt : Value), e = .returned (.slice A n c) ∧ n = cf.length + 1 ∧ Rcs w T (.slice A n c) vt cf fs tx w'
theorem Fits.kind {B T : Nat} {w : World} {css : List (List Value)} {fs : List FM.Form} (h : Fits B T w css fs) {cs : List Value} (hc : css.getLast? = some cs) : ∃ f vt ve, fs.getLast? = some f ∧ cs = [.int .i64 f.kind, .int .i64 f.group, .int .i64 f.cas, vt, ve] := by
  rw [List.getLast?_eq_getElem?] at hc
  have hlt := (List.getElem?_eq_some_iff.1 hc).1
  have hlt2 : fs.length - 1 < fs.length := by have := h.1; omega
  have hf := List.getElem?_eq_getElem hlt2
  obtain ⟨vt, ve, h1, _⟩ := h.2 _ cs _ hc (by rw [h.1]; exact hf)
  exact ⟨_, vt, ve, by rw [List.getLast?_eq_getElem?]; exact hf, h1⟩
theorem Rcs.boxM {w wr w' : World} {T g : Nat} {vl vt : Value} {cf : List (List Value)} {fs : List FM.Form} {tx : List Int} {cur : Array Value} (h : Rcs w T vl vt cf fs tx wr) (hg : wr.heap[g]? = some (.cells cur 34 (0, 0))) (h2 : wr.grownBy w' vt.ownBlock) : w'.heap[g]? = some (.cells cur 34 (0, 0)) := by
  refine (h2.block g (heap_lt hg) (fun e => ?_)).trans hg
  obtain ⟨cur2, h4⟩ := h.txt.type g e.symm
  rw [hg] at h4
  injection h4 with h4
  injection h4 with _ h4 _
  exact absurd h4 (by decide)
set_option maxRecDepth 100000 in
set_option maxHeartbeats 2000000 in
theorem laid_any (w : World) (T : Nat) (vl vt : Value) (cf : List (List Value)) (fs : List FM.Form) (tx : List Int) (r : Int) (wr : World) (h : Rcs w T vl vt cf fs tx wr) (hn : fs.length ≤ 1000000000) (ht : tx.length ≤ 1000000000) :
    Calls Tryd.prog 31 #[vl, .int .i32 r] wr (LaidP w cf fs (tx ++ [r])) := by
  have HC := Lib.hid h
  have HCL := Lib.hid (show cf.length ≤ 1000000000 by rw [h.fit.1]; exact hn)
  obtain ⟨A, c, rfl, hnc, hcm⟩ := h.own.form
  by_cases htx : tx = []
  · subst htx
    have HOWN := Lib.hid (show OwnB 34 5 Raw w.heap.size (wr.alloc (.cells #[.int .i32 r] 21)) (.slice A (cf ++ tl [] vt).length c) cf from by
      have h9 := (h.ext_ ((Ext.refl wr).alloc (.cells #[.int .i32 r] 21))).own
      rw [show tl ([] : List Int) vt = [] from rfl, List.append_nil] at h9
      rw [show tl ([] : List Int) vt = [] from rfl, List.append_nil]; exact h9)
    have hle : (cf ++ tl [] vt).length = cf.length := by rw [show tl ([] : List Int) vt = [] from rfl, List.append_nil]
    rw [hle] at HOWN hnc HC ⊢
    rcases List.eq_nil_or_concat cf with hcf | ⟨cf', cs, hcf⟩
    · subst hcf
      clear h hle ht hn hnc
      go_enter Tryd.func31, Tryd.ntmps31
      go_wp2_with (at_builtin; go_loud (refine app_lit Tryd.underlying32 info_form rfl (by decide) (by decide) (keeps_raw []) (by simp) rfl _ _ rfl w.heap.size _ [] (tcs (.slice (some ⟨wr.heap.size, 0, none⟩) 1 1)) (tcs (.slice (some ⟨wr.heap.size, 0, none⟩) 1 1)) 34 HOWN.out ⟨rfl, rfl⟩ rfl (by simp [Value.oneCell', tcs]) rfl (wr.heap.size + 1) rfl (by simp) HCL.out ?hB ?_; (case hB => exact Nat.le_trans HC.out.ext.size (by simp)); intro gg cap w1 h1 h2; have HF := Lib.hid (Rcs.new HC.out rfl _ rfl _ ((Ext.refl _).alloc _) h1 h2); clear h1 h2))
      go_ret
      exact ⟨_, _, _, _, _, rfl, rfl, HF.out⟩
    · have hlast : cf.getLast? = some cs := by rw [hcf]; simp
      obtain ⟨f, vt9, ve9, hf1, hcs⟩ := h.fit.kind hlast
      have hk := h.nt f hf1
      have hb0 : (f.kind == 0) = false := by simpa using hk
      have hown := HOWN.out
      rw [hcf] at hown
      rw [List.concat_eq_append] at hown
      have hlen : cf.length = cf'.length + 1 := by rw [hcf]; simp
      have hml : (cf'.concat cs).length = cf'.length + 1 := by simp
      obtain ⟨g, cur, hA, hb, -, -, hh, hcells, -⟩ := (show OwnB 34 5 Raw w.heap.size wr (.slice A cf.length c) (cf' ++ [cs]) from by
        have h9 := h.own
        rw [hle, show tl ([] : List Int) vt = [] from rfl, List.append_nil] at h9
        rw [← List.concat_eq_append, ← hcf]; exact h9).lastRaw
      subst hA
      have c0 := cell_of_row wr g (cf'.length * 5) _ _ _ hh
      rw [show cur[cf'.length * 5]? = some (.int .i64 f.kind) from hcells 0 _ (by rw [hcs]; rfl)] at c0
      obtain ⟨m, hm⟩ : ∃ m, cf'.length = m := ⟨_, rfl⟩
      rw [hm] at c0 hlen
      have HLEN := Lib.hid hlen
      have hgl := heap_lt hh
      have hnc2 : m + 1 ≤ c := by omega
      have hpos : decide ((0 : Int) ≤ (m : Int)) = true := by simp
      rw [hlen] at HC HOWN ⊢
      clear h hle ht hn hnc hcf hlast hf1 hcs hk hown hml hh hcells hm hlen
      go_enter Tryd.func31, Tryd.ntmps31
      go_wp2_with (at_builtin; go_loud (refine app_lit Tryd.underlying32 info_form rfl (by decide) (by decide) (keeps_raw []) (by simp) rfl _ _ rfl w.heap.size _ cf (tcs (.slice (some ⟨wr.heap.size, 0, none⟩) 1 1)) (tcs (.slice (some ⟨wr.heap.size, 0, none⟩) 1 1)) 34 HOWN.out ⟨rfl, rfl⟩ rfl (by simp [Value.oneCell', tcs]) rfl (wr.heap.size + 1) rfl (by simp) HCL.out ?hB ?_; (case hB => exact Nat.le_trans HC.out.ext.size (by simp)); intro gg cap w1 h1 h2; have HF := Lib.hid (Rcs.new HC.out rfl _ rfl _ ((Ext.refl _).alloc _) h1 h2); clear h1 h2))
      go_ret
      exact ⟨_, _, _, _, _, rfl, (by first | rfl | rw [HLEN.out]), HF.out⟩
  · have hown := h.own
    rw [show tl tx vt = [tcs vt] from if_neg htx] at hown hnc HC ⊢
    obtain ⟨g, cur, hA, hb, -, -, hh, hcells, -⟩ := hown.lastRaw
    subst hA
    have hlen : (cf ++ [tcs vt]).length = cf.length + 1 := by simp
    rw [hlen] at hnc HC ⊢
    obtain ⟨m, hm⟩ : ∃ m, cf.length = m := ⟨_, rfl⟩
    have HM := Lib.hid hm
    rw [hm] at hcells hnc HC ⊢
    obtain ⟨Av, cv, rfl, hv1, hv2⟩ := h.txt.form
    have c0 := cell_of_row wr g (m * 5) _ _ _ hh
    rw [show cur[m * 5]? = some (.int .i64 0) from hcells 0 _ rfl] at c0
    have c3 := cell_of_row wr g (m * 5 + 3) _ _ _ hh
    rw [show cur[m * 5 + 3]? = some (.slice Av tx.length cv) from hcells 3 _ rfl] at c3
    have HH := Lib.hid hh
    have HC3 := Lib.hid (show cur[m * 5 + 3]? = some (.slice Av tx.length cv) from hcells 3 _ rfl)
    have hgl := heap_lt hh
    have hpos : decide ((0 : Int) ≤ (m : Int)) = true := by simp
    have HNE := Lib.hid htx
    clear h hn hown hlen hh hcells hm htx
    go_enter Tryd.func31, Tryd.ntmps31
    go_wp2_with (at_builtin; go_loud (have HCD := Lib.hid (HC.out.ext_ ((Ext.refl wr).alloc (.cells #[.int .i32 r] 21))); refine app_lit Tryd.underlying22 info_c rfl (by decide) (by decide) (keeps_c []) (by simp) rfl _ _ rfl T _ tx r [.int .i32 r] 21 HC.out.txt rfl rfl (by simp [Value.oneCell']) rfl wr.heap.size rfl rfl ht HC.out.top ?_; intro gg cap w1 h1 h2; have hb := HCD.out.boxM (((Ext.refl wr).alloc _).heap HH.out) h2; have d3 := (cell_of_row w1 g (m * 5 + 3) _ _ _ hb).trans HC3.out; have e3 := frozen_of_row w1 g (m * 5 + 3) _ _ hb; have HF := Lib.hid (Rcs.more HCD.out HNE.out rfl (show m * 5 + 3 = cf.length * 5 + 3 by rw [HM.out]) h1 h2); clear hb h1 h2))
    go_ret
    exact ⟨_, _, _, _, _, rfl, by rw [HM.out], HF.out⟩
end Go.Proofs.YtfblkahjefdmaaaDoor
