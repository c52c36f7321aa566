/- Walk: put of package format: parts that are no text. -/
import Derived.Test.YtfblkahjefdmaaaDoorFdK
namespace Go.Proofs.YtfblkahjefdmaaaDoor
open Go.RowKit

theorem lit_ext {w W : World} {ys : List Int} {g : Nat} {extra : Array Value} (h : w.heap[g]? = some (.cells ((ys.map (Value.int .i32)).toArray ++ extra) 21 (0, 0))) (hx : Ext w W) : ∀ j y, ys[j]? = some y → W.cell? ((⟨g, 0, none⟩ : Addr).add j) = some (.int .i32 y) := by
  intro j y hy
  have e : (⟨g, 0, none⟩ : Addr).add j = ⟨g, j, none⟩ := by unfold Addr.add; split <;> simp_all
  have hj : j < ys.length := (List.getElem?_eq_some_iff.1 hy).1
  rw [e, cell_of_row W g j _ _ _ (hx.heap h), Array.getElem?_append_left (by simpa using hj)]
  simp [hy]
theorem signs_pre {b : ByteArray} {l : List Int} (h : signs b = l) (a : ByteArray) : signs (a ++ b) = signs a ++ l := by rw [signs_append, h]
theorem dec_ascii (g : Int) (h0 : 0 ≤ g) (h1 : g ≤ 99) : ∀ x ∈ FM.dec g, x < 128 := by
  unfold FM.dec
  intro x hx
  split at hx
  · simp at hx; omega
  · simp at hx; omega

theorem name_ascii : ∀ k, k < 5 → ∀ x ∈ 58 :: 47 :: FM.names.getD k [], x < 128 := by decide
theorem name_bytes : ∀ k, k < 5 → signs (nbs.getD k ⟨#[]⟩) = FM.names.getD k [] := by decide
/-- The block of a text's signs, with the spare places behind. -/
def RB (ys : List Int) (cap : Nat) : Obj := .cells ((ys.map (Value.int .i32)).toArray ++ Array.replicate (cap - ys.length) (.int .i32 0)) 21
theorem rb_conv (b : ByteArray) (ys : List Int) (h : signs b = ys) (ha : ∀ x ∈ ys, x < 128) (hl : ys.length ≤ 100) (W : World) : (convert 9 22 (.string b)).run Tryd.prog W = .ok (.slice (some ⟨W.heap.size, 0, none⟩) ys.length (grownCap W ys.length 0 21)) (W.drew.alloc (RB ys (grownCap W ys.length 0 21))) := by
  have hru := runes_ascii b (by rw [h]; exact ha)
  rw [h] at hru
  have hlen : (Conv.runesFrom b b.size 0 #[]).size = ys.length := by rw [hru]; simp
  have kc := run_runes_of_string (P := Tryd.prog) W 9 22 21 b Tryd.underlying9 Tryd.underlying22 Tryd.underlying21 (by rw [hlen]; omega)
  rw [hlen, hru] at kc
  exact kc
theorem rb_at {w W : World} {ys : List Int} {cap g : Nat} (hg : g = w.heap.size) (hx : Ext (w.alloc (RB ys cap)) W) : ∀ j y, ys[j]? = some y → W.cell? ((⟨g, 0, none⟩ : Addr).add j) = some (.int .i32 y) := by
  subst hg
  exact lit_ext (heap_alloc_new w _) hx
/-- What stands ahead of a part's body. -/
def PreP (g : Int) : List Int := 36 :: 123 :: FM.dec g
theorem preP_len (g : Int) : (PreP g).length ≤ 4 := by have := FM.dec_len g; unfold PreP; simp only [List.length_cons]; omega

set_option maxRecDepth 100000 in
set_option maxHeartbeats 2000000 in
theorem put_other (w0 wr : World) (v vt ve : Value) (out : List Int) (f : FM.Form) (h : Acs w0 v out wr) (ht : SlC w0 vt f.text) (he : SlC w0 ve f.els) (hm : FM.may1 f = true) (hk : f.kind ≠ 0) (hb : out.length + 2 * f.text.length + 2 * f.els.length ≤ 35184372080000) :
    Calls Tryd.prog 33 #[v, .agg #[.int .i64 f.kind, .int .i64 f.group, .int .i64 f.cas, vt, ve]] wr (GrP w0 (out ++ FM.put f) wr) := by
  have HP := Lib.hid (show FM.put f = PreP f.group ++ (FM.body f ++ [125]) by unfold FM.put PreP; rw [if_neg hk]; rfl)
  obtain ⟨-, -, hg0, hg9, hc0, hc5, hkk⟩ := FM.may1_of hm
  have HKK := Lib.hid hkk
  obtain ⟨k, g, c, t, e⟩ := f
  dsimp only at ht he hk hb HP hg0 hg9 hc0 hc5 HKK ⊢
  have HTX := Lib.hid ht
  have HEX := Lib.hid he
  obtain ⟨G, rfl⟩ : ∃ G : Nat, g = G := ⟨g.toNat, by omega⟩
  have HI := Lib.hid (fun W => itoa_any G (by omega) W)
  have HDA := Lib.hid (dec_ascii G hg0 hg9)
  have HC0 := Lib.hid (show Pts w0 wr wr.heap.size [.int .i64 k, .int .i64 (G : Int), .int .i64 c, vt, ve] v out (wr.alloc (.cells #[.int .i64 k, .int .i64 (G : Int), .int .i64 c, vt, ve] 34)) from ⟨h.alloc, heap_alloc_new wr _, KeepT.of_ext ((Ext.refl wr).alloc _)⟩)
  obtain ⟨At, ct, rfl, -⟩ := ht
  obtain ⟨Ae, ce, rfl, -⟩ := he
  obtain ⟨Ao, co, rfl, -⟩ := h.own.form
  have b0 : (k == 0) = false := by simpa using hk
  have hpl := preP_len (G : Int)
  obtain ⟨nb, hnb⟩ : ∃ nb, nb = wr.heap.size := ⟨_, rfl⟩
  clear h hm hkk hk
  go_enter Tryd.func33, Tryd.ntmps33
  go_upto_region 3 with fail
  rw [← hnb] at HC0 ⊢
  clear hnb
  generalize wr.alloc (.cells #[.int .i64 k, .int .i64 (G : Int), .int .i64 c, .slice At t.length ct, .slice Ae e.length ce] 34) = w1 at HC0 ⊢
  have d1 := HC0.out.c 1 _ rfl
  go_upto_region 4 with (first
    | (go_at_call 48; go_loud (refine (HI.out _).mono ?_; rintro e' w2 ⟨b, rfl, hbb, rfl⟩; have hsz : b.size ≤ 2 := (by rw [← signs_len, hbb]; exact (FM.dec_len _).2); have hpre : signs ({ data := #[36, 123] } ++ b) = PreP G := signs_pre hbb _; have hru := runes_ascii ({ data := #[36, 123] } ++ b) (by rw [hpre]; intro x hx; simp only [PreP, List.mem_cons] at hx; rcases hx with rfl | rfl | hx; decide; decide; exact HDA.out x hx); rw [hpre] at hru; have hlen : (Conv.runesFrom ({ data := #[36, 123] } ++ b) ({ data := #[36, 123] } ++ b).size 0 #[]).size = (PreP G).length := (by rw [hru]; simp); have kc := run_runes_of_string (P := Tryd.prog) w1 9 22 21 ({ data := #[36, 123] } ++ b) Tryd.underlying9 Tryd.underlying22 Tryd.underlying21 (by rw [hlen]; omega); rw [hlen, hru] at kc; have hcm := grownCap_le_maxLen w1 (PreP G).length 0 21 (by unfold maxLen; omega); unfold maxLen at hcm; generalize grownCap w1 (PreP G).length 0 21 = cap at kc hcm; have hnew := heap_alloc_new w1.drew (.cells (((PreP G).map (Value.int .i32)).toArray ++ Array.replicate (cap - (PreP G).length) (.int .i32 0)) 21); have hex : Ext w1 (w1.drew.alloc (.cells (((PreP G).map (Value.int .i32)).toArray ++ Array.replicate (cap - (PreP G).length) (.int .i32 0)) 21)) := ((Ext.refl w1).drew).alloc _; generalize w1.drew.alloc (.cells (((PreP G).map (Value.int .i32)).toArray ++ Array.replicate (cap - (PreP G).length) (.int .i32 0)) 21) = w2 at kc hnew hex; have HLIT := Lib.hid (lit_ext (w := w2) (W := w2) (ys := PreP G) hnew (Ext.refl _)); have HC2 := Lib.hid (HC0.out.ext_ hex); generalize hpg : PreP G = pre at *; have HPG := Lib.hid hpg; clear hbb hpre hru hlen hnew hex d1 hpg))
    | (at_builtin; go_loud (refine app_i32 rfl _ _ rfl w0.heap.size _ out pre HC2.out.acs.own rfl ⟨w1.heap.size, 0, none⟩ _ _ rfl rfl HLIT.out ?hn HC2.out.acs.size ?_; (case hn => omega); intro v3 w3 h1 h2; generalize hl : out ++ pre = out3 at h1; have HL3 := Lib.hid hl; have hl3 : out3.length ≤ out.length + 4 := (by rw [← hl, List.length_append]; omega); obtain ⟨A3, c3, rfl, -⟩ := h1.form; have HC3 := Lib.hid (HC2.out.app h1 h2); clear h1 h2 hl kc)))
  clear hpl
  have d0 := HC3.out.c 0 _ rfl
  rcases HKK.out with ⟨h0, -⟩ | ⟨h1, ht, he⟩ | ⟨h2, he, hc⟩ | ⟨h3, ht, hc⟩ | ⟨h4, hc⟩
  · subst h0; cases b0
  · subst h1
    by_cases hcz : c = 0
    · have HBD := Lib.hid (show FM.body ⟨1, G, c, t, e⟩ = [] by unfold FM.body; rw [if_pos rfl, if_pos hcz])
      have b1 : (c != 0) = false := by simp [hcz]
      have d2 := HC3.out.c 2 _ rfl
      clear ht he hcz
      go_wp2_with (at_builtin; go_loud (refine app_i32 rfl _ _ rfl w0.heap.size _ (out3) [125] (Acs.alloc HC3.out.acs).own rfl ⟨w3.heap.size, 0, none⟩ 1 1 rfl rfl (one_cells rfl) ?hn ?hB ?_; (case hn => (simp only [List.length_cons, List.length_nil]; omega)); (case hB => exact (Acs.alloc HC3.out.acs).size); intro v9 w9 h1 h2; generalize hl : (out3) ++ [125] = out9 at h1; have HL9 := Lib.hid hl; clear hl; have HC9 := Lib.hid (Pts.app (HC3.out.ext_ ((Ext.refl _).alloc _)) h1 h2); obtain ⟨A9, c9, rfl, -⟩ := h1.form; clear h1 h2))
      go_ret
      have hfin : out ++ FM.put ⟨1, G, c, t, e⟩ = out9 := by rw [← HL9.out, HP.out, ← HL3.out, ← HPG.out, HBD.out]; simp
      rw [hfin]
      exact ⟨_, _, rfl, HC9.out.acs, HC9.out.keep⟩
    · have HBD := Lib.hid (show FM.body ⟨1, G, c, t, e⟩ = 58 :: 47 :: FM.names.getD (c.toNat - 1) [] by unfold FM.body; rw [if_pos rfl, if_neg hcz])
      have b1 : (c != 0) = true := by simpa using hcz
      have d2 := HC3.out.c 2 _ rfl
      have hbs := heap_lt HC3.out.box
      obtain ⟨q, hq⟩ : ∃ q, c.toNat - 1 = q := ⟨_, rfl⟩
      have hq5 : q < 5 := by omega
      obtain rfl : c = (q : Int) + 1 := by omega
      rw [hq] at HBD
      have hnl := nb_len q hq5
      have hnl2 := name_len q hq5
      obtain ⟨ys, hys⟩ : ∃ ys, ys = 58 :: 47 :: FM.names.getD q [] := ⟨_, rfl⟩
      have hyl : ys.length ≤ 12 := by rw [hys]; simp only [List.length_cons]; omega
      have hyp : 0 < ys.length := by rw [hys]; simp
      have kc := rb_conv ({ data := #[58, 47] } ++ nbs.getD q ⟨#[]⟩) ys (by rw [signs_append, name_bytes q hq5, hys]; rfl) (by rw [hys]; exact name_ascii q hq5) (by omega)
      have HYS := Lib.hid hys
      have hcs : (nbs.map Value.string).toArray[q]? = some (.string (nbs.getD q ⟨#[]⟩)) := by simp [List.getD_eq_getElem?_getD, show q < nbs.length from hq5]
      have HCS := Lib.hid hcs
      have ew : IntKind.i64.wrap (q : Int) = (q : Int) := IntWalk.i64_in _ (by omega)
      have hqi : (q : Int) < 5 := by omega
      generalize nbs.getD q ⟨#[]⟩ = nq at hnl kc HCS
      have hnl3 : ¬ 9223372036854775807 < 2 + nq.size := by omega
      have HNM := Lib.hid names_any
      clear ht he hcz hq hys hcs hnl2
      go_upto_region 7 with fail
      go_region_law (first
        | (refine step_i32 rfl _ _ (by rfl) w0.heap.size _ out3 ys ?hown (by rfl) ⟨w4.heap.size, 0, none⟩ ys.length _ (by rfl) rfl hyp ?hc ?hn ?hB ?_; (case hown => exact (HC4.out.ext_ (by (focus (repeat (first | exact Ext.refl _ | apply Ext.drew | apply Ext.alloc))))).acs.own); (case hc => exact rb_at (w := w4) rfl (by (focus (repeat (first | exact Ext.refl _ | apply Ext.drew | apply Ext.alloc))))); (case hn => omega); (case hB => exact (HC4.out.ext_ (by (focus (repeat (first | exact Ext.refl _ | apply Ext.drew | apply Ext.alloc))))).acs.size); intro gg cap w5 h1 h2; generalize hl : out3 ++ ys = out5 at h1; have HL5 := Lib.hid hl; have hl5 : out5.length ≤ out3.length + 12 := (by rw [← hl, List.length_append]; omega); have HC5 := Lib.hid ((HC4.out.ext_ (by (focus (repeat (first | exact Ext.refl _ | apply Ext.drew | apply Ext.alloc))))).app h1 h2); clear h1 h2 hl)
        | (go_simp; go_at_call 49; refine (HNM.out _).mono ?_; rintro e' w4 ⟨rfl, hw⟩; have hx4 : Ext w3 w4 := (by rw [hw]; exact ((Ext.refl w3).drew).alloc _); have hb4 := (show w4.heap[w3.heap.size]? = some (.cells (nbs.map Value.string).toArray 9 (0, 0)) from (by rw [hw]; exact heap_alloc_new w3.drew _)); have hcl := (cell_of_row w4 w3.heap.size q _ _ _ hb4).trans HCS.out; have HC4 := Lib.hid (HC3.out.ext_ hx4); have d2 := HC4.out.c 2 _ rfl; clear hw hx4 hb4))
      all_goals
        clear kc ew
        go_wp2_with (at_builtin; go_loud (refine app_i32 rfl _ _ rfl w0.heap.size _ (out5) [125] (Acs.alloc HC5.out.acs).own rfl ⟨w5.heap.size, 0, none⟩ 1 1 rfl rfl (one_cells rfl) ?hn ?hB ?_; (case hn => (simp only [List.length_cons, List.length_nil]; omega)); (case hB => exact (Acs.alloc HC5.out.acs).size); intro v9 w9 h1 h2; generalize hl : (out5) ++ [125] = out9 at h1; have HL9 := Lib.hid hl; clear hl; have HC9 := Lib.hid (Pts.app (HC5.out.ext_ ((Ext.refl _).alloc _)) h1 h2); obtain ⟨A9, c9, rfl, -⟩ := h1.form; clear h1 h2))
        go_ret
        have hfin : out ++ FM.put ⟨1, G, (q : Int) + 1, t, e⟩ = out9 := by rw [← HL9.out, HP.out, ← HL5.out, HYS.out,← HL3.out, ← HPG.out, HBD.out]; simp
        rw [hfin]
        exact ⟨_, _, rfl, HC9.out.acs, HC9.out.keep⟩
  · skip
    subst h2
    have HBD := Lib.hid (show FM.body ⟨2, G, c, t, e⟩ = 58 :: 43 :: FM.guard FM.marks t from rfl)
    clear he hc
    go_upto_region 9 with fail
    have HD4 := Lib.hid (HC3.out.ext_ (((Ext.refl w3).alloc (.cells #[.int .i32 58, .int .i32 43] 21)).drew))
    have d3 := HC3.out.c 3 _ rfl
    have hbs := heap_lt HC3.out.box
    have hlt4 : (out3 ++ [58, 43]).length ≤ out3.length + 2 := by rw [List.length_append]; simp only [List.length_cons, List.length_nil]; omega
    go_region_law (first
      | (refine step_i32 rfl _ _ (by rfl) w0.heap.size _ out3 [58, 43] HD4.out.acs.own (by rfl) ⟨w3.heap.size, 0, none⟩ 2 2 (by rfl) rfl (by decide) (lit_at (ys := [58, 43]) (heap_alloc_new w3 _)) (by simp only [List.length_cons, List.length_nil]; omega) HD4.out.acs.size ?_; intro gg cap w4 h1 h2; have HL4 := Lib.hid (And.intro h1 h2); have HC4 := Lib.hid (HD4.out.app h1 h2); have d3 := HC4.out.c 3 _ rfl; have hbs := heap_lt HC4.out.box; clear h1 h2)
      | (go_simp; go_at_call 47; refine (guarded_any FM.marks _ among_marks w0 _ _ _ (out3 ++ [58, 43]) t HC4.out.acs HTX.out (by omega)).mono ?_; rintro e' w5 ⟨A5, c5, he, h1, h2⟩; generalize hl : (out3 ++ [58, 43]) ++ FM.guard FM.marks t = out5 at he h1; have hl5 : out5.length ≤ (out3 ++ [58, 43]).length + 2 * (t).length := (by rw [← hl, List.length_append]; have := guard_bound FM.marks t; omega); have HLO5 := Lib.hid hl; subst he; clear hl; have HC5 := Lib.hid (HC4.out.grp h1 h2); clear h1 h2))
    all_goals
      go_wp2_with (at_builtin; go_loud (refine app_i32 rfl _ _ rfl w0.heap.size _ (out5) [125] (Acs.alloc HC5.out.acs).own rfl ⟨w5.heap.size, 0, none⟩ 1 1 rfl rfl (one_cells rfl) ?hn ?hB ?_; (case hn => (simp only [List.length_cons, List.length_nil]; omega)); (case hB => exact (Acs.alloc HC5.out.acs).size); intro v9 w9 h1 h2; generalize hl : (out5) ++ [125] = out9 at h1; have HL9 := Lib.hid hl; clear hl; have HC9 := Lib.hid (Pts.app (HC5.out.ext_ ((Ext.refl _).alloc _)) h1 h2); obtain ⟨A9, c9, rfl, -⟩ := h1.form; clear h1 h2))
      go_ret
      have hfin : out ++ FM.put ⟨2, G, c, t, e⟩ = out9 := by rw [← HL9.out, HP.out, ← HLO5.out,← HL3.out, ← HPG.out, HBD.out]; simp
      rw [hfin]
      exact ⟨_, _, rfl, HC9.out.acs, HC9.out.keep⟩
  · subst h3
    have HBD := Lib.hid (show FM.body ⟨3, G, c, t, e⟩ = 58 :: 45 :: FM.guard FM.marks e from rfl)
    clear ht hc
    go_upto_region 11 with fail
    have HD4 := Lib.hid (HC3.out.ext_ (((Ext.refl w3).alloc (.cells #[.int .i32 58, .int .i32 45] 21)).drew))
    have d3 := HC3.out.c 4 _ rfl
    have hbs := heap_lt HC3.out.box
    have hlt4 : (out3 ++ [58, 45]).length ≤ out3.length + 2 := by rw [List.length_append]; simp only [List.length_cons, List.length_nil]; omega
    go_region_law (first
      | (refine step_i32 rfl _ _ (by rfl) w0.heap.size _ out3 [58, 45] HD4.out.acs.own (by rfl) ⟨w3.heap.size, 0, none⟩ 2 2 (by rfl) rfl (by decide) (lit_at (ys := [58, 45]) (heap_alloc_new w3 _)) (by simp only [List.length_cons, List.length_nil]; omega) HD4.out.acs.size ?_; intro gg cap w4 h1 h2; have HL4 := Lib.hid (And.intro h1 h2); have HC4 := Lib.hid (HD4.out.app h1 h2); have d3 := HC4.out.c 4 _ rfl; have hbs := heap_lt HC4.out.box; clear h1 h2)
      | (go_simp; go_at_call 47; refine (guarded_any FM.marks _ among_marks w0 _ _ _ (out3 ++ [58, 45]) e HC4.out.acs HEX.out (by omega)).mono ?_; rintro e' w5 ⟨A5, c5, he, h1, h2⟩; generalize hl : (out3 ++ [58, 45]) ++ FM.guard FM.marks e = out5 at he h1; have hl5 : out5.length ≤ (out3 ++ [58, 45]).length + 2 * (e).length := (by rw [← hl, List.length_append]; have := guard_bound FM.marks e; omega); have HLO5 := Lib.hid hl; subst he; clear hl; have HC5 := Lib.hid (HC4.out.grp h1 h2); clear h1 h2))
    all_goals
      go_wp2_with (at_builtin; go_loud (refine app_i32 rfl _ _ rfl w0.heap.size _ (out5) [125] (Acs.alloc HC5.out.acs).own rfl ⟨w5.heap.size, 0, none⟩ 1 1 rfl rfl (one_cells rfl) ?hn ?hB ?_; (case hn => (simp only [List.length_cons, List.length_nil]; omega)); (case hB => exact (Acs.alloc HC5.out.acs).size); intro v9 w9 h1 h2; generalize hl : (out5) ++ [125] = out9 at h1; have HL9 := Lib.hid hl; clear hl; have HC9 := Lib.hid (Pts.app (HC5.out.ext_ ((Ext.refl _).alloc _)) h1 h2); obtain ⟨A9, c9, rfl, -⟩ := h1.form; clear h1 h2))
      go_ret
      have hfin : out ++ FM.put ⟨3, G, c, t, e⟩ = out9 := by rw [← HL9.out, HP.out, ← HLO5.out,← HL3.out, ← HPG.out, HBD.out]; simp
      rw [hfin]
      exact ⟨_, _, rfl, HC9.out.acs, HC9.out.keep⟩
  · subst h4
    have HBD := Lib.hid (show FM.body ⟨4, G, c, t, e⟩ = 58 :: 63 :: (FM.guard FM.marks t ++ 58 :: FM.guard FM.marks e) from rfl)
    clear hc
    go_upto_region 13 with fail
    have HD4 := Lib.hid (HC3.out.ext_ (((Ext.refl w3).alloc (.cells #[.int .i32 58, .int .i32 63] 21)).drew))
    have d3 := HC3.out.c 3 _ rfl
    have hbs := heap_lt HC3.out.box
    have hlt4 : (out3 ++ [58, 63]).length ≤ out3.length + 2 := by rw [List.length_append]; simp only [List.length_cons, List.length_nil]; omega
    go_region_law (first
      | (refine step_i32 rfl _ _ (by rfl) w0.heap.size _ out3 [58, 63] HD4.out.acs.own (by rfl) ⟨w3.heap.size, 0, none⟩ 2 2 (by rfl) rfl (by decide) (lit_at (ys := [58, 63]) (heap_alloc_new w3 _)) (by simp only [List.length_cons, List.length_nil]; omega) HD4.out.acs.size ?_; intro gg cap w4 h1 h2; have HL4 := Lib.hid (And.intro h1 h2); have HC4 := Lib.hid (HD4.out.app h1 h2); have d3 := HC4.out.c 3 _ rfl; have hbs := heap_lt HC4.out.box; clear h1 h2)
      | (go_simp; go_at_call 47; refine (guarded_any FM.marks _ among_marks w0 _ _ _ (out3 ++ [58, 63]) t HC4.out.acs HTX.out (by omega)).mono ?_; rintro e' w5 ⟨A5, c5, he, h1, h2⟩; generalize hl : (out3 ++ [58, 63]) ++ FM.guard FM.marks t = out5 at he h1; have hl5 : out5.length ≤ (out3 ++ [58, 63]).length + 2 * (t).length := (by rw [← hl, List.length_append]; have := guard_bound FM.marks t; omega); have HLO5 := Lib.hid hl; subst he; clear hl; have HC5 := Lib.hid (HC4.out.grp h1 h2); clear h1 h2))
    all_goals
      go_upto_region 14 with fail
      have HD6 := Lib.hid (HC5.out.ext_ (((Ext.refl w5).alloc (.cells #[.int .i32 58] 21)).drew))
      have d3 := HC5.out.c 4 _ rfl
      have hbs := heap_lt HC5.out.box
      have hlt6 : (out5 ++ [58]).length ≤ out5.length + 1 := by rw [List.length_append]; simp only [List.length_cons, List.length_nil]; omega
      go_region_law (first
        | (refine step_i32 rfl _ _ (by rfl) w0.heap.size _ out5 [58] HD6.out.acs.own (by rfl) ⟨w5.heap.size, 0, none⟩ 1 1 (by rfl) rfl (by decide) (lit_at (ys := [58]) (heap_alloc_new w5 _)) (by simp only [List.length_cons, List.length_nil]; omega) HD6.out.acs.size ?_; intro gg cap w6 h1 h2; have HL6 := Lib.hid (And.intro h1 h2); have HC6 := Lib.hid (HD6.out.app h1 h2); have d3 := HC6.out.c 4 _ rfl; have hbs := heap_lt HC6.out.box; clear h1 h2)
        | (go_simp; go_at_call 47; refine (guarded_any FM.marks _ among_marks w0 _ _ _ (out5 ++ [58]) e HC6.out.acs HEX.out (by omega)).mono ?_; rintro e' w7 ⟨A7, c7, he, h1, h2⟩; generalize hl : (out5 ++ [58]) ++ FM.guard FM.marks e = out7 at he h1; have hl7 : out7.length ≤ (out5 ++ [58]).length + 2 * (e).length := (by rw [← hl, List.length_append]; have := guard_bound FM.marks e; omega); have HLO7 := Lib.hid hl; subst he; clear hl; have HC7 := Lib.hid (HC6.out.grp h1 h2); clear h1 h2))
      all_goals
        go_wp2_with (at_builtin; go_loud (refine app_i32 rfl _ _ rfl w0.heap.size _ (out7) [125] (Acs.alloc HC7.out.acs).own rfl ⟨w7.heap.size, 0, none⟩ 1 1 rfl rfl (one_cells rfl) ?hn ?hB ?_; (case hn => (simp only [List.length_cons, List.length_nil]; omega)); (case hB => exact (Acs.alloc HC7.out.acs).size); intro v9 w9 h1 h2; generalize hl : (out7) ++ [125] = out9 at h1; have HL9 := Lib.hid hl; clear hl; have HC9 := Lib.hid (Pts.app (HC7.out.ext_ ((Ext.refl _).alloc _)) h1 h2); obtain ⟨A9, c9, rfl, -⟩ := h1.form; clear h1 h2))
        go_ret
        have hfin : out ++ FM.put ⟨4, G, c, t, e⟩ = out9 := by rw [← HL9.out, HP.out, ← HLO7.out, ← HLO5.out,← HL3.out, ← HPG.out, HBD.out]; simp
        rw [hfin]
        exact ⟨_, _, rfl, HC9.out.acs, HC9.out.keep⟩
end Go.Proofs.YtfblkahjefdmaaaDoor
