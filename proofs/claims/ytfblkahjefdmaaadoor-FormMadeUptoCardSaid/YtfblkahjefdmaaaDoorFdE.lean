/- Walks: inner of package format: what stands behind a part's number and :. -/
import Derived.Test.YtfblkahjefdmaaaDoorFdD
import Derived.Test.YtfblkahjefdmaaaDoorFdT
namespace Go.Proofs.YtfblkahjefdmaaaDoor
open Go.RowKit

namespace FM
theorem text_le (e : Int) : ∀ (n : Nat) (l : List Int) (t : List Int) (k : Nat), l.length ≤ n → text e l = some (t, k) → 1 ≤ k ∧ k ≤ l.length
  | _, [], t, k, _, h => by cases h
  | _, [c], t, k, _, h => by
    rw [text] at h
    split at h
    · injection h with h; injection h with h1 h2; subst h1 h2; exact ⟨Nat.le_refl _, by simp⟩
    · cases h
  | 0, _ :: _ :: _, _, _, hn, _ => by simp at hn
  | n + 1, c :: d :: r, t, k, hn, h => by
    rw [text] at h
    split at h
    · rw [Option.map_eq_some_iff] at h
      obtain ⟨⟨t', k'⟩, h1, h2⟩ := h
      injection h2 with h2 h3
      subst h2 h3
      have := text_le e n r t' k' (by simp at hn; omega) h1
      exact ⟨by omega, by simp; omega⟩
    split at h
    · injection h with h; injection h with h1 h2; subst h1 h2; exact ⟨Nat.le_refl _, by simp⟩
    · rw [Option.map_eq_some_iff] at h
      obtain ⟨⟨t', k'⟩, h1, h2⟩ := h
      injection h2 with h2 h3
      subst h2 h3
      have := text_le e n (d :: r) t' k' (by simp at hn ⊢; omega) h1
      exact ⟨by omega, by have := this.2; simp at this ⊢; omega⟩
end FM
theorem txt_le {e : Int} {s t : List Int} {i k : Nat} (h : txt e s i = some (t, k)) (hi : i ≤ s.length) : i ≤ k ∧ k ≤ s.length := by
  unfold txt at h
  rw [Option.map_eq_some_iff] at h
  obtain ⟨⟨t', k'⟩, h1, h2⟩ := h
  injection h2 with h2 h3
  have := FM.text_le _ _ _ _ _ (Nat.le_refl _) h1
  rw [List.length_drop] at this
  simp only at h3; omega

def innA (g : Int) (s : List Int) (i : Nat) : Option (FM.Form × Nat) := (FM.inner g (s.drop i)).map fun p => (p.1, i + p.2)
section
variable {g : Int} {s : List Int} {i : Nat}
theorem inn_47 (h : s[i]? = some 47) : innA g s i = (FM.cased (s.drop (i + 1))).map fun p => (⟨1, g, p.1, [], []⟩, i + 1 + p.2) := by
  unfold innA FM.inner
  rw [List.head?_drop, if_pos h, List.tail_drop, Option.map_map]
  congr 1; funext p; simp; omega
theorem inn_43 (h : s[i]? = some 43) : innA g s i = (txt 125 s (i + 1)).map fun p => (⟨2, g, 0, p.1, []⟩, p.2) := by
  unfold innA FM.inner txt
  rw [List.head?_drop, h, if_neg (by decide), if_pos rfl, List.tail_drop, Option.map_map, Option.map_map]
  congr 1; funext p; simp; omega
theorem inn_63 (h : s[i]? = some 63) : innA g s i = (txt 58 s (i + 1)).bind fun p => (txt 125 s p.2).map fun q => (⟨4, g, 0, p.1, q.1⟩, q.2) := by
  unfold innA FM.inner txt
  rw [List.head?_drop, h, if_neg (by decide), if_neg (by decide), if_pos rfl, List.tail_drop]
  cases hq : FM.text 58 (s.drop (i + 1)) with
  | none => rfl
  | some p =>
    simp only [Option.map_some, Option.bind_some, List.drop_drop]
    rw [Option.map_map, Option.map_map]
    congr 1; funext q; simp; omega
theorem inn_45 (h : s[i]? = some 45) : innA g s i = (txt 125 s (i + 1)).map fun p => (⟨3, g, 0, [], p.1⟩, p.2) := by
  unfold innA FM.inner txt
  rw [List.head?_drop, h, if_neg (by decide), if_neg (by decide), if_neg (by decide), if_pos rfl, List.tail_drop, Option.map_map, Option.map_map]
  congr 1; funext p; simp; omega
theorem inn_no (h1 : s[i]? ≠ some 47) (h2 : s[i]? ≠ some 43) (h3 : s[i]? ≠ some 63) (h4 : s[i]? ≠ some 45) : innA g s i = (txt 125 s i).map fun p => (⟨3, g, 0, [], p.1⟩, p.2) := by
  unfold innA FM.inner txt
  rw [List.head?_drop, if_neg h1, if_neg h2, if_neg h3, if_neg h4, Option.map_map, Option.map_map]
  rfl
end
/-- The cells of a format's part; its texts lie in blocks from B on. -/
def CF (B : Nat) (w : World) (cs : List Value) (f : FM.Form) : Prop :=
  ∃ vt ve, cs = [.int .i64 f.kind, .int .i64 f.group, .int .i64 f.cas, vt, ve] ∧ SlB 21 1 Cc B w vt f.text ∧ SlB 21 1 Cc B w ve f.els
/-- A part and the place behind it, or none. -/
def FormP (R : Option (FM.Form × Nat)) (w : World) (e : Ending) (w' : World) : Prop :=
  Ext w w' ∧ ((∃ f k cs, R = some (f, k) ∧ e = .returned (.tuple #[.agg cs.toArray, .int .i64 (k : Int), .bool true]) ∧ CF w.heap.size w' cs f) ∨
    (R = none ∧ ∃ (k g c n : Int) (A A' : Option Addr) (l m l' m' : Nat), e = .returned (.tuple #[.agg #[.int .i64 k, .int .i64 g, .int .i64 c, .slice A l m, .slice A' l' m'], .int .i64 n, .bool false])))

/-- As TextP, the slice spelled out. -/
def TextF (R : Option (List Int × Nat)) (w : World) (en : Ending) (w' : World) : Prop :=
  Ext w w' ∧ ((∃ t k A c, R = some (t, k) ∧ en = .returned (.tuple #[.slice A t.length c, .int .i64 (k : Int), .bool true]) ∧ SlB 21 1 Cc w.heap.size w' (.slice A t.length c) t) ∨ (R = none ∧ en = .returned (.tuple #[.slice none 0 0, .int .i64 0, .bool false])))
theorem TextP.form {R : Option (List Int × Nat)} {w w' : World} {en : Ending} (h : TextP R w en w') : TextF R w en w' := by
  refine ⟨h.1, ?_⟩
  rcases h.2 with ⟨t, k, v, h1, h2, h3⟩ | h3
  · obtain ⟨A, c, rfl, _⟩ := h3.form
    exact .inl ⟨t, k, A, c, h1, h2, h3.sl⟩
  · exact .inr h3
theorem Ext.setn {w W : World} {o : Nat} {u : Value} (h : Ext w W) : Ext w (W.setCell ⟨w.heap.size, o, none⟩ u) := h.set (Nat.le_refl _) u
theorem CF.mkW {w2 W : World} {nb B : Nat} {cur : Array Value} {k g c : Int} {vt ve : Value} {t e : List Int} (hb : w2.heap[nb]? = some (.cells cur 34 (0, 0))) (ho : Only w2 W nb) (ht : SlB 21 1 Cc B w2 vt t) (he : SlB 21 1 Cc B w2 ve e) :
    CF B W [.int .i64 k, .int .i64 g, .int .i64 c, vt, ve] ⟨k, g, c, t, e⟩ :=
  ⟨vt, ve, rfl, ht.keep (keeps_c []) (ho.keepT hb (by decide)) (ho.keepT hb (by decide)), he.keep (keeps_c []) (ho.keepT hb (by decide)) (ho.keepT hb (by decide))⟩

set_option maxRecDepth 100000 in
set_option maxHeartbeats 1000000 in
theorem inner_any (s : List Int) (vs : Value) (i : Nat) (g : Int) (w : World) (hs : SlC w vs s) (hsl : s.length ≤ 35184372088832) (hi : i ≤ s.length) :
    Calls Tryd.prog 54 #[vs, .int .i64 (i : Int), .int .i64 g] w (FormP (innA g s i) w) := by
  have H := Lib.hid hs
  obtain ⟨A, ca, rfl, hlx, hcx, -⟩ := hs
  obtain ⟨R, hR⟩ : ∃ R, innA g s i = R := ⟨_, rfl⟩
  rw [hR]
  have HR := Lib.hid hR
  clear hR
  have HTX := Lib.hid (fun (e : Int) (he : e ≠ 92) (j : Nat) (hj : j ≤ s.length) (W : World) (hW : Ext w W) => (text_any e he s _ j W (H.out.ext hW) hsl hj).mono fun _ _ h => h.form)
  have HCS := Lib.hid (fun (j : Nat) (hj : j ≤ s.length) (W : World) (hW : Ext w W) => cased_any s _ j W (H.out.ext hW) hj)
  by_cases hlt : i < s.length
  · obtain ⟨b, o, rfl, hc⟩ := H.out.at_ hlt
    have hget := List.getElem?_eq_getElem hlt
    have hbl := World.block_lt_of_cell? _ _ hc
    generalize s[i] = x at hc hget
    have hli : ((i + 1 : Nat) : Int) = (i : Int) + 1 := by omega
    by_cases h47 : x = 47
    · subst h47
      have HQ := Lib.hid (inn_47 (g := g) hget)
      clear hget
      go_enter Tryd.func54, Tryd.ntmps54
      go_wp2_with (go_at_call 60; go_loud (refine (HCS.out (i + 1) (by omega) _ ((Ext.refl w).alloc _)).mono ?_; rintro e w2 ⟨hx, hx2⟩; have hb := hx.heap (heap_alloc_new w _); have d0 := cell_of_row w2 w.heap.size 0 _ _ _ hb; have d1 := cell_of_row w2 w.heap.size 1 _ _ _ hb; have d2 := cell_of_row w2 w.heap.size 2 _ _ _ hb; have d3 := cell_of_row w2 w.heap.size 3 _ _ _ hb; have d4 := cell_of_row w2 w.heap.size 4 _ _ _ hb; have f0 := frozen_of_row w2 w.heap.size 0 _ _ hb; have f1 := frozen_of_row w2 w.heap.size 1 _ _ hb; have f2 := frozen_of_row w2 w.heap.size 2 _ _ hb; have f3 := frozen_of_row w2 w.heap.size 3 _ _ hb; have f4 := frozen_of_row w2 w.heap.size 4 _ _ hb; have HB := Lib.hid hb; have HX := Lib.hid hx; clear hb hx; rcases hx2 with ⟨n, k, hq, rfl⟩ | ⟨hq, rfl⟩))
      · refine bodyPost_ret (v := .tuple #[.agg #[.int .i64 1, .int .i64 g, .int .i64 n, .slice none 0 0, .slice none 0 0], .int .i64 ((i : Int) + 1 + (k : Int)), .bool true]) (by simp [results, Tryd.results54, go_sem, d0, d1, d2, d3, d4]) rfl ?_
        exact ⟨by (focus (repeat (first | apply Ext.setn | exact ((Ext.refl w).alloc _).trans HX.out))), .inl ⟨⟨1, g, n, [], []⟩, i + 1 + k, [.int .i64 1, .int .i64 g, .int .i64 n, .slice none 0 0, .slice none 0 0], by rw [← HR.out, HQ.out, hq]; rfl, by congr 3, CF.mkW HB.out (by (focus (repeat (first | apply Only.set | exact Only.refl _ _)))) SlB.nil_ SlB.nil_⟩⟩
      · refine bodyPost_ret (v := .tuple #[.agg #[.int .i64 1, .int .i64 g, .int .i64 0, .slice none 0 0, .slice none 0 0], .int .i64 0, .bool false]) (by simp [results, Tryd.results54, go_sem, d0, d1, d2, d3, d4]) rfl ?_
        exact ⟨by (focus (repeat (first | apply Ext.setn | exact ((Ext.refl w).alloc _).trans HX.out))), .inr ⟨by rw [← HR.out, HQ.out, hq]; rfl, _, _, _, _, _, _, _, _, _, _, rfl⟩⟩
    by_cases h43 : x = 43
    · subst h43
      have HQ := Lib.hid (inn_43 (g := g) hget)
      clear hget h47
      go_enter Tryd.func54, Tryd.ntmps54
      go_wp2_with (go_at_call 61; go_loud (refine (HTX.out 125 (by decide) (i + 1) (by omega) _ ((Ext.refl w).alloc _)).mono ?_; rintro e w2 ⟨hx, hx2⟩; have hb := hx.heap (heap_alloc_new w _); have d0 := cell_of_row w2 w.heap.size 0 _ _ _ hb; have d1 := cell_of_row w2 w.heap.size 1 _ _ _ hb; have d2 := cell_of_row w2 w.heap.size 2 _ _ _ hb; have d3 := cell_of_row w2 w.heap.size 3 _ _ _ hb; have d4 := cell_of_row w2 w.heap.size 4 _ _ _ hb; have f0 := frozen_of_row w2 w.heap.size 0 _ _ hb; have f1 := frozen_of_row w2 w.heap.size 1 _ _ hb; have f2 := frozen_of_row w2 w.heap.size 2 _ _ hb; have f3 := frozen_of_row w2 w.heap.size 3 _ _ hb; have f4 := frozen_of_row w2 w.heap.size 4 _ _ hb; have HB := Lib.hid hb; have HX := Lib.hid hx; clear hb hx; rcases hx2 with ⟨t, k, At, ct, hq, rfl, hv⟩ | ⟨hq, rfl⟩))
      · refine bodyPost_ret (v := .tuple #[.agg #[.int .i64 2, .int .i64 g, .int .i64 0, .slice At t.length ct, .slice none 0 0], .int .i64 (k : Int), .bool true]) (by simp [results, Tryd.results54, go_sem, d0, d1, d2, d3, d4]) rfl ?_
        exact ⟨by (focus (repeat (first | apply Ext.setn | exact ((Ext.refl w).alloc _).trans HX.out))), .inl ⟨⟨2, g, 0, t, []⟩, k, [.int .i64 2, .int .i64 g, .int .i64 0, .slice At t.length ct, .slice none 0 0], by rw [← HR.out, HQ.out, hq]; rfl, rfl, CF.mkW HB.out (by (focus (repeat (first | apply Only.set | exact Only.refl _ _)))) (hv.weaken (by simp)) SlB.nil_⟩⟩
      · refine bodyPost_ret (v := .tuple #[.agg #[.int .i64 2, .int .i64 g, .int .i64 0, .slice none 0 0, .slice none 0 0], .int .i64 0, .bool false]) (by simp [results, Tryd.results54, go_sem, d0, d1, d2, d3, d4]) rfl ?_
        exact ⟨by (focus (repeat (first | apply Ext.setn | exact ((Ext.refl w).alloc _).trans HX.out))), .inr ⟨by rw [← HR.out, HQ.out, hq]; rfl, _, _, _, _, _, _, _, _, _, _, rfl⟩⟩
    by_cases h63 : x = 63
    · subst h63
      have HQ := Lib.hid (inn_63 (g := g) hget)
      clear hget h47 h43
      obtain ⟨T1, hT1⟩ : ∃ T, txt 58 s (i + 1) = T := ⟨_, rfl⟩
      have HT1 := Lib.hid hT1
      go_enter Tryd.func54, Tryd.ntmps54
      have tok1 : True := trivial
      cases T1 with
      | none =>
        go_wp2_with (go_at_call 61; go_loud (refine (HTX.out 58 (by decide) (i + 1) (by omega) _ ((Ext.refl w).alloc _)).mono ?_; rw [HT1.out]; rintro e w2 ⟨hx, hx2⟩; have hb := hx.heap (heap_alloc_new w _); have d0 := cell_of_row w2 w.heap.size 0 _ _ _ hb; have d1 := cell_of_row w2 w.heap.size 1 _ _ _ hb; have d2 := cell_of_row w2 w.heap.size 2 _ _ _ hb; have d3 := cell_of_row w2 w.heap.size 3 _ _ _ hb; have d4 := cell_of_row w2 w.heap.size 4 _ _ _ hb; have f0 := frozen_of_row w2 w.heap.size 0 _ _ hb; have f1 := frozen_of_row w2 w.heap.size 1 _ _ hb; have f2 := frozen_of_row w2 w.heap.size 2 _ _ hb; have f3 := frozen_of_row w2 w.heap.size 3 _ _ hb; have f4 := frozen_of_row w2 w.heap.size 4 _ _ hb; have HB := Lib.hid hb; have HX := Lib.hid hx; clear hb hx; rcases hx2 with ⟨t, k, At, ct, hq, rfl, hv⟩ | ⟨hq, rfl⟩; (exact absurd hq (by simp))))
        refine bodyPost_ret (v := .tuple #[.agg #[.int .i64 4, .int .i64 g, .int .i64 0, .slice none 0 0, .slice none 0 0], .int .i64 0, .bool false]) (by simp [results, Tryd.results54, go_sem, d0, d1, d2, d3, d4]) rfl ?_
        exact ⟨by (focus (repeat (first | apply Ext.setn | exact ((Ext.refl w).alloc _).trans HX.out))), .inr ⟨by rw [← HR.out, HQ.out, HT1.out]; rfl, _, _, _, _, _, _, _, _, _, _, rfl⟩⟩
      | some q =>
        obtain ⟨t1, k1⟩ := q
        have hk1 := txt_le hT1 (by omega)
        clear hT1
        obtain ⟨hk1a, hk1b⟩ := hk1
        go_wp2_with (first
          | (go_at_call 61; have _t := tok1; go_loud (refine (HTX.out 58 (by decide) (i + 1) (by omega) _ ((Ext.refl w).alloc _)).mono ?_; rw [HT1.out]; rintro e wa ⟨hx, hx2⟩; have hb := hx.heap (heap_alloc_new w _); have c0 := cell_of_row wa w.heap.size 0 _ _ _ hb; have c1 := cell_of_row wa w.heap.size 1 _ _ _ hb; have c2 := cell_of_row wa w.heap.size 2 _ _ _ hb; have c3 := cell_of_row wa w.heap.size 3 _ _ _ hb; have c4 := cell_of_row wa w.heap.size 4 _ _ _ hb; have g0 := frozen_of_row wa w.heap.size 0 _ _ hb; have g1 := frozen_of_row wa w.heap.size 1 _ _ hb; have g2 := frozen_of_row wa w.heap.size 2 _ _ hb; have g3 := frozen_of_row wa w.heap.size 3 _ _ hb; have g4 := frozen_of_row wa w.heap.size 4 _ _ hb; have HBA := Lib.hid hb; have HXA := Lib.hid hx; have hsa : w.heap.size ≤ wa.heap.size := Nat.le_trans (by simp) hx.size; clear hb hx; rcases hx2 with ⟨t, k, At, ct, hq, rfl, hv⟩ | ⟨hq, rfl⟩; rotate_left; (exact absurd hq (by simp)); injection hq with hq; injection hq with hq1 hq2; subst hq1 hq2; have HVA := Lib.hid hv; clear hv; clear tok1 _t))
          | (go_at_call 61; go_loud (refine (HTX.out 125 (by decide) k1 hk1b _ ?hW).mono ?_; (case hW => (focus (repeat (first | apply Ext.setn | exact ((Ext.refl w).alloc _).trans HXA.out)))); rintro e w2 ⟨hx, hx2⟩; have hb := hx.heap (heap_set (o := 3) (u := .slice At t1.length ct) HBA.out); have d0 := cell_of_row w2 w.heap.size 0 _ _ _ hb; have d1 := cell_of_row w2 w.heap.size 1 _ _ _ hb; have d2 := cell_of_row w2 w.heap.size 2 _ _ _ hb; have d3 := cell_of_row w2 w.heap.size 3 _ _ _ hb; have d4 := cell_of_row w2 w.heap.size 4 _ _ _ hb; have f0 := frozen_of_row w2 w.heap.size 0 _ _ hb; have f1 := frozen_of_row w2 w.heap.size 1 _ _ hb; have f2 := frozen_of_row w2 w.heap.size 2 _ _ hb; have f3 := frozen_of_row w2 w.heap.size 3 _ _ hb; have f4 := frozen_of_row w2 w.heap.size 4 _ _ hb; have HB := Lib.hid hb; have HX := Lib.hid (((((Ext.refl w).alloc _).trans HXA.out).setn).trans hx); have HV1 := Lib.hid (SlB.keep HVA.out (keeps_c []) (KeepT.trans (Only.keepT ((Only.refl wa _).set (o := 3) (.slice At t1.length ct)) HBA.out (by decide)) (KeepT.of_ext hx)) (KeepT.trans (Only.keepT ((Only.refl wa _).set (o := 3) (.slice At t1.length ct)) HBA.out (by decide)) (KeepT.of_ext hx))); clear hb hx c0 c1 c2 c3 c4 g0 g1 g2 g3 g4; rcases hx2 with ⟨t, k, Bt, cu, hq, rfl, hv⟩ | ⟨hq, rfl⟩)))
        · refine bodyPost_ret (v := .tuple #[.agg #[.int .i64 4, .int .i64 g, .int .i64 0, .slice At t1.length ct, .slice Bt t.length cu], .int .i64 (k : Int), .bool true]) (by simp [results, Tryd.results54, go_sem, d0, d1, d2, d3, d4]) rfl ?_
          exact ⟨by (focus (repeat (first | apply Ext.setn | exact HX.out))), .inl ⟨⟨4, g, 0, t1, t⟩, k, [.int .i64 4, .int .i64 g, .int .i64 0, .slice At t1.length ct, .slice Bt t.length cu], by rw [← HR.out, HQ.out, HT1.out, Option.bind_some, hq]; rfl, rfl, CF.mkW HB.out (by (focus (repeat (first | apply Only.set | exact Only.refl _ _)))) (HV1.out.weaken (by simp)) (hv.weaken (by simpa using hsa))⟩⟩
        · refine bodyPost_ret (v := .tuple #[.agg #[.int .i64 4, .int .i64 g, .int .i64 0, .slice At t1.length ct, .slice none 0 0], .int .i64 0, .bool false]) (by simp [results, Tryd.results54, go_sem, d0, d1, d2, d3, d4]) rfl ?_
          exact ⟨by (focus (repeat (first | apply Ext.setn | exact HX.out))), .inr ⟨by rw [← HR.out, HQ.out, HT1.out, Option.bind_some, hq]; rfl, _, _, _, _, _, _, _, _, _, _, rfl⟩⟩
    by_cases h45 : x = 45
    · subst h45
      have HQ := Lib.hid (inn_45 (g := g) hget)
      clear hget h47 h43 h63
      go_enter Tryd.func54, Tryd.ntmps54
      go_wp2_with (go_at_call 61; go_loud (refine (HTX.out 125 (by decide) (i + 1) (by omega) _ ((Ext.refl w).alloc _)).mono ?_; rintro e w2 ⟨hx, hx2⟩; have hb := hx.heap (heap_alloc_new w _); have d0 := cell_of_row w2 w.heap.size 0 _ _ _ hb; have d1 := cell_of_row w2 w.heap.size 1 _ _ _ hb; have d2 := cell_of_row w2 w.heap.size 2 _ _ _ hb; have d3 := cell_of_row w2 w.heap.size 3 _ _ _ hb; have d4 := cell_of_row w2 w.heap.size 4 _ _ _ hb; have f0 := frozen_of_row w2 w.heap.size 0 _ _ hb; have f1 := frozen_of_row w2 w.heap.size 1 _ _ hb; have f2 := frozen_of_row w2 w.heap.size 2 _ _ hb; have f3 := frozen_of_row w2 w.heap.size 3 _ _ hb; have f4 := frozen_of_row w2 w.heap.size 4 _ _ hb; have HB := Lib.hid hb; have HX := Lib.hid hx; clear hb hx; rcases hx2 with ⟨t, k, At, ct, hq, rfl, hv⟩ | ⟨hq, rfl⟩))
      · refine bodyPost_ret (v := .tuple #[.agg #[.int .i64 3, .int .i64 g, .int .i64 0, .slice none 0 0, .slice At t.length ct], .int .i64 (k : Int), .bool true]) (by simp [results, Tryd.results54, go_sem, d0, d1, d2, d3, d4]) rfl ?_
        exact ⟨by (focus (repeat (first | apply Ext.setn | exact ((Ext.refl w).alloc _).trans HX.out))), .inl ⟨⟨3, g, 0, [], t⟩, k, [.int .i64 3, .int .i64 g, .int .i64 0, .slice none 0 0, .slice At t.length ct], by rw [← HR.out, HQ.out, hq]; rfl, rfl, CF.mkW HB.out (by (focus (repeat (first | apply Only.set | exact Only.refl _ _)))) SlB.nil_ (hv.weaken (by simp))⟩⟩
      · refine bodyPost_ret (v := .tuple #[.agg #[.int .i64 3, .int .i64 g, .int .i64 0, .slice none 0 0, .slice none 0 0], .int .i64 0, .bool false]) (by simp [results, Tryd.results54, go_sem, d0, d1, d2, d3, d4]) rfl ?_
        exact ⟨by (focus (repeat (first | apply Ext.setn | exact ((Ext.refl w).alloc _).trans HX.out))), .inr ⟨by rw [← HR.out, HQ.out, hq]; rfl, _, _, _, _, _, _, _, _, _, _, rfl⟩⟩
    · have HQ := Lib.hid (inn_no (g := g) (s := s) (i := i) (by rw [hget]; simpa using h47) (by rw [hget]; simpa using h43) (by rw [hget]; simpa using h63) (by rw [hget]; simpa using h45))
      have b1 : (x == 47) = false := by simpa using h47
      have b2 : (x == 43) = false := by simpa using h43
      have b3 : (x == 63) = false := by simpa using h63
      have b4 : (x == 45) = false := by simpa using h45
      clear hget h47 h43 h63 h45
      go_enter Tryd.func54, Tryd.ntmps54
      go_wp2_with (go_at_call 61; go_loud (refine (HTX.out 125 (by decide) i (by omega) _ ((Ext.refl w).alloc _)).mono ?_; rintro e w2 ⟨hx, hx2⟩; have hb := hx.heap (heap_alloc_new w _); have d0 := cell_of_row w2 w.heap.size 0 _ _ _ hb; have d1 := cell_of_row w2 w.heap.size 1 _ _ _ hb; have d2 := cell_of_row w2 w.heap.size 2 _ _ _ hb; have d3 := cell_of_row w2 w.heap.size 3 _ _ _ hb; have d4 := cell_of_row w2 w.heap.size 4 _ _ _ hb; have f0 := frozen_of_row w2 w.heap.size 0 _ _ hb; have f1 := frozen_of_row w2 w.heap.size 1 _ _ hb; have f2 := frozen_of_row w2 w.heap.size 2 _ _ hb; have f3 := frozen_of_row w2 w.heap.size 3 _ _ hb; have f4 := frozen_of_row w2 w.heap.size 4 _ _ hb; have HB := Lib.hid hb; have HX := Lib.hid hx; clear hb hx; rcases hx2 with ⟨t, k, At, ct, hq, rfl, hv⟩ | ⟨hq, rfl⟩))
      · refine bodyPost_ret (v := .tuple #[.agg #[.int .i64 3, .int .i64 g, .int .i64 0, .slice none 0 0, .slice At t.length ct], .int .i64 (k : Int), .bool true]) (by simp [results, Tryd.results54, go_sem, d0, d1, d2, d3, d4]) rfl ?_
        exact ⟨by (focus (repeat (first | apply Ext.setn | exact ((Ext.refl w).alloc _).trans HX.out))), .inl ⟨⟨3, g, 0, [], t⟩, k, [.int .i64 3, .int .i64 g, .int .i64 0, .slice none 0 0, .slice At t.length ct], by rw [← HR.out, HQ.out, hq]; rfl, rfl, CF.mkW HB.out (by (focus (repeat (first | apply Only.set | exact Only.refl _ _)))) SlB.nil_ (hv.weaken (by simp))⟩⟩
      · refine bodyPost_ret (v := .tuple #[.agg #[.int .i64 3, .int .i64 g, .int .i64 0, .slice none 0 0, .slice none 0 0], .int .i64 0, .bool false]) (by simp [results, Tryd.results54, go_sem, d0, d1, d2, d3, d4]) rfl ?_
        exact ⟨by (focus (repeat (first | apply Ext.setn | exact ((Ext.refl w).alloc _).trans HX.out))), .inr ⟨by rw [← HR.out, HQ.out, hq]; rfl, _, _, _, _, _, _, _, _, _, _, rfl⟩⟩
  · have hget : s[i]? = none := List.getElem?_eq_none (by omega)
    have HQ := Lib.hid (inn_no (g := g) (s := s) (i := i) (by rw [hget]; decide) (by rw [hget]; decide) (by rw [hget]; decide) (by rw [hget]; decide))
    clear hget
    go_enter Tryd.func54, Tryd.ntmps54
    go_wp2_with (go_at_call 61; go_loud (refine (HTX.out 125 (by decide) i (by omega) _ ((Ext.refl w).alloc _)).mono ?_; rintro e w2 ⟨hx, hx2⟩; have hb := hx.heap (heap_alloc_new w _); have d0 := cell_of_row w2 w.heap.size 0 _ _ _ hb; have d1 := cell_of_row w2 w.heap.size 1 _ _ _ hb; have d2 := cell_of_row w2 w.heap.size 2 _ _ _ hb; have d3 := cell_of_row w2 w.heap.size 3 _ _ _ hb; have d4 := cell_of_row w2 w.heap.size 4 _ _ _ hb; have f0 := frozen_of_row w2 w.heap.size 0 _ _ hb; have f1 := frozen_of_row w2 w.heap.size 1 _ _ hb; have f2 := frozen_of_row w2 w.heap.size 2 _ _ hb; have f3 := frozen_of_row w2 w.heap.size 3 _ _ hb; have f4 := frozen_of_row w2 w.heap.size 4 _ _ hb; have HB := Lib.hid hb; have HX := Lib.hid hx; clear hb hx; rcases hx2 with ⟨t, k, At, ct, hq, rfl, hv⟩ | ⟨hq, rfl⟩))
    · refine bodyPost_ret (v := .tuple #[.agg #[.int .i64 3, .int .i64 g, .int .i64 0, .slice none 0 0, .slice At t.length ct], .int .i64 (k : Int), .bool true]) (by simp [results, Tryd.results54, go_sem, d0, d1, d2, d3, d4]) rfl ?_
      exact ⟨by (focus (repeat (first | apply Ext.setn | exact ((Ext.refl w).alloc _).trans HX.out))), .inl ⟨⟨3, g, 0, [], t⟩, k, [.int .i64 3, .int .i64 g, .int .i64 0, .slice none 0 0, .slice At t.length ct], by rw [← HR.out, HQ.out, hq]; rfl, rfl, CF.mkW HB.out (by (focus (repeat (first | apply Only.set | exact Only.refl _ _)))) SlB.nil_ (hv.weaken (by simp))⟩⟩
    · refine bodyPost_ret (v := .tuple #[.agg #[.int .i64 3, .int .i64 g, .int .i64 0, .slice none 0 0, .slice none 0 0], .int .i64 0, .bool false]) (by simp [results, Tryd.results54, go_sem, d0, d1, d2, d3, d4]) rfl ?_
      exact ⟨by (focus (repeat (first | apply Ext.setn | exact ((Ext.refl w).alloc _).trans HX.out))), .inr ⟨by rw [← HR.out, HQ.out, hq]; rfl, _, _, _, _, _, _, _, _, _, _, rfl⟩⟩
end Go.Proofs.YtfblkahjefdmaaaDoor
