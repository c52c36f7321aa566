/- Walk: the document's own answer: part. -/
import Derived.Test.YtfblkahjefdmaaaDoorRaB
namespace Go.Proofs.YtfblkahjefdmaaaDoor
open Go.RowKit

theorem st_mk {s : List Int} {v : Value} {w : World} (H : SlC w v s) {i : Nat} (hi : i ≤ s.length) (t : ByteArray) (ht : t.size ≤ 1000) (b : Bool) (hb : stB s i (signs t) = b) (W : World) (hW : Ext w W) :
    Calls Tryd.prog 45 #[v, .int .i64 (i : Int), .string t] W (RetD (.bool b) W) := by
  subst hb; exact stands_any s v i t W (H.ext hW) hi ht
theorem caseName_k (k : Nat) (hk : k < 5) (W : World) : Calls Tryd.prog 37 #[.int .i64 (1 + (k : Int))] W (BoolS (nbs.getD k ⟨#[]⟩) W) := by
  have := caseName_any (1 + (k : Int)) (by omega) (by omega) W
  have e : (1 + (k : Int)).toNat - 1 = k := by omega
  rw [e] at this; exact this
theorem name_signs : ∀ k, k < 5 → signs (nbs.getD k ⟨#[]⟩ ++ ⟨#[125]⟩) = FM.names.getD k [] ++ [125] := by
  intro k hk
  match k, hk with
  | 0, _ => decide
  | 1, _ => decide
  | 2, _ => decide
  | 3, _ => decide
  | 4, _ => decide
/-- Only two blocks are other ones. -/
def Two (g1 g2 : Nat) (w w' : World) : Prop := ∀ i : Nat, i ≠ g1 → i ≠ g2 → w'.heap[i]? = w.heap[i]?
theorem Two.refl (g1 g2 : Nat) (w : World) : Two g1 g2 w w := fun _ _ _ => rfl
theorem Two.set1 {g1 g2 o : Nat} {w a : World} {u : Value} (h : Two g1 g2 w a) : Two g1 g2 w (a.setCell ⟨g1, o, none⟩ u) := fun i h1 h2 => (heap_ne h1).trans (h i h1 h2)
theorem Two.set2 {g1 g2 o : Nat} {w a : World} {u : Value} (h : Two g1 g2 w a) : Two g1 g2 w (a.setCell ⟨g2, o, none⟩ u) := fun i h1 h2 => (heap_ne h2).trans (h i h1 h2)
theorem Two.drewN {g1 g2 n : Nat} {w a : World} (h : Two g1 g2 w a) : Two g1 g2 w (a.drewN n) := h
theorem CF.mk2 {w2 W : World} {g1 g2 B : Nat} {c1 c2 : Array Value} {k g c : Int} {vt ve : Value} {t e : List Int} (h1 : w2.heap[g1]? = some (.cells c1 34 (0, 0))) (h2 : w2.heap[g2]? = some (.cells c2 34 (0, 0))) (ho : Two g1 g2 w2 W) (ht : SlB 21 1 Cc B w2 vt t) (he : SlB 21 1 Cc B w2 ve e) :
    CF B W [.int .i64 k, .int .i64 g, .int .i64 c, vt, ve] ⟨k, g, c, t, e⟩ := by
  have hk : KeepT [21] w2 W := by
    intro i cur ty hty hg
    simp only [List.mem_singleton] at hty
    subst hty
    refine (ho i (fun e => ?_) (fun e => ?_)).trans hg
    · subst e
      rw [hg] at h1
      injection h1 with h1
      injection h1 with _ h1 _
      exact absurd h1 (by decide)
    · subst e
      rw [hg] at h2
      injection h2 with h2
      injection h2 with _ h2 _
      exact absurd h2 (by decide)
  exact ⟨vt, ve, rfl, ht.keep (keeps_c []) (hk.sub (by simp)) hk, he.keep (keeps_c []) (hk.sub (by simp)) hk⟩
theorem KeepT.setF {w : World} {g o : Nat} {cur : Array Value} {u : Value} (h : w.heap[g]? = some (.cells cur 34 (0, 0))) : KeepT [21] w (w.setCell ⟨g, o, none⟩ u) :=
  Only.keepT (w' := w.setCell ⟨g, o, none⟩ u) ((Only.refl w g).set u) h (by decide)
theorem SlB.keep1 {B : Nat} {w w' : World} {v : Value} {xs : List Int} (h : SlB 21 1 Cc B w v xs) (hk : KeepT [21] w w') : SlB 21 1 Cc B w' v xs := h.keep (keeps_c []) (hk.sub (by simp)) hk
theorem Ext.setb {w W : World} {g o : Nat} {u : Value} (hg : w.heap.size ≤ g) (h : Ext w W) : Ext w (W.setCell ⟨g, o, none⟩ u) := h.set (p := ⟨g, o, none⟩) hg u

/-- Where the ways of part meet: the part's box, the result's box, the place behind or 0. -/
def CutP (R : Option (FM.Form × Nat)) (n : Int) (nb : Nat) (w : World) (s9 : Value) (wx : World) : Prop :=
  ∃ (K : Int) (At : Option Addr) (lt ct : Nat) (Ae : Option Addr) (le ce : Nat), wx.heap[nb]? = some (.cells #[.int .i64 K, .int .i64 n, .int .i64 0, .slice At lt ct, .slice Ae le ce] 34 (0, 0)) ∧
    wx.heap[w.heap.size]? = some (.cells #[.int .i64 0, .int .i64 0, .int .i64 0, .slice none 0 0, .slice none 0 0] 34 (0, 0)) ∧ Ext w wx ∧
    ((R = none ∧ s9 = .int .i64 0) ∨ ∃ (t e : List Int) (k : Nat), R = some (⟨K, n, 0, t, e⟩, k) ∧ 1 ≤ k ∧ s9 = .int .i64 (k : Int) ∧ SlB 21 1 Cc w.heap.size wx (.slice At lt ct) t ∧ SlB 21 1 Cc w.heap.size wx (.slice Ae le ce) e)
/-- A part and the place behind it; zeros: none. -/
def RPartP (R : Option (FM.Form × Nat)) (w : World) (e : Ending) (w' : World) : Prop :=
  Ext w w' ∧ ((∃ f k cs, R = some (f, k) ∧ e = .returned (.tuple #[.agg cs.toArray, .int .i64 (k : Int)]) ∧ CF w.heap.size w' cs f) ∨
    (R = none ∧ e = .returned (.tuple #[.agg #[.int .i64 0, .int .i64 0, .int .i64 0, .slice none 0 0, .slice none 0 0], .int .i64 0])))
set_option maxRecDepth 100000 in
set_option maxHeartbeats 4000000 in
theorem rpart_any (s : List Int) (vs : Value) (i : Nat) (w : World) (hs : SlC w vs s) (hsl : s.length ≤ 35184372088832) (hi : i < s.length) :
    Calls Tryd.prog 32 #[vs, .int .i64 (i : Int)] w (RPartP (partA s i) w) := by
  have H := Lib.hid hs
  obtain ⟨R, hR⟩ : ∃ R, partA s i = R := ⟨_, rfl⟩
  rw [hR]
  have HR := Lib.hid hR
  clear hR
  obtain ⟨A, ca, rfl, hlx, hcx, -⟩ := hs
  have HNU := Lib.hid (fun (j : Nat) (hj : j ≤ s.length) (W : World) (hW : Ext w W) => rnumber_any s _ j W (H.out.ext hW) hj)
  have HST := Lib.hid (fun (j : Nat) (hj : j ≤ s.length) (t : ByteArray) (ht : t.size ≤ 1000) (b : Bool) (hb : stB s j (signs t) = b) => st_mk H.out hj t ht b hb)
  have HWD := Lib.hid (fun (e : Int) (he : e ≠ 92) (j : Nat) (hj : j ≤ s.length) (W : World) (hW : Ext w W) => words_any e he s _ j W (H.out.ext hW) hsl hj)
  have tok1 : True := trivial
  have tok2 : True := trivial
  obtain ⟨N1, hN1⟩ : ∃ N, FM.number (s.drop (i + 1)) = N := ⟨_, rfl⟩
  have HNA := Lib.hid (HNU.out (i + 1) (by omega))
  rw [hN1] at HNA
  cases N1 with
  | some q =>
    obtain ⟨n, k⟩ := q
    have HQ := Lib.hid (part_num hN1)
    have hpos : decide ((0 : Int) < ((i + 1 + k : Nat) : Int)) = true := by simp; omega
    have hpos2 : decide ((0 : Int) < (i : Int) + 1 + (k : Int)) = true := by simp; omega
    have HNA := Lib.hid (show ∀ W, Ext w W → Calls Tryd.prog 44 #[.slice A s.length ca, .int .i64 ((i : Int) + 1)] W (Ret2 (.int .i64 n) (.int .i64 ((i + 1 + k : Nat) : Int)) W) from HNA.out)
    clear hN1
    go_enter Tryd.func32, Tryd.ntmps32
    go_wp2_with (go_at_call 44; go_loud (refine (HNA.out _ ((Ext.refl w).alloc _)).mono ?_; rintro e w2 ⟨rfl, hx⟩; have hb := hx.heap (heap_alloc_new w _); have d0 := cell_of_row w2 w.heap.size 0 _ _ _ hb; have d1 := cell_of_row w2 w.heap.size 1 _ _ _ hb; have d2 := cell_of_row w2 w.heap.size 2 _ _ _ hb; have d3 := cell_of_row w2 w.heap.size 3 _ _ _ hb; have d4 := cell_of_row w2 w.heap.size 4 _ _ _ hb; have f0 := frozen_of_row w2 w.heap.size 0 _ _ hb; have f1 := frozen_of_row w2 w.heap.size 1 _ _ hb; have f2 := frozen_of_row w2 w.heap.size 2 _ _ hb; have f3 := frozen_of_row w2 w.heap.size 3 _ _ hb; have f4 := frozen_of_row w2 w.heap.size 4 _ _ hb; have HB := Lib.hid hb; have HX := Lib.hid (((Ext.refl w).alloc _).trans hx); clear hb hx))
    refine bodyPost_ret (v := .tuple #[.agg #[.int .i64 1, .int .i64 n, .int .i64 0, .slice none 0 0, .slice none 0 0], .int .i64 ((i : Int) + 1 + (k : Int))]) (by simp [results, Tryd.results32, go_sem, d0, d1, d2, d3, d4]) rfl ?_
    exact ⟨by (focus (repeat (first | with_reducible exact HX.out | with_reducible apply Ext.setn | with_reducible apply Ext.drewN))), .inl ⟨⟨1, n, 0, [], []⟩, i + 1 + k, [.int .i64 1, .int .i64 n, .int .i64 0, .slice none 0 0, .slice none 0 0], by rw [← HR.out, HQ.out], rfl, CF.mkW HB.out (by (focus (repeat (first | apply Only.set | exact Only.refl _ _)))) SlB.nil_ SlB.nil_⟩⟩
  | none =>
    have HNA := Lib.hid (show ∀ W, Ext w W → Calls Tryd.prog 44 #[.slice A s.length ca, .int .i64 ((i : Int) + 1)] W (Ret2 (.int .i64 0) (.int .i64 0) W) from HNA.out)
    by_cases h1 : s[i + 1]? = some 123
    rotate_left
    · have HQ := Lib.hid (part_no hN1 h1)
      have HSA := Lib.hid (show ∀ W, Ext w W → Calls Tryd.prog 45 #[.slice A s.length ca, .int .i64 ((i : Int) + 1), .string { data := #[123] }] W (RetD (.bool false) W) from HST.out (i + 1) (by omega) ⟨#[123]⟩ (by decide) false (stB_one.trans (decide_eq_false h1)))
      clear hN1 h1
      go_enter Tryd.func32, Tryd.ntmps32
      go_wp2_with (first
        | (go_at_call 44; have _t := tok1; go_loud (refine (HNA.out _ ((Ext.refl w).alloc _)).mono ?_; rintro e wa ⟨rfl, hx⟩; have HBA := Lib.hid (hx.heap (heap_alloc_new w _)); have HXA := Lib.hid (((Ext.refl w).alloc _).trans hx); clear hx tok1 _t))
        | (go_at_call 45; go_loud (refine (HSA.out _ HXA.out).mono ?_; rintro e ws ⟨rfl, ns, rfl⟩; have hb := HBA.out; have d0 := cell_of_row wa w.heap.size 0 _ _ _ hb; have d1 := cell_of_row wa w.heap.size 1 _ _ _ hb; have d2 := cell_of_row wa w.heap.size 2 _ _ _ hb; have d3 := cell_of_row wa w.heap.size 3 _ _ _ hb; have d4 := cell_of_row wa w.heap.size 4 _ _ _ hb; have f0 := frozen_of_row wa w.heap.size 0 _ _ hb; have f1 := frozen_of_row wa w.heap.size 1 _ _ hb; have f2 := frozen_of_row wa w.heap.size 2 _ _ hb; have f3 := frozen_of_row wa w.heap.size 3 _ _ hb; have f4 := frozen_of_row wa w.heap.size 4 _ _ hb; clear hb)))
      refine bodyPost_ret (v := .tuple #[.agg #[.int .i64 0, .int .i64 0, .int .i64 0, .slice none 0 0, .slice none 0 0], .int .i64 0]) (by simp [results, Tryd.results32, go_sem, d0, d1, d2, d3, d4]) rfl ?_
      exact ⟨by (focus (repeat (first | with_reducible exact HXA.out | with_reducible apply Ext.setn | with_reducible apply Ext.drewN))), .inr ⟨by rw [← HR.out, HQ.out], rfl⟩⟩
    have hlt := (List.getElem?_eq_some_iff.1 h1).1
    have HSA := Lib.hid (show ∀ W, Ext w W → Calls Tryd.prog 45 #[.slice A s.length ca, .int .i64 ((i : Int) + 1), .string { data := #[123] }] W (RetD (.bool true) W) from HST.out (i + 1) (by omega) ⟨#[123]⟩ (by decide) true (stB_one.trans (decide_eq_true h1)))
    obtain ⟨N2, hN2⟩ : ∃ N, FM.number (s.drop (i + 2)) = N := ⟨_, rfl⟩
    have HNB := Lib.hid (HNU.out (i + 2) (by omega))
    rw [hN2] at HNB
    cases N2 with
    | none =>
      have HQ := Lib.hid (part_b0 hN1 h1 hN2)
      have HNB := Lib.hid (show ∀ W, Ext w W → Calls Tryd.prog 44 #[.slice A s.length ca, .int .i64 ((i : Int) + 2)] W (Ret2 (.int .i64 0) (.int .i64 0) W) from HNB.out)
      clear hN1 h1 hN2
      go_enter Tryd.func32, Tryd.ntmps32
      go_wp2_with (first
        | (go_at_call 44; have _t := tok1; go_loud (refine (HNA.out _ ((Ext.refl w).alloc _)).mono ?_; rintro e wa ⟨rfl, hx⟩; have HBA := Lib.hid (hx.heap (heap_alloc_new w _)); have HXA := Lib.hid (((Ext.refl w).alloc _).trans hx); clear hx tok1 _t))
        | (go_at_call 45; have _t := tok2; go_loud (refine (HSA.out _ HXA.out).mono ?_; rintro e ws ⟨rfl, ns, rfl⟩; clear tok2 _t))
        | (go_at_call 44; go_loud (refine (HNB.out _ (HXA.out.drewN _)).mono ?_; rintro e w2 ⟨rfl, hx⟩; have hb := hx.heap HBA.out; have d0 := cell_of_row w2 w.heap.size 0 _ _ _ hb; have d1 := cell_of_row w2 w.heap.size 1 _ _ _ hb; have d2 := cell_of_row w2 w.heap.size 2 _ _ _ hb; have d3 := cell_of_row w2 w.heap.size 3 _ _ _ hb; have d4 := cell_of_row w2 w.heap.size 4 _ _ _ hb; have f0 := frozen_of_row w2 w.heap.size 0 _ _ hb; have f1 := frozen_of_row w2 w.heap.size 1 _ _ hb; have f2 := frozen_of_row w2 w.heap.size 2 _ _ hb; have f3 := frozen_of_row w2 w.heap.size 3 _ _ hb; have f4 := frozen_of_row w2 w.heap.size 4 _ _ hb; have HX := Lib.hid ((HXA.out.drewN _).trans hx); clear hb hx)))
      refine bodyPost_ret (v := .tuple #[.agg #[.int .i64 0, .int .i64 0, .int .i64 0, .slice none 0 0, .slice none 0 0], .int .i64 0]) (by simp [results, Tryd.results32, go_sem, d0, d1, d2, d3, d4]) rfl ?_
      exact ⟨by (focus (repeat (first | with_reducible exact HX.out | with_reducible apply Ext.setn | with_reducible apply Ext.drewN))), .inr ⟨by rw [← HR.out, HQ.out], rfl⟩⟩
    | some q =>
      obtain ⟨n, k⟩ := q
      have hkl := number_le hN2
      rw [List.length_drop] at hkl
      obtain ⟨o, ho⟩ : ∃ o, i + 2 + k = o := ⟨_, rfl⟩
      have HNB := Lib.hid (show ∀ W, Ext w W → Calls Tryd.prog 44 #[.slice A s.length ca, .int .i64 ((i : Int) + 2)] W (Ret2 (.int .i64 n) (.int .i64 (o : Int)) W) from by subst ho; exact HNB.out)
      have hol : o ≤ s.length := by omega
      have ho2 : 2 ≤ o := by omega
      have ho0 : ((o : Int) == 0) = false := by simp; omega
      have HP125 := Lib.hid (fun (h : s[o]? = some 125) => part_125 hN1 h1 hN2 (by rw [ho]; exact h))
      have HP58 := Lib.hid (fun (h : s[o]? = some 58) => part_58 hN1 h1 hN2 (by rw [ho]; exact h))
      have HPO := Lib.hid (fun (h : s[o]? ≠ some 125) (h2 : s[o]? ≠ some 58) => part_oth hN1 h1 hN2 (by rw [ho]; exact h) (by rw [ho]; exact h2))
      rw [ho] at HP125 HP58
      clear hN1 h1 hN2 ho hkl hlt
      go_enter Tryd.func32, Tryd.ntmps32
      go_upto_block 0 with (first | (go_at_call 44; have _t := tok1; go_loud (refine (HNA.out _ ((Ext.refl w).alloc _)).mono ?_; rintro e wa ⟨rfl, hx⟩; have HBA := Lib.hid (hx.heap (heap_alloc_new w _)); have HXA := Lib.hid (((Ext.refl w).alloc _).trans hx); clear hx tok1 _t)) | (go_at_call 45; have _t := tok2; go_loud (refine (HSA.out _ HXA.out).mono ?_; rintro e ws ⟨rfl, ns, rfl⟩; clear tok2 _t)) | (go_at_call 44; go_loud (refine (HNB.out _ (HXA.out.drewN _)).mono ?_; rintro e w2 ⟨rfl, hx⟩; have HB := Lib.hid (hx.heap HBA.out); have hbs := heap_lt HB.out; have HX := Lib.hid ((HXA.out.drewN _).trans hx); clear hx)))
      have HXS := Lib.hid HX.out.size
      obtain ⟨nb, hnb⟩ : ∃ nb, nb = w2.heap.size := ⟨_, rfl⟩
      have HF := Lib.hid (show (w2.alloc (.cells #[.int .i64 1, .int .i64 n, .int .i64 0, .slice none 0 0, .slice none 0 0] 34)).heap[nb]? = some (.cells #[.int .i64 1, .int .i64 n, .int .i64 0, .slice none 0 0, .slice none 0 0] 34 (0, 0)) by rw [hnb]; exact heap_alloc_new w2 _)
      have hE4 := (Ext.refl w2).alloc (.cells #[.int .i64 1, .int .i64 n, .int .i64 0, .slice none 0 0, .slice none 0 0] 34)
      have HB := Lib.hid (hE4.heap HB.out)
      have HNBL := Lib.hid (show w.heap.size ≤ nb by rw [hnb]; exact HX.out.size)
      have HNE := Lib.hid (show w.heap.size ≠ nb by omega)
      have HX := Lib.hid (HX.out.trans hE4)
      rw [← hnb]
      clear hE4 hnb hbs HNA HNB HSA HBA HXA
      generalize w2.alloc (.cells #[.int .i64 1, .int .i64 n, .int .i64 0, .slice none 0 0, .slice none 0 0] 34) = w4 at HF HB HX ⊢
      have hne : nb ≠ w.heap.size := fun e => HNE.out e.symm
      have hne' : w.heap.size ≠ nb := HNE.out
      have HXS := Lib.hid HX.out.size
      go_cut [9] (fun s9 wx => CutP R n nb w s9 wx)
      case rest =>
        obtain ⟨K, At, lt, ct, Ae, le, ce, hf, hb, hx, hcase⟩ := hcut
        have q0 := cell_of_row wc nb 0 _ _ _ hf
        have q1 := cell_of_row wc nb 1 _ _ _ hf
        have q2 := cell_of_row wc nb 2 _ _ _ hf
        have q3 := cell_of_row wc nb 3 _ _ _ hf
        have q4 := cell_of_row wc nb 4 _ _ _ hf
        have r0 := frozen_of_row wc nb 0 _ _ hf
        have r1 := frozen_of_row wc nb 1 _ _ hf
        have r2 := frozen_of_row wc nb 2 _ _ hf
        have r3 := frozen_of_row wc nb 3 _ _ hf
        have r4 := frozen_of_row wc nb 4 _ _ hf
        have d0 := cell_of_row wc w.heap.size 0 _ _ _ hb
        have d1 := cell_of_row wc w.heap.size 1 _ _ _ hb
        have d2 := cell_of_row wc w.heap.size 2 _ _ _ hb
        have d3 := cell_of_row wc w.heap.size 3 _ _ _ hb
        have d4 := cell_of_row wc w.heap.size 4 _ _ _ hb
        have f0 := frozen_of_row wc w.heap.size 0 _ _ hb
        have f1 := frozen_of_row wc w.heap.size 1 _ _ hb
        have f2 := frozen_of_row wc w.heap.size 2 _ _ hb
        have f3 := frozen_of_row wc w.heap.size 3 _ _ hb
        have f4 := frozen_of_row wc w.heap.size 4 _ _ hb
        have hnl := heap_lt hf
        have hbl := heap_lt hb
        rcases hcase with ⟨hR, rfl⟩ | ⟨t, e, k9, hR, hk9, rfl, ht, he⟩
        · have HRR := Lib.hid hR
          have HX9 := Lib.hid hx
          clear hf hb hx hR
          go_wp2_with fail
          refine bodyPost_ret (v := .tuple #[.agg #[.int .i64 0, .int .i64 0, .int .i64 0, .slice none 0 0, .slice none 0 0], .int .i64 0]) (by simp [results, Tryd.results32, go_sem, d0, d1, d2, d3, d4]) rfl ?_
          exact ⟨by (focus (repeat (first | with_reducible exact HX9.out | with_reducible apply Ext.setn | with_reducible apply Ext.setb HNBL.out | with_reducible apply Ext.drewN))), .inr ⟨HRR.out, rfl⟩⟩
        · have HRR := Lib.hid hR
          have HX9 := Lib.hid hx
          have HF9 := Lib.hid hf
          have HB9 := Lib.hid hb
          have HT9 := Lib.hid ht
          have HE9 := Lib.hid he
          have h90 : ((k9 : Int) == 0) = false := by simp; omega
          clear hf hb hx hR ht he
          go_wp2_with fail
          refine bodyPost_ret (v := .tuple #[.agg #[.int .i64 K, .int .i64 n, .int .i64 0, .slice At lt ct, .slice Ae le ce], .int .i64 (k9 : Int)]) (by simp [results, Tryd.results32, go_sem, d0, d1, d2, d3, d4]) rfl ?_
          exact ⟨by (focus (repeat (first | with_reducible exact HX9.out | with_reducible apply Ext.setn | with_reducible apply Ext.setb HNBL.out | with_reducible apply Ext.drewN))), .inl ⟨⟨K, n, 0, t, e⟩, k9, [.int .i64 K, .int .i64 n, .int .i64 0, .slice At lt ct, .slice Ae le ce], HRR.out, rfl, CF.mk2 HB9.out HF9.out (by (focus (repeat (first | with_reducible exact Two.refl _ _ _ | with_reducible apply Two.set1 | with_reducible apply Two.set2 | with_reducible apply Two.drewN)))) HT9.out HE9.out⟩⟩
      have q0 := cell_of_row w4 nb 0 _ _ _ HF.out
      have q1 := cell_of_row w4 nb 1 _ _ _ HF.out
      have q2 := cell_of_row w4 nb 2 _ _ _ HF.out
      have q3 := cell_of_row w4 nb 3 _ _ _ HF.out
      have q4 := cell_of_row w4 nb 4 _ _ _ HF.out
      have r0 := frozen_of_row w4 nb 0 _ _ HF.out
      have r1 := frozen_of_row w4 nb 1 _ _ HF.out
      have r2 := frozen_of_row w4 nb 2 _ _ HF.out
      have r3 := frozen_of_row w4 nb 3 _ _ HF.out
      have r4 := frozen_of_row w4 nb 4 _ _ HF.out
      have d0 := cell_of_row w4 w.heap.size 0 _ _ _ HB.out
      have d1 := cell_of_row w4 w.heap.size 1 _ _ _ HB.out
      have d2 := cell_of_row w4 w.heap.size 2 _ _ _ HB.out
      have d3 := cell_of_row w4 w.heap.size 3 _ _ _ HB.out
      have d4 := cell_of_row w4 w.heap.size 4 _ _ _ HB.out
      have f0 := frozen_of_row w4 w.heap.size 0 _ _ HB.out
      have f1 := frozen_of_row w4 w.heap.size 1 _ _ HB.out
      have f2 := frozen_of_row w4 w.heap.size 2 _ _ HB.out
      have f3 := frozen_of_row w4 w.heap.size 3 _ _ HB.out
      have f4 := frozen_of_row w4 w.heap.size 4 _ _ HB.out
      have hnl := heap_lt HF.out
      have HXS := Lib.hid HX.out.size
      have hbl := heap_lt HB.out
      by_cases h125 : s[o]? = some 125
      · have HQ := Lib.hid (HP125.out h125)
        have HS1 := Lib.hid (HST.out o hol ⟨#[125]⟩ (by decide) true (stB_one.trans (decide_eq_true h125)))
        clear h125
        go_wp2_with (go_at_call 45; go_loud (refine (HS1.out _ HX.out).mono ?_; rintro e ws ⟨rfl, ns, rfl⟩))
        refine bodyPost_ret (v := .tuple #[.agg #[.int .i64 1, .int .i64 n, .int .i64 0, .slice none 0 0, .slice none 0 0], .int .i64 ((o : Int) + 1)]) (by simp [results, Tryd.results32, go_sem, d0, d1, d2, d3, d4]) rfl ?_
        exact ⟨by (focus (repeat (first | with_reducible exact HX.out | with_reducible apply Ext.setn | with_reducible apply Ext.setb HNBL.out | with_reducible apply Ext.drewN))), .inl ⟨⟨1, n, 0, [], []⟩, o + 1, [.int .i64 1, .int .i64 n, .int .i64 0, .slice none 0 0, .slice none 0 0], by rw [← HR.out, HQ.out], rfl, CF.mk2 HB.out HF.out (by (focus (repeat (first | with_reducible exact Two.refl _ _ _ | with_reducible apply Two.set1 | with_reducible apply Two.set2 | with_reducible apply Two.drewN)))) SlB.nil_ SlB.nil_⟩⟩
      have HS1 := Lib.hid (HST.out o hol ⟨#[125]⟩ (by decide) false (stB_one.trans (decide_eq_false h125)))
      by_cases h58 : s[o]? = some 58
      rotate_left
      · have HQ := Lib.hid (HPO.out h125 h58)
        have hno : ∀ x, ¬ (s[o]? = some 58 ∧ s[o + 1]? = some x) := fun x h => h58 h.1
        have HS2 := Lib.hid (HST.out o hol ⟨#[58, 47]⟩ (by decide) false (stB_two.trans (decide_eq_false (hno 47))))
        have HS3 := Lib.hid (HST.out o hol ⟨#[58, 43]⟩ (by decide) false (stB_two.trans (decide_eq_false (hno 43))))
        have HS4 := Lib.hid (HST.out o hol ⟨#[58, 63]⟩ (by decide) false (stB_two.trans (decide_eq_false (hno 63))))
        have HS5 := Lib.hid (HST.out o hol ⟨#[58, 45]⟩ (by decide) false (stB_two.trans (decide_eq_false (hno 45))))
        have HS6 := Lib.hid (HST.out o hol ⟨#[58]⟩ (by decide) false (stB_one.trans (decide_eq_false h58)))
        clear h125 h58 hno
        go_wp2_with (go_at_call 45; go_loud ((first | (with_reducible refine (HS1.out _ ?hX).mono ?_; (case hX => (focus (repeat (first | with_reducible exact HX.out | with_reducible apply Ext.drewN))))) | (with_reducible refine (HS2.out _ ?hX).mono ?_; (case hX => (focus (repeat (first | with_reducible exact HX.out | with_reducible apply Ext.drewN))))) | (with_reducible refine (HS3.out _ ?hX).mono ?_; (case hX => (focus (repeat (first | with_reducible exact HX.out | with_reducible apply Ext.drewN))))) | (with_reducible refine (HS4.out _ ?hX).mono ?_; (case hX => (focus (repeat (first | with_reducible exact HX.out | with_reducible apply Ext.drewN))))) | (with_reducible refine (HS5.out _ ?hX).mono ?_; (case hX => (focus (repeat (first | with_reducible exact HX.out | with_reducible apply Ext.drewN))))) | (with_reducible refine (HS6.out _ ?hX).mono ?_; (case hX => (focus (repeat (first | with_reducible exact HX.out | with_reducible apply Ext.drewN)))))); rintro e ws ⟨rfl, ns, rfl⟩))
        go_meet
        exact ⟨1, none, 0, 0, none, 0, 0, HF.out, HB.out, by (focus (repeat (first | with_reducible exact HX.out | with_reducible apply Ext.setn | with_reducible apply Ext.setb HNBL.out | with_reducible apply Ext.drewN))), .inl ⟨by rw [← HR.out, HQ.out], rfl⟩⟩
      have HQ := Lib.hid (HP58.out h58)
      have ho1 : o + 1 ≤ s.length := (List.getElem?_eq_some_iff.1 h58).1
      by_cases h47 : s[o + 1]? = some 47
      · have HI := Lib.hid (show innA n s (o + 1) = (FM.cased (s.drop (o + 2))).map (fun p => (⟨1, n, p.1, [], []⟩, o + 2 + p.2)) from inn_47 h47)
        have HS2 := Lib.hid (HST.out o hol ⟨#[58, 47]⟩ (by decide) true (stB_two.trans (decide_eq_true ⟨h58, h47⟩)))
        have hol2 : o + 2 ≤ s.length := (List.getElem?_eq_some_iff.1 h47).1
        obtain ⟨Q, hQ⟩ : ∃ Q, FM.cased (s.drop (o + 2)) = Q := ⟨_, rfl⟩
        have HI := Lib.hid (show R = Q.map (fun p => (⟨1, n, p.1, [], []⟩, o + 2 + p.2)) by rw [← HR.out, HQ.out, HI.out, hQ])
        have HQ0 := Lib.hid (show FM.casedL (FM.names.drop 0) (1 + ((0 : Nat) : Int)) (s.drop (o + 2)) = Q from hQ)
        have HCN := Lib.hid caseName_k
        clear h47 h58 h125 hQ
        go_upto_region 14 with (go_at_call 45; go_loud ((first | (with_reducible refine (HS1.out _ ?hX).mono ?_; (case hX => (focus (repeat (first | with_reducible exact HX.out | with_reducible apply Ext.drewN))))) | (with_reducible refine (HS2.out _ ?hX).mono ?_; (case hX => (focus (repeat (first | with_reducible exact HX.out | with_reducible apply Ext.drewN)))))); rintro e ws ⟨rfl, ns, rfl⟩))
        go_wp2_with fail
        go_loopw [11] (fun x wr => ∃ k : Nat, k ≤ 5 ∧ x = .int .i64 (1 + (k : Int)) ∧ (∃ m, wr = w4.drewN m) ∧ FM.casedL (FM.names.drop k) (1 + (k : Int)) (s.drop (o + 2)) = Q) (fun x _ => 6 - (intOf x).toNat)
        case atStart => exact ⟨0, by omega, rfl, ⟨_, rfl⟩, HQ0.out⟩
        case round =>
          obtain ⟨k, hk, rfl, ⟨m, rfl⟩, hT⟩ := hrel
          have HT := Lib.hid hT
          clear hT
          by_cases hlt : k < 5
          · have hnl := name_len k hlt
            have hsg := name_signs k hlt
            have hnbl := nb_len k hlt
            have hst := casedL_step (l := s.drop (o + 2)) k hlt
            have HCK := Lib.hid (HCN.out k hlt)
            generalize nbs.getD k ⟨#[]⟩ = nm at hsg HCK hnbl
            generalize FM.names.getD k [] = ns at hnl hsg hst
            have hsz : (nm ++ ⟨#[125]⟩).size = ns.length + 1 := by rw [← signs_len, hsg]; simp
            have hle5 : (1 : Int) + (k : Int) ≤ 5 := by omega
            have HSZ := Lib.hid hsz
            obtain ⟨tt, htt⟩ : ∃ tt, nm ++ ⟨#[125]⟩ = tt := ⟨_, rfl⟩
            have HTT := Lib.hid htt
            rw [htt] at hsg hsz
            obtain ⟨hn1, hn2⟩ := hnl
            by_cases heq : (s.drop (o + 2)).take (ns.length + 1) = ns ++ [125]
            · have HSB := Lib.hid (HST.out (o + 2) hol2 tt (by omega) true (by rw [hsg]; exact decide_eq_true (by rw [List.length_append]; exact heq)))
              have HRR := Lib.hid (show Q = some (1 + (k : Int), ns.length + 1) by rw [← HT.out, hst, if_pos heq])
              have hszi : (tt.size : Int) = (ns.length : Int) + 1 := by omega
              clear hst heq hsg htt HSZ
              go_wp2_with (first
                | (go_at_call 37; go_loud (refine (HCK.out _).mono ?_; rintro e wc ⟨rfl, rfl⟩))
                | (go_at_call 45; go_loud (rw [HTT.out]; refine (HSB.out _ ?hX).mono ?_; (case hX => (focus (repeat (first | with_reducible exact HX.out | with_reducible apply Ext.drewN)))); rintro e ws ⟨rfl, ns2, rfl⟩)))
              refine bodyPost_ret (v := .tuple #[.agg #[.int .i64 1, .int .i64 n, .int .i64 (1 + (k : Int)), .slice none 0 0, .slice none 0 0], .int .i64 ((o : Int) + 2 + ((ns.length : Int) + 1))]) (by simp [results, Tryd.results32, go_sem, d0, d1, d2, d3, d4]) rfl ?_
              exact ⟨by (focus (repeat (first | with_reducible exact HX.out | with_reducible apply Ext.setn | with_reducible apply Ext.setb HNBL.out | with_reducible apply Ext.drewN))), .inl ⟨⟨1, n, 1 + (k : Int), [], []⟩, o + 2 + (ns.length + 1), [.int .i64 1, .int .i64 n, .int .i64 (1 + (k : Int)), .slice none 0 0, .slice none 0 0], by rw [HI.out, HRR.out]; rfl, rfl, CF.mk2 HB.out HF.out (by (focus (repeat (first | with_reducible exact Two.refl _ _ _ | with_reducible apply Two.set1 | with_reducible apply Two.set2 | with_reducible apply Two.drewN)))) SlB.nil_ SlB.nil_⟩⟩
            · have HSB := Lib.hid (HST.out (o + 2) hol2 tt (by omega) false (by rw [hsg]; exact decide_eq_false (by rw [List.length_append]; exact heq)))
              have HRR := Lib.hid (show FM.casedL (FM.names.drop (k + 1)) (1 + ((k + 1 : Nat) : Int)) (s.drop (o + 2)) = Q by rw [← HT.out, hst, if_neg heq])
              clear hst heq hsg htt HSZ
              go_wp2_with (first
                | (go_at_call 37; go_loud (refine (HCK.out _).mono ?_; rintro e wc ⟨rfl, rfl⟩))
                | (go_at_call 45; go_loud (rw [HTT.out]; refine (HSB.out _ ?hX).mono ?_; (case hX => (focus (repeat (first | with_reducible exact HX.out | with_reducible apply Ext.drewN)))); rintro e ws ⟨rfl, ns2, rfl⟩)))
              go_roundw
              case rel => exact ⟨k + 1, by omega, by go_num, ⟨_, rfl⟩, HRR.out⟩
              case measure => simp [intOf]; omega
          · have HRR := Lib.hid (show Q = none by rw [← HT.out, show k = 5 by omega]; rfl)
            have hle5 : ¬ (1 : Int) + (k : Int) ≤ 5 := by omega
            go_wp2_with fail
            refine bodyPost_ret (v := .tuple #[.agg #[.int .i64 0, .int .i64 0, .int .i64 0, .slice none 0 0, .slice none 0 0], .int .i64 0]) (by simp [results, Tryd.results32, go_sem, d0, d1, d2, d3, d4]) rfl ?_
            exact ⟨by (focus (repeat (first | with_reducible exact HX.out | with_reducible apply Ext.setn | with_reducible apply Ext.setb HNBL.out | with_reducible apply Ext.drewN))), .inr ⟨by rw [HI.out, HRR.out]; rfl, rfl⟩⟩
      have HS2 := Lib.hid (HST.out o hol ⟨#[58, 47]⟩ (by decide) false (stB_two.trans (decide_eq_false (fun h => h47 h.2))))
      by_cases h43 : s[o + 1]? = some 43
      · have HI := Lib.hid (show innA n s (o + 1) = (txt 125 s (o + 2)).map (fun p => (⟨2, n, 0, p.1, []⟩, p.2)) from inn_43 h43)
        have HS3 := Lib.hid (HST.out o hol ⟨#[58, 43]⟩ (by decide) true (stB_two.trans (decide_eq_true ⟨h58, h43⟩)))
        have hol2 : o + 2 ≤ s.length := (List.getElem?_eq_some_iff.1 h43).1
        clear h43 h47 h58 h125
        obtain ⟨T, hT⟩ : ∃ T, txt 125 s (o + 2) = T := ⟨_, rfl⟩
        have HT := Lib.hid hT
        cases T with
        | none =>
          clear hT
          go_wp2_with (first
            | (go_at_call 45; go_loud ((first | (with_reducible refine (HS1.out _ ?hX).mono ?_; (case hX => (focus (repeat (first | with_reducible exact HX.out | with_reducible apply Ext.drewN))))) | (with_reducible refine (HS2.out _ ?hX).mono ?_; (case hX => (focus (repeat (first | with_reducible exact HX.out | with_reducible apply Ext.drewN))))) | (with_reducible refine (HS3.out _ ?hX).mono ?_; (case hX => (focus (repeat (first | with_reducible exact HX.out | with_reducible apply Ext.drewN)))))); rintro e ws ⟨rfl, ns, rfl⟩))
            | (go_at_call 46; go_loud (refine (HWD.out 125 (by decide) (o + 2) (by omega) _ ?hX).mono ?_; (case hX => (focus (repeat (first | with_reducible exact HX.out | with_reducible apply Ext.setn | with_reducible apply Ext.setb HNBL.out | with_reducible apply Ext.drewN)))); rw [HT.out]; rintro e w3 ⟨hx, hx2⟩; have hf : w3.heap[nb]? = some (.cells #[.int .i64 2, .int .i64 n, .int .i64 0, .slice none 0 0, .slice none 0 0] 34 (0, 0)) := hx.heap (heap_set (o := 0) (u := .int .i64 2) HF.out); have hb := hx.heap ((heap_ne HNE.out).trans HB.out); have hX3 : Ext w w3 := Ext.trans (by (focus (repeat (first | with_reducible exact HX.out | with_reducible apply Ext.setn | with_reducible apply Ext.setb HNBL.out | with_reducible apply Ext.drewN)))) hx; clear q0 q1 q2 q3 q4 r0 r1 r2 r3 r4 d0 d1 d2 d3 d4 f0 f1 f2 f3 f4; have q0 := cell_of_row w3 nb 0 _ _ _ hf; have q1 := cell_of_row w3 nb 1 _ _ _ hf; have q2 := cell_of_row w3 nb 2 _ _ _ hf; have q3 := cell_of_row w3 nb 3 _ _ _ hf; have q4 := cell_of_row w3 nb 4 _ _ _ hf; have r0 := frozen_of_row w3 nb 0 _ _ hf; have r1 := frozen_of_row w3 nb 1 _ _ hf; have r2 := frozen_of_row w3 nb 2 _ _ hf; have r3 := frozen_of_row w3 nb 3 _ _ hf; have r4 := frozen_of_row w3 nb 4 _ _ hf; have d0 := cell_of_row w3 w.heap.size 0 _ _ _ hb; have d1 := cell_of_row w3 w.heap.size 1 _ _ _ hb; have d2 := cell_of_row w3 w.heap.size 2 _ _ _ hb; have d3 := cell_of_row w3 w.heap.size 3 _ _ _ hb; have d4 := cell_of_row w3 w.heap.size 4 _ _ _ hb; have f0 := frozen_of_row w3 w.heap.size 0 _ _ hb; have f1 := frozen_of_row w3 w.heap.size 1 _ _ hb; have f2 := frozen_of_row w3 w.heap.size 2 _ _ hb; have f3 := frozen_of_row w3 w.heap.size 3 _ _ hb; have f4 := frozen_of_row w3 w.heap.size 4 _ _ hb; have hnl3 := heap_lt hf; have hbl3 := heap_lt hb; have HF3 := Lib.hid hf; have HB3 := Lib.hid hb; have HX3 := Lib.hid hX3; clear hf hb hx hX3; rcases hx2 with ⟨t', k3', At, ct, hq, -, -⟩ | ⟨-, rfl⟩; (exact absurd hq (by simp)))))
          go_meet
          exact ⟨2, none, 0, 0, none, 0, 0, heap_set (o := 3) (u := .slice none 0 0) HF3.out, (heap_ne HNE.out).trans HB3.out, by (focus (repeat (first | with_reducible exact HX3.out | with_reducible apply Ext.setn | with_reducible apply Ext.setb HNBL.out | with_reducible apply Ext.drewN))), .inl ⟨by rw [← HR.out, HQ.out, HI.out, HT.out]; rfl, rfl⟩⟩
        | some p =>
          obtain ⟨t, k3⟩ := p
          have hk3 := txt_le hT (by omega)
          have hk30 : ((k3 : Int) == 0) = false := by simp; omega
          obtain ⟨hk3a, hk3b⟩ := hk3
          clear hT
          go_wp2_with (first
            | (go_at_call 45; go_loud ((first | (with_reducible refine (HS1.out _ ?hX).mono ?_; (case hX => (focus (repeat (first | with_reducible exact HX.out | with_reducible apply Ext.drewN))))) | (with_reducible refine (HS2.out _ ?hX).mono ?_; (case hX => (focus (repeat (first | with_reducible exact HX.out | with_reducible apply Ext.drewN))))) | (with_reducible refine (HS3.out _ ?hX).mono ?_; (case hX => (focus (repeat (first | with_reducible exact HX.out | with_reducible apply Ext.drewN)))))); rintro e ws ⟨rfl, ns, rfl⟩))
            | (go_at_call 46; go_loud (refine (HWD.out 125 (by decide) (o + 2) (by omega) _ ?hX).mono ?_; (case hX => (focus (repeat (first | with_reducible exact HX.out | with_reducible apply Ext.setn | with_reducible apply Ext.setb HNBL.out | with_reducible apply Ext.drewN)))); rw [HT.out]; rintro e w3 ⟨hx, hx2⟩; have hf : w3.heap[nb]? = some (.cells #[.int .i64 2, .int .i64 n, .int .i64 0, .slice none 0 0, .slice none 0 0] 34 (0, 0)) := hx.heap (heap_set (o := 0) (u := .int .i64 2) HF.out); have hb := hx.heap ((heap_ne HNE.out).trans HB.out); have hX3 : Ext w w3 := Ext.trans (by (focus (repeat (first | with_reducible exact HX.out | with_reducible apply Ext.setn | with_reducible apply Ext.setb HNBL.out | with_reducible apply Ext.drewN)))) hx; clear q0 q1 q2 q3 q4 r0 r1 r2 r3 r4 d0 d1 d2 d3 d4 f0 f1 f2 f3 f4; have q0 := cell_of_row w3 nb 0 _ _ _ hf; have q1 := cell_of_row w3 nb 1 _ _ _ hf; have q2 := cell_of_row w3 nb 2 _ _ _ hf; have q3 := cell_of_row w3 nb 3 _ _ _ hf; have q4 := cell_of_row w3 nb 4 _ _ _ hf; have r0 := frozen_of_row w3 nb 0 _ _ hf; have r1 := frozen_of_row w3 nb 1 _ _ hf; have r2 := frozen_of_row w3 nb 2 _ _ hf; have r3 := frozen_of_row w3 nb 3 _ _ hf; have r4 := frozen_of_row w3 nb 4 _ _ hf; have d0 := cell_of_row w3 w.heap.size 0 _ _ _ hb; have d1 := cell_of_row w3 w.heap.size 1 _ _ _ hb; have d2 := cell_of_row w3 w.heap.size 2 _ _ _ hb; have d3 := cell_of_row w3 w.heap.size 3 _ _ _ hb; have d4 := cell_of_row w3 w.heap.size 4 _ _ _ hb; have f0 := frozen_of_row w3 w.heap.size 0 _ _ hb; have f1 := frozen_of_row w3 w.heap.size 1 _ _ hb; have f2 := frozen_of_row w3 w.heap.size 2 _ _ hb; have f3 := frozen_of_row w3 w.heap.size 3 _ _ hb; have f4 := frozen_of_row w3 w.heap.size 4 _ _ hb; have hnl3 := heap_lt hf; have hbl3 := heap_lt hb; have HF3 := Lib.hid hf; have HB3 := Lib.hid hb; have HX3 := Lib.hid hX3; clear hf hb hx hX3; rcases hx2 with ⟨t', k3', At, ct, hq, rfl, hv⟩ | ⟨hq, -⟩; rotate_left; (exact absurd hq (by simp)); injection hq with hq; injection hq with hq1 hq2; subst hq1 hq2)))
          go_meet
          have hkt := KeepT.setF (o := 3) (u := .slice At t.length ct) HF3.out
          have hv3 := hv.keep1 hkt
          exact ⟨2, At, t.length, ct, none, 0, 0, heap_set (o := 3) (u := .slice At t.length ct) HF3.out, (heap_ne HNE.out).trans HB3.out, by (focus (repeat (first | with_reducible exact HX3.out | with_reducible apply Ext.setn | with_reducible apply Ext.setb HNBL.out | with_reducible apply Ext.drewN))), .inr ⟨t, [], k3, by rw [← HR.out, HQ.out, HI.out, HT.out]; rfl, by omega, rfl, (hv3.weaken (by simpa using HXS.out)), SlB.nil_⟩⟩
      have HS3 := Lib.hid (HST.out o hol ⟨#[58, 43]⟩ (by decide) false (stB_two.trans (decide_eq_false (fun h => h43 h.2))))
      by_cases h63 : s[o + 1]? = some 63
      · have HI := Lib.hid (show innA n s (o + 1) = (txt 58 s (o + 2)).bind (fun p => (txt 125 s p.2).map fun q => (⟨4, n, 0, p.1, q.1⟩, q.2)) from inn_63 h63)
        have HS4 := Lib.hid (HST.out o hol ⟨#[58, 63]⟩ (by decide) true (stB_two.trans (decide_eq_true ⟨h58, h63⟩)))
        have hol2 : o + 2 ≤ s.length := (List.getElem?_eq_some_iff.1 h63).1
        clear h63 h43 h47 h58 h125
        obtain ⟨T, hT⟩ : ∃ T, txt 58 s (o + 2) = T := ⟨_, rfl⟩
        have HT := Lib.hid hT
        cases T with
        | none =>
          clear hT
          go_wp2_with (first
            | (go_at_call 45; go_loud ((first | (with_reducible refine (HS1.out _ ?hX).mono ?_; (case hX => (focus (repeat (first | with_reducible exact HX.out | with_reducible apply Ext.drewN))))) | (with_reducible refine (HS2.out _ ?hX).mono ?_; (case hX => (focus (repeat (first | with_reducible exact HX.out | with_reducible apply Ext.drewN))))) | (with_reducible refine (HS3.out _ ?hX).mono ?_; (case hX => (focus (repeat (first | with_reducible exact HX.out | with_reducible apply Ext.drewN))))) | (with_reducible refine (HS4.out _ ?hX).mono ?_; (case hX => (focus (repeat (first | with_reducible exact HX.out | with_reducible apply Ext.drewN)))))); rintro e ws ⟨rfl, ns, rfl⟩))
            | (go_at_call 46; go_loud (refine (HWD.out 58 (by decide) (o + 2) (by omega) _ ?hX).mono ?_; (case hX => (focus (repeat (first | with_reducible exact HX.out | with_reducible apply Ext.setn | with_reducible apply Ext.setb HNBL.out | with_reducible apply Ext.drewN)))); rw [HT.out]; rintro e w3 ⟨hx, hx2⟩; have hf : w3.heap[nb]? = some (.cells #[.int .i64 4, .int .i64 n, .int .i64 0, .slice none 0 0, .slice none 0 0] 34 (0, 0)) := hx.heap (heap_set (o := 0) (u := .int .i64 4) HF.out); have hb := hx.heap ((heap_ne HNE.out).trans HB.out); have hX3 : Ext w w3 := Ext.trans (by (focus (repeat (first | with_reducible exact HX.out | with_reducible apply Ext.setn | with_reducible apply Ext.setb HNBL.out | with_reducible apply Ext.drewN)))) hx; clear q0 q1 q2 q3 q4 r0 r1 r2 r3 r4 d0 d1 d2 d3 d4 f0 f1 f2 f3 f4; have q0 := cell_of_row w3 nb 0 _ _ _ hf; have q1 := cell_of_row w3 nb 1 _ _ _ hf; have q2 := cell_of_row w3 nb 2 _ _ _ hf; have q3 := cell_of_row w3 nb 3 _ _ _ hf; have q4 := cell_of_row w3 nb 4 _ _ _ hf; have r0 := frozen_of_row w3 nb 0 _ _ hf; have r1 := frozen_of_row w3 nb 1 _ _ hf; have r2 := frozen_of_row w3 nb 2 _ _ hf; have r3 := frozen_of_row w3 nb 3 _ _ hf; have r4 := frozen_of_row w3 nb 4 _ _ hf; have d0 := cell_of_row w3 w.heap.size 0 _ _ _ hb; have d1 := cell_of_row w3 w.heap.size 1 _ _ _ hb; have d2 := cell_of_row w3 w.heap.size 2 _ _ _ hb; have d3 := cell_of_row w3 w.heap.size 3 _ _ _ hb; have d4 := cell_of_row w3 w.heap.size 4 _ _ _ hb; have f0 := frozen_of_row w3 w.heap.size 0 _ _ hb; have f1 := frozen_of_row w3 w.heap.size 1 _ _ hb; have f2 := frozen_of_row w3 w.heap.size 2 _ _ hb; have f3 := frozen_of_row w3 w.heap.size 3 _ _ hb; have f4 := frozen_of_row w3 w.heap.size 4 _ _ hb; have hnl3 := heap_lt hf; have hbl3 := heap_lt hb; have HF3 := Lib.hid hf; have HB3 := Lib.hid hb; have HX3 := Lib.hid hX3; clear hf hb hx hX3; rcases hx2 with ⟨t', k3', At, ct, hq, -, -⟩ | ⟨-, rfl⟩; (exact absurd hq (by simp)))))
          go_meet
          exact ⟨4, none, 0, 0, none, 0, 0, heap_set (o := 3) (u := .slice none 0 0) HF3.out, (heap_ne HNE.out).trans HB3.out, by (focus (repeat (first | with_reducible exact HX3.out | with_reducible apply Ext.setn | with_reducible apply Ext.setb HNBL.out | with_reducible apply Ext.drewN))), .inl ⟨by rw [← HR.out, HQ.out, HI.out, HT.out]; rfl, rfl⟩⟩
        | some p =>
          obtain ⟨t, k3⟩ := p
          have HK3 := Lib.hid (txt_le hT (by omega))
          have hk3a := HK3.out.1
          have hpos : decide ((0 : Int) < (k3 : Int)) = true := by simp; omega
          clear hT
          obtain ⟨T2, hT2⟩ : ∃ T, txt 125 s k3 = T := ⟨_, rfl⟩
          have HT2 := Lib.hid hT2
          have tok3 : True := trivial
          cases T2 with
          | none =>
            clear hT2
            go_wp2_with (first
              | (go_at_call 45; go_loud ((first | (with_reducible refine (HS1.out _ ?hX).mono ?_; (case hX => (focus (repeat (first | with_reducible exact HX.out | with_reducible apply Ext.drewN))))) | (with_reducible refine (HS2.out _ ?hX).mono ?_; (case hX => (focus (repeat (first | with_reducible exact HX.out | with_reducible apply Ext.drewN))))) | (with_reducible refine (HS3.out _ ?hX).mono ?_; (case hX => (focus (repeat (first | with_reducible exact HX.out | with_reducible apply Ext.drewN))))) | (with_reducible refine (HS4.out _ ?hX).mono ?_; (case hX => (focus (repeat (first | with_reducible exact HX.out | with_reducible apply Ext.drewN)))))); rintro e ws ⟨rfl, ns, rfl⟩))
              | (go_at_call 46; have _t := tok3;go_loud (refine (HWD.out 58 (by decide) (o + 2) (by omega) _ ?hX).mono ?_; (case hX => (focus (repeat (first | with_reducible exact HX.out | with_reducible apply Ext.setn | with_reducible apply Ext.setb HNBL.out | with_reducible apply Ext.drewN)))); rw [HT.out]; rintro e w3 ⟨hx, hx2⟩; have hf : w3.heap[nb]? = some (.cells #[.int .i64 4, .int .i64 n, .int .i64 0, .slice none 0 0, .slice none 0 0] 34 (0, 0)) := hx.heap (heap_set (o := 0) (u := .int .i64 4) HF.out); have hb := hx.heap ((heap_ne HNE.out).trans HB.out); have hX3 : Ext w w3 := Ext.trans (by (focus (repeat (first | with_reducible exact HX.out | with_reducible apply Ext.setn | with_reducible apply Ext.setb HNBL.out | with_reducible apply Ext.drewN)))) hx; clear q0 q1 q2 q3 q4 r0 r1 r2 r3 r4 d0 d1 d2 d3 d4 f0 f1 f2 f3 f4; have q0 := cell_of_row w3 nb 0 _ _ _ hf; have q1 := cell_of_row w3 nb 1 _ _ _ hf; have q2 := cell_of_row w3 nb 2 _ _ _ hf; have q3 := cell_of_row w3 nb 3 _ _ _ hf; have q4 := cell_of_row w3 nb 4 _ _ _ hf; have r0 := frozen_of_row w3 nb 0 _ _ hf; have r1 := frozen_of_row w3 nb 1 _ _ hf; have r2 := frozen_of_row w3 nb 2 _ _ hf; have r3 := frozen_of_row w3 nb 3 _ _ hf; have r4 := frozen_of_row w3 nb 4 _ _ hf; have d0 := cell_of_row w3 w.heap.size 0 _ _ _ hb; have d1 := cell_of_row w3 w.heap.size 1 _ _ _ hb; have d2 := cell_of_row w3 w.heap.size 2 _ _ _ hb; have d3 := cell_of_row w3 w.heap.size 3 _ _ _ hb; have d4 := cell_of_row w3 w.heap.size 4 _ _ _ hb; have f0 := frozen_of_row w3 w.heap.size 0 _ _ hb; have f1 := frozen_of_row w3 w.heap.size 1 _ _ hb; have f2 := frozen_of_row w3 w.heap.size 2 _ _ hb; have f3 := frozen_of_row w3 w.heap.size 3 _ _ hb; have f4 := frozen_of_row w3 w.heap.size 4 _ _ hb; have hnl3 := heap_lt hf; have hbl3 := heap_lt hb; have HF3 := Lib.hid hf; have HB3 := Lib.hid hb; have HX3 := Lib.hid hX3; clear hf hb hx hX3; rcases hx2 with ⟨t', k3', At, ct, hq, rfl, hv⟩ | ⟨hq, -⟩; rotate_left; (exact absurd hq (by simp)); injection hq with hq; injection hq with hq1 hq2; subst hq1 hq2; have HV3 := Lib.hid hv; have HXS3 := Lib.hid HX3.out.size; clear hv; clear tok3 _t))
              | (go_at_call 46; go_loud (refine (HWD.out 125 (by decide) k3 HK3.out.2 _ ?hX).mono ?_; (case hX => (focus (repeat (first | with_reducible exact HX3.out | with_reducible apply Ext.setn | with_reducible apply Ext.setb HNBL.out | with_reducible apply Ext.drewN)))); rw [HT2.out]; rintro e w5 ⟨hx, hx2⟩; have hf : w5.heap[nb]? = some (.cells #[.int .i64 4, .int .i64 n, .int .i64 0, .slice At t.length ct, .slice none 0 0] 34 (0, 0)) := hx.heap (heap_set (o := 3) (u := .slice At t.length ct) HF3.out); have hb := hx.heap ((heap_ne HNE.out).trans HB3.out); have hv5 := HV3.out.keep1 ((KeepT.setF HF3.out).trans (KeepT.of_ext hx)); have HV5 := Lib.hid hv5; have hX4 : Ext w w5 := Ext.trans (by (focus (repeat (first | with_reducible exact HX3.out | with_reducible apply Ext.setn | with_reducible apply Ext.setb HNBL.out | with_reducible apply Ext.drewN)))) hx; clear q0 q1 q2 q3 q4 r0 r1 r2 r3 r4 d0 d1 d2 d3 d4 f0 f1 f2 f3 f4; have q0 := cell_of_row w5 nb 0 _ _ _ hf; have q1 := cell_of_row w5 nb 1 _ _ _ hf; have q2 := cell_of_row w5 nb 2 _ _ _ hf; have q3 := cell_of_row w5 nb 3 _ _ _ hf; have q4 := cell_of_row w5 nb 4 _ _ _ hf; have r0 := frozen_of_row w5 nb 0 _ _ hf; have r1 := frozen_of_row w5 nb 1 _ _ hf; have r2 := frozen_of_row w5 nb 2 _ _ hf; have r3 := frozen_of_row w5 nb 3 _ _ hf; have r4 := frozen_of_row w5 nb 4 _ _ hf; have d0 := cell_of_row w5 w.heap.size 0 _ _ _ hb; have d1 := cell_of_row w5 w.heap.size 1 _ _ _ hb; have d2 := cell_of_row w5 w.heap.size 2 _ _ _ hb; have d3 := cell_of_row w5 w.heap.size 3 _ _ _ hb; have d4 := cell_of_row w5 w.heap.size 4 _ _ _ hb; have f0 := frozen_of_row w5 w.heap.size 0 _ _ hb; have f1 := frozen_of_row w5 w.heap.size 1 _ _ hb; have f2 := frozen_of_row w5 w.heap.size 2 _ _ hb; have f3 := frozen_of_row w5 w.heap.size 3 _ _ hb; have f4 := frozen_of_row w5 w.heap.size 4 _ _ hb; have hnl5 := heap_lt hf; have hbl5 := heap_lt hb; have HF4 := Lib.hid hf; have HB4 := Lib.hid hb; have HX4 := Lib.hid hX4; clear hf hb hx hX4 hv5; rcases hx2 with ⟨t', k3', At, ct, hq, -, -⟩ | ⟨-, rfl⟩; (exact absurd hq (by simp)))))
            go_meet
            exact ⟨4, At, t.length, ct, none, 0, 0, heap_set (o := 4) (u := .slice none 0 0) HF4.out, (heap_ne HNE.out).trans HB4.out, by (focus (repeat (first | with_reducible exact HX4.out | with_reducible apply Ext.setn | with_reducible apply Ext.setb HNBL.out | with_reducible apply Ext.drewN))), .inl ⟨by rw [← HR.out, HQ.out, HI.out, HT.out, Option.bind_some, HT2.out]; rfl, rfl⟩⟩
          | some p =>
            obtain ⟨t2, k5⟩ := p
            have hk5 := txt_le hT2 HK3.out.2
            have hk50 : ((k5 : Int) == 0) = false := by simp; omega
            obtain ⟨hk5a, hk5b⟩ := hk5
            clear hT2
            go_wp2_with (first
              | (go_at_call 45; go_loud ((first | (with_reducible refine (HS1.out _ ?hX).mono ?_; (case hX => (focus (repeat (first | with_reducible exact HX.out | with_reducible apply Ext.drewN))))) | (with_reducible refine (HS2.out _ ?hX).mono ?_; (case hX => (focus (repeat (first | with_reducible exact HX.out | with_reducible apply Ext.drewN))))) | (with_reducible refine (HS3.out _ ?hX).mono ?_; (case hX => (focus (repeat (first | with_reducible exact HX.out | with_reducible apply Ext.drewN))))) | (with_reducible refine (HS4.out _ ?hX).mono ?_; (case hX => (focus (repeat (first | with_reducible exact HX.out | with_reducible apply Ext.drewN)))))); rintro e ws ⟨rfl, ns, rfl⟩))
              | (go_at_call 46; have _t := tok3;go_loud (refine (HWD.out 58 (by decide) (o + 2) (by omega) _ ?hX).mono ?_; (case hX => (focus (repeat (first | with_reducible exact HX.out | with_reducible apply Ext.setn | with_reducible apply Ext.setb HNBL.out | with_reducible apply Ext.drewN)))); rw [HT.out]; rintro e w3 ⟨hx, hx2⟩; have hf : w3.heap[nb]? = some (.cells #[.int .i64 4, .int .i64 n, .int .i64 0, .slice none 0 0, .slice none 0 0] 34 (0, 0)) := hx.heap (heap_set (o := 0) (u := .int .i64 4) HF.out); have hb := hx.heap ((heap_ne HNE.out).trans HB.out); have hX3 : Ext w w3 := Ext.trans (by (focus (repeat (first | with_reducible exact HX.out | with_reducible apply Ext.setn | with_reducible apply Ext.setb HNBL.out | with_reducible apply Ext.drewN)))) hx; clear q0 q1 q2 q3 q4 r0 r1 r2 r3 r4 d0 d1 d2 d3 d4 f0 f1 f2 f3 f4; have q0 := cell_of_row w3 nb 0 _ _ _ hf; have q1 := cell_of_row w3 nb 1 _ _ _ hf; have q2 := cell_of_row w3 nb 2 _ _ _ hf; have q3 := cell_of_row w3 nb 3 _ _ _ hf; have q4 := cell_of_row w3 nb 4 _ _ _ hf; have r0 := frozen_of_row w3 nb 0 _ _ hf; have r1 := frozen_of_row w3 nb 1 _ _ hf; have r2 := frozen_of_row w3 nb 2 _ _ hf; have r3 := frozen_of_row w3 nb 3 _ _ hf; have r4 := frozen_of_row w3 nb 4 _ _ hf; have d0 := cell_of_row w3 w.heap.size 0 _ _ _ hb; have d1 := cell_of_row w3 w.heap.size 1 _ _ _ hb; have d2 := cell_of_row w3 w.heap.size 2 _ _ _ hb; have d3 := cell_of_row w3 w.heap.size 3 _ _ _ hb; have d4 := cell_of_row w3 w.heap.size 4 _ _ _ hb; have f0 := frozen_of_row w3 w.heap.size 0 _ _ hb; have f1 := frozen_of_row w3 w.heap.size 1 _ _ hb; have f2 := frozen_of_row w3 w.heap.size 2 _ _ hb; have f3 := frozen_of_row w3 w.heap.size 3 _ _ hb; have f4 := frozen_of_row w3 w.heap.size 4 _ _ hb; have hnl3 := heap_lt hf; have hbl3 := heap_lt hb; have HF3 := Lib.hid hf; have HB3 := Lib.hid hb; have HX3 := Lib.hid hX3; clear hf hb hx hX3; rcases hx2 with ⟨t', k3', At, ct, hq, rfl, hv⟩ | ⟨hq, -⟩; rotate_left; (exact absurd hq (by simp)); injection hq with hq; injection hq with hq1 hq2; subst hq1 hq2; have HV3 := Lib.hid hv; have HXS3 := Lib.hid HX3.out.size; clear hv; clear tok3 _t))
              | (go_at_call 46; go_loud (refine (HWD.out 125 (by decide) k3 HK3.out.2 _ ?hX).mono ?_; (case hX => (focus (repeat (first | with_reducible exact HX3.out | with_reducible apply Ext.setn | with_reducible apply Ext.setb HNBL.out | with_reducible apply Ext.drewN)))); rw [HT2.out]; rintro e w5 ⟨hx, hx2⟩; have hf : w5.heap[nb]? = some (.cells #[.int .i64 4, .int .i64 n, .int .i64 0, .slice At t.length ct, .slice none 0 0] 34 (0, 0)) := hx.heap (heap_set (o := 3) (u := .slice At t.length ct) HF3.out); have hb := hx.heap ((heap_ne HNE.out).trans HB3.out); have hv5 := HV3.out.keep1 ((KeepT.setF HF3.out).trans (KeepT.of_ext hx)); have HV5 := Lib.hid hv5; have hX4 : Ext w w5 := Ext.trans (by (focus (repeat (first | with_reducible exact HX3.out | with_reducible apply Ext.setn | with_reducible apply Ext.setb HNBL.out | with_reducible apply Ext.drewN)))) hx; clear q0 q1 q2 q3 q4 r0 r1 r2 r3 r4 d0 d1 d2 d3 d4 f0 f1 f2 f3 f4; have q0 := cell_of_row w5 nb 0 _ _ _ hf; have q1 := cell_of_row w5 nb 1 _ _ _ hf; have q2 := cell_of_row w5 nb 2 _ _ _ hf; have q3 := cell_of_row w5 nb 3 _ _ _ hf; have q4 := cell_of_row w5 nb 4 _ _ _ hf; have r0 := frozen_of_row w5 nb 0 _ _ hf; have r1 := frozen_of_row w5 nb 1 _ _ hf; have r2 := frozen_of_row w5 nb 2 _ _ hf; have r3 := frozen_of_row w5 nb 3 _ _ hf; have r4 := frozen_of_row w5 nb 4 _ _ hf; have d0 := cell_of_row w5 w.heap.size 0 _ _ _ hb; have d1 := cell_of_row w5 w.heap.size 1 _ _ _ hb; have d2 := cell_of_row w5 w.heap.size 2 _ _ _ hb; have d3 := cell_of_row w5 w.heap.size 3 _ _ _ hb; have d4 := cell_of_row w5 w.heap.size 4 _ _ _ hb; have f0 := frozen_of_row w5 w.heap.size 0 _ _ hb; have f1 := frozen_of_row w5 w.heap.size 1 _ _ hb; have f2 := frozen_of_row w5 w.heap.size 2 _ _ hb; have f3 := frozen_of_row w5 w.heap.size 3 _ _ hb; have f4 := frozen_of_row w5 w.heap.size 4 _ _ hb; have hnl5 := heap_lt hf; have hbl5 := heap_lt hb; have HF4 := Lib.hid hf; have HB4 := Lib.hid hb; have HX4 := Lib.hid hX4; clear hf hb hx hX4 hv5; rcases hx2 with ⟨t', k3', At2, ct2, hq, rfl, hv2⟩ | ⟨hq, -⟩; rotate_left; (exact absurd hq (by simp)); injection hq with hq; injection hq with hq1 hq2; subst hq1 hq2)))
            go_meet
            have hkt := KeepT.setF (o := 4) (u := .slice At2 t2.length ct2) HF4.out
            have hv5 := HV5.out.keep1 hkt
            have hv6 := hv2.keep1 hkt
            exact ⟨4, At, t.length, ct, At2, t2.length, ct2, heap_set (o := 4) (u := .slice At2 t2.length ct2) HF4.out, (heap_ne HNE.out).trans HB4.out, by (focus (repeat (first | with_reducible exact HX4.out | with_reducible apply Ext.setn | with_reducible apply Ext.setb HNBL.out | with_reducible apply Ext.drewN))), .inr ⟨t, t2, k5, by rw [← HR.out, HQ.out, HI.out, HT.out, Option.bind_some, HT2.out]; rfl, by omega, rfl, hv5.weaken (by simpa using HXS.out), hv6.weaken (by simpa using HXS3.out)⟩⟩
      have HS4 := Lib.hid (HST.out o hol ⟨#[58, 63]⟩ (by decide) false (stB_two.trans (decide_eq_false (fun h => h63 h.2))))
      by_cases h45 : s[o + 1]? = some 45
      · have HI := Lib.hid (show innA n s (o + 1) = (txt 125 s (o + 2)).map (fun p => (⟨3, n, 0, [], p.1⟩, p.2)) from inn_45 h45)
        have HS5 := Lib.hid (HST.out o hol ⟨#[58, 45]⟩ (by decide) true (stB_two.trans (decide_eq_true ⟨h58, h45⟩)))
        have hol2 : o + 2 ≤ s.length := (List.getElem?_eq_some_iff.1 h45).1
        clear h45 h63 h43 h47 h58 h125
        obtain ⟨T, hT⟩ : ∃ T, txt 125 s (o + 2) = T := ⟨_, rfl⟩
        have HT := Lib.hid hT
        cases T with
        | none =>
          clear hT
          go_wp2_with (first
            | (go_at_call 45; go_loud ((first | (with_reducible refine (HS1.out _ ?hX).mono ?_; (case hX => (focus (repeat (first | with_reducible exact HX.out | with_reducible apply Ext.drewN))))) | (with_reducible refine (HS2.out _ ?hX).mono ?_; (case hX => (focus (repeat (first | with_reducible exact HX.out | with_reducible apply Ext.drewN))))) | (with_reducible refine (HS3.out _ ?hX).mono ?_; (case hX => (focus (repeat (first | with_reducible exact HX.out | with_reducible apply Ext.drewN))))) | (with_reducible refine (HS4.out _ ?hX).mono ?_; (case hX => (focus (repeat (first | with_reducible exact HX.out | with_reducible apply Ext.drewN))))) | (with_reducible refine (HS5.out _ ?hX).mono ?_; (case hX => (focus (repeat (first | with_reducible exact HX.out | with_reducible apply Ext.drewN)))))); rintro e ws ⟨rfl, ns, rfl⟩))
            | (go_at_call 46; go_loud (refine (HWD.out 125 (by decide) (o + 2) (by omega) _ ?hX).mono ?_; (case hX => (focus (repeat (first | with_reducible exact HX.out | with_reducible apply Ext.setn | with_reducible apply Ext.setb HNBL.out | with_reducible apply Ext.drewN)))); rw [HT.out]; rintro e w3 ⟨hx, hx2⟩; have hf : w3.heap[nb]? = some (.cells #[.int .i64 3, .int .i64 n, .int .i64 0, .slice none 0 0, .slice none 0 0] 34 (0, 0)) := hx.heap (heap_set (o := 0) (u := .int .i64 3) HF.out); have hb := hx.heap ((heap_ne HNE.out).trans HB.out); have hX3 : Ext w w3 := Ext.trans (by (focus (repeat (first | with_reducible exact HX.out | with_reducible apply Ext.setn | with_reducible apply Ext.setb HNBL.out | with_reducible apply Ext.drewN)))) hx; clear q0 q1 q2 q3 q4 r0 r1 r2 r3 r4 d0 d1 d2 d3 d4 f0 f1 f2 f3 f4; have q0 := cell_of_row w3 nb 0 _ _ _ hf; have q1 := cell_of_row w3 nb 1 _ _ _ hf; have q2 := cell_of_row w3 nb 2 _ _ _ hf; have q3 := cell_of_row w3 nb 3 _ _ _ hf; have q4 := cell_of_row w3 nb 4 _ _ _ hf; have r0 := frozen_of_row w3 nb 0 _ _ hf; have r1 := frozen_of_row w3 nb 1 _ _ hf; have r2 := frozen_of_row w3 nb 2 _ _ hf; have r3 := frozen_of_row w3 nb 3 _ _ hf; have r4 := frozen_of_row w3 nb 4 _ _ hf; have d0 := cell_of_row w3 w.heap.size 0 _ _ _ hb; have d1 := cell_of_row w3 w.heap.size 1 _ _ _ hb; have d2 := cell_of_row w3 w.heap.size 2 _ _ _ hb; have d3 := cell_of_row w3 w.heap.size 3 _ _ _ hb; have d4 := cell_of_row w3 w.heap.size 4 _ _ _ hb; have f0 := frozen_of_row w3 w.heap.size 0 _ _ hb; have f1 := frozen_of_row w3 w.heap.size 1 _ _ hb; have f2 := frozen_of_row w3 w.heap.size 2 _ _ hb; have f3 := frozen_of_row w3 w.heap.size 3 _ _ hb; have f4 := frozen_of_row w3 w.heap.size 4 _ _ hb; have hnl3 := heap_lt hf; have hbl3 := heap_lt hb; have HF3 := Lib.hid hf; have HB3 := Lib.hid hb; have HX3 := Lib.hid hX3; clear hf hb hx hX3; rcases hx2 with ⟨t', k3', At, ct, hq, -, -⟩ | ⟨-, rfl⟩; (exact absurd hq (by simp)))))
          go_meet
          exact ⟨3, none, 0, 0, none, 0, 0, heap_set (o := 4) (u := .slice none 0 0) HF3.out, (heap_ne HNE.out).trans HB3.out, by (focus (repeat (first | with_reducible exact HX3.out | with_reducible apply Ext.setn | with_reducible apply Ext.setb HNBL.out | with_reducible apply Ext.drewN))), .inl ⟨by rw [← HR.out, HQ.out, HI.out, HT.out]; rfl, rfl⟩⟩
        | some p =>
          obtain ⟨t, k3⟩ := p
          have hk3 := txt_le hT (by omega)
          have hk30 : ((k3 : Int) == 0) = false := by simp; omega
          obtain ⟨hk3a, hk3b⟩ := hk3
          clear hT
          go_wp2_with (first
            | (go_at_call 45; go_loud ((first | (with_reducible refine (HS1.out _ ?hX).mono ?_; (case hX => (focus (repeat (first | with_reducible exact HX.out | with_reducible apply Ext.drewN))))) | (with_reducible refine (HS2.out _ ?hX).mono ?_; (case hX => (focus (repeat (first | with_reducible exact HX.out | with_reducible apply Ext.drewN))))) | (with_reducible refine (HS3.out _ ?hX).mono ?_; (case hX => (focus (repeat (first | with_reducible exact HX.out | with_reducible apply Ext.drewN))))) | (with_reducible refine (HS4.out _ ?hX).mono ?_; (case hX => (focus (repeat (first | with_reducible exact HX.out | with_reducible apply Ext.drewN))))) | (with_reducible refine (HS5.out _ ?hX).mono ?_; (case hX => (focus (repeat (first | with_reducible exact HX.out | with_reducible apply Ext.drewN)))))); rintro e ws ⟨rfl, ns, rfl⟩))
            | (go_at_call 46; go_loud (refine (HWD.out 125 (by decide) (o + 2) (by omega) _ ?hX).mono ?_; (case hX => (focus (repeat (first | with_reducible exact HX.out | with_reducible apply Ext.setn | with_reducible apply Ext.setb HNBL.out | with_reducible apply Ext.drewN)))); rw [HT.out]; rintro e w3 ⟨hx, hx2⟩; have hf : w3.heap[nb]? = some (.cells #[.int .i64 3, .int .i64 n, .int .i64 0, .slice none 0 0, .slice none 0 0] 34 (0, 0)) := hx.heap (heap_set (o := 0) (u := .int .i64 3) HF.out); have hb := hx.heap ((heap_ne HNE.out).trans HB.out); have hX3 : Ext w w3 := Ext.trans (by (focus (repeat (first | with_reducible exact HX.out | with_reducible apply Ext.setn | with_reducible apply Ext.setb HNBL.out | with_reducible apply Ext.drewN)))) hx; clear q0 q1 q2 q3 q4 r0 r1 r2 r3 r4 d0 d1 d2 d3 d4 f0 f1 f2 f3 f4; have q0 := cell_of_row w3 nb 0 _ _ _ hf; have q1 := cell_of_row w3 nb 1 _ _ _ hf; have q2 := cell_of_row w3 nb 2 _ _ _ hf; have q3 := cell_of_row w3 nb 3 _ _ _ hf; have q4 := cell_of_row w3 nb 4 _ _ _ hf; have r0 := frozen_of_row w3 nb 0 _ _ hf; have r1 := frozen_of_row w3 nb 1 _ _ hf; have r2 := frozen_of_row w3 nb 2 _ _ hf; have r3 := frozen_of_row w3 nb 3 _ _ hf; have r4 := frozen_of_row w3 nb 4 _ _ hf; have d0 := cell_of_row w3 w.heap.size 0 _ _ _ hb; have d1 := cell_of_row w3 w.heap.size 1 _ _ _ hb; have d2 := cell_of_row w3 w.heap.size 2 _ _ _ hb; have d3 := cell_of_row w3 w.heap.size 3 _ _ _ hb; have d4 := cell_of_row w3 w.heap.size 4 _ _ _ hb; have f0 := frozen_of_row w3 w.heap.size 0 _ _ hb; have f1 := frozen_of_row w3 w.heap.size 1 _ _ hb; have f2 := frozen_of_row w3 w.heap.size 2 _ _ hb; have f3 := frozen_of_row w3 w.heap.size 3 _ _ hb; have f4 := frozen_of_row w3 w.heap.size 4 _ _ hb; have hnl3 := heap_lt hf; have hbl3 := heap_lt hb; have HF3 := Lib.hid hf; have HB3 := Lib.hid hb; have HX3 := Lib.hid hX3; clear hf hb hx hX3; rcases hx2 with ⟨t', k3', At, ct, hq, rfl, hv⟩ | ⟨hq, -⟩; rotate_left; (exact absurd hq (by simp)); injection hq with hq; injection hq with hq1 hq2; subst hq1 hq2)))
          go_meet
          have hkt := KeepT.setF (o := 4) (u := .slice At t.length ct) HF3.out
          have hv3 := hv.keep1 hkt
          exact ⟨3, none, 0, 0, At, t.length, ct, heap_set (o := 4) (u := .slice At t.length ct) HF3.out, (heap_ne HNE.out).trans HB3.out, by (focus (repeat (first | with_reducible exact HX3.out | with_reducible apply Ext.setn | with_reducible apply Ext.setb HNBL.out | with_reducible apply Ext.drewN))), .inr ⟨[], t, k3, by rw [← HR.out, HQ.out, HI.out, HT.out]; rfl, by omega, rfl, SlB.nil_, (hv3.weaken (by simpa using HXS.out))⟩⟩
      have HS5 := Lib.hid (HST.out o hol ⟨#[58, 45]⟩ (by decide) false (stB_two.trans (decide_eq_false (fun h => h45 h.2))))
      have HI := Lib.hid (show innA n s (o + 1) = (txt 125 s (o + 1)).map (fun p => (⟨3, n, 0, [], p.1⟩, p.2)) from inn_no h47 h43 h63 h45)
      have HS6 := Lib.hid (HST.out o hol ⟨#[58]⟩ (by decide) true (stB_one.trans (decide_eq_true h58)))
      clear h45 h63 h43 h47 h58 h125
      obtain ⟨T, hT⟩ : ∃ T, txt 125 s (o + 1) = T := ⟨_, rfl⟩
      have HT := Lib.hid hT
      cases T with
      | none =>
        clear hT
        go_wp2_with (first
          | (go_at_call 45; go_loud ((first | (with_reducible refine (HS1.out _ ?hX).mono ?_; (case hX => (focus (repeat (first | with_reducible exact HX.out | with_reducible apply Ext.drewN))))) | (with_reducible refine (HS2.out _ ?hX).mono ?_; (case hX => (focus (repeat (first | with_reducible exact HX.out | with_reducible apply Ext.drewN))))) | (with_reducible refine (HS3.out _ ?hX).mono ?_; (case hX => (focus (repeat (first | with_reducible exact HX.out | with_reducible apply Ext.drewN))))) | (with_reducible refine (HS4.out _ ?hX).mono ?_; (case hX => (focus (repeat (first | with_reducible exact HX.out | with_reducible apply Ext.drewN))))) | (with_reducible refine (HS5.out _ ?hX).mono ?_; (case hX => (focus (repeat (first | with_reducible exact HX.out | with_reducible apply Ext.drewN))))) | (with_reducible refine (HS6.out _ ?hX).mono ?_; (case hX => (focus (repeat (first | with_reducible exact HX.out | with_reducible apply Ext.drewN)))))); rintro e ws ⟨rfl, ns, rfl⟩))
          | (go_at_call 46; go_loud (refine (HWD.out 125 (by decide) (o + 1) (by omega) _ ?hX).mono ?_; (case hX => (focus (repeat (first | with_reducible exact HX.out | with_reducible apply Ext.setn | with_reducible apply Ext.setb HNBL.out | with_reducible apply Ext.drewN)))); rw [HT.out]; rintro e w3 ⟨hx, hx2⟩; have hf : w3.heap[nb]? = some (.cells #[.int .i64 3, .int .i64 n, .int .i64 0, .slice none 0 0, .slice none 0 0] 34 (0, 0)) := hx.heap (heap_set (o := 0) (u := .int .i64 3) HF.out); have hb := hx.heap ((heap_ne HNE.out).trans HB.out); have hX3 : Ext w w3 := Ext.trans (by (focus (repeat (first | with_reducible exact HX.out | with_reducible apply Ext.setn | with_reducible apply Ext.setb HNBL.out | with_reducible apply Ext.drewN)))) hx; clear q0 q1 q2 q3 q4 r0 r1 r2 r3 r4 d0 d1 d2 d3 d4 f0 f1 f2 f3 f4; have q0 := cell_of_row w3 nb 0 _ _ _ hf; have q1 := cell_of_row w3 nb 1 _ _ _ hf; have q2 := cell_of_row w3 nb 2 _ _ _ hf; have q3 := cell_of_row w3 nb 3 _ _ _ hf; have q4 := cell_of_row w3 nb 4 _ _ _ hf; have r0 := frozen_of_row w3 nb 0 _ _ hf; have r1 := frozen_of_row w3 nb 1 _ _ hf; have r2 := frozen_of_row w3 nb 2 _ _ hf; have r3 := frozen_of_row w3 nb 3 _ _ hf; have r4 := frozen_of_row w3 nb 4 _ _ hf; have d0 := cell_of_row w3 w.heap.size 0 _ _ _ hb; have d1 := cell_of_row w3 w.heap.size 1 _ _ _ hb; have d2 := cell_of_row w3 w.heap.size 2 _ _ _ hb; have d3 := cell_of_row w3 w.heap.size 3 _ _ _ hb; have d4 := cell_of_row w3 w.heap.size 4 _ _ _ hb; have f0 := frozen_of_row w3 w.heap.size 0 _ _ hb; have f1 := frozen_of_row w3 w.heap.size 1 _ _ hb; have f2 := frozen_of_row w3 w.heap.size 2 _ _ hb; have f3 := frozen_of_row w3 w.heap.size 3 _ _ hb; have f4 := frozen_of_row w3 w.heap.size 4 _ _ hb; have hnl3 := heap_lt hf; have hbl3 := heap_lt hb; have HF3 := Lib.hid hf; have HB3 := Lib.hid hb; have HX3 := Lib.hid hX3; clear hf hb hx hX3; rcases hx2 with ⟨t', k3', At, ct, hq, -, -⟩ | ⟨-, rfl⟩; (exact absurd hq (by simp)))))
        go_meet
        exact ⟨3, none, 0, 0, none, 0, 0, heap_set (o := 4) (u := .slice none 0 0) HF3.out, (heap_ne HNE.out).trans HB3.out, by (focus (repeat (first | with_reducible exact HX3.out | with_reducible apply Ext.setn | with_reducible apply Ext.setb HNBL.out | with_reducible apply Ext.drewN))), .inl ⟨by rw [← HR.out, HQ.out, HI.out, HT.out]; rfl, rfl⟩⟩
      | some p =>
        obtain ⟨t, k3⟩ := p
        have hk3 := txt_le hT (by omega)
        have hk30 : ((k3 : Int) == 0) = false := by simp; omega
        obtain ⟨hk3a, hk3b⟩ := hk3
        clear hT
        go_wp2_with (first
          | (go_at_call 45; go_loud ((first | (with_reducible refine (HS1.out _ ?hX).mono ?_; (case hX => (focus (repeat (first | with_reducible exact HX.out | with_reducible apply Ext.drewN))))) | (with_reducible refine (HS2.out _ ?hX).mono ?_; (case hX => (focus (repeat (first | with_reducible exact HX.out | with_reducible apply Ext.drewN))))) | (with_reducible refine (HS3.out _ ?hX).mono ?_; (case hX => (focus (repeat (first | with_reducible exact HX.out | with_reducible apply Ext.drewN))))) | (with_reducible refine (HS4.out _ ?hX).mono ?_; (case hX => (focus (repeat (first | with_reducible exact HX.out | with_reducible apply Ext.drewN))))) | (with_reducible refine (HS5.out _ ?hX).mono ?_; (case hX => (focus (repeat (first | with_reducible exact HX.out | with_reducible apply Ext.drewN))))) | (with_reducible refine (HS6.out _ ?hX).mono ?_; (case hX => (focus (repeat (first | with_reducible exact HX.out | with_reducible apply Ext.drewN)))))); rintro e ws ⟨rfl, ns, rfl⟩))
          | (go_at_call 46; go_loud (refine (HWD.out 125 (by decide) (o + 1) (by omega) _ ?hX).mono ?_; (case hX => (focus (repeat (first | with_reducible exact HX.out | with_reducible apply Ext.setn | with_reducible apply Ext.setb HNBL.out | with_reducible apply Ext.drewN)))); rw [HT.out]; rintro e w3 ⟨hx, hx2⟩; have hf : w3.heap[nb]? = some (.cells #[.int .i64 3, .int .i64 n, .int .i64 0, .slice none 0 0, .slice none 0 0] 34 (0, 0)) := hx.heap (heap_set (o := 0) (u := .int .i64 3) HF.out); have hb := hx.heap ((heap_ne HNE.out).trans HB.out); have hX3 : Ext w w3 := Ext.trans (by (focus (repeat (first | with_reducible exact HX.out | with_reducible apply Ext.setn | with_reducible apply Ext.setb HNBL.out | with_reducible apply Ext.drewN)))) hx; clear q0 q1 q2 q3 q4 r0 r1 r2 r3 r4 d0 d1 d2 d3 d4 f0 f1 f2 f3 f4; have q0 := cell_of_row w3 nb 0 _ _ _ hf; have q1 := cell_of_row w3 nb 1 _ _ _ hf; have q2 := cell_of_row w3 nb 2 _ _ _ hf; have q3 := cell_of_row w3 nb 3 _ _ _ hf; have q4 := cell_of_row w3 nb 4 _ _ _ hf; have r0 := frozen_of_row w3 nb 0 _ _ hf; have r1 := frozen_of_row w3 nb 1 _ _ hf; have r2 := frozen_of_row w3 nb 2 _ _ hf; have r3 := frozen_of_row w3 nb 3 _ _ hf; have r4 := frozen_of_row w3 nb 4 _ _ hf; have d0 := cell_of_row w3 w.heap.size 0 _ _ _ hb; have d1 := cell_of_row w3 w.heap.size 1 _ _ _ hb; have d2 := cell_of_row w3 w.heap.size 2 _ _ _ hb; have d3 := cell_of_row w3 w.heap.size 3 _ _ _ hb; have d4 := cell_of_row w3 w.heap.size 4 _ _ _ hb; have f0 := frozen_of_row w3 w.heap.size 0 _ _ hb; have f1 := frozen_of_row w3 w.heap.size 1 _ _ hb; have f2 := frozen_of_row w3 w.heap.size 2 _ _ hb; have f3 := frozen_of_row w3 w.heap.size 3 _ _ hb; have f4 := frozen_of_row w3 w.heap.size 4 _ _ hb; have hnl3 := heap_lt hf; have hbl3 := heap_lt hb; have HF3 := Lib.hid hf; have HB3 := Lib.hid hb; have HX3 := Lib.hid hX3; clear hf hb hx hX3; rcases hx2 with ⟨t', k3', At, ct, hq, rfl, hv⟩ | ⟨hq, -⟩; rotate_left; (exact absurd hq (by simp)); injection hq with hq; injection hq with hq1 hq2; subst hq1 hq2)))
        go_meet
        have hkt := KeepT.setF (o := 4) (u := .slice At t.length ct) HF3.out
        have hv3 := hv.keep1 hkt
        exact ⟨3, none, 0, 0, At, t.length, ct, heap_set (o := 4) (u := .slice At t.length ct) HF3.out, (heap_ne HNE.out).trans HB3.out, by (focus (repeat (first | with_reducible exact HX3.out | with_reducible apply Ext.setn | with_reducible apply Ext.setb HNBL.out | with_reducible apply Ext.drewN))), .inr ⟨[], t, k3, by rw [← HR.out, HQ.out, HI.out, HT.out]; rfl, by omega, rfl, SlB.nil_, (hv3.weaken (by simpa using HXS.out))⟩⟩
end Go.Proofs.YtfblkahjefdmaaaDoor
