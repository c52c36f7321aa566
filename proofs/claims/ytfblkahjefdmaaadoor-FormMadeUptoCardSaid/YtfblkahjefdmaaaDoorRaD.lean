/- Words on memory for the document's own Scan: rows of parts whose last text grows in its place. -/
import Derived.Test.YtfblkahjefdmaaaDoorRaB
namespace Go.Proofs.YtfblkahjefdmaaaDoor
open Go.RowKit

/-- Five cells, as they are. -/
def Raw (_ : World) (cs x : List Value) : Prop := cs = x ∧ x.length = 5
theorem keeps_raw (T : List TypeId) : Keeps T Raw := fun _ _ _ _ _ h => h
def Fits (B T : Nat) (w : World) (css : List (List Value)) (fs : List FM.Form) : Prop := css.length = fs.length ∧ ∀ (k : Nat) (cs : List Value) (f : FM.Form), css[k]? = some cs → fs[k]? = some f → CFT B T w cs f
theorem Fits.nil_ {B T : Nat} {w : World} : Fits B T w [] [] := ⟨rfl, by intro k cs f h; simp at h⟩
theorem Fits.imp {B T B' T' : Nat} {w w' : World} {css : List (List Value)} {fs : List FM.Form} (h : Fits B T w css fs) (hi : ∀ cs f, CFT B T w cs f → CFT B' T' w' cs f) : Fits B' T' w' css fs :=
  ⟨h.1, fun k cs f h1 h2 => hi _ _ (h.2 k cs f h1 h2)⟩
theorem Fits.snoc {B T : Nat} {w : World} {css : List (List Value)} {fs : List FM.Form} {cs : List Value} {f : FM.Form} (h : Fits B T w css fs) (hc : CFT B T w cs f) : Fits B T w (css ++ [cs]) (fs ++ [f]) := by
  refine ⟨by rw [List.length_append, List.length_append, h.1]; rfl, fun k c g h1 h2 => ?_⟩
  rcases Nat.lt_or_ge k css.length with hk | hk
  · rw [List.getElem?_append_left hk] at h1
    rw [List.getElem?_append_left (by rw [← h.1]; exact hk)] at h2
    exact h.2 k c g h1 h2
  · rw [List.getElem?_append_right hk] at h1
    rw [List.getElem?_append_right (by rw [← h.1]; exact hk)] at h2
    rw [← h.1] at h2
    have hk0 : k - css.length = 0 := by
      rcases Nat.eq_zero_or_pos (k - css.length) with e | e
      · exact e
      · rw [List.getElem?_eq_none (by simp; omega)] at h1; cases h1
    rw [hk0] at h1 h2
    simp at h1 h2
    subst h1 h2
    exact hc
/-- A raw row is a row of parts. -/
theorem OwnB.parts {B T base : Nat} {w : World} {v : Value} {css : List (List Value)} {fs : List FM.Form} (h : OwnB 34 5 Raw base w v css) (hf : Fits B T w css fs) : OwnB 34 5 (CFT B T) base w v fs := by
  obtain ⟨flat, hown, h2⟩ := h
  refine ⟨flat, by rw [← hf.1]; exact hown, fun k f hk => ?_⟩
  have hlt : k < css.length := by rw [hf.1]; exact (List.getElem?_eq_some_iff.1 hk).1
  obtain ⟨cs, ⟨rfl, h3⟩, h4, h5⟩ := h2 k _ (List.getElem?_eq_getElem hlt)
  exact ⟨_, hf.2 k _ f (List.getElem?_eq_getElem hlt) hk, h4, h5⟩
/-- The last of a raw row: its block, its cells; a cell of it may be written over. -/
theorem OwnB.lastRaw {base : Nat} {w : World} {A : Option Addr} {n c : Nat} {css : List (List Value)} {cs : List Value} (h : OwnB 34 5 Raw base w (.slice A n c) (css ++ [cs])) :
    ∃ g cur, A = some ⟨g, 0, none⟩ ∧ base ≤ g ∧ n = css.length + 1 ∧ n ≤ c ∧ w.heap[g]? = some (.cells cur 34 (0, 0)) ∧ (∀ i u, cs[i]? = some u → cur[css.length * 5 + i]? = some u) ∧
      ∀ (w' : World) (u : Value) (i : Nat), i < 5 → w'.heap[g]? = some (.cells (cur.setIfInBounds (css.length * 5 + i) u) 34 (0, 0)) → OwnB 34 5 Raw base w' (.slice A n c) (css ++ [cs.set i u]) := by
  obtain ⟨flat, hown, h2⟩ := h
  obtain ⟨hl, hf⟩ := hown
  have hlen : (css ++ [cs]).length = css.length + 1 := by simp
  rcases hf with ⟨hv, h0⟩ | ⟨g, cap, cur, hv, hb, hg, hnc, hcm, hcs, htk⟩
  · rw [hlen] at h0; omega
  · injection hv with e1 e2 e3
    subst e1 e2 e3
    rw [hlen] at hl hnc htk
    have hat : ∀ i u, cs[i]? = some u → flat[css.length * 5 + i]? = some u := by
      intro i u hu
      obtain ⟨ds, ⟨h3, h4⟩, _, h5⟩ := h2 css.length cs (by simp)
      subst h3
      exact h5 i u hu
    have hcl : cs.length = 5 := by
      obtain ⟨ds, ⟨h3, h4⟩, _, _⟩ := h2 css.length cs (by simp)
      exact h4
    refine ⟨g, cur, rfl, hb, hlen, by rw [hlen]; exact hnc, hg, fun i u hu => ?_, fun w' u i hi hg' => ?_⟩
    · have h6 := hat i u hu
      rw [← htk, List.getElem?_take] at h6
      split at h6
      · simpa using h6
      · cases h6
    · have hl2 : (css ++ [cs.set i u]).length = css.length + 1 := by simp
      rw [hlen]
      refine ⟨flat.set (css.length * 5 + i) u, ⟨by rw [List.length_set, hl2]; exact hl, .inr ⟨g, c, _, by rw [hl2], hb, hg', by rw [hl2]; exact hnc, hcm, by rw [Array.size_setIfInBounds]; exact hcs, ?_⟩⟩, fun k x hx => ?_⟩
      · rw [hl2, Array.toList_setIfInBounds, List.take_set, htk]
      · rcases Nat.lt_or_ge k css.length with hk | hk
        · rw [List.getElem?_append_left hk] at hx
          obtain ⟨ds, h3, h4, h5⟩ := h2 k x (by rw [List.getElem?_append_left hk]; exact hx)
          refine ⟨ds, h3, h4, fun j y hy => ?_⟩
          have hj : j < 5 := by rw [← h4]; exact (List.getElem?_eq_some_iff.1 hy).1
          rw [List.getElem?_set_ne (by omega)]
          exact h5 j y hy
        · rw [List.getElem?_append_right hk] at hx
          have hk0 : k - css.length = 0 := by
            rcases Nat.eq_zero_or_pos (k - css.length) with e | e
            · exact e
            · rw [List.getElem?_eq_none (by simp; omega)] at hx; cases hx
          obtain rfl : k = css.length := by omega
          rw [hk0] at hx
          simp at hx
          subst hx
          refine ⟨_, ⟨rfl, by simpa using hcl⟩, by simpa using hcl, fun j y hy => ?_⟩
          rcases Nat.lt_or_ge j 5 with hj | hj
          · by_cases hij : i = j
            · subst hij
              rw [List.getElem?_set_self (by omega)] at hy
              rw [List.getElem?_set_self (by rw [hl]; omega)]
              exact hy
            · rw [List.getElem?_set_ne hij] at hy
              rw [List.getElem?_set_ne (by omega)]
              exact hat j y hy
          · rw [List.getElem?_eq_none (by rw [List.length_set]; omega)] at hy; cases hy

/-- The cells of a text that stands last. -/
def tcs (vt : Value) : List Value := [.int .i64 0, .int .i64 0, .int .i64 0, vt, .slice none 0 0]
def tl (tx : List Int) (vt : Value) : List (List Value) := if tx = [] then [] else [tcs vt]
/-- Inside of the document's own Scan: the parts so far, the last text's own row from T on. -/
structure Rcs (w : World) (T : Nat) (vl vt : Value) (cf : List (List Value)) (fs : List FM.Form) (tx : List Int) (wr : World) : Prop where
  ext : Ext w wr
  lo : w.heap.size ≤ T
  top : T ≤ wr.heap.size
  fit : Fits w.heap.size T wr cf fs
  own : OwnB 34 5 Raw w.heap.size wr vl (cf ++ tl tx vt)
  txt : OwnB 21 1 Cc T wr vt tx
  nt : ∀ f, fs.getLast? = some f → f.kind ≠ 0
section
variable {w wr w' : World} {T : Nat} {vl vt vl' vt' v' : Value} {cf : List (List Value)} {fs : List FM.Form} {tx : List Int}
theorem Rcs.start (w : World) : Rcs w w.heap.size (.slice none 0 0) (.slice none 0 0) [] [] [] w :=
  ⟨Ext.refl w, Nat.le_refl _, Nat.le_refl _, Fits.nil_, OwnB.nil_, OwnB.nil_, by intro f h; simp at h⟩
theorem Rcs.ext_ (h : Rcs w T vl vt cf fs tx wr) (hx : Ext wr w') : Rcs w T vl vt cf fs tx w' :=
  ⟨h.ext.trans hx, h.lo, Nat.le_trans h.top hx.size, h.fit.imp (fun _ _ hc => hc.keep (fun _ _ _ hg => hx.heap hg)), h.own.keepG (fun _ _ hc => hc) (fun _ _ _ hg => hx.heap hg), h.txt.keepG (fun _ _ hc => hc) (fun _ _ _ hg => hx.heap hg), h.nt⟩
theorem tl_len (cf : List (List Value)) (fs : List FM.Form) (tx : List Int) (vt : Value) (h : cf.length = fs.length) : (cf ++ tl tx vt).length = (FM.endT fs tx).length := by
  unfold tl FM.endT
  split <;> simp [h]
/-- The parts, with the text as one more. -/
theorem Rcs.fits (h : Rcs w T vl vt cf fs tx wr) : Fits w.heap.size wr.heap.size wr (cf ++ tl tx vt) (FM.endT fs tx) := by
  have h1 : Fits w.heap.size wr.heap.size wr cf fs := h.fit.imp (fun _ _ hc => hc.mono h.top)
  unfold tl FM.endT
  split
  · rw [List.append_nil]; exact h1
  · exact h1.snoc ⟨vt, _, rfl, ⟨h.txt.sl.weaken h.lo, h.txt.sl.blo⟩, SlB.nil_, Blo.nil_⟩
theorem Rcs.done (h : Rcs w T vl vt cf fs tx wr) : SlB 34 5 (CF w.heap.size) w.heap.size wr vl (FM.endT fs tx) :=
  ((h.own.parts h.fits).sl).imp (fun _ _ hc => hc.cf)
/-- Behind an append of a part. -/
theorem Rcs.part {cs : List Value} {f : FM.Form} (h : Rcs w T vl vt cf fs tx wr) (hf : CFT w.heap.size wr.heap.size wr cs f) (hk : f.kind ≠ 0) (h1 : OwnB 34 5 Raw w.heap.size w' v' ((cf ++ tl tx vt) ++ [cs])) (h2 : wr.grownBy w' vl.ownBlock) :
    Rcs w w'.heap.size v' (.slice none 0 0) ((cf ++ tl tx vt) ++ [cs]) (FM.endT fs tx ++ [f]) [] w' := by
  have hlt := fun k hk => (h.own.lt k hk).1
  refine ⟨h.ext.grown h2 hlt, Nat.le_trans h.ext.size h2.size, Nat.le_refl _, ?_, by rw [show tl [] (.slice none 0 0) = [] from rfl, List.append_nil]; exact h1, OwnB.nil_, by intro g hg; simp at hg; subst hg; exact hk⟩
  refine (h.fits.snoc hf).imp (fun _ _ hc => (hc.mono h2.size).keep (fun g cur _ hg => ?_))
  refine (h2.block g (heap_lt hg) (fun e => ?_)).trans hg
  obtain ⟨cur2, h4⟩ := h.own.type g e.symm
  rw [hg] at h4
  injection h4 with h4
  injection h4 with _ h4 _
  exact absurd h4 (by decide)
/-- Behind an append of a new text of one sign. -/
theorem Rcs.new {r : Int} {nb : Nat} (h : Rcs w T vl vt cf fs [] wr) (hnb : nb = wr.heap.size) (w1 : World) (hw1 : w1 = wr.alloc (.cells #[.int .i32 r] 21)) (w2 : World) (hx2 : Ext w1 w2)
    (h1 : OwnB 34 5 Raw w.heap.size w' v' (cf ++ [tcs (.slice (some ⟨nb, 0, none⟩) 1 1)])) (h2 : w2.grownBy w' vl.ownBlock) :
    Rcs w nb v' (.slice (some ⟨nb, 0, none⟩) 1 1) cf fs [r] w' := by
  subst hnb hw1
  have hlt := fun k hk => (h.own.lt k hk).1
  have hx1 : Ext wr w2 := ((Ext.refl wr).alloc _).trans hx2
  have hke : ∀ (g : Nat) (cur : Array Value), w2.heap[g]? = some (.cells cur 21 (0, 0)) → w'.heap[g]? = some (.cells cur 21 (0, 0)) := by
    intro g cur hg
    refine (h2.block g (heap_lt hg) (fun e => ?_)).trans hg
    obtain ⟨cur2, h4⟩ := h.own.type g e.symm
    have h5 := hx1.heap h4
    rw [hg] at h5
    injection h5 with h5
    injection h5 with _ h5 _
    exact absurd h5 (by decide)
  refine ⟨(h.ext.trans hx1).grown h2 hlt, h.ext.size, Nat.le_trans hx1.size h2.size, h.fit.imp (fun _ _ hc => (hc.mono h.top).keep (fun g cur _ hg => hke g cur (hx1.heap hg))), h1, ?_, h.nt⟩
  have h3 : OwnB 21 1 Cc wr.heap.size (wr.alloc (.cells #[.int .i32 r] 21)) (.slice (some ⟨wr.heap.size, 0, none⟩) 1 1) [r] := lit_c wr [r] (Nat.le_refl _) (by simp)
  exact h3.keepG (fun _ _ hc => hc) (fun g cur _ hg => hke g cur (hx2.heap hg))
/-- Behind an append to the last text, and its store. -/
theorem Rcs.more {A : Option Addr} {n c : Nat} {r : Int} {g o : Nat} (h : Rcs w T (.slice A n c) vt cf fs tx wr) (hne : tx ≠ []) (hg : A = some ⟨g, 0, none⟩) (ho : o = cf.length * 5 + 3)
    (h1 : OwnB 21 1 Cc T w' v' (tx ++ [r])) (h2 : wr.grownBy w' vt.ownBlock) : Rcs w T (.slice A n c) v' cf fs (tx ++ [r]) (w'.setCell ⟨g, o, none⟩ v') := by
  subst hg ho
  have hlt := fun k hk => (h.txt.lt k hk).1
  have hown := h.own
  rw [show tl tx vt = [tcs vt] from if_neg hne] at hown
  obtain ⟨g', cur', hA, hb, hn, hnc, hh, hcs, hset⟩ := hown.lastRaw
  injection hA with hA
  injection hA with hA _ _
  subst hA
  have hh2 : w'.heap[g]? = some (.cells cur' 34 (0, 0)) := by
    refine (h2.block g (heap_lt hh) (fun e => ?_)).trans hh
    obtain ⟨cur2, h4⟩ := h.txt.type g e.symm
    rw [hh] at h4
    injection h4 with h4
    injection h4 with _ h4 _
    exact absurd h4 (by decide)
  have hne2 : ∀ g2 cu, w'.heap[g2]? = some (.cells cu 21 (0, 0)) → g2 ≠ g := by
    intro g2 cu hg2 e
    subst e
    rw [hh2] at hg2
    injection hg2 with hg2
    injection hg2 with _ hg2 _
    exact absurd hg2 (by decide)
  refine ⟨(h.ext.grown h2 (fun k hk => Nat.le_trans h.lo (hlt k hk))).set (p := ⟨g, _, none⟩) hb _, h.lo, Nat.le_trans h.top (Nat.le_trans h2.size (by simp)), ?_, ?_, ?_, h.nt⟩
  · refine h.fit.imp (fun _ _ hc => hc.keep (fun g2 cu hg2 hh3 => ?_))
    have h3 : w'.heap[g2]? = some (.cells cu 21 (0, 0)) := (h2.block g2 (heap_lt hh3) (by intro e; have := hlt g2 e.symm; omega)).trans hh3
    rw [heap_ne (hne2 g2 _ h3)]; exact h3
  · rw [show tl (tx ++ [r]) v' = [tcs v'] from if_neg (by simp)]
    exact hset _ v' 3 (by omega) (heap_set hh2)
  · refine h1.keepG (fun _ _ hc => hc) (fun g2 cu _ hh3 => ?_)
    rw [heap_ne (hne2 g2 _ hh3)]; exact hh3
end
end Go.Proofs.YtfblkahjefdmaaaDoor
