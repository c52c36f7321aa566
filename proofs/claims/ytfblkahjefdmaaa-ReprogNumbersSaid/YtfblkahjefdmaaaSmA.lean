/- Words for law 8: a tree of nodes that is written over, node by node. -/
import Derived.Test.YtfblkahjefdmaaaQk
import Derived.Test.YtfblkahjefdmaaaSa
namespace Go.Proofs.Ytfblkahjefdmaaa
open Go.RowKit

/-- Nodes whose kinds and ranges may be written over. -/
structure Spl (B T : Nat) (A : Option Addr) (n : Nat) (w wr : World) : Prop where
  rng : Rng B T w wr
  cells : ∀ j, j < n → ∃ g o cur v k, A = some ⟨g, o, none⟩ ∧ B ≤ g ∧ g < T ∧ wr.heap[g]? = some (.cells cur 40 (0, 0)) ∧ cur[o + j * 7 + 6]? = some v ∧ cur[o + j * 7]? = some k ∧ Shp B T wr v
theorem Shp.ext {B T : Nat} {w w' : World} {v : Value} (h : Shp B T w v) (hx : Ext w w') : Shp B T w' v := h.spo fun _ cur hg => ⟨cur, hx.heap hg, rfl⟩
theorem Spl.start {B : Nat} {A : Option Addr} {c : Nat} {l : List RX.ReN} {w w2 : World} (h : SlRe B B w (.slice A l.length c) l) (hx : Ext w w2) : Spl B w.heap.size A l.length w2 w2 := by
  refine ⟨Rng.refl _ _ _, fun j hj => ?_⟩
  obtain ⟨A', c', e, hl, hc, hn, ha⟩ := h
  injection e with e1 _ e3
  subst e1 e3
  rcases A with _ | ad
  · have := hn rfl; omega
  obtain ⟨g, o, cur, rfl, hb, hg, hsz, hk⟩ := ha ad rfl
  obtain ⟨cs, hcr, hcell⟩ := hk j l[j] (List.getElem?_eq_getElem hj)
  obtain ⟨sv, rfl, hs⟩ := hcr
  exact ⟨g, o, cur, sv, .int .i64 l[j].kind, rfl, hb, heap_lt hg, hx.heap hg, hcell 6 _ rfl, by have := hcell 0 _ rfl; rwa [Nat.add_zero] at this, (Shp.of hs).ext hx⟩
theorem Spl.spoil {B T n : Nat} {A : Option Addr} {w wr wr' : World} (h : Spl B T A n w wr) (hs : Spo B T wr wr') : Spl B T A n w wr' := by
  refine ⟨h.rng.trans hs.rng, fun j hj => ?_⟩
  obtain ⟨g, o, cur, v, k, h1, h2, h3, h4, h5, h6, h7⟩ := h.cells j hj
  exact ⟨g, o, cur, v, k, h1, h2, h3, hs.oth g cur _ (by decide) h4, h5, h6, h7.spo hs.row⟩
theorem Spl.ext {B T n : Nat} {A : Option Addr} {w wr wr' : World} (h : Spl B T A n w wr) (hx : Ext wr wr') : Spl B T A n w wr' := by
  refine ⟨h.rng.trans (Rng.of_ext hx), fun j hj => ?_⟩
  obtain ⟨g, o, cur, v, k, h1, h2, h3, h4, h5, h6, h7⟩ := h.cells j hj
  exact ⟨g, o, cur, v, k, h1, h2, h3, hx.heap h4, h5, h6, h7.ext hx⟩
theorem Spl.kind {B T n g o j : Nat} {w wr : World} {u : Value} (h : Spl B T (some ⟨g, o, none⟩) n w wr) (hj : j < n) : Spl B T (some ⟨g, o, none⟩) n w (wr.setCell ⟨g, o + j * 7, none⟩ u) := by
  obtain ⟨g0, o0, cur0, _, _, h1, h2, h3, h40, _, h60, _⟩ := h.cells j hj
  injection h1 with h1
  injection h1 with e1 e2 _
  subst e1 e2
  refine ⟨h.rng.trans (Rng.set _ _ h2 h3), fun i hi => ?_⟩
  obtain ⟨g1, o1, cur, v, k, h1, _, _, h4, h5, h6, h7⟩ := h.cells i hi
  injection h1 with h1
  injection h1 with e1 e2 _
  subst e1 e2
  have hsh : Shp B T (wr.setCell ⟨g, o + j * 7, none⟩ u) v := h7.spo fun g2 cur2 hg2 => by
    have hne : g2 ≠ g := by
      intro e
      subst e
      rw [h4] at hg2
      injection hg2 with hg2
      injection hg2 with _ hg2 _
      revert hg2
      decide
    exact ⟨cur2, by rw [heap_nS hne]; exact hg2, rfl⟩
  rcases Nat.lt_trichotomy i j with hij | rfl | hij
  · exact ⟨g, o, _, v, k, rfl, h2, h3, heap_set h4, by rw [Array.getElem?_setIfInBounds_ne (by omega)]; exact h5, by rw [Array.getElem?_setIfInBounds_ne (by omega)]; exact h6, hsh⟩
  · have hb : o + i * 7 < cur.size := (Array.getElem?_eq_some_iff.1 h6).1
    exact ⟨g, o, _, v, u, rfl, h2, h3, heap_set h4, by rw [Array.getElem?_setIfInBounds_ne (by omega)]; exact h5, by simp [hb], hsh⟩
  · exact ⟨g, o, _, v, k, rfl, h2, h3, heap_set h4, by rw [Array.getElem?_setIfInBounds_ne (by omega)]; exact h5, by rw [Array.getElem?_setIfInBounds_ne (by omega)]; exact h6, hsh⟩
end Go.Proofs.Ytfblkahjefdmaaa
