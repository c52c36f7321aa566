/- Readings for the second form: what the bound gives; rows of rows of signs; rows of parts. -/
import Derived.Test.YtfblkahjefdmaaaLaw
import Derived.Test.YtfblkahjefdmaaaTsC
import Derived.Deep.Slices
import Derived.JoinedCond
namespace Go.Proofs.Ytfblkahjefdmaaa
open Go.ChangeShapes Go.WideShapes Go.ChangeAt Go.RowKit

theorem bulk_one {H : Type} (d : DataW H) : 1 ≤ Rows.uptoBulk d := by
  cases d with
  | lit l => cases l <;> simp [Rows.uptoBulk]
  | _ => simp [Rows.uptoBulk]
theorem bulk_all {H : Type} : ∀ l : List (DataW H), l.length ≤ Rows.uptoBulkAll l
  | [] => Nat.zero_le _
  | d :: r => by
    have := bulk_all r
    have := bulk_one d
    simp [Rows.uptoBulkAll]; omega
theorem bulk_mem {H : Type} : ∀ {l : List (DataW H)} {d : DataW H}, d ∈ l → Rows.uptoBulk d ≤ Rows.uptoBulkAll l
  | [], _, h => by simp at h
  | e :: r, d, h => by
    simp only [Rows.uptoBulkAll]
    rcases List.mem_cons.1 h with rfl | h
    · omega
    · have := bulk_mem h; omega
theorem spot_none {W : World} {a : Addr} {v : Value} (h0 : W.cell? (a.add 0) = some v) : a.spot = none := by
  unfold Addr.add at h0
  simp only [if_true] at h0
  unfold World.cell? at h0
  split at h0
  · split at h0
    · cases h0
    · rename_i hs; simpa using hs
  · cases h0
theorem add_spot {a : Addr} (h : a.spot = none) (i : Nat) : a.add i = ⟨a.block, a.off + i, none⟩ := by
  unfold Addr.add; split
  · rename_i h2; subst h2; rw [Nat.add_zero, ← h]
  · rfl
section
variable {H : Type} {enc : TypeId × Value → H}
/-- A slice of signs in a cell. -/
theorem open_slx {W : World} {u : Value} {n : Nat} {y : DataW H × List MemPlace} (h : DataW.trod enc Try.prog W 0 (fun _ => true) true n 23 [u] = some y) : ∃ xs : List Int, SlC W u xs ∧ xs.length ≤ Rows.uptoBulk y.1 := by
  have hc : Try.prog.cellsOf 21 = 1 := by kernel_rfl
  rcases open_ints Try.underlying23 Try.underlying21 hc h with ⟨hcs, _⟩ | ⟨a, len, cap, zs, hcs, _, hl, hm, hz, hx, hcell, hwz⟩
  · injection hcs with hcs
    subst hcs
    exact ⟨[], SlR.nil_, Nat.zero_le _⟩
  · injection hcs with hcs
    subst hcs
    simp only [if_true] at hz
    have hlz : (zs.take len).length = len := by rw [List.length_take]; omega
    refine ⟨zs.take len, ⟨some a, cap, by rw [hlz], by rw [hlz]; exact hl, by unfold maxLen at hm; omega, fun i x hx => ?_, by intro h; cases h⟩, ?_⟩
    · have hi : i < len := by
        rcases Nat.lt_or_ge i len with h | h
        · exact h
        · rw [List.getElem?_eq_none (by omega)] at hx; cases hx
      have hsp := spot_none (hcell 0 (by omega))
      refine ⟨a.block, a.off, by rw [← hsp], ?_⟩
      have hi' := hcell i (by omega)
      have hx' : zs.getD i 0 = x := by
        rw [List.getElem?_take, if_pos hi] at hx
        simp [List.getD, hx]
      rw [hx', add_spot hsp] at hi'
      rw [Nat.mul_one]
      exact hi'
    · rw [hx]
      simp only [Rows.uptoBulk]
      refine Nat.le_trans (Nat.le_trans ?_ (bulk_all _)) (Nat.le_trans (Nat.le_add_right _ _) (Nat.le_add_right _ _))
      simp only [lits, List.length_map]
      exact Nat.le_refl _
theorem cells_form : Try.prog.cellsOf 82 = 5 := by kernel_rfl
theorem cells_sl : Try.prog.cellsOf 23 = 1 := by kernel_rfl
theorem cells_i : Try.prog.cellsOf 3 = 1 := by kernel_rfl
set_option maxRecDepth 100000 in
/-- A part's five cells. -/
theorem open_form {W : World} {cs : List Value} {n : Nat} {y : DataW H × List MemPlace} (h : DataW.trod enc Try.prog W 0 (fun _ => true) true n 82 cs = some y) :
    ∃ f : FM.Form, CFC W cs f ∧ f.text.length ≤ Rows.uptoBulk y.1 ∧ f.els.length ≤ Rows.uptoBulk y.1 := by
  obtain ⟨xs, m, hk, rfl, hlen, hxl, hf⟩ := DataW.trod_struct Try.underlying82 h
  rw [cells_form] at hlen
  match xs, hxl, cs, hlen with
  | [y0, y1, y2, y3, y4], _, [c0, c1, c2, c3, c4], _ =>
    have g0 := hf 0 _ rfl
    have g1 := hf 1 _ rfl
    have g2 := hf 2 _ rfl
    have g3 := hf 3 _ rfl
    have g4 := hf 4 _ rfl
    simp [cells_i, cells_sl] at g0 g1 g2 g3 g4
    obtain ⟨k, h0, -, -⟩ := DataW.trod_int Try.underlying3 g0
    obtain ⟨g, h1, -, -⟩ := DataW.trod_int Try.underlying3 g1
    obtain ⟨c, h2, -, -⟩ := DataW.trod_int Try.underlying3 g2
    obtain ⟨tx, ht, hlt⟩ := open_slx g3
    obtain ⟨es, he, hle⟩ := open_slx g4
    injection h0 with h0
    injection h1 with h1
    injection h2 with h2
    subst h0 h1 h2
    refine ⟨⟨k, g, c, tx, es⟩, ⟨c3, c4, rfl, ht, he⟩, ?_, ?_⟩
    · simp only [List.map_cons, List.map_nil, Rows.uptoBulk, Rows.uptoBulkAll]
      omega
    · simp only [List.map_cons, List.map_nil, Rows.uptoBulk, Rows.uptoBulkAll]
      omega
set_option maxRecDepth 100000 in
/-- An argument that is a row of parts. -/
theorem open_formsV {W : World} {base : Nat} {v : Value} {d : DataW H} {p : List MemPlace} (hok : Value.okWide Try.prog W .any base 70 v) (h : DataW.Trod enc Try.prog W 0 (fun _ => true) true 70 v d p) :
    ∃ l : List FM.Form, SlF W v l ∧ ∀ f ∈ l, f.text.length ≤ Rows.uptoBulk d ∧ f.els.length ≤ Rows.uptoBulk d := by
  obtain ⟨a0, len, cap, rfl⟩ := okWide_slice Try.underlying70 hok
  obtain ⟨fuel, hf⟩ := h
  rcases Deep.open_slice Try.underlying70 hf with ⟨hcs, _⟩ | ⟨a, len', cap', m, n, D, Pl, hcs, hb, hl, hm, hmm, hx, hel⟩
  · simp [Value.cells] at hcs
    obtain ⟨rfl, rfl, rfl⟩ := hcs
    exact ⟨[], SlR.nil_, by simp⟩
  · simp [Value.cells] at hcs
    obtain ⟨rfl, rfl, rfl⟩ := hcs
    simp only [if_true] at hmm
    simp only [Prod.mk.injEq] at hx
    obtain ⟨l, hll, hle⟩ := pick_list (n := len) (P := fun i (f : FM.Form) => ∃ cs, CFC W cs f ∧ (∀ (j : Nat) (u : Value), cs[j]? = some u → W.cell? ((a.add (i * 5)).add j) = some u) ∧ f.text.length ≤ Rows.uptoBulk (D i) ∧ f.els.length ≤ Rows.uptoBulk (D i)) (fun i hi => by
      obtain ⟨cs', h1, h2⟩ := hel i (by omega)
      rw [cells_form] at h1
      obtain ⟨_, hlen, hcell⟩ := World.cells?_some h1
      obtain ⟨f, h3, h4, h5⟩ := open_form h2
      refine ⟨f, cs', h3, fun j u hu => ?_, h4, h5⟩
      rw [hcell j (by rw [← hlen]; exact (List.getElem?_eq_some_iff.1 hu).1)]
      exact hu)
    refine ⟨l, ⟨some a, cap, by rw [hll], by rw [hll]; exact hl, by unfold maxLen at hm; omega, fun i x hxi => ?_, by intro h; cases h⟩, fun f hf => ?_⟩
    · obtain ⟨cs, h1, h2, -, -⟩ := hle i x hxi
      have h5 := h1.five.1
      have hi : i < len := by rw [← hll]; exact (List.getElem?_eq_some_iff.1 hxi).1
      have hsp : a.spot = none := by
        obtain ⟨cs0, h10, h20, -, -⟩ := hle 0 _ (List.getElem?_eq_getElem (by omega : 0 < l.length))
        have h50 := h10.five.1
        have h0 := h20 0 _ (List.getElem?_eq_getElem (by omega))
        rw [Nat.zero_mul, Deep.add_add] at h0
        exact spot_none h0
      refine ⟨a.block, a.off, by rw [← hsp], cs, h1, fun j u hu => ?_⟩
      have := h2 j u hu
      rw [Deep.add_add, add_spot hsp] at this
      rw [Nat.add_assoc]
      exact this
    · obtain ⟨i, hi, rfl⟩ := List.mem_iff_getElem.1 hf
      obtain ⟨cs, -, -, h3, h4⟩ := hle i _ (List.getElem?_eq_getElem hi)
      have hb : Rows.uptoBulk (D i) ≤ Rows.uptoBulk d := by
        rw [hx.1]
        simp only [Rows.uptoBulk]
        have := bulk_mem (l := (List.range len).map D) (d := D i) (List.mem_map.2 ⟨i, List.mem_range.2 (by omega), rfl⟩)
        omega
      omega
set_option maxRecDepth 100000 in
/-- An argument that is a row of rows of signs. -/
theorem open_rowsV {W : World} {base : Nat} {v : Value} {d : DataW H} {p : List MemPlace} (hok : Value.okWide Try.prog W .any base 71 v) (h : DataW.Trod enc Try.prog W 0 (fun _ => true) true 71 v d p) :
    ∃ gs : List (List Int), SlG W v gs ∧ ∀ g ∈ gs, g.length ≤ Rows.uptoBulk d := by
  obtain ⟨a0, len, cap, rfl⟩ := okWide_slice Try.underlying71 hok
  obtain ⟨fuel, hf⟩ := h
  rcases Deep.open_slice Try.underlying71 hf with ⟨hcs, _⟩ | ⟨a, len', cap', m, n, D, Pl, hcs, hb, hl, hm, hmm, hx, hel⟩
  · simp [Value.cells] at hcs
    obtain ⟨rfl, rfl, rfl⟩ := hcs
    exact ⟨[], SlR.nil_, by simp⟩
  · simp [Value.cells] at hcs
    obtain ⟨rfl, rfl, rfl⟩ := hcs
    simp only [if_true] at hmm
    simp only [Prod.mk.injEq] at hx
    obtain ⟨l, hll, hle⟩ := pick_list (n := len) (P := fun i (g : List Int) => (∃ u, SlC W u g ∧ W.cell? ((a.add (i * 1)).add 0) = some u) ∧ g.length ≤ Rows.uptoBulk (D i)) (fun i hi => by
      obtain ⟨cs', h1, h2⟩ := hel i (by omega)
      rw [cells_sl] at h1
      obtain ⟨_, hlen, hcell⟩ := World.cells?_some h1
      match cs', hlen with
      | [u], _ =>
        obtain ⟨g, h3, h4⟩ := open_slx h2
        exact ⟨g, ⟨u, h3, by rw [hcell 0 (by decide)]; rfl⟩, h4⟩)
    refine ⟨l, ⟨some a, cap, by rw [hll], by rw [hll]; exact hl, by unfold maxLen at hm; omega, fun i x hxi => ?_, by intro h; cases h⟩, fun g hg => ?_⟩
    · obtain ⟨⟨u, h1, h2⟩, -⟩ := hle i x hxi
      have hi : i < len := by rw [← hll]; exact (List.getElem?_eq_some_iff.1 hxi).1
      have hsp : a.spot = none := by
        obtain ⟨⟨u0, h10, h20⟩, -⟩ := hle 0 _ (List.getElem?_eq_getElem (by omega : 0 < l.length))
        rw [Nat.zero_mul, Deep.add_add] at h20
        exact spot_none h20
      refine ⟨a.block, a.off, by rw [← hsp], u, ?_, h1⟩
      rw [Deep.add_add, add_spot hsp] at h2
      exact h2
    · obtain ⟨i, hi, rfl⟩ := List.mem_iff_getElem.1 hg
      obtain ⟨-, h4⟩ := hle i _ (List.getElem?_eq_getElem hi)
      have hb : Rows.uptoBulk (D i) ≤ Rows.uptoBulk d := by
        rw [hx.1]
        simp only [Rows.uptoBulk]
        have := bulk_mem (l := (List.range len).map D) (d := D i) (List.mem_map.2 ⟨i, List.mem_range.2 (by omega), rfl⟩)
        omega
      omega
end
end Go.Proofs.Ytfblkahjefdmaaa
