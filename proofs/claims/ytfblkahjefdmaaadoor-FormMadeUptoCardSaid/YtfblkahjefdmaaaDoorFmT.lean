/- Plain law: the formats that are made of a row of numbers. No program in sight. -/
import Derived.Test.YtfblkahjefdmaaaDoorFmQ
import Derived.Test.YtfblkahjefdmaaaDoorTaM
namespace Go.Proofs.YtfblkahjefdmaaaDoor.TP

def fmtL (ts : List Int) : Nat → Nat → List Int → List Int × Nat
  | 0, i, out => (out, i)
  | n + 1, i, out => fmtL ts n (one ts i FM.pieces).2 (out ++ (one ts i FM.pieces).1)
/-- Format without the / that ends it; the place behind it. -/
def fmt (ts : List Int) (i : Nat) : List Int × Nat := fmtL ts (next ts i 4).1 (next ts i 4).2 []

theorem one_mem {ts : List Int} {i : Nat} : (one ts i FM.pieces).1 ∈ FM.pieces := by
  unfold one
  have h := next_lt ts i (n := FM.pieces.length) (by decide)
  show FM.pieces.getD _ [] ∈ _
  rw [List.getD_eq_getElem?_getD, List.getElem?_eq_getElem h]
  exact List.getElem_mem h
theorem fmtL_ok {ts : List Int} : ∀ (n i : Nat) (out : List Int), i ≤ ts.length → (∃ ps : List (List Int), (∀ p ∈ ps, p ∈ FM.pieces) ∧ (fmtL ts n i out).1 = out ++ ps.flatten) ∧ (fmtL ts n i out).2 ≤ ts.length ∧ (fmtL ts n i out).1.length ≤ out.length + n * 17
  | 0, i, out, h => ⟨⟨[], (fun p hp => absurd hp (by simp)), by simp [fmtL]⟩, h, by simp [fmtL]⟩
  | n + 1, i, out, h => by
    have h1 := one_le FM.pieces h
    have h2 := one_len (ts := ts) (i := i) (l := FM.pieces) (n := 17) (by decide)
    obtain ⟨⟨ps, h3, h4⟩, h5, h6⟩ := fmtL_ok n (one ts i FM.pieces).2 (out ++ (one ts i FM.pieces).1) h1
    unfold fmtL
    refine ⟨⟨(one ts i FM.pieces).1 :: ps, ?_, ?_⟩, h5, ?_⟩
    · intro p hp
      rcases List.mem_cons.1 hp with rfl | hp
      · exact one_mem
      · exact h3 p hp
    · rw [h4, List.append_assoc, List.flatten_cons]
    · rw [List.length_append] at h6; rw [Nat.succ_mul]; omega
theorem fmt_ok {ts : List Int} {i : Nat} (h : i ≤ ts.length) : (∃ ps : List (List Int), (∀ p ∈ ps, p ∈ FM.pieces) ∧ (fmt ts i).1 = ps.flatten) ∧ (fmt ts i).2 ≤ ts.length ∧ (fmt ts i).1.length ≤ 51 := by
  have hn := next_lt ts i (n := 4) (by decide)
  obtain ⟨⟨ps, h3, h4⟩, h5, h6⟩ := fmtL_ok (ts := ts) (next ts i 4).1 (next ts i 4).2 [] (next_le 4 h)
  refine ⟨⟨ps, h3, by unfold fmt; rw [h4]; rfl⟩, h5, ?_⟩
  have h7 : (next ts i 4).1 * 17 ≤ 3 * 17 := Nat.mul_le_mul_right _ (by omega)
  unfold fmt; simp only [List.length_nil] at h6; omega
/-- A made format: signs alone; with a / behind it, whatever follows, it is scanned. -/
theorem fmt_scan {ts : List Int} {i : Nat} (h : i ≤ ts.length) : ((fmt ts i).1).all RX.isSign = true ∧ ∀ more, ∃ l j, FM.scanAll ((fmt ts i).1 ++ 47 :: more) = some (l, j) := by
  obtain ⟨⟨ps, h3, h4⟩, _⟩ := fmt_ok h
  rw [h4]
  constructor
  · rw [List.all_eq_true]
    intro x hx
    obtain ⟨p, hp, hx⟩ := List.mem_flatten.1 hx
    exact List.all_eq_true.1 (FM.pieces_sign p (h3 p hp)) x hx
  · intro more
    have h8 := (FM.pieces_scan more ps h3).1 ((ps.flatten ++ 47 :: more).length + 1) [] [] 0 (Nat.lt_succ_self _)
    obtain ⟨⟨l, j⟩, h9⟩ := Option.isSome_iff_exists.1 h8
    exact ⟨l, j, h9⟩
end Go.Proofs.YtfblkahjefdmaaaDoor.TP
