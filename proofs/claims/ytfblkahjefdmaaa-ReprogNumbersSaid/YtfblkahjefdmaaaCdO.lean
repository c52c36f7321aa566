/- Plain law: the document's program of a pattern is package reprog's. No program in sight. -/
import Derived.Test.YtfblkahjefdmaaaCa
import Derived.Test.YtfblkahjefdmaaaPc
namespace Go.Proofs.Ytfblkahjefdmaaa.PG
open RX (ReN)

/-- A pattern whose tree is small, or too long, or none. -/
def okp (s : List Int) : Bool := match RX.parse s with
  | (l, c, _) => c != 0 || decide (297 < lenT l.length l) || smallT l.length l
theorem parse_tree {s : List Int} {l : List ReN} {p : Int} (h : RX.parse s = (l, 0, p)) : Tree 0 l := by
  obtain ⟨b, hw, -⟩ := RX.parse_wf h
  have h1 := wf_tree hw (RX.parse_sms h) 0
  rwa [lift_zero] at h1
theorem compile_doc {s : List Int} {l : List ReN} {p : Int} (h : RX.parse s = (l, 0, p)) : (297 < lenT l.length l → compile s = ([], 3, (s.length : Int))) ∧ (lenT l.length l ≤ 297 → compile s = (iWhole l, 0, 0)) := by
  have hr := rel_whole l
  have hl := iWhole_len l
  rw [iTree_len] at hl
  have hn := hr.2.1
  unfold compile
  rw [h]
  dsimp only
  rw [if_pos rfl]
  refine ⟨fun hb => ?_, fun hb => ?_⟩
  · rw [if_pos (by omega)]
  · rw [if_neg (by omega), hr.2.2 (by omega)]
theorem compile_none {s : List Int} {l : List ReN} {c p : Int} (h : RX.parse s = (l, c, p)) (hc : c ≠ 0) : compile s = ([], c, p) := by
  unfold compile
  rw [h]
  dsimp only
  rw [if_neg hc]
theorem iWhole_cat (l : List ReN) : iWhole l = iS 0 ++ (iTree l.length l).map (moved 1) ++ [⟨3, 1, 0, false, []⟩, ⟨6, 0, 0, false, []⟩] := by
  unfold iWhole
  simp only [fl, iS, List.append_nil, List.append_assoc]
  rfl
end Go.Proofs.Ytfblkahjefdmaaa.PG
