/- For ResynMadeS: what the texts XPgY XPgA of wip/tpl say. -/
import Derived.Test.YtpcdknfmgacggaaP
import Derived.Test.YtpcdknfmgacggaaS
namespace Go.Proofs.Ytpcdknfmgacggaa
section
open Go.RowKit
/-- What a node asks of what is in it. -/
def KOk (x : RX.ReN) (K : List (List RX.ReN)) : Prop :=
  x.kind = 0 ∨ (x.kind = 1 ∧ K ≠ []) ∨ (x.kind = 2 ∧ 0 < x.set.length ∧ x.set.length ≤ 1000000) ∨ x.kind = 3 ∨ x.kind = 4 ∨ (x.kind = 5 ∧ K ≠ [] ∧ 0 ≤ x.lo ∧ x.lo ≤ 1000) ∨
    (x.kind = 6 ∧ K ≠ [] ∧ 0 ≤ x.lo ∧ x.lo ≤ 1000000 ∧ (x.hi < 0 ∨ (x.lo ≤ x.hi ∧ x.hi ≤ 1000000)))
theorem map_take_snoc {α β : Type} (f : α → β) (l : List α) (k : Nat) (h : k < l.length) : (l.take k).map f ++ [f l[k]] = (l.take (k + 1)).map f := by
  rw [List.take_succ_eq_append_getElem h, List.map_append]; rfl
end
section
open Go.RowKit
open RX (ReN WF WFs lift under Sm Sms)
theorem lift_zero (l : List ReN) : l.map (lift 0) = l := by
  conv => rhs; rw [← List.map_id l]
  exact List.map_congr_left fun x _ => by unfold lift; simp
end
end Go.Proofs.Ytpcdknfmgacggaa
