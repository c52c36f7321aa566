/- Plain law: the next number of a row. No program in sight. -/
namespace Go.Proofs.Ytfblkahjefdmaaa.TP
/-- The next number below n; the place behind it. -/
def next (ts : List Int) (i n : Nat) : Nat × Nat := match ts[i]? with | some x => ((x % 16777216).toNat % n, i + 1) | none => (0, i)
theorem next_lt (ts : List Int) (i : Nat) {n : Nat} (hn : 1 ≤ n) : (next ts i n).1 < n := by
  unfold next; split
  · exact Nat.mod_lt _ hn
  · exact hn
theorem next_le {ts : List Int} {i : Nat} (n : Nat) (h : i ≤ ts.length) : (next ts i n).2 ≤ ts.length := by
  unfold next; split
  · rename_i h1
    have := (List.getElem?_eq_some_iff.1 h1).1
    exact this
  · exact h
end Go.Proofs.Ytfblkahjefdmaaa.TP
