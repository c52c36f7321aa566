/- Plain law: the patterns that are made of a row of numbers. No program in sight. -/
import Derived.Test.YtfblkahjefdmaaaTpN
namespace Go.Proofs.Ytfblkahjefdmaaa.TP

def one (ts : List Int) (i : Nat) (l : List (List Int)) : List Int × Nat := (l.getD (next ts i l.length).1 [], (next ts i l.length).2)
def l1 : List (List Int) := [[97], [98], [99], [46], [95], [65], [32]]
def l2 : List (List Int) := [[92, 119], [92, 100], [92, 115], [91, 97, 98, 99, 93], [91, 94, 97, 45, 98, 93], [91, 92, 119, 45, 93], [92, 46], [92, 87], [91, 97, 45, 93]]
def l3 : List (List Int) := [[40], [40, 63, 58]]
def l4 : List (List Int) := [[94], [36], [], []]
def l5 : List (List Int) := [[97], [98], [40, 99, 41], [40, 97, 41]]
def lr : List (List Int) := [[], [], [42], [43], [63], [42, 63], [123, 49, 44, 50, 125], [123, 50, 125], [123, 48, 44, 125, 63]]

section
variable (ts : List Int) (deep : Bool) (sub : Nat → List Int × Nat)
/-- What stands in brackets. -/
def inner (i : Nat) : List Int × Nat :=
  let a := one ts i l3
  let p := sub a.2
  let m := next ts p.2 3
  if m.1 = 0 then (a.1 ++ p.1 ++ [124] ++ (sub m.2).1 ++ [41], (sub m.2).2) else (a.1 ++ p.1 ++ [41], m.2)
/-- An element, without its repeat; none: it takes none. -/
def item (i : Nat) : List Int × Nat :=
  let k := next ts i 10
  let rep (a : List Int × Nat) : List Int × Nat := (a.1 ++ (one ts a.2 lr).1, (one ts a.2 lr).2)
  if k.1 < 3 then rep (one ts k.2 l1)
  else if k.1 < 5 then rep (one ts k.2 l2)
  else if k.1 < 7 ∧ deep = true then rep (inner ts sub k.2)
  else if k.1 < 8 then one ts k.2 l4
  else rep (one ts k.2 l5)
def loop : Nat → Nat → List Int → List Int × Nat
  | 0, i, out => (out, i)
  | n + 1, i, out => loop n (item ts deep sub i).2 (out ++ (item ts deep sub i).1)
def made (i : Nat) : List Int × Nat := loop ts deep sub (1 + (next ts i 3).1) (next ts i 3).2 []
end
/-- Pattern of a depth. -/
def pat (ts : List Int) : Nat → Nat → List Int × Nat
  | 0 => made ts false (fun i => ([], i))
  | d + 1 => made ts true (pat ts d)

theorem one_le {ts : List Int} {i : Nat} (l : List (List Int)) (h : i ≤ ts.length) : (one ts i l).2 ≤ ts.length := next_le _ h
theorem getD_len {l : List (List Int)} {n : Nat} (h : ∀ x ∈ l, x.length ≤ n) (k : Nat) : (l.getD k []).length ≤ n := by
  rcases Nat.lt_or_ge k l.length with hk | hk
  · rw [List.getD_eq_getElem?_getD, List.getElem?_eq_getElem hk]; exact h _ (List.getElem_mem hk)
  · rw [List.getD_eq_getElem?_getD, List.getElem?_eq_none hk]; exact Nat.zero_le _
theorem one_len {ts : List Int} {i : Nat} {l : List (List Int)} {n : Nat} (h : ∀ x ∈ l, x.length ≤ n) : (one ts i l).1.length ≤ n := getD_len h _

/-- The places and lengths of what is made within. -/
def SubOk (ts : List Int) (b : Nat) (sub : Nat → List Int × Nat) : Prop := ∀ i, i ≤ ts.length → (sub i).2 ≤ ts.length ∧ (sub i).1.length ≤ b
section
variable {ts : List Int} {deep : Bool} {sub : Nat → List Int × Nat} {b : Nat}
theorem inner_ok (hs : SubOk ts b sub) {i : Nat} (h : i ≤ ts.length) : (inner ts sub i).2 ≤ ts.length ∧ (inner ts sub i).1.length ≤ 2 * b + 5 := by
  unfold inner
  simp only
  have h1 := one_le l3 h
  have h2 := one_len (ts := ts) (i := i) (l := l3) (n := 3) (by decide)
  have h3 := hs _ h1
  have h4 := next_le 3 h3.1
  have h5 := hs _ h4
  split
  · exact ⟨h5.1, by simp only [List.length_append, List.length_cons, List.length_nil]; omega⟩
  · exact ⟨h4, by simp only [List.length_append, List.length_cons, List.length_nil]; omega⟩
theorem item_ok (hs : SubOk ts b sub) {i : Nat} (h : i ≤ ts.length) : (item ts deep sub i).2 ≤ ts.length ∧ (item ts deep sub i).1.length ≤ 2 * b + 15 := by
  have hr : ∀ a : List Int × Nat, a.2 ≤ ts.length → a.1.length ≤ 2 * b + 9 → (one ts a.2 lr).2 ≤ ts.length ∧ (a.1 ++ (one ts a.2 lr).1).length ≤ 2 * b + 15 := fun a h1 h2 =>
    ⟨one_le lr h1, by have := one_len (ts := ts) (i := a.2) (l := lr) (n := 6) (by decide); rw [List.length_append]; omega⟩
  have hk := next_le 10 h
  unfold item
  simp only
  split
  · exact hr _ (one_le l1 hk) (by have := one_len (ts := ts) (i := (next ts i 10).2) (l := l1) (n := 6) (by decide); omega)
  split
  · exact hr _ (one_le l2 hk) (by have := one_len (ts := ts) (i := (next ts i 10).2) (l := l2) (n := 6) (by decide); omega)
  split
  · have := inner_ok hs hk
    exact hr _ this.1 (by omega)
  split
  · exact ⟨one_le l4 hk, by have := one_len (ts := ts) (i := (next ts i 10).2) (l := l4) (n := 6) (by decide); omega⟩
  · exact hr _ (one_le l5 hk) (by have := one_len (ts := ts) (i := (next ts i 10).2) (l := l5) (n := 6) (by decide); omega)
theorem loop_ok (hs : SubOk ts b sub) : ∀ (n i : Nat) (out : List Int), i ≤ ts.length → (loop ts deep sub n i out).2 ≤ ts.length ∧ (loop ts deep sub n i out).1.length ≤ out.length + n * (2 * b + 15)
  | 0, _, _, h => ⟨h, by simp [loop]⟩
  | n + 1, i, out, h => by
    have h1 := item_ok (deep := deep) hs h
    have h2 := loop_ok hs n (item ts deep sub i).2 (out ++ (item ts deep sub i).1) h1.1
    rw [List.length_append] at h2
    unfold loop
    exact ⟨h2.1, by rw [Nat.succ_mul]; omega⟩
theorem made_ok (hs : SubOk ts b sub) : SubOk ts (3 * (2 * b + 15)) (made ts deep sub) := by
  intro i h
  have hn := next_lt ts i (n := 3) (by decide)
  have h2 := loop_ok (deep := deep) hs (1 + (next ts i 3).1) (next ts i 3).2 [] (next_le 3 h)
  unfold made
  refine ⟨h2.1, Nat.le_trans h2.2 ?_⟩
  rw [List.length_nil, Nat.zero_add]
  exact Nat.mul_le_mul_right _ (by omega)
end
theorem pat0_ok (ts : List Int) : SubOk ts 45 (pat ts 0) := made_ok (b := 0) (fun _ h => ⟨h, Nat.le_refl _⟩)
theorem pat1_ok (ts : List Int) : SubOk ts 315 (pat ts 1) := made_ok (pat0_ok ts)
theorem pat2_ok (ts : List Int) : SubOk ts 1935 (pat ts 2) := made_ok (pat1_ok ts)
theorem pat3_ok (ts : List Int) : SubOk ts 11655 (pat ts 3) := made_ok (pat2_ok ts)
end Go.Proofs.Ytfblkahjefdmaaa.TP
