/- Plain law: programs of regular texts, as functions on lists. No program in sight. -/
import Derived.Test.YtfblkahjefdmaaaReW
namespace Go.Proofs.Ytfblkahjefdmaaa.PG
open RX (ReN)

/-- An instruction. -/
structure Inst where
  op : Int
  x : Int
  y : Int
  neg : Bool
  set : List Int
/-- Instructions, and how many they are; 301: too many. -/
structure Part where
  l : List Inst
  n : Nat

def one (l : List Inst) : Part := ⟨l, l.length⟩
def moved (k : Int) (i : Inst) : Inst := if i.op = 4 then { i with x := i.x + k, y := i.y + k } else if i.op = 5 then { i with x := i.x + k } else i
def rowL : Part → List Part → Part
  | out, [] => out
  | out, p :: ps => if 301 ≤ out.n + p.n then ⟨[], 301⟩ else rowL ⟨out.l ++ p.l.map (moved out.l.length), out.n + p.n⟩ ps
def row (ps : List Part) : Part := rowL ⟨[], 0⟩ ps
def split (far : Int) (lazy : Bool) : Part := one [if lazy then ⟨4, far, 1, false, []⟩ else ⟨4, 1, far, false, []⟩]
def jump (far : Int) : Part := one [⟨5, far, 0, false, []⟩]
def save (x : Int) : Part := one [⟨3, x, 0, false, []⟩]
def either : List Part → Part
  | [] => ⟨[], 0⟩
  | [p] => p
  | p :: q :: ps => row [split (p.n + 2) false, p, jump ((either (q :: ps)).n + 1), either (q :: ps)]
def many (p : Part) (n : Nat) : Part := if p.n = 0 then ⟨[], 0⟩ else row (List.replicate n p)
def maybeL (p : Part) (lazy : Bool) : Nat → Part → Part
  | 0, out => out
  | n + 1, out => maybeL p lazy n (row [split (1 + p.n + out.n) lazy, p, out])
def maybe (p : Part) (n : Nat) (lazy : Bool) : Part := maybeL p lazy (if p.n = 301 then min n 1 else n) ⟨[], 0⟩
def loop (p : Part) (lazy : Bool) : Part := row [split (p.n + 2) lazy, p, jump (-(p.n : Int) - 1)]
/-- The trees right in a tree: n is fuel. -/
def kids : Nat → List ReN → List (List ReN)
  | 0, _ => []
  | _ + 1, [] => []
  | n + 1, x :: r => (x :: r.takeWhile fun y => decide (x.deep < y.deep)) :: kids n (r.dropWhile fun y => decide (x.deep < y.deep))
/-- The instructions of a node over those of what is in it. -/
def nodeP (x : ReN) (ins : List Part) : Part :=
  if x.kind = 0 then row ins
  else if x.kind = 1 then either ins
  else if x.kind = 2 then one [⟨0, 0, 0, x.neg, x.set⟩]
  else if x.kind = 3 then one [⟨1, 0, 0, false, []⟩]
  else if x.kind = 4 then one [⟨2, 0, 0, false, []⟩]
  else if x.kind = 5 then (if 0 < x.lo then row [save (2 * x.lo), ins.headD ⟨[], 0⟩, save (2 * x.lo + 1)] else ins.headD ⟨[], 0⟩)
  else if x.hi < 0 then row [many (ins.headD ⟨[], 0⟩) x.lo.toNat, loop (ins.headD ⟨[], 0⟩) x.lazy]
  else row [many (ins.headD ⟨[], 0⟩) x.lo.toNat, maybe (ins.headD ⟨[], 0⟩) (x.hi - x.lo).toNat x.lazy]
/-- The instructions of a tree: n is fuel. -/
def tree : Nat → List ReN → Part
  | 0, _ => ⟨[], 0⟩
  | _ + 1, [] => ⟨[], 0⟩
  | n + 1, x :: r => nodeP x ((kids r.length r).map (tree n))
def whole (l : List ReN) : Part := row [save 0, tree l.length l, save 1, one [⟨6, 0, 0, false, []⟩]]
/-- A pattern's program, or its fault. -/
def compile (s : List Int) : List Inst × Int × Int :=
  match RX.parse s with
  | (l, c, p) => if c = 0 then (if 300 < (whole l).n then ([], 3, s.length) else ((whole l).l, 0, 0)) else ([], c, p)

/-- A part is well made: its length, or too long. -/
def Fine (p : Part) : Prop := (p.n < 301 ∧ p.l.length = p.n) ∨ (p.n = 301 ∧ p.l = [])
theorem one_fine {l : List Inst} (h : l.length < 301) : Fine (one l) := .inl ⟨h, rfl⟩
theorem split_fine (far : Int) (lz : Bool) : Fine (split far lz) := one_fine (by simp)
theorem jump_fine (far : Int) : Fine (jump far) := one_fine (by simp)
theorem save_fine (x : Int) : Fine (save x) := one_fine (by simp)
/-- Parts one behind the other, moved. -/
def flat : Nat → List Part → List Inst
  | _, [] => []
  | k, p :: ps => p.l.map (moved k) ++ flat (k + p.n) ps
def total (ps : List Part) : Nat := (ps.map Part.n).foldr (· + ·) 0
theorem flat_len : ∀ (ps : List Part) (k : Nat), (∀ p ∈ ps, p.l.length = p.n) → (flat k ps).length = total ps
  | [], _, _ => rfl
  | p :: ps, k, h => by
    rw [flat, List.length_append, List.length_map, h p (by simp), flat_len ps _ (fun q hq => h q (by simp [hq]))]; rfl
theorem rowL_eq : ∀ (ps : List Part) (out : Part), out.l.length = out.n → out.n < 301 → (∀ p ∈ ps, Fine p) →
    (out.n + total ps < 301 → rowL out ps = ⟨out.l ++ flat out.n ps, out.n + total ps⟩ ∧ ∀ p ∈ ps, p.l.length = p.n) ∧ (301 ≤ out.n + total ps → rowL out ps = ⟨[], 301⟩)
  | [], out, h, h1, _ => ⟨fun _ => ⟨by simp [rowL, flat, total], by simp⟩, fun h2 => by simp [total] at h2; omega⟩
  | p :: ps, out, h, h1, hp => by
    have ht : total (p :: ps) = p.n + total ps := rfl
    rw [ht]
    rw [rowL]
    by_cases hc : 301 ≤ out.n + p.n
    · rw [if_pos hc]
      exact ⟨fun h2 => by omega, fun _ => rfl⟩
    · rw [if_neg hc]
      have hpl : p.l.length = p.n := by
        rcases hp p (by simp) with h3 | h3
        · exact h3.2
        · omega
      have ih := rowL_eq ps ⟨out.l ++ p.l.map (moved out.l.length), out.n + p.n⟩ (by simp only [List.length_append, List.length_map]; omega) (by show out.n + p.n < 301; omega) (fun q hq => hp q (by simp [hq]))
      refine ⟨fun h2 => ?_, fun h2 => ih.2 (by show 301 ≤ out.n + p.n + total ps; omega)⟩
      have h4 := ih.1 (by show out.n + p.n + total ps < 301; omega)
      refine ⟨?_, fun q hq => ?_⟩
      · rw [h4.1]
        simp only [flat, List.append_assoc, h, Nat.add_assoc]
      · rcases List.mem_cons.1 hq with rfl | hq
        · exact hpl
        · exact h4.2 q hq
theorem row_eq {ps : List Part} (hp : ∀ p ∈ ps, Fine p) : (total ps < 301 → row ps = ⟨flat 0 ps, total ps⟩ ∧ ∀ p ∈ ps, p.l.length = p.n) ∧ (301 ≤ total ps → row ps = ⟨[], 301⟩) := by
  have h := rowL_eq ps ⟨[], 0⟩ rfl (by decide) hp
  simp only [Nat.zero_add, List.nil_append] at h
  exact h
theorem row_fine {ps : List Part} (hp : ∀ p ∈ ps, Fine p) : Fine (row ps) := by
  have h := row_eq hp
  by_cases ht : total ps < 301
  · have h1 := h.1 ht
    rw [h1.1]
    exact .inl ⟨ht, flat_len ps 0 h1.2⟩
  · rw [h.2 (by omega)]; exact .inr ⟨rfl, rfl⟩

/-- An instruction at a place of so many: its targets. -/
def InOk (g n : Nat) (i : Nat) (x : Inst) : Prop :=
  (x.op = 4 → 0 ≤ x.x ∧ x.x ≤ n ∧ 0 ≤ x.y ∧ x.y ≤ n ∧ (x.x = x.y → x.x = i + 1)) ∧ (x.op = 5 → 0 ≤ x.x ∧ x.x ≤ n) ∧ (x.op = 3 → 0 ≤ x.x ∧ x.x ≤ 2 * g + 1) ∧ (x.op = 0 → x.set ≠ [] ∧ x.set.length % 2 = 0) ∧ 0 ≤ x.op ∧ x.op ≤ 5
/-- All targets of a part lie in it, or right behind it. -/
def Ok (g : Nat) (p : Part) : Prop := Fine p ∧ ∀ i x, p.l[i]? = some x → InOk g p.n i x
theorem moved_op (k : Int) (x : Inst) : (moved k x).op = x.op := by unfold moved; split; rfl; split <;> rfl
theorem moved_set (k : Int) (x : Inst) : (moved k x).set = x.set := by unfold moved; split; rfl; split <;> rfl
theorem InOk.moved {g n m i k : Nat} {x : Inst} (h : InOk g n i x) (hm : k + n ≤ m) : InOk g m (k + i) (moved k x) := by
  obtain ⟨h1, h2, h3, h4, h5, h6⟩ := h
  refine ⟨fun ho => ?_, fun ho => ?_, fun ho => ?_, fun ho => ?_, by rw [moved_op]; exact h5, by rw [moved_op]; exact h6⟩
  · rw [moved_op] at ho
    have := h1 ho
    unfold PG.moved
    rw [if_pos ho]
    simp only
    push_cast
    omega
  · rw [moved_op] at ho
    have := h2 ho
    unfold PG.moved
    rw [if_neg (by omega), if_pos ho]
    simp only
    omega
  · rw [moved_op] at ho
    have := h3 ho
    unfold PG.moved
    rw [if_neg (by omega), if_neg (by omega)]
    exact this
  · rw [moved_op] at ho
    rw [moved_set]
    exact h4 ho
/-- A part's instructions as they stand behind k others in a whole of m. -/
def At (g m k : Nat) (p : Part) : Prop := Fine p ∧ ∀ i x, p.l[i]? = some x → InOk g m (k + i) (moved k x)
theorem Ok.at_ {g m k : Nat} {p : Part} (h : Ok g p) (hm : k + p.n ≤ m) : At g m k p := ⟨h.1, fun i x hx => (h.2 i x hx).moved hm⟩
def AllAt (g m : Nat) : Nat → List Part → Prop
  | _, [] => True
  | k, p :: ps => At g m k p ∧ AllAt g m (k + p.n) ps
theorem allAt_flat {g m : Nat} : ∀ (ps : List Part) (k : Nat), AllAt g m k ps → (∀ p ∈ ps, p.l.length = p.n) → ∀ i x, (flat k ps)[i]? = some x → InOk g m (k + i) x
  | [], _, _, _, i, x, h => by simp [flat] at h
  | p :: ps, k, ha, hl, i, x, h => by
    rw [flat] at h
    have hp := hl p (by simp)
    rcases Nat.lt_or_ge i p.n with hi | hi
    · rw [List.getElem?_append_left (by simpa [hp] using hi), List.getElem?_map, Option.map_eq_some_iff] at h
      obtain ⟨y, h1, rfl⟩ := h
      exact ha.1.2 i y h1
    · rw [List.getElem?_append_right (by simpa [hp] using hi), List.length_map, hp] at h
      have := allAt_flat ps (k + p.n) ha.2 (fun q hq => hl q (by simp [hq])) _ _ h
      rw [show k + i = k + p.n + (i - p.n) by omega]; exact this
theorem row_ok {g : Nat} {ps : List Part} (hf : ∀ p ∈ ps, Fine p) (h : total ps < 301 → AllAt g (total ps) 0 ps) : Ok g (row ps) := by
  refine ⟨row_fine hf, fun i x hx => ?_⟩
  have he := row_eq hf
  by_cases ht : total ps < 301
  · have h1 := he.1 ht
    rw [h1.1] at hx ⊢
    have := allAt_flat ps 0 (h ht) h1.2 i x hx
    rwa [Nat.zero_add] at this
  · rw [he.2 (by omega)] at hx
    simp at hx
theorem row_oks {g : Nat} : ∀ (ps : List Part) (k m : Nat), (∀ p ∈ ps, Ok g p) → k + total ps ≤ m → AllAt g m k ps
  | [], _, _, _, _ => trivial
  | p :: ps, k, m, h, hm => by
    have ht : total (p :: ps) = p.n + total ps := rfl
    rw [ht] at hm
    exact ⟨(h p (by simp)).at_ (by omega), row_oks ps (k + p.n) m (fun q hq => h q (by simp [hq])) (by omega)⟩
theorem row_all {g : Nat} {ps : List Part} (h : ∀ p ∈ ps, Ok g p) : Ok g (row ps) :=
  row_ok (fun p hp => (h p hp).1) (fun _ => row_oks ps 0 _ h (by omega))

theorem at_one {g m k : Nat} {x : Inst} (h : InOk g m k (moved k x)) : At g m k (one [x]) := by
  refine ⟨one_fine (by simp), fun i y hy => ?_⟩
  match i, hy with
  | 0, hy => simp [one] at hy; subst hy; exact h
theorem at_split {g m k : Nat} {far : Int} {lz : Bool} (h0 : 1 ≤ far) (h1 : k + far ≤ m) (h2 : k + 1 ≤ m) : At g m k (split far lz) := by
  cases lz
  · show At g m k (one [⟨4, 1, far, false, []⟩])
    refine at_one ⟨fun _ => ?_, fun h => absurd h (by simp [moved]), fun h => absurd h (by simp [moved]), fun h => absurd h (by simp [moved]), by simp [moved], by simp [moved]⟩
    simp [moved]
    omega
  · show At g m k (one [⟨4, far, 1, false, []⟩])
    refine at_one ⟨fun _ => ?_, fun h => absurd h (by simp [moved]), fun h => absurd h (by simp [moved]), fun h => absurd h (by simp [moved]), by simp [moved], by simp [moved]⟩
    simp [moved]
    omega
theorem at_jump {g m k : Nat} {far : Int} (h0 : 0 ≤ k + far) (h1 : k + far ≤ m) : At g m k (jump far) := by
  refine at_one ⟨fun h => absurd h (by simp [moved]), fun _ => ?_, fun h => absurd h (by simp [moved]), fun h => absurd h (by simp [moved]), by simp [moved], by simp [moved]⟩
  simp [moved]
  omega
theorem at_save {g m k : Nat} {x : Int} (h0 : 0 ≤ x) (h1 : x ≤ 2 * g + 1) : At g m k (save x) := by
  refine at_one ⟨fun h => absurd h (by simp [moved]), fun h => absurd h (by simp [moved]), fun _ => ?_, fun h => absurd h (by simp [moved]), by simp [moved], by simp [moved]⟩
  simp [moved]
  omega
theorem either_ok {g : Nat} : ∀ (ps : List Part), (∀ p ∈ ps, Ok g p) → Ok g (either ps)
  | [], _ => ⟨.inl ⟨by decide, rfl⟩, by intro i x h; simp [either] at h⟩
  | [p], h => h p (by simp)
  | p :: q :: ps, h => by
    have h1 := either_ok (q :: ps) (fun x hx => h x (by simp at hx ⊢; right; exact hx))
    have h2 := h p (by simp)
    rw [either]
    generalize either (q :: ps) = out at h1
    refine row_ok ?_ ?_
    · intro x hx
      simp at hx
      rcases hx with rfl | rfl | rfl | rfl
      · exact split_fine _ _
      · exact h2.1
      · exact jump_fine _
      · exact h1.1
    · intro _
      have ht : total [split (p.n + 2) false, p, jump (out.n + 1), out] = 1 + (p.n + (1 + (out.n + 0))) := rfl
      rw [ht]
      exact ⟨at_split (by omega) (by omega) (by omega), h2.at_ (by show 0 + 1 + p.n ≤ _; omega), at_jump (by show (0 : Int) ≤ ((0 + 1 + p.n : Nat) : Int) + (out.n + 1); omega) (by show ((0 + 1 + p.n : Nat) : Int) + (out.n + 1) ≤ _; omega), h1.at_ (by show 0 + 1 + p.n + 1 + out.n ≤ _; omega), trivial⟩
theorem nil_ok {g : Nat} : Ok g ⟨[], 0⟩ := ⟨.inl ⟨by decide, rfl⟩, by intro i x h; simp at h⟩
theorem many_ok {g : Nat} {p : Part} (h : Ok g p) (n : Nat) : Ok g (many p n) := by
  unfold many
  split
  · exact nil_ok
  · exact row_all (fun q hq => by rw [List.eq_of_mem_replicate hq]; exact h)
theorem maybeL_ok {g : Nat} {p : Part} (h : Ok g p) (lz : Bool) : ∀ (n : Nat) (out : Part), Ok g out → Ok g (maybeL p lz n out)
  | 0, _, ho => ho
  | n + 1, out, ho => by
    rw [maybeL]
    refine maybeL_ok h lz n _ (row_ok ?_ ?_)
    · intro x hx
      simp at hx
      rcases hx with rfl | rfl | rfl
      · exact split_fine _ _
      · exact h.1
      · exact ho.1
    · intro _
      have ht : total [split (1 + p.n + out.n) lz, p, out] = 1 + (p.n + (out.n + 0)) := rfl
      rw [ht]
      exact ⟨at_split (by omega) (by omega) (by omega), h.at_ (by show 0 + 1 + p.n ≤ _; omega), ho.at_ (by show 0 + 1 + p.n + out.n ≤ _; omega), trivial⟩
theorem loop_ok {g : Nat} {p : Part} (h : Ok g p) (lz : Bool) : Ok g (loop p lz) := by
  refine row_ok ?_ ?_
  · intro x hx
    simp at hx
    rcases hx with rfl | rfl | rfl
    · exact split_fine _ _
    · exact h.1
    · exact jump_fine _
  · intro _
    have ht : total [split (p.n + 2) lz, p, jump (-(p.n : Int) - 1)] = 1 + (p.n + (1 + 0)) := rfl
    rw [ht]
    exact ⟨at_split (by omega) (by omega) (by omega), h.at_ (by show 0 + 1 + p.n ≤ _; omega), at_jump (by show (0 : Int) ≤ ((0 + 1 + p.n : Nat) : Int) + (-(p.n : Int) - 1); omega) (by show ((0 + 1 + p.n : Nat) : Int) + (-(p.n : Int) - 1) ≤ _; omega), trivial⟩
end Go.Proofs.Ytfblkahjefdmaaa.PG
