/- Walk: the law TransformFull; its plain law: each sign is doubled. -/
import Derived.Test.YtfblkahjefdmaaaTrJ
import Derived.Test.YtfblkahjefdmaaaMd
import Derived.Laws.CopyOwn
import Derived.Deep.OwnRows
namespace Go.Proofs.Ytfblkahjefdmaaa
open Go.RowKit

namespace TR
open MX (Tries First Alls act hits mark)
def dotI : PG.Inst := ⟨0, 0, 0, true, [10, 10]⟩
def dotK : List PG.Inst := [⟨3, 0, 0, false, []⟩, dotI, ⟨3, 1, 0, false, []⟩, ⟨6, 0, 0, false, []⟩]
def dotT : List RX.ReN := [⟨0, 0, 0, 0, false, false, []⟩, ⟨2, 1, 0, 0, false, true, [10, 10]⟩]
theorem compile_dot : PG.compile [46] = (dotK, 0, 0) := by kernel_rfl
theorem parse_dot : RX.parse [46] = (dotT, 0, 0) := by kernel_rfl
theorem groups_dot : RX.groups dotT = 0 := rfl
theorem dot_act (s : List Int) (k : Nat) : act dotK false s 0 k = .save 0 ∧ act dotK false s 1 k = (if hits false s k dotI = true then .to 2 (k + 1) else .fail) ∧ act dotK false s 2 k = .save 1 ∧ act dotK false s 3 k = .done := ⟨rfl, rfl, rfl, rfl⟩
theorem dot_hits {s : List Int} (hs : ∀ x ∈ s, x ≠ 10) (k : Nat) : hits false s k dotI = decide (k < s.length) := by
  unfold hits
  rcases Nat.lt_or_ge k s.length with h | h
  · rw [List.getElem?_eq_getElem h]
    have h1 := hs _ (List.getElem_mem h)
    simp only [MX.isIn, dotI, MX.lies, decide_eq_true h]
    have e : (decide (10 ≤ s[k]) && decide (s[k] ≤ 10)) = false := by
      rw [Bool.and_eq_false_iff]
      simp only [decide_eq_false_iff_not]
      omega
    rw [e]
    rfl
  · rw [List.getElem?_eq_none h, decide_eq_false (by omega)]
theorem dot_hit {s : List Int} (hs : ∀ x ∈ s, x ≠ 10) {k : Nat} (hk : k < s.length) : Tries (act dotK false s) (MX.blank 0) k (some [(k : Int), ((k + 1 : Nat) : Int)]) := by
  obtain ⟨a0, a1, -, -⟩ := dot_act s k
  obtain ⟨-, -, a2, a3⟩ := dot_act s (k + 1)
  rw [dot_hits hs, decide_eq_true hk, if_pos rfl] at a1
  refine ⟨_, .save _ _ 0 k 0 _ _ rfl a0 (.to _ _ 1 k 2 (k + 1) _ _ ?_ a1 (.save _ _ 2 (k + 1) 1 _ _ ?_ a2 (.done _ 3 (k + 1) _ ?_ a3)))⟩
  · rw [MX.mark_far (by omega)]
  · rw [MX.mark_far (by omega), MX.mark_far (by omega)]
  · rw [MX.mark_far (by omega), MX.mark_far (by omega), MX.mark_far (by omega)]
theorem dot_miss {s : List Int} (hs : ∀ x ∈ s, x ≠ 10) : Tries (act dotK false s) (MX.blank 0) s.length none := by
  obtain ⟨a0, a1, -, -⟩ := dot_act s s.length
  rw [dot_hits hs, decide_eq_false (by omega), if_neg (by decide)] at a1
  refine ⟨_, .save _ _ 0 s.length 0 _ _ rfl a0 (.fail _ 1 s.length _ ?_ a1)⟩
  rw [MX.mark_far (by omega)]
def dotL (k j : Nat) : List (List Int) := (List.range' k j).map fun (i : Nat) => [(i : Int), ((i + 1 : Nat) : Int)]
theorem dot_alls {s : List Int} (hs : ∀ x ∈ s, x ≠ 10) : ∀ (j k : Nat), k + j = s.length → Alls (act dotK false s) s.length (MX.blank 0) k (dotL k j)
  | 0, k, h => .none_ k (by omega) (fun p h1 h2 => by
    obtain rfl : p = s.length := by omega
    exact dot_miss hs)
  | j + 1, k, h => by
    have ih := dot_alls hs j (k + 1) (by omega)
    refine .more k k (k + 1) [(k : Int), ((k + 1 : Nat) : Int)] (dotL (k + 1) j) (by omega) ⟨k, Nat.le_refl _, by omega, dot_hit hs (by omega), fun q h1 h2 => by omega⟩ rfl rfl ?_
    rw [if_neg (by omega)]
    exact ih
def gF : FM.Form := ⟨1, 0, 0, [], []⟩
theorem cut_one {s : List Int} {k : Nat} (hk : k < s.length) : (cut s [(k : Int), ((k + 1 : Nat) : Int)] 0).length = 1 := by
  have e : cut s [(k : Int), ((k + 1 : Nat) : Int)] 0 = (s.drop k).take (k + 1 - k) := by
    unfold cut
    simp only [Int.toNat_zero, Nat.mul_zero, Nat.zero_add, List.getElem?_cons_zero, List.getElem?_cons_succ]
    rw [if_pos (by omega), Int.toNat_natCast, Int.toNat_natCast]
  rw [e, List.length_take, List.length_drop]
  omega
theorem part_g (G : Int → List Int) : part gF G = G 0 := rfl
theorem go_dot {s : List Int} : ∀ (j k : Nat) (out : List Int), k + j = s.length → out.length = 2 * k → 2 * k ≤ 1000 →
    (2 * s.length ≤ 1000 → ∃ o, goR s [gF, gF] (dotL k j) out k = some o ∧ o.length = 2 * s.length) ∧ (1000 < 2 * s.length → goR s [gF, gF] (dotL k j) out k = none)
  | 0, k, out, h, ho, hk => by
    have e : goR s [gF, gF] (dotL k 0) out k = if (1000 : Int) - (out.length : Int) < (s.length : Int) - (k : Int) then none else some (out ++ s.drop k) := rfl
    rw [e]
    refine ⟨fun h2 => ⟨_, by rw [if_neg (by omega)], ?_⟩, fun h2 => by omega⟩
    rw [List.length_append, List.length_drop]
    omega
  | j + 1, k, out, h, ho, hk => by
    have e : goR s [gF, gF] (dotL k (j + 1)) out k = match fillR (cut s [(k : Int), ((k + 1 : Nat) : Int)]) 1000 [gF, gF] (out ++ (s.drop k).take (k - k)) with
      | none => none
      | some o => goR s [gF, gF] (dotL (k + 1) j) o (k + 1) := rfl
    rw [e, Nat.sub_self, List.take_zero, List.append_nil]
    have hc := cut_one (s := s) (k := k) (by omega)
    generalize cut s [(k : Int), ((k + 1 : Nat) : Int)] = G at hc
    have hp : (part gF G).length = 1 := hc
    by_cases hlt : 2 * k < 1000
    · have e2 : fillR G 1000 [gF, gF] out = some ((out ++ part gF G) ++ part gF G) := by
        rw [fillR, if_neg (by omega), fillR, if_neg (by rw [List.length_append]; omega), fillR]
      rw [e2]
      exact go_dot j (k + 1) _ (by omega) (by rw [List.length_append, List.length_append]; omega) (by omega)
    · have e2 : fillR G 1000 [gF, gF] out = none := by
        rw [fillR, if_pos (by omega)]
      rw [e2]
      exact ⟨fun h2 => by omega, fun _ => rfl⟩
theorem run_dot {s text : List Int} {code bat : Int} (hs : ∀ x ∈ s, x ≠ 10) (hsg : s.all RX.isSign = true) (hl : s.length ≤ 1000) (h : RunQ s [46] [gF, gF] true false text code bat) :
    (2 * s.length ≤ 1000 → code = 0 ∧ bat = 0 ∧ text.length = 2 * s.length) ∧ (1000 < 2 * s.length → text = [] ∧ code = 3 ∧ bat = 0) := by
  unfold RunQ at h
  rw [if_pos ⟨hsg, hl, by decide⟩] at h
  rcases h with ⟨c, b, h1, h2, -⟩ | ⟨l, t, k, L, h1, h2, -, h3, h4⟩
  · rw [compile_dot] at h1
    injection h1 with h1 _
    cases h1
  · rw [compile_dot] at h1
    rw [parse_dot] at h2
    injection h1 with h1 _
    injection h2 with h2 _
    subst h1 h2
    rw [groups_dot] at h3
    have hL : L = dotL 0 s.length := by
      rcases h3 with ⟨-, h⟩ | ⟨h, -⟩
      · exact MX.alls_one h (dot_alls hs s.length 0 (by omega))
      · cases h
    subst hL
    obtain ⟨g1, g2⟩ := go_dot (s := s) s.length 0 [] (by omega) rfl (by omega)
    refine ⟨fun h5 => ?_, fun h5 => ?_⟩
    · obtain ⟨o, g3, g4⟩ := g1 h5
      rcases h4 with ⟨h, -⟩ | ⟨h, h6, h7⟩
      · rw [g3] at h; cases h
      · rw [g3] at h
        injection h with h
        subst h
        exact ⟨h6, h7, g4⟩
    · have g3 := g2 h5
      rcases h4 with ⟨-, h6⟩ | ⟨h, -⟩
      · exact h6
      · rw [g3] at h; cases h
end TR
set_option maxHeartbeats 400000 in
theorem rsign_any (r : Int) (w : World) : Calls Try.prog 51 #[.int .i32 r] w (fun e w' => e = .returned (.bool (RX.isSign r)) ∧ w' = w) := by
  by_cases h1 : 0 ≤ r <;> by_cases h2 : r ≤ 1114111 <;> by_cases h3 : r < 55296 <;> by_cases h4 : 57343 < r
  all_goals first | (exfalso; omega) | skip
  all_goals
    go_enter Try.func51, Try.ntmps51
    go_wp2_with fail
    go_ret
    exact ⟨ret_congr (by simp [RX.isSign]; omega), rfl⟩
theorem slf_two {w : World} {g n : Nat} (hg : g = w.heap.size) (hn : n = 2) : SlF (w.alloc (.cells #[.int .i64 1, .int .i64 0, .int .i64 0, .slice none 0 0, .slice none 0 0, .int .i64 1, .int .i64 0, .int .i64 0, .slice none 0 0, .slice none 0 0] 82)) (.slice (some ⟨g, 0, none⟩) n n) [TR.gF, TR.gF] := by
  subst hg hn
  refine ⟨_, 2, rfl, Nat.le_refl _, by omega, fun k x hk => ⟨w.heap.size, 0, rfl, ?_⟩, by intro h; cases h⟩
  have hx : x = TR.gF := by
    match k, hk with
    | 0, hk => simp at hk; exact hk.symm
    | 1, hk => simp at hk; exact hk.symm
  have hk2 : k = 0 ∨ k = 1 := by
    have := (List.getElem?_eq_some_iff.1 hk).1
    simp at this
    omega
  subst hx
  refine ⟨_, ⟨.slice none 0 0, .slice none 0 0, rfl, SlR.nil_, SlR.nil_⟩, fun i u hu => ?_⟩
  have hu : ([.int .i64 1, .int .i64 0, .int .i64 0, .slice none 0 0, .slice none 0 0] : List Value)[i]? = some u := hu
  rw [World.cell?_alloc_new]
  match i, hu with
  | 0, hu => rcases hk2 with rfl | rfl <;> simpa using hu
  | 1, hu => rcases hk2 with rfl | rfl <;> simpa using hu
  | 2, hu => rcases hk2 with rfl | rfl <;> simpa using hu
  | 3, hu => rcases hk2 with rfl | rfl <;> simpa using hu
  | 4, hu => rcases hk2 with rfl | rfl <;> simpa using hu
  | i + 5, hu => simp at hu
end Go.Proofs.Ytfblkahjefdmaaa
