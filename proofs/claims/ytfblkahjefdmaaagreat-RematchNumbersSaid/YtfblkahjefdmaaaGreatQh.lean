/- Walks: the document's own Upper, Lower. -/
import Derived.Test.YtfblkahjefdmaaaGreatWa
import Derived.Test.YtfblkahjefdmaaaGreatPureD
namespace Go.Proofs.YtfblkahjefdmaaaGreat
open Go.RowKit

set_option maxHeartbeats 1000000 in
theorem rupper_any (r : Int) (w : World) : Calls Tryz.prog 69 #[.int .i32 r] w (RetD (.int .i32 (RX.upper r)) w) := by
  go_enter Tryz.func69, Tryz.ntmps69
  by_cases h1 : 97 ≤ r <;> by_cases h2 : r ≤ 122 <;> by_cases h3 : 224 ≤ r <;> by_cases h4 : r ≤ 254 <;> by_cases h5 : r = 247
  all_goals first
    | (exfalso; omega)
    | skip
  all_goals
    go_wp2_with fail
    go_ret
    refine ⟨ret_congr ?_, 0, rfl⟩
    simp [RX.upper, RX.within, *] <;> omega
set_option maxHeartbeats 1000000 in
theorem rlower_any (r : Int) (w : World) : Calls Tryz.prog 70 #[.int .i32 r] w (RetD (.int .i32 (RX.lower r)) w) := by
  go_enter Tryz.func70, Tryz.ntmps70
  by_cases h1 : 65 ≤ r <;> by_cases h2 : r ≤ 90 <;> by_cases h3 : 192 ≤ r <;> by_cases h4 : r ≤ 222 <;> by_cases h5 : r = 215
  all_goals first
    | (exfalso; omega)
    | skip
  all_goals
    go_wp2_with fail
    go_ret
    refine ⟨ret_congr ?_, 0, rfl⟩
    simp [RX.lower, RX.within, *] <;> omega
end Go.Proofs.YtfblkahjefdmaaaGreat

/- Walks: the document's own Sign, Letter, Digit, Class, as the reader's walks want them. -/
namespace Go.Proofs.YtfblkahjefdmaaaGreat
open Go.RowKit

set_option maxHeartbeats 400000 in
theorem rsignQ_any (r : Int) (w : World) : Calls Tryz.prog 41 #[.int .i32 r] w (fun e w' => e = .returned (.bool (RX.isSign r)) ∧ w' = w) := by
  by_cases h1 : 0 ≤ r <;> by_cases h2 : r ≤ 1114111 <;> by_cases h3 : r < 55296 <;> by_cases h4 : 57343 < r
  all_goals first | (exfalso; omega) | skip
  all_goals
    go_enter Tryz.func41, Tryz.ntmps41
    go_wp2_with fail
    go_ret
    exact ⟨ret_congr (by simp [RX.isSign]; omega), rfl⟩
theorem rletterQ_any (r : Int) (w : World) : Calls Tryz.prog 104 #[.int .i32 r] w (fun e w' => e = .returned (.bool (RX.within r 97 122 || RX.within r 65 90)) ∧ w' = w) := by
  by_cases h1 : 97 ≤ r <;> by_cases h2 : r ≤ 122 <;> by_cases h3 : 65 ≤ r <;> by_cases h4 : r ≤ 90
  all_goals first | (exfalso; omega) | skip
  all_goals
    go_enter Tryz.func104, Tryz.ntmps104
    go_wp2_with fail
    go_ret
    exact ⟨ret_congr (by simp [RX.within]; omega), rfl⟩
theorem rdigQ_any (r : Int) (w : World) : Calls Tryz.prog 102 #[.int .i32 r] w (fun e w' => e = .returned (.bool (RX.within r 48 57)) ∧ w' = w) := by
  by_cases h1 : 48 ≤ r <;> by_cases h2 : r ≤ 57
  all_goals first | (exfalso; omega) | skip
  all_goals
    go_enter Tryz.func102, Tryz.ntmps102
    go_wp2_with fail
    go_ret
    exact ⟨ret_congr (by simp [RX.within]; omega), rfl⟩
set_option maxHeartbeats 2000000 in
theorem rclassQ_any (r : Int) (w : World) : Calls Tryz.prog 101 #[.int .i32 r] w (fun e w' => e = .returned (.int .i64 (RX.classOf r)) ∧ w' = w) := by
  rcases hs : RX.isSign r with _ | _
  · have HS := Lib.hid hs
    have HV := Lib.hid (show RX.classOf r = 0 by unfold RX.classOf; rw [if_pos hs])
    clear hs
    go_enter Tryz.func101, Tryz.ntmps101
    go_wp2_with (go_at_call 41; go_loud (refine (rsignQ_any r _).mono ?_; rw [HS.out]; rintro e w1 ⟨rfl, rfl⟩))
    go_ret
    exact ⟨ret_congr (by rw [HV.out]; rfl), rfl⟩
  have HS := Lib.hid hs
  by_cases e32 : r = 32
  · subst e32
    have HV := Lib.hid (show RX.classOf 32 = 1 by decide)
    clear hs
    go_enter Tryz.func101, Tryz.ntmps101
    go_wp2_with (go_at_call 41; go_loud (refine (rsignQ_any 32 _).mono ?_; rw [HS.out]; rintro e w1 ⟨rfl, rfl⟩))
    go_ret
    exact ⟨ret_congr (by rw [HV.out]; rfl), rfl⟩
  by_cases e9 : r = 9
  · subst e9
    have HV := Lib.hid (show RX.classOf 9 = 1 by decide)
    clear hs
    go_enter Tryz.func101, Tryz.ntmps101
    go_wp2_with (go_at_call 41; go_loud (refine (rsignQ_any 9 _).mono ?_; rw [HS.out]; rintro e w1 ⟨rfl, rfl⟩))
    go_ret
    exact ⟨ret_congr (by rw [HV.out]; rfl), rfl⟩
  by_cases e10 : r = 10
  · subst e10
    have HV := Lib.hid (show RX.classOf 10 = 2 by decide)
    clear hs
    go_enter Tryz.func101, Tryz.ntmps101
    go_wp2_with (go_at_call 41; go_loud (refine (rsignQ_any 10 _).mono ?_; rw [HS.out]; rintro e w1 ⟨rfl, rfl⟩))
    go_ret
    exact ⟨ret_congr (by rw [HV.out]; rfl), rfl⟩
  have b32 : (r == 32) = false := by simpa using e32
  have b9 : (r == 9) = false := by simpa using e9
  have b10 : (r == 10) = false := by simpa using e10
  have hcl : RX.classOf r = if r = 215 ∨ r = 247 then 4 else if (97 ≤ r ∧ r ≤ 122) ∨ (65 ≤ r ∧ r ≤ 90) ∨ (48 ≤ r ∧ r ≤ 57) ∨ r = 95 ∨ (192 ≤ r ∧ r ≤ 255) then 3 else 4 := by
    unfold RX.classOf
    rw [if_neg (by rw [hs]; decide), if_neg (by omega), if_neg e10]
    simp only [within_iff]
  clear hs
  by_cases hL : (97 ≤ r ∧ r ≤ 122) ∨ (65 ≤ r ∧ r ≤ 90)
  · have HL := Lib.hid (show (RX.within r 97 122 || RX.within r 65 90) = true by simp only [Bool.or_eq_true, within_iff]; exact hL)
    have HV := Lib.hid (show RX.classOf r = 3 by rw [hcl, if_neg (by omega), if_pos (by omega)])
    clear hcl hL
    go_enter Tryz.func101, Tryz.ntmps101
    go_wp2_with (first
      | (go_at_call 41; go_loud (refine (rsignQ_any r _).mono ?_; rw [HS.out]; rintro e w1 ⟨rfl, rfl⟩))
      | (go_at_call 104; go_loud (refine (rletterQ_any r _).mono ?_; rw [HL.out]; rintro e w1 ⟨rfl, rfl⟩)))
    go_ret
    exact ⟨ret_congr (by rw [HV.out]; rfl), rfl⟩
  have HL := Lib.hid (show (RX.within r 97 122 || RX.within r 65 90) = false from Bool.eq_false_iff.2 (fun h => hL (by simpa only [Bool.or_eq_true, within_iff] using h)))
  by_cases hD : 48 ≤ r ∧ r ≤ 57
  · have HD := Lib.hid (show RX.within r 48 57 = true by rw [within_iff]; exact hD)
    have HV := Lib.hid (show RX.classOf r = 3 by rw [hcl, if_neg (by omega), if_pos (by omega)])
    clear hcl hL hD
    go_enter Tryz.func101, Tryz.ntmps101
    go_wp2_with (first
      | (go_at_call 41; go_loud (refine (rsignQ_any r _).mono ?_; rw [HS.out]; rintro e w1 ⟨rfl, rfl⟩))
      | (go_at_call 104; go_loud (refine (rletterQ_any r _).mono ?_; rw [HL.out]; rintro e w1 ⟨rfl, rfl⟩))
      | (go_at_call 102; go_loud (refine (rdigQ_any r _).mono ?_; rw [HD.out]; rintro e w1 ⟨rfl, rfl⟩)))
    go_ret
    exact ⟨ret_congr (by rw [HV.out]; rfl), rfl⟩
  have HD := Lib.hid (show RX.within r 48 57 = false by rw [Bool.eq_false_iff, ne_eq, within_iff]; exact hD)
  by_cases h95 : r = 95
  · have HV := Lib.hid (show RX.classOf r = 3 by rw [hcl, if_neg (by omega), if_pos (by omega)])
    have b95 : (r == 95) = true := by simpa using h95
    clear hcl hL hD h95
    go_enter Tryz.func101, Tryz.ntmps101
    go_wp2_with (first
      | (go_at_call 41; go_loud (refine (rsignQ_any r _).mono ?_; rw [HS.out]; rintro e w1 ⟨rfl, rfl⟩))
      | (go_at_call 104; go_loud (refine (rletterQ_any r _).mono ?_; rw [HL.out]; rintro e w1 ⟨rfl, rfl⟩))
      | (go_at_call 102; go_loud (refine (rdigQ_any r _).mono ?_; rw [HD.out]; rintro e w1 ⟨rfl, rfl⟩)))
    go_ret
    exact ⟨ret_congr (by rw [HV.out]; rfl), rfl⟩
  have b95 : (r == 95) = false := by simpa using h95
  by_cases h192 : 192 ≤ r
  rotate_left
  · have HV := Lib.hid (show RX.classOf r = 4 by rw [hcl]; split; rfl; rw [if_neg (by omega)])
    have d1 : decide ((192 : Int) ≤ r) = false := decide_eq_false h192
    clear hcl hL hD h95
    go_enter Tryz.func101, Tryz.ntmps101
    go_wp2_with (first
      | (go_at_call 41; go_loud (refine (rsignQ_any r _).mono ?_; rw [HS.out]; rintro e w1 ⟨rfl, rfl⟩))
      | (go_at_call 104; go_loud (refine (rletterQ_any r _).mono ?_; rw [HL.out]; rintro e w1 ⟨rfl, rfl⟩))
      | (go_at_call 102; go_loud (refine (rdigQ_any r _).mono ?_; rw [HD.out]; rintro e w1 ⟨rfl, rfl⟩)))
    go_ret
    exact ⟨ret_congr (by rw [HV.out]; rfl), rfl⟩
  have d1 : decide ((192 : Int) ≤ r) = true := decide_eq_true h192
  by_cases h255 : r ≤ 255
  rotate_left
  · have HV := Lib.hid (show RX.classOf r = 4 by rw [hcl]; split; rfl; rw [if_neg (by omega)])
    have d2 : decide (r ≤ 255) = false := decide_eq_false h255
    clear hcl hL hD h95
    go_enter Tryz.func101, Tryz.ntmps101
    go_wp2_with (first
      | (go_at_call 41; go_loud (refine (rsignQ_any r _).mono ?_; rw [HS.out]; rintro e w1 ⟨rfl, rfl⟩))
      | (go_at_call 104; go_loud (refine (rletterQ_any r _).mono ?_; rw [HL.out]; rintro e w1 ⟨rfl, rfl⟩))
      | (go_at_call 102; go_loud (refine (rdigQ_any r _).mono ?_; rw [HD.out]; rintro e w1 ⟨rfl, rfl⟩)))
    go_ret
    exact ⟨ret_congr (by rw [HV.out]; rfl), rfl⟩
  have d2 : decide (r ≤ 255) = true := decide_eq_true h255
  by_cases h215 : r = 215
  · have HV := Lib.hid (show RX.classOf r = 4 by rw [hcl, if_pos (.inl h215)])
    have b215 : (r != 215) = false := by simpa using h215
    clear hcl hL hD h95 h215
    go_enter Tryz.func101, Tryz.ntmps101
    go_wp2_with (first
      | (go_at_call 41; go_loud (refine (rsignQ_any r _).mono ?_; rw [HS.out]; rintro e w1 ⟨rfl, rfl⟩))
      | (go_at_call 104; go_loud (refine (rletterQ_any r _).mono ?_; rw [HL.out]; rintro e w1 ⟨rfl, rfl⟩))
      | (go_at_call 102; go_loud (refine (rdigQ_any r _).mono ?_; rw [HD.out]; rintro e w1 ⟨rfl, rfl⟩)))
    go_ret
    exact ⟨ret_congr (by rw [HV.out]; rfl), rfl⟩
  have b215 : (r != 215) = true := by simpa using h215
  by_cases h247 : r = 247
  · have HV := Lib.hid (show RX.classOf r = 4 by rw [hcl, if_pos (.inr h247)])
    have b247 : (r != 247) = false := by simpa using h247
    clear hcl hL hD h95 h215 h247
    go_enter Tryz.func101, Tryz.ntmps101
    go_wp2_with (first
      | (go_at_call 41; go_loud (refine (rsignQ_any r _).mono ?_; rw [HS.out]; rintro e w1 ⟨rfl, rfl⟩))
      | (go_at_call 104; go_loud (refine (rletterQ_any r _).mono ?_; rw [HL.out]; rintro e w1 ⟨rfl, rfl⟩))
      | (go_at_call 102; go_loud (refine (rdigQ_any r _).mono ?_; rw [HD.out]; rintro e w1 ⟨rfl, rfl⟩)))
    go_ret
    exact ⟨ret_congr (by rw [HV.out]; rfl), rfl⟩
  have b247 : (r != 247) = true := by simpa using h247
  have HV := Lib.hid (show RX.classOf r = 3 by rw [hcl, if_neg (by omega), if_pos (by omega)])
  clear hcl hL hD h95 h215 h247
  go_enter Tryz.func101, Tryz.ntmps101
  go_wp2_with (first
    | (go_at_call 41; go_loud (refine (rsignQ_any r _).mono ?_; rw [HS.out]; rintro e w1 ⟨rfl, rfl⟩))
    | (go_at_call 104; go_loud (refine (rletterQ_any r _).mono ?_; rw [HL.out]; rintro e w1 ⟨rfl, rfl⟩))
    | (go_at_call 102; go_loud (refine (rdigQ_any r _).mono ?_; rw [HD.out]; rintro e w1 ⟨rfl, rfl⟩)))
  go_ret
  exact ⟨ret_congr (by rw [HV.out]; rfl), rfl⟩
end Go.Proofs.YtfblkahjefdmaaaGreat

/- Words on memory: an element of an own row, stored; append of a row that is read by its cells alone. Walks: Case of the document's own. -/
namespace Go.Proofs.YtfblkahjefdmaaaGreat
open Go.RowKit

/-- An element of an own row, and its place. -/
theorem OwnB.get {B : Nat} {w : World} {A : Option Addr} {n c : Nat} {xs : List Int} (h : OwnB 21 1 Cc B w (.slice A n c) xs) {k : Nat} (hk : k < xs.length) :
    ∃ g, A = some ⟨g, 0, none⟩ ∧ B ≤ g ∧ w.cell? ⟨g, k, none⟩ = some (.int .i32 xs[k]) ∧ w.frozen? ⟨g, k, none⟩ = false ∧ ∀ y, OwnB 21 1 Cc B (w.setCell ⟨g, k, none⟩ (.int .i32 y)) (.slice A n c) (xs.set k y) := by
  have hf := h.flat_i32
  obtain ⟨hl, hf⟩ := hf
  rcases hf with ⟨hv, h0⟩ | ⟨g, cap, cur, hv, hb, hg, hnc, hcm, hcs, htk⟩
  · omega
  · injection hv with e1 e2 e3
    subst e1 e2 e3
    refine ⟨g, rfl, hb, ?_, frozen_of_row w g k _ _ hg, fun y => OwnB.of_flat_i32 ?_⟩
    · rw [cell_of_row w g k _ _ _ hg]
      have h1 : (cur.toList.take (xs.length * 1))[k]? = some (.int .i32 xs[k]) := by rw [htk]; simp [hk]
      rw [List.getElem?_take, if_pos (by omega)] at h1
      simpa using h1
    · rw [List.length_set]
      refine ⟨by simp, .inr ⟨g, c, cur.setIfInBounds k (.int .i32 y), rfl, hb, heap_set hg, hnc, hcm, by simpa using hcs, ?_⟩⟩
      rw [Array.toList_setIfInBounds, List.take_set, htk, List.map_set]

/-- Append of a row that is read by its cells alone. -/
theorem app_srcC {w : World} {ops : Array Oper} {rest : List Oper} {o : Oper} {a : Act} {Q : Exit → Act → World → Prop} (hgd : o.guard = none) (s x : Operand) (ho : o.op = .call { callee := .builtin .append, args := #[s, x], argTypes := #[24, 24] })
    (B : Nat) (v src : Value) (xs ys : List Int) (hown : OwnB 21 1 Cc B w v xs) (hs : a.eval s = v) (hx : a.eval x = src) (hsrc : SlC w src ys)
    (hn : xs.length + ys.length ≤ 35184372088832) (hB : B ≤ w.heap.size)
    (h : ∀ v' w', OwnB 21 1 Cc B w' v' (xs ++ ys) → w.grownBy w' v.ownBlock → wpList Tryz.prog ops Q rest (a.put o.dst v') w') :
    wpList Tryz.prog ops Q (o :: rest) a w := by
  obtain ⟨i0, hi, hz0, hz1, hz2⟩ := info_parts info_c
  obtain ⟨A, c, rfl, hl, hc, hcell, hn0⟩ := hsrc
  cases A with
  | none =>
    obtain rfl := hn0 rfl
    obtain rfl : ys = [] := by
      cases ys with
      | nil => rfl
      | cons y r =>
        obtain ⟨b, o, hA, -⟩ := hcell 0 y rfl
        cases hA
    refine wpList_append_own_none hgd s x 24 ho B 21 i0 1 Tryz.underlying24 hi v xs.length (xs.map (Value.int .i32)) hs hown.flat_i32 hx ?_
    exact h v w (by rw [List.append_nil]; exact hown) (World.grownBy.refl _ _)
  | some ad =>
    refine wpList_append_own (P := Tryz.prog) (w := w) hgd s x _ ho B 21 i0 (.int .i32 0) 1 4 Tryz.underlying24 hi hz0 hz1 hz2 rfl (by decide) v xs.length _ hs hown.flat_i32 ad ys.length c (ys.map (Value.int .i32)) hx (by simp) ?_ ?_ (by unfold maxLen; omega) (by omega) hB ?_
    · refine cells_map (fun j y hy => ?_)
      obtain ⟨b, o, hA, hr⟩ := hcell j y hy
      rw [Option.some.inj hA, Go.WideShapes.add_plain]
      rw [Nat.mul_one] at hr
      exact hr
    · intro u hu
      simp at hu
      obtain ⟨y, _, rfl⟩ := hu
      rfl
    · intro v' w' h1 h2 _
      refine h v' w' (OwnB.of_flat_i32 ?_) h2
      rw [List.map_append, List.length_append]
      exact h1

/-- What the document's own Case does to an element. -/
def caseF (how : Int) (i : Nat) (r : Int) : Int := if how = 1 ∨ (how = 3 ∧ i = 0) then RX.upper r else if how = 2 then RX.lower r else r
def caseR (how : Int) (s : List Int) : List Int := s.mapIdx (caseF how)
/-- The text so far. -/
def Casing (how : Int) (s xs : List Int) (k : Nat) : Prop := xs.length = s.length ∧ ∀ (i : Nat) (r : Int), s[i]? = some r → xs[i]? = some (if i < k then caseF how i r else r)
theorem Casing.zero (how : Int) (s : List Int) : Casing how s s 0 := ⟨rfl, fun i r h => by rw [if_neg (by omega)]; exact h⟩
theorem Casing.done {how : Int} {s xs : List Int} {k : Nat} (h : Casing how s xs k) (hk : s.length ≤ k) : xs = caseR how s := by
  apply List.ext_getElem?
  intro i
  unfold caseR
  rw [List.getElem?_mapIdx]
  rcases Nat.lt_or_ge i s.length with hi | hi
  · rw [h.2 i _ (List.getElem?_eq_getElem hi), if_pos (by omega), List.getElem?_eq_getElem hi]; rfl
  · rw [List.getElem?_eq_none (by have := h.1; omega), List.getElem?_eq_none hi]; rfl
theorem Casing.step {how : Int} {s xs : List Int} {k : Nat} {r : Int} (h : Casing how s xs k) (hr : s[k]? = some r) : Casing how s (xs.set k (caseF how k r)) (k + 1) := by
  obtain ⟨hk, -⟩ := List.getElem?_eq_some_iff.1 hr
  refine ⟨by rw [List.length_set]; exact h.1, fun i x hx => ?_⟩
  have h1 := h.1
  rw [List.getElem?_set]
  by_cases he : k = i
  · subst he
    rw [if_pos rfl, if_pos (by omega), if_pos (by omega)]
    rw [hr] at hx
    obtain rfl := Option.some.inj hx
    rfl
  · rw [if_neg he, h.2 i x hx]
    by_cases hlt : i < k
    · rw [if_pos hlt, if_pos (by omega)]
    · rw [if_neg hlt, if_neg (by omega)]
theorem Casing.skip {how : Int} {s xs : List Int} {k : Nat} {r : Int} (h : Casing how s xs k) (hr : s[k]? = some r) (hf : caseF how k r = r) : Casing how s xs (k + 1) := by
  have h1 := h.step hr
  rw [hf] at h1
  have h2 := h.2 k r hr
  rw [if_neg (by omega)] at h2
  have e : xs.set k r = xs := by
    apply List.ext_getElem?
    intro i
    rw [List.getElem?_set]
    split
    · rename_i e
      subst e
      split
      · exact h2.symm
      · rename_i h3
        rw [List.getElem?_eq_none (by omega)]
    · rfl
  rw [e] at h1
  exact h1
end Go.Proofs.YtfblkahjefdmaaaGreat
