/- append to a row of signs of the call's own; what blocks from B on hold; the class' rounds in plain law. -/
import Derived.Test.YtfblkahjefdmaaaBox
namespace Go.Proofs.Ytfblkahjefdmaaa
open Go.RowKit

theorem KeepB.low {rb B : Nat} {w w' : World} (h : Only w w' rb) (hb : rb < B) : KeepB B w w' := fun g o hg ho => (h.block g (heap_lt ho) (by intro e; injection e with e; omega)).trans ho
theorem OwnB.keepB {α : Type} {t sz B : Nat} {C : World → List Value → α → Prop} {w w' : World} {v : Value} {xs : List α} (h : OwnB t sz C B w v xs) (hC : KeepsB B C) (hk : KeepB B w w') : OwnB t sz C B w' v xs := by
  obtain ⟨flat, hown, h2⟩ := h
  refine ⟨flat, ⟨hown.1, ?_⟩, fun k x hx => ?_⟩
  · rcases hown.2 with hn | ⟨g, cap, cur, hv, hb, hg, rest⟩
    · exact .inl hn
    · exact .inr ⟨g, cap, cur, hv, hb, hk g _ hb hg, rest⟩
  · obtain ⟨cs, h6, h7⟩ := h2 k x hx
    exact ⟨cs, hC _ _ _ _ hk h6, h7⟩
theorem OwnB.flat_i32 {B : Nat} {w : World} {v : Value} {xs : List Int} (h : OwnB 21 1 Cc B w v xs) : w.ownsRow B 21 1 v xs.length (xs.map (Value.int .i32)) := by
  obtain ⟨flat, hown, h2⟩ := h
  have e : flat = xs.map (Value.int .i32) := by
    apply List.ext_getElem?
    intro k
    rcases Nat.lt_or_ge k xs.length with hk | hk
    · obtain ⟨cs, h3, h4, h5⟩ := h2 k _ (List.getElem?_eq_getElem hk)
      have h3 : cs = _ := h3
      subst h3
      have h6 := h5 0 (.int .i32 xs[k]) rfl
      rw [Nat.mul_one, Nat.add_zero] at h6
      rw [h6, List.getElem?_map, List.getElem?_eq_getElem hk]; rfl
    · have hl := hown.1
      rw [List.getElem?_eq_none (by rw [hl]; omega), List.getElem?_eq_none (by simpa using hk)]
  exact e ▸ hown
theorem OwnB.of_flat_i32 {B : Nat} {w : World} {v : Value} {xs : List Int} (h : w.ownsRow B 21 1 v xs.length (xs.map (Value.int .i32))) : OwnB 21 1 Cc B w v xs :=
  ⟨_, h, fun k x hx => ⟨[.int .i32 x], rfl, rfl, fun i u hu => by
    match i, hu with
    | 0, hu => simp at hu; subst hu; simp [hx]⟩⟩

theorem cells_map {w : World} {ad : Addr} {ys : List Int} (hc : ∀ j y, ys[j]? = some y → w.cell? (ad.add j) = some (.int .i32 y)) : ∀ j u, (ys.map (Value.int .i32))[j]? = some u → w.cell? (ad.add j) = some u := by
  intro j u hu
  rw [List.getElem?_map, Option.map_eq_some_iff] at hu
  obtain ⟨y, hy, rfl⟩ := hu
  exact hc j y hy
section
variable {w : World} {ops : Array Oper} {rest : List Oper} {o : Oper} {a : Act} {Q : Exit → Act → World → Prop}
theorem app_i32 (hgd : o.guard = none) (s x : Operand) (ho : o.op = .call { callee := .builtin .append, args := #[s, x], argTypes := #[23, 23] })
    (B : Nat) (v : Value) (xs ys : List Int) (hown : OwnB 21 1 Cc B w v xs) (hs : a.eval s = v) (ad : Addr) (m c : Nat) (hx : a.eval x = .slice (some ad) m c) (hm : m = ys.length)
    (hc : ∀ j y, ys[j]? = some y → w.cell? (ad.add j) = some (.int .i32 y)) (hn : xs.length ≤ 1000000) (hn2 : ys.length ≤ 1000) (hB : B ≤ w.heap.size)
    (h : ∀ v' w', OwnB 21 1 Cc B w' v' (xs ++ ys) → w.grownBy w' v.ownBlock → wpList Try.prog ops Q rest (a.put o.dst v') w') :
    wpList Try.prog ops Q (o :: rest) a w := by
  subst hm
  obtain ⟨i0, hi, hz0, hz1, hz2⟩ := info_parts info_c
  refine wpList_append_own (P := Try.prog) (w := w) hgd s x _ ho B 21 i0 (.int .i32 0) 1 4 Try.underlying23 hi hz0 hz1 hz2 rfl (by decide) v xs.length _ hs hown.flat_i32 ad ys.length c (ys.map (Value.int .i32)) hx (by simp) ?_ ?_ (by unfold maxLen; omega) (by omega) hB ?_
  · exact cells_map hc
  · intro u hu
    simp at hu
    obtain ⟨y, _, rfl⟩ := hu
    rfl
  · intro v' w' h1 h2 _
    refine h v' w' (OwnB.of_flat_i32 ?_) h2
    rw [List.map_append, List.length_append]
    exact h1
end

/-- Behind an append to a row of one's own that lies beyond nb. -/
theorem Only.own {a w w' : World} {p nb : Nat} {v : Value} (h : Only a w p) (hk : w.grownBy w' v.ownBlock) (hv : ∀ k, v.ownBlock = some k → nb ≤ k) (hn : a.heap.size ≤ nb) : Only a w' p :=
  ⟨hk.os.trans h.os, hk.tape.trans h.tape, hk.output.trans h.output, Nat.le_trans h.size hk.size, fun i hi hne =>
    (hk.block i (Nat.lt_of_lt_of_le hi h.size) (by intro e; have := hv i e.symm; omega)).trans (h.block i hi hne)⟩
theorem Only.own2 {w w' : World} {nb : Nat} {v : Value} (hk : w.grownBy w' v.ownBlock) (hv : ∀ k, v.ownBlock = some k → nb ≤ k) : ∀ i, i < nb → i < w.heap.size → w'.heap[i]? = w.heap[i]? :=
  fun i hi hl => hk.block i hl (by intro e; have := hv i e.symm; omega)
theorem Env.own {w0 : World} {rb nb : Nat} {sv : Value} {s : List Int} {w w' : World} {st : RX.St} {v : Value} (he : Env w0 rb sv s w st) (hk : w.grownBy w' v.ownBlock) (hv : ∀ k, v.ownBlock = some k → nb ≤ k) (hn : rb < nb) : Env w0 rb sv s w' st :=
  ⟨he.1, he.2.1, he.2.2.1, he.2.2.2.1.grown hk (fun k hk' => by have := hv k hk'; have := he.2.1; omega), (hk.block rb he.rbl (by intro e; have := hv rb e.symm; omega)).trans he.rs⟩
theorem BX.own {nb b : Nat} {w w' : World} {cs : List Value} {v : Value} (h : BX nb w cs) (hk : w.grownBy w' v.ownBlock) (hv : ∀ k, v.ownBlock = some k → b ≤ k) (hn : nb < b) : BX nb w' cs :=
  (hk.block nb (heap_lt h) (by intro e; have := hv nb e.symm; omega)).trans h
theorem BX.put6 {nb : Nat} {w : World} {a b c d e f v v' : Value} (h : BX nb w [a, b, c, d, e, f, v]) : BX nb (w.setCell ⟨nb, 6, none⟩ v') [a, b, c, d, e, f, v'] := heap_set h
theorem BX.put5 {nb : Nat} {w : World} {a b c d e f f' v : Value} (h : BX nb w [a, b, c, d, e, f, v]) : BX nb (w.setCell ⟨nb, 5, none⟩ f') [a, b, c, d, e, f', v] := heap_set h

namespace RX
theorem nxt_lt {s : List Int} {st : St} {n : Nat} (h : nxt s st n ≠ -1) : st.at_ + n < s.length := by
  rcases Nat.lt_or_ge (st.at_ + n) s.length with h1 | h1
  · exact h1
  · exact absurd (by unfold nxt; rw [List.getElem?_eq_none h1]; rfl) h
theorem fail_not_ok {st : St} {c b : Int} (h : c ≠ 0) : (st.fail c b).ok = false := by
  unfold St.fail St.ok
  split
  · simpa using h
  · simpa using ‹¬st.code = 0›
theorem fail_at {st : St} {c b : Int} : (st.fail c b).at_ = st.at_ := by unfold St.fail; split <;> rfl
theorem member_prog {s : List Int} {st : St} : ((member s st).2.2.ok = true → st.at_ + 1 ≤ (member s st).2.2.at_ ∧ (member s st).2.2.at_ ≤ s.length) ∧ st.at_ ≤ (member s st).2.2.at_ ∧ (member s st).2.2.at_ ≤ st.at_ + 2 := by
  unfold member
  simp only
  split
  · rw [fail_not_ok (by decide), fail_at]; simp
  · rename_i h
    have h1 : nxt s st 0 ≠ -1 := fun e => h (.inl e)
    have h2 := nxt_lt h1
    split
    · split
      · rw [fail_not_ok (by decide), fail_at]; simp [St.bump]
      · rename_i h3
        have h4 : nxt s (st.bump 1) 0 ≠ -1 := by
          intro e; rw [e] at h3; exact h3 ⟨by decide, by decide⟩
        have h5 := nxt_lt h4
        simp [St.bump] at h5 ⊢
        omega
    · simp [St.bump]; omega
theorem classRound_prog {s : List Int} {st : St} {set : List Int} : ((classRound s st set).2.ok = true → st.at_ + 1 ≤ (classRound s st set).2.at_ ∧ (classRound s st set).2.at_ ≤ s.length) ∧ (classRound s st set).2.at_ ≤ st.at_ + 5 := by
  have hm := @member_prog s st
  unfold classRound
  cases hl : (member s st).2.1 with
  | some l => simp only [hl]; exact ⟨hm.1, by omega⟩
  | none =>
    simp only [hl]
    have hm2 := @member_prog s ((member s st).2.2.bump 1)
    by_cases hr : ((member s st).2.2.ok && ranged s (member s st).2.2) = true
    · simp only [hr, if_true]
      rw [Bool.and_eq_true] at hr
      have h1 := hm.1 hr.1
      simp only [St.bump] at hm2
      split
      · rw [fail_not_ok (by decide), fail_at]
        refine ⟨(fun h => nomatch h), ?_⟩
        simp only [St.bump]; omega
      · refine ⟨fun h => ?_, ?_⟩
        · have h2 := hm2.1 (by simpa [St.bump] using h)
          simp only [St.bump]; omega
        · simp only [St.bump]; omega
    · simp only [hr, Bool.false_eq_true, if_false]
      split
      · rw [fail_not_ok (by decide), fail_at]
        exact ⟨(fun h => nomatch h), by omega⟩
      · exact ⟨hm.1, by omega⟩
end RX
end Go.Proofs.Ytfblkahjefdmaaa
