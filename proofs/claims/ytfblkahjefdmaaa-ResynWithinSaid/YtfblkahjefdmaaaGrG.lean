/- Plain law: groups that are made; whole patterns. No program in sight. -/
import Derived.Test.YtfblkahjefdmaaaGrI
namespace Go.Proofs.Ytfblkahjefdmaaa.RX

theorem groupIn_read {n : Nat} {A : Sp} (hA : Reads (fun s => altP s (altL s n)) n AltStop A) {s rest : List Int} {st : St} (g : Int) (hok : st.ok = true) (hop : st.op + 1 + n ≤ 12) (h9 : st.caps ≤ 9) (hl : st.at_ ≤ s.length) (hd : s.drop st.at_ = A.txt ++ (41 :: rest)) :
    (st.caps + A.ng ≤ 9 → groupIn s (altL s (n + 1)) g st = (under (node 5 g 0 false false []) [A.nodes st.caps], st.go (A.txt.length + 1) A.ng)) ∧ (9 < st.caps + A.ng → (groupIn s (altL s (n + 1)) g st).2.ok = false) := by
  have h := hA s (41 :: rest) { st with op := st.op + 1 } hok hop h9 hl hd (.inr rfl)
  have e : altL s (n + 1) { st with op := st.op + 1 } = altP s (altL s n) { st with op := st.op + 1 } := by show altN s n _ = _; rw [altN_eq]
  unfold groupIn
  simp only
  rw [e]
  refine ⟨fun hg => ?_, fun hg => ?_⟩
  · have h4 : altP s (altL s n) { st with op := st.op + 1 } = _ := h.1 hg
    rw [h4]
    have h5 : nxt s { ({ st with op := st.op + 1 } : St).go A.txt.length A.ng with op := (({ st with op := st.op + 1 } : St).go A.txt.length A.ng).op - 1 } 0 = 41 := by
      have := nxt_head (s := s) (st := st.go A.txt.length A.ng) (go_drop hd A.ng)
      simp at this
      exact this
    simp only
    rw [if_neg (by rw [h5]; simp)]
    rfl
  · have h4 : (altP s (altL s n) { st with op := st.op + 1 }).2.ok = false := h.2 hg
    generalize altP s (altL s n) { st with op := st.op + 1 } = r at h4 ⊢
    have h5 : ({ r.2 with op := r.2.op - 1 } : St).ok = false := h4
    generalize ({ r.2 with op := r.2.op - 1 } : St) = q at h5
    rw [if_neg (by rw [h5]; simp)]
    exact h5

def grpSp (cap : Bool) (A : Sp) : Sp := ⟨40 :: ((if cap then [] else [63, 58]) ++ A.txt ++ [41]), A.ng + (if cap then 1 else 0), fun c => under (node 5 (if cap then (c : Int) + 1 else 0) 0 false false []) [A.nodes (c + if cap then 1 else 0)]⟩
theorem atomP_grp {s : List Int} {alt : St → List ReN × St} {st : St} (h : nxt s st 0 = 40) : atomP s alt st = groupP s alt st := by unfold atomP; simp [h]
theorem grp_free {n : Nat} {A : Sp} (hA : Reads (fun s => altP s (altL s n)) n AltStop A) : Atom (n + 1) (grpSp false A) := by
  refine ⟨⟨⟨40, _, rfl, by decide⟩, by simp [grpSp], by simp [grpSp]⟩, fun s rest st hok hop h9 hl hd _ => ?_⟩
  have hd0 : s.drop st.at_ = [40, 63, 58] ++ (A.txt ++ (41 :: rest)) := by rw [hd]; simp [grpSp]
  have h0 : nxt s st 0 = 40 := nxt_txt (k := 0) hd0 (by simp)
  have h1 : nxt s st 1 = 63 := nxt_txt (k := 1) hd0 (by simp)
  have h2 : nxt s st 2 = 58 := nxt_txt (k := 2) hd0 (by simp)
  have hlen : (grpSp false A).txt.length = 3 + (A.txt.length + 1) := by simp [grpSp]; omega
  have hr := groupIn_read hA (st := st.bump 3) (rest := rest) 0 hok (by show st.op + 1 + n ≤ 12; omega) h9 (go_le (g := 0) hl hd0) (go_drop hd0 0)
  have e : groupP s (altL s (n + 1)) st = groupIn s (altL s (n + 1)) 0 (st.bump 3) := by
    unfold groupP; rw [if_neg (by omega), if_pos ⟨h1, h2⟩]
  show (_ → atomP s (altL s (n + 1)) st = _) ∧ (_ → (atomP s (altL s (n + 1)) st).2.ok = false)
  rw [atomP_grp h0, e]
  have ec : (st.bump 3).caps = st.caps := rfl
  rw [ec] at hr
  refine ⟨fun hg => ?_, fun hg => hr.2 (by simpa [grpSp] using hg)⟩
  rw [hr.1 (by simpa [grpSp] using hg), hlen, bump_go, go_go]
  simp [grpSp]
theorem grp_cap {n : Nat} {A : Sp} (hA : Reads (fun s => altP s (altL s n)) n AltStop A) (hf : Follow (A.txt ++ [41])) : Atom (n + 1) (grpSp true A) := by
  refine ⟨⟨⟨40, _, rfl, by decide⟩, by simp [grpSp], by simp [grpSp]⟩, fun s rest st hok hop h9 hl hd _ => ?_⟩
  have hd0 : s.drop st.at_ = [40] ++ (A.txt ++ (41 :: rest)) := by rw [hd]; simp [grpSp]
  have h0 : nxt s st 0 = 40 := nxt_txt (k := 0) hd0 (by simp)
  have h1 : nxt s st 1 ≠ 63 := by
    have h2 : nxt s st 1 = _ := nxt_rest hd0
    rw [h2]
    cases hx : A.txt with
    | nil => simp
    | cons c r =>
      rw [hx] at hf
      simpa using (hf c rfl).2.2.1
  have hlen : (grpSp true A).txt.length = 1 + (A.txt.length + 1) := by simp [grpSp]; omega
  show (_ → atomP s (altL s (n + 1)) st = _) ∧ (_ → (atomP s (altL s (n + 1)) st).2.ok = false)
  rw [atomP_grp h0]
  by_cases hc : 9 ≤ st.caps
  · have e : groupP s (altL s (n + 1)) st = ([], st.fail 3 st.at_) := by
      unfold groupP; rw [if_neg (by omega), if_neg (fun h => h1 h.1), if_neg h1, if_pos hc]
    rw [e]
    exact ⟨fun hg => by simp [grpSp] at hg; omega, fun _ => St.fail_ok _ (by decide)⟩
  · have e : groupP s (altL s (n + 1)) st = groupIn s (altL s (n + 1)) (st.caps + 1) { st.bump 1 with caps := st.caps + 1 } := by
      unfold groupP; rw [if_neg (by omega), if_neg (fun h => h1 h.1), if_neg h1, if_neg hc]
    have hr := groupIn_read hA (st := { st.bump 1 with caps := st.caps + 1 }) (rest := rest) (st.caps + 1) hok (by show st.op + 1 + n ≤ 12; omega) (by show st.caps + 1 ≤ 9; omega) (go_le (g := 0) hl hd0) (go_drop hd0 0)
    rw [e]
    have ec : ({ st.bump 1 with caps := st.caps + 1 } : St).caps = st.caps + 1 := rfl
    rw [ec] at hr
    refine ⟨fun hg => ?_, fun hg => hr.2 (by simp [grpSp] at hg; omega)⟩
    rw [hr.1 (by simp [grpSp] at hg; omega), hlen]
    simp [grpSp, St.go, St.bump]
    omega
end Go.Proofs.Ytfblkahjefdmaaa.RX
