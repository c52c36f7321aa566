/- Plain law: the sets that are made: how the reader reads each of them. No program in sight. -/
import Derived.Test.YtfblkahjefdmaaaGrA
namespace Go.Proofs.Ytfblkahjefdmaaa.RX

def SetOk (txt : List Int) (ng : Bool) (set : List Int) : Prop :=
  ∀ (s rest : List Int) (alt : St → List ReN × St) (st : St), st.ok = true → s.drop st.at_ = txt ++ rest → atomP s alt st = ([node 2 0 0 false ng set], st.bump txt.length)

theorem drop_len {s x rest : List Int} {n : Nat} (h : s.drop n = x ++ rest) (h0 : 0 < x.length) : n + x.length ≤ s.length := by
  have := congrArg List.length h
  rw [List.length_drop, List.length_append] at this
  omega
theorem set_sign {c : Int} (h : c ≠ 42 ∧ c ≠ 43 ∧ c ≠ 63 ∧ c ≠ 123 ∧ c ≠ 40 ∧ c ≠ 91 ∧ c ≠ 92 ∧ c ≠ 46) : SetOk [c] false [c, c] := by
  intro s rest alt st _ hd
  have h0 : nxt s st 0 = c := nxt_txt (k := 0) hd (by simp)
  obtain ⟨h1, h2, h3, h4, h5, h6, h7, h8⟩ := h
  unfold atomP
  simp [h0, h1, h2, h3, h4, h5, h6, h7, h8]
theorem set_dot : SetOk [46] true [10, 10] := by
  intro s rest alt st _ hd
  have h0 : nxt s st 0 = 46 := nxt_txt (k := 0) hd (by simp)
  unfold atomP
  simp [h0]
theorem set_w : SetOk [92, 119] false [97, 122, 65, 90, 48, 57, 95, 95] := by
  intro s rest alt st _ hd
  have h0 : nxt s st 0 = 92 := nxt_txt (k := 0) hd (by simp)
  have h1 : nxt s st 1 = 119 := nxt_txt (k := 1) hd (by simp)
  unfold atomP escaped
  simp [h0, h1, nxt_bump, bump_bump, sortR]
theorem set_d : SetOk [92, 100] false [48, 57] := by
  intro s rest alt st _ hd
  have h0 : nxt s st 0 = 92 := nxt_txt (k := 0) hd (by simp)
  have h1 : nxt s st 1 = 100 := nxt_txt (k := 1) hd (by simp)
  unfold atomP escaped
  simp [h0, h1, nxt_bump, bump_bump, sortR]
theorem set_s : SetOk [92, 115] false [32, 32, 9, 9, 10, 10] := by
  intro s rest alt st _ hd
  have h0 : nxt s st 0 = 92 := nxt_txt (k := 0) hd (by simp)
  have h1 : nxt s st 1 = 115 := nxt_txt (k := 1) hd (by simp)
  unfold atomP escaped
  simp [h0, h1, nxt_bump, bump_bump, sortR]
theorem set_esc : SetOk [92, 46] false [46, 46] := by
  intro s rest alt st _ hd
  have h0 : nxt s st 0 = 92 := nxt_txt (k := 0) hd (by simp)
  have h1 : nxt s st 1 = 46 := nxt_txt (k := 1) hd (by simp)
  unfold atomP escaped
  simp [h0, h1, nxt_bump, bump_bump, sortR, lower, signR, within, classOf, isSign]
theorem set_W : SetOk [92, 87] true [97, 122, 65, 90, 48, 57, 95, 95] := by
  intro s rest alt st _ hd
  have h0 : nxt s st 0 = 92 := nxt_txt (k := 0) hd (by simp)
  have h1 : nxt s st 1 = 87 := nxt_txt (k := 1) hd (by simp)
  unfold atomP escaped
  simp [h0, h1, nxt_bump, bump_bump, sortR, lower, within]
theorem set_abc : SetOk [91, 97, 98, 99, 93] false [97, 97, 98, 98, 99, 99] := by
  intro s rest alt st hok hd
  have h0 : nxt s st 0 = 91 := nxt_txt (k := 0) hd (by simp)
  have h1 : nxt s st 1 = 97 := nxt_txt (k := 1) hd (by simp)
  have h2 : nxt s st 2 = 98 := nxt_txt (k := 2) hd (by simp)
  have h3 : nxt s st 3 = 99 := nxt_txt (k := 3) hd (by simp)
  have h4 : nxt s st 4 = 93 := nxt_txt (k := 4) hd (by simp)
  have hl := drop_len hd (by simp)
  simp only [List.length_cons, List.length_nil] at hl
  obtain ⟨k, hk⟩ : ∃ k, s.length + 2 - (st.at_ + 1) = k + 4 := ⟨s.length + 2 - (st.at_ + 1) - 4, by omega⟩
  have e : (st.bump 1).at_ = st.at_ + 1 := rfl
  unfold atomP classP
  simp [h0, h1, h2, h3, h4, nxt_bump, bump_bump, ok_bump, hok, e, hk, classLoop, classRound, member, ranged]
theorem set_nab : SetOk [91, 94, 97, 45, 98, 93] true [97, 98] := by
  intro s rest alt st hok hd
  have h0 : nxt s st 0 = 91 := nxt_txt (k := 0) hd (by simp)
  have h1 : nxt s st 1 = 94 := nxt_txt (k := 1) hd (by simp)
  have h2 : nxt s st 2 = 97 := nxt_txt (k := 2) hd (by simp)
  have h3 : nxt s st 3 = 45 := nxt_txt (k := 3) hd (by simp)
  have h4 : nxt s st 4 = 98 := nxt_txt (k := 4) hd (by simp)
  have h5 : nxt s st 5 = 93 := nxt_txt (k := 5) hd (by simp)
  have hl := drop_len hd (by simp)
  simp only [List.length_cons, List.length_nil] at hl
  obtain ⟨k, hk⟩ : ∃ k, s.length + 2 - (st.at_ + 2) = k + 2 := ⟨s.length + 2 - (st.at_ + 2) - 2, by omega⟩
  have e : (st.bump 2).at_ = st.at_ + 2 := rfl
  unfold atomP classP
  simp [h0, h1, h2, h3, h4, h5, nxt_bump, bump_bump, ok_bump, hok, e, hk, classLoop, classRound, member, ranged, sortR]
theorem set_wd : SetOk [91, 92, 119, 45, 93] false [97, 122, 65, 90, 48, 57, 95, 95, 45, 45] := by
  intro s rest alt st hok hd
  have h0 : nxt s st 0 = 91 := nxt_txt (k := 0) hd (by simp)
  have h1 : nxt s st 1 = 92 := nxt_txt (k := 1) hd (by simp)
  have h2 : nxt s st 2 = 119 := nxt_txt (k := 2) hd (by simp)
  have h3 : nxt s st 3 = 45 := nxt_txt (k := 3) hd (by simp)
  have h4 : nxt s st 4 = 93 := nxt_txt (k := 4) hd (by simp)
  have hl := drop_len hd (by simp)
  simp only [List.length_cons, List.length_nil] at hl
  obtain ⟨k, hk⟩ : ∃ k, s.length + 2 - (st.at_ + 1) = k + 3 := ⟨s.length + 2 - (st.at_ + 1) - 3, by omega⟩
  have e : (st.bump 1).at_ = st.at_ + 1 := rfl
  unfold atomP classP
  simp [h0, h1, h2, h3, h4, nxt_bump, bump_bump, ok_bump, hok, e, hk, classLoop, classRound, member, ranged, sortR, signR, within, classOf, isSign]
theorem set_ad : SetOk [91, 97, 45, 93] false [97, 97, 45, 45] := by
  intro s rest alt st hok hd
  have h0 : nxt s st 0 = 91 := nxt_txt (k := 0) hd (by simp)
  have h1 : nxt s st 1 = 97 := nxt_txt (k := 1) hd (by simp)
  have h2 : nxt s st 2 = 45 := nxt_txt (k := 2) hd (by simp)
  have h3 : nxt s st 3 = 93 := nxt_txt (k := 3) hd (by simp)
  have hl := drop_len hd (by simp)
  simp only [List.length_cons, List.length_nil] at hl
  obtain ⟨k, hk⟩ : ∃ k, s.length + 2 - (st.at_ + 1) = k + 3 := ⟨s.length + 2 - (st.at_ + 1) - 3, by omega⟩
  have e : (st.bump 1).at_ = st.at_ + 1 := rfl
  unfold atomP classP
  simp [h0, h1, h2, h3, nxt_bump, bump_bump, ok_bump, hok, e, hk, classLoop, classRound, member, ranged, sortR]
end Go.Proofs.Ytfblkahjefdmaaa.RX
