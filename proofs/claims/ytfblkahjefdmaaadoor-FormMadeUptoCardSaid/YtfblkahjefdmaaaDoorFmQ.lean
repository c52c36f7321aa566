/- Plain law: what a scan returns may be a format; a made format with a / behind it is scanned. No program in sight. -/
import Derived.Test.YtfblkahjefdmaaaDoorFmP
namespace Go.Proofs.YtfblkahjefdmaaaDoor.FM

theorem all_drop {p : Int → Bool} {l : List Int} (h : l.all p = true) (k : Nat) : (l.drop k).all p = true := by
  rw [List.all_eq_true] at *; exact fun x hx => h x (List.mem_of_mem_drop hx)
theorem all_tail {p : Int → Bool} {l : List Int} (h : l.all p = true) : l.tail.all p = true := by
  rw [← List.drop_one]; exact all_drop h 1
theorem digs_two (l : List Int) (h : digs l ≤ 2) : 0 ≤ val (l.take (digs l)) ∧ val (l.take (digs l)) ≤ 99 := by
  have hd : ∀ c : Int, isD c = true → 48 ≤ c ∧ c ≤ 57 := by intro c hc; simpa [isD] using hc
  match l with
  | [] => simp [digs, val]
  | a :: r =>
    by_cases ha : isD a = true
    · have h1 := hd a ha
      rw [digs, if_pos ha] at h ⊢
      match r with
      | [] => simp [digs, val]; omega
      | b :: r =>
        by_cases hb : isD b = true
        · have h2 := hd b hb
          rw [digs, if_pos hb] at h ⊢
          rw [show digs r = 0 by omega]
          simp [val]; omega
        · rw [digs, if_neg hb]
          simp [val]; omega
    · rw [digs, if_neg ha]
      simp [val]
theorem number_ok {l : List Int} {n : Int} {k : Nat} (h : number l = some (n, k)) : 0 ≤ n ∧ n ≤ 99 ∧ 1 ≤ k ∧ k ≤ 2 ∧ k ≤ l.length := by
  unfold number at h
  split at h
  · cases h
  · rename_i hk
    injection h with h
    injection h with h1 h2
    subst h1 h2
    have := digs_two l (by omega)
    have := digs_le l
    omega
theorem text_ok (e : Int) : ∀ (n : Nat) (l : List Int) (t : List Int) (k : Nat), l.length ≤ n → text e l = some (t, k) → l.all RX.isSign = true → t.all RX.isSign = true ∧ 1 ≤ k ∧ k ≤ l.length
  | _, [], t, k, _, h, _ => by cases h
  | _, [c], t, k, _, h, _ => by
    rw [text] at h
    split at h
    · injection h with h; injection h with h1 h2; subst h1 h2; exact ⟨rfl, Nat.le_refl _, by simp⟩
    · cases h
  | 0, _ :: _ :: _, _, _, hn, _, _ => by simp at hn
  | n + 1, c :: d :: r, t, k, hn, h, ha => by
    simp only [List.all_cons, Bool.and_eq_true] at ha
    obtain ⟨hc, hd, hr⟩ := ha
    rw [text] at h
    split at h
    · rw [Option.map_eq_some_iff] at h
      obtain ⟨⟨t', k'⟩, h1, h2⟩ := h
      injection h2 with h2 h3
      subst h2 h3
      have := text_ok e n r t' k' (by simp at hn; omega) h1 hr
      refine ⟨?_, by omega, by simp; omega⟩
      simp only [List.all_cons, hd, this.1]; rfl
    split at h
    · injection h with h; injection h with h1 h2; subst h1 h2; exact ⟨rfl, Nat.le_refl _, by simp⟩
    · rw [Option.map_eq_some_iff] at h
      obtain ⟨⟨t', k'⟩, h1, h2⟩ := h
      injection h2 with h2 h3
      subst h2 h3
      have := text_ok e n (d :: r) t' k' (by simp at hn ⊢; omega) h1 (by simp only [List.all_cons, hd, hr]; rfl)
      refine ⟨?_, by omega, by have := this.2.2; simp at this ⊢; omega⟩
      simp only [List.all_cons, hc, this.1]; rfl
theorem casedL_ok : ∀ (ws : List (List Int)) (i : Int) (l : List Int) (c : Int) (k : Nat), casedL ws i l = some (c, k) → i ≤ c ∧ c < i + ws.length ∧ 1 ≤ k ∧ k ≤ l.length
  | [], _, _, _, _, h => by cases h
  | w :: ws, i, l, c, k, h => by
    rw [casedL] at h
    split at h
    · rename_i hp
      injection h with h
      injection h with h1 h2
      subst h1 h2
      have := congrArg List.length hp
      rw [List.length_take, List.length_append] at this
      simp at this ⊢; omega
    · have := casedL_ok ws (i + 1) l c k h
      simp; omega
theorem cased_ok {l : List Int} {c : Int} {k : Nat} (h : cased l = some (c, k)) : 1 ≤ c ∧ c ≤ 5 ∧ 1 ≤ k ∧ k ≤ l.length := by
  have := casedL_ok _ _ _ _ _ h
  simp [names] at this; omega
theorem head_tail {l : List Int} {c : Int} (h : l.head? = some c) : l.tail.length + 1 = l.length := by
  cases l with
  | nil => cases h
  | cons _ r => rfl
theorem may1_mk {f : Form} (h1 : f.text.all RX.isSign = true) (h2 : f.els.all RX.isSign = true) (h3 : 0 ≤ f.group) (h4 : f.group ≤ 99) (h5 : 0 ≤ f.cas) (h6 : f.cas ≤ 5)
    (h : (f.kind = 0 ∧ f.text ≠ [] ∧ f.els = [] ∧ f.group = 0 ∧ f.cas = 0) ∨ (f.kind = 1 ∧ f.text = [] ∧ f.els = []) ∨ (f.kind = 2 ∧ f.els = [] ∧ f.cas = 0) ∨ (f.kind = 3 ∧ f.text = [] ∧ f.cas = 0) ∨ (f.kind = 4 ∧ f.cas = 0)) : may1 f = true := by
  unfold may1
  rw [Bool.and_eq_true]
  refine ⟨by simp only [h1, h2, Bool.and_eq_true, decide_eq_true_eq]; exact ⟨⟨⟨⟨⟨trivial, trivial⟩, h3⟩, h4⟩, h5⟩, h6⟩, ?_⟩
  rcases h with ⟨hk, ht, he, hg, hc⟩ | ⟨hk, ht, he⟩ | ⟨hk, he, hc⟩ | ⟨hk, ht, hc⟩ | ⟨hk, hc⟩
  · rw [if_pos hk]; simp [ht, he, hg, hc]
  · rw [if_neg (by omega), if_pos hk]; simp [ht, he]
  · rw [if_neg (by omega), if_neg (by omega), if_pos hk]; simp [he, hc]
  · rw [if_neg (by omega), if_neg (by omega), if_neg (by omega), if_pos hk]; simp [ht, hc]
  · rw [if_neg (by omega), if_neg (by omega), if_neg (by omega), if_neg (by omega), if_pos hk]; simp [hc]
theorem inner_ok {g : Int} {l : List Int} {f : Form} {k : Nat} (h : inner g l = some (f, k)) (h0 : 0 ≤ g) (h1 : g ≤ 99) (ha : l.all RX.isSign = true) : may1 f = true ∧ f.kind ≠ 0 ∧ 1 ≤ k ∧ k ≤ l.length := by
  have ht := all_tail ha
  unfold inner at h
  split at h
  · rename_i hh
    have := head_tail hh
    rw [Option.map_eq_some_iff] at h
    obtain ⟨⟨c, k'⟩, h2, h3⟩ := h
    injection h3 with h3 h4
    subst h3 h4
    have := cased_ok h2
    exact ⟨may1_mk rfl rfl h0 h1 (by show 0 ≤ c; omega) (by show c ≤ 5; omega) (.inr (.inl ⟨rfl, rfl, rfl⟩)), by show (1 : Int) ≠ 0; decide, by show 1 ≤ k' + 1; omega, by show k' + 1 ≤ _; omega⟩
  split at h
  · rename_i hh
    have := head_tail hh
    rw [Option.map_eq_some_iff] at h
    obtain ⟨⟨c, k'⟩, h2, h3⟩ := h
    injection h3 with h3 h4
    subst h3 h4
    have := text_ok _ _ _ _ _ (Nat.le_refl _) h2 ht
    exact ⟨may1_mk this.1 rfl h0 h1 (by show (0 : Int) ≤ 0; decide) (by show (0 : Int) ≤ 5; decide) (.inr (.inr (.inl ⟨rfl, rfl, rfl⟩))), by show (2 : Int) ≠ 0; decide, by show 1 ≤ k' + 1; omega, by show k' + 1 ≤ _; omega⟩
  split at h
  · rename_i hh
    have := head_tail hh
    split at h
    · cases h
    · rename_i p hp
      obtain ⟨t, k1⟩ := p
      rw [Option.map_eq_some_iff] at h
      obtain ⟨⟨c, k'⟩, h2, h3⟩ := h
      injection h3 with h3 h4
      subst h3 h4
      have h5 := text_ok _ _ _ _ _ (Nat.le_refl _) hp ht
      have h6 := text_ok _ _ _ _ _ (Nat.le_refl _) h2 (all_drop ht _)
      have h7 := h6.2.2
      rw [List.length_drop] at h7
      exact ⟨may1_mk h5.1 h6.1 h0 h1 (by show (0 : Int) ≤ 0; decide) (by show (0 : Int) ≤ 5; decide) (.inr (.inr (.inr (.inr ⟨rfl, rfl⟩)))), by show (4 : Int) ≠ 0; decide, by show 1 ≤ k1 + k' + 1; omega, by show k1 + k' + 1 ≤ _; simp only at h7; omega⟩
  split at h
  · rename_i hh
    have := head_tail hh
    rw [Option.map_eq_some_iff] at h
    obtain ⟨⟨c, k'⟩, h2, h3⟩ := h
    injection h3 with h3 h4
    subst h3 h4
    have := text_ok _ _ _ _ _ (Nat.le_refl _) h2 ht
    exact ⟨may1_mk rfl this.1 h0 h1 (by show (0 : Int) ≤ 0; decide) (by show (0 : Int) ≤ 5; decide) (.inr (.inr (.inr (.inl ⟨rfl, rfl, rfl⟩)))), by show (3 : Int) ≠ 0; decide, by show 1 ≤ k' + 1; omega, by show k' + 1 ≤ _; omega⟩
  · rw [Option.map_eq_some_iff] at h
    obtain ⟨⟨c, k'⟩, h2, h3⟩ := h
    injection h3 with h3 h4
    subst h3 h4
    have := text_ok _ _ _ _ _ (Nat.le_refl _) h2 ha
    exact ⟨may1_mk rfl this.1 h0 h1 (by show (0 : Int) ≤ 0; decide) (by show (0 : Int) ≤ 5; decide) (.inr (.inr (.inr (.inl ⟨rfl, rfl, rfl⟩)))), by show (3 : Int) ≠ 0; decide, this.2.1, this.2.2⟩
theorem part_ok {l : List Int} {f : Form} {k : Nat} (h : part l = some (f, k)) (ha : l.all RX.isSign = true) : may1 f = true ∧ f.kind ≠ 0 ∧ 1 ≤ k ∧ k ≤ l.length := by
  unfold part at h
  split at h
  · rename_i n k' hn
    injection h with h
    injection h with h1 h2
    subst h1 h2
    have := number_ok hn
    exact ⟨may1_mk rfl rfl this.1 this.2.1 (by show (0 : Int) ≤ 0; decide) (by show (0 : Int) ≤ 5; decide) (.inr (.inl ⟨rfl, rfl, rfl⟩)), by show (1 : Int) ≠ 0; decide, by omega, by omega⟩
  · split at h
    · rename_i hh
      have := head_tail hh
      split at h
      · cases h
      · rename_i n k' hn
        have h5 := number_ok hn
        split at h
        · rename_i h6
          injection h with h
          injection h with h1 h2
          subst h1 h2
          have h7 := head_tail h6
          rw [List.length_drop] at h7
          exact ⟨may1_mk rfl rfl h5.1 h5.2.1 (by show (0 : Int) ≤ 0; decide) (by show (0 : Int) ≤ 5; decide) (.inr (.inl ⟨rfl, rfl, rfl⟩)), by show (1 : Int) ≠ 0; decide, by omega, by omega⟩
        · split at h
          · rename_i h6
            rw [Option.map_eq_some_iff] at h
            obtain ⟨⟨f', k2⟩, h2, h3⟩ := h
            injection h3 with h3 h4
            subst h3 h4
            have h7 := head_tail h6
            rw [List.length_drop] at h7
            have h8 := inner_ok h2 h5.1 h5.2.1 (all_tail (all_drop (all_tail ha) _))
            exact ⟨h8.1, h8.2.1, by show 1 ≤ k2 + k' + 2; omega, by show k2 + k' + 2 ≤ _; have := h8.2.2.2; omega⟩
          · cases h
    · cases h
theorem endT_may {fs : List Form} {tx : List Int} (h1 : mayR false fs = true) (h2 : last0 false fs = false) (h3 : tx.all RX.isSign = true) : mayR false (endT fs tx) = true := by
  unfold endT
  split
  · exact h1
  · rename_i hne
    rw [mayR_append, h1, h2]
    have : may1 ⟨0, 0, 0, tx, []⟩ = true := may1_mk h3 rfl (by show (0 : Int) ≤ 0; decide) (by show (0 : Int) ≤ 99; decide) (by show (0 : Int) ≤ 0; decide) (by show (0 : Int) ≤ 5; decide) (.inl ⟨rfl, hne, rfl, rfl, rfl⟩)
    simp [mayR, this]
/-- What a scan returns may be, and lies ahead of a /. -/
theorem scan_ok : ∀ (n : Nat) (l : List Int) (fs : List Form) (tx : List Int) (i : Nat) (r : List Form) (j : Nat), scan n l fs tx i = some (r, j) → l.all RX.isSign = true → tx.all RX.isSign = true → mayR false fs = true → last0 false fs = false →
    may r = true ∧ i ≤ j ∧ l[j - i]? = some 47
  | 0, _, _, _, _, _, _, h, _, _, _, _ => by cases h
  | _ + 1, [], _, _, _, _, _, h, _, _, _, _ => by cases h
  | n + 1, c :: l, fs, tx, i, r, j, h, ha, ht, hf, hl => by
    simp only [List.all_cons, Bool.and_eq_true] at ha
    obtain ⟨hc, ha⟩ := ha
    have htc : (tx ++ [c]).all RX.isSign = true := by rw [List.all_append, ht]; simp [hc]
    have plain : scan n l fs (tx ++ [c]) (i + 1) = some (r, j) → may r = true ∧ i ≤ j ∧ (c :: l)[j - i]? = some 47 := by
      intro h
      have := scan_ok n l fs _ _ r j h ha htc hf hl
      refine ⟨this.1, by omega, ?_⟩
      rw [show j - i = (j - (i + 1)) + 1 by omega, List.getElem?_cons_succ]; exact this.2.2
    rw [scan] at h
    split at h
    · rename_i hc
      injection h with h
      injection h with h1 h2
      subst h1 h2 hc
      exact ⟨endT_may hf hl ht, Nat.le_refl _, by simp⟩
    split at h
    · split at h
      · rename_i f k hp
        have h5 := part_ok hp ha
        have h6 := scan_ok n _ _ _ _ r j h (all_drop ha _) rfl (by rw [mayR_append, endT_may hf hl ht]; simp [mayR, h5.1, h5.2.1]) (by rw [last0_append]; simp [h5.2.1])
        refine ⟨h6.1, by omega, ?_⟩
        have h7 := h6.2.2
        rw [List.getElem?_drop] at h7
        rw [show j - i = (k + (j - (i + 1 + k))) + 1 by omega, List.getElem?_cons_succ]; exact h7
      · exact plain h
    · split at h
      · rename_i d hd
        obtain ⟨_, _, r', rfl⟩ := escN_some hd
        simp only [List.all_cons, Bool.and_eq_true] at ha
        have h6 := scan_ok n _ _ _ _ r j h ha.2 (by rw [List.all_append, ht]; simp [ha.1]) hf hl
        refine ⟨h6.1, by omega, ?_⟩
        rw [show j - i = (j - (i + 2)) + 1 + 1 by omega, List.getElem?_cons_succ, List.getElem?_cons_succ]; exact h6.2.2
      · exact plain h
theorem scanAll_ok {s : List Int} {r : List Form} {j : Nat} (h : scanAll s = some (r, j)) (hs : s.all RX.isSign = true) : may r = true ∧ s[j]? = some 47 := by
  have := scan_ok _ _ _ _ _ _ _ h hs rfl rfl rfl
  exact ⟨this.1, by simpa using this.2.2⟩

/-- The pieces that formats are made of. -/
def pieces : List (List Int) := [[36, 49], [36, 123, 49, 125], [36, 123, 48, 58, 47, 117, 112, 99, 97, 115, 101, 125], [36, 123, 49, 58, 47, 112, 97, 115, 99, 97, 108, 99, 97, 115, 101, 125], [36, 123, 49, 58, 43, 120, 125], [36, 123, 49, 58, 45, 121, 125], [36, 123, 49, 58, 63, 120, 58, 121, 125], [36, 123, 49, 58, 122, 125], [97], [45], [36], [92, 47], [36, 123, 49, 58, 47, 110, 111, 125], [36, 49, 50], [92, 36, 49], [36, 123, 50, 58, 47, 99, 97, 109, 101, 108, 99, 97, 115, 101, 125], [36, 49, 50, 51]]
/-- What is scanned wherever it stands. -/
def Scans (l : List Int) : Prop := ∀ n fs tx i, l.length < n → (scan n l fs tx i).isSome = true
def Starts (l : List Int) : Prop := ∃ d r, l = d :: r ∧ isD d = false ∧ d ≠ 123
theorem scans_end (more : List Int) : Scans (47 :: more) := by
  intro n fs tx i h
  cases n with
  | zero => omega
  | succ n => rw [scan, if_pos rfl]; rfl
theorem Scans.part {r rest : List Int} {f : Form} (h : FM.part (r ++ rest) = some (f, r.length)) (hs : Scans rest) : Scans (36 :: (r ++ rest)) := by
  intro n fs tx i hn
  cases n with
  | zero => omega
  | succ n => rw [scan_part h, List.drop_left]; exact hs _ _ _ _ (by simp at hn; omega)
theorem Scans.plain {c : Int} {l : List Int} (h : Scans l) (h1 : c ≠ 47) (h2 : c = 36 → FM.part l = none) (h3 : c ≠ 92) : Scans (c :: l) := by
  intro n fs tx i hn
  cases n with
  | zero => omega
  | succ n => rw [scan_plain h1 h2 (fun k => h3 k.1)]; exact h _ _ _ _ (by simpa using hn)
theorem Scans.esc {d : Int} {l : List Int} (h : Scans l) (h1 : d ∈ outer) : Scans (92 :: d :: l) := by
  intro n fs tx i hn
  cases n with
  | zero => omega
  | succ n => rw [scan_esc h1]; exact h _ _ _ _ (by simp at hn; omega)
theorem number_one {a d : Int} {r : List Int} (ha : isD a = true) (h : isD d = false) : number (a :: d :: r) = some (a - 48, 1) := by
  simp [number, digs, ha, h, val]
theorem number_two {a b d : Int} {r : List Int} (ha : isD a = true) (hb : isD b = true) (h : isD d = false) : number (a :: b :: d :: r) = some (10 * (a - 48) + (b - 48), 2) := by
  simp [number, digs, ha, hb, h, val]
theorem number_three {a b c : Int} {r : List Int} (ha : isD a = true) (hb : isD b = true) (hc : isD c = true) : number (a :: b :: c :: r) = none := by
  simp [number, digs, ha, hb, hc]
theorem piece_scans {p rest : List Int} (hp : p ∈ pieces) (hs : Starts rest) (h : Scans rest) : Scans (p ++ rest) ∧ Starts (p ++ rest) := by
  obtain ⟨d, r, rfl, hd, hb⟩ := hs
  have n1 : ∀ x, number (123 :: x) = none := number_no (by decide)
  simp only [pieces, List.mem_cons, List.not_mem_nil, or_false] at hp
  rcases hp with rfl | rfl | rfl | rfl | rfl | rfl | rfl | rfl | rfl | rfl | rfl | rfl | rfl | rfl | rfl | rfl | rfl
  all_goals refine ⟨?_, ⟨_, _, rfl, by decide, by decide⟩⟩
  · exact Scans.part (r := [49]) (f := ⟨1, 1, 0, [], []⟩) (by show FM.part (49 :: d :: r) = _; unfold FM.part; rw [number_one (by decide) hd]; rfl) h
  · exact Scans.part (r := [123, 49, 125]) (f := ⟨1, 1, 0, [], []⟩) (by show FM.part (123 :: 49 :: 125 :: d :: r) = _; unfold FM.part; rw [n1]; simp [number_one, isD]) h
  · exact Scans.part (r := [123, 48, 58, 47, 117, 112, 99, 97, 115, 101, 125]) (f := ⟨1, 0, 1, [], []⟩) (by show FM.part (123 :: 48 :: 58 :: 47 :: 117 :: 112 :: 99 :: 97 :: 115 :: 101 :: 125 :: d :: r) = _; unfold FM.part; rw [n1]; simp [number_one, isD, inner, cased, casedL, names, nUp]) h
  · exact Scans.part (r := [123, 49, 58, 47, 112, 97, 115, 99, 97, 108, 99, 97, 115, 101, 125]) (f := ⟨1, 1, 4, [], []⟩) (by show FM.part (123 :: 49 :: 58 :: 47 :: 112 :: 97 :: 115 :: 99 :: 97 :: 108 :: 99 :: 97 :: 115 :: 101 :: 125 :: d :: r) = _; unfold FM.part; rw [n1]; simp [number_one, isD, inner, cased, casedL, names, nUp, nDown, nCap, nPascal]) h
  · exact Scans.part (r := [123, 49, 58, 43, 120, 125]) (f := ⟨2, 1, 0, [120], []⟩) (by show FM.part (123 :: 49 :: 58 :: 43 :: 120 :: 125 :: d :: r) = _; unfold FM.part; rw [n1]; simp [number_one, isD, inner, text, marks]) h
  · exact Scans.part (r := [123, 49, 58, 45, 121, 125]) (f := ⟨3, 1, 0, [], [121]⟩) (by show FM.part (123 :: 49 :: 58 :: 45 :: 121 :: 125 :: d :: r) = _; unfold FM.part; rw [n1]; simp [number_one, isD, inner, text, marks]) h
  · exact Scans.part (r := [123, 49, 58, 63, 120, 58, 121, 125]) (f := ⟨4, 1, 0, [120], [121]⟩) (by show FM.part (123 :: 49 :: 58 :: 63 :: 120 :: 58 :: 121 :: 125 :: d :: r) = _; unfold FM.part; rw [n1]; simp [number_one, isD, inner, text, marks]) h
  · exact Scans.part (r := [123, 49, 58, 122, 125]) (f := ⟨3, 1, 0, [], [122]⟩) (by show FM.part (123 :: 49 :: 58 :: 122 :: 125 :: d :: r) = _; unfold FM.part; rw [n1]; simp [number_one, isD, inner, text, marks]) h
  · exact h.plain (by decide) (by intro h; exact absurd h (by decide)) (by decide)
  · exact h.plain (by decide) (by intro h; exact absurd h (by decide)) (by decide)
  · refine h.plain (by decide) (fun _ => ?_) (by decide)
    unfold FM.part
    rw [number_no hd]
    simp [hb]
  · exact h.esc (by decide)
  · have h1 : Scans (47 :: 110 :: 111 :: 125 :: d :: r) := scans_end _
    have h2 := ((h1.plain (c := 58) (by decide) (by intro h; exact absurd h (by decide)) (by decide)).plain (c := 49) (by decide) (by intro h; exact absurd h (by decide)) (by decide)).plain (c := 123) (by decide) (by intro h; exact absurd h (by decide)) (by decide)
    refine h2.plain (c := 36) (by decide) (fun _ => ?_) (by decide)
    unfold FM.part; rw [n1]; simp [number_one, isD, inner, cased, casedL, names, nUp, nDown, nCap, nPascal, nCamel]
  · exact Scans.part (r := [49, 50]) (f := ⟨1, 12, 0, [], []⟩) (by show FM.part (49 :: 50 :: d :: r) = _; unfold FM.part; rw [number_two (by decide) (by decide) hd]; rfl) h
  · exact Scans.esc (h.plain (c := 49) (by decide) (by intro h; exact absurd h (by decide)) (by decide)) (by decide)
  · exact Scans.part (r := [123, 50, 58, 47, 99, 97, 109, 101, 108, 99, 97, 115, 101, 125]) (f := ⟨1, 2, 5, [], []⟩) (by show FM.part (123 :: 50 :: 58 :: 47 :: 99 :: 97 :: 109 :: 101 :: 108 :: 99 :: 97 :: 115 :: 101 :: 125 :: d :: r) = _; unfold FM.part; rw [n1]; simp [number_one, isD, inner, cased, casedL, names, nUp, nDown, nCap, nPascal, nCamel]) h
  · have h2 := ((h.plain (c := 51) (by decide) (by intro h; exact absurd h (by decide)) (by decide)).plain (c := 50) (by decide) (by intro h; exact absurd h (by decide)) (by decide)).plain (c := 49) (by decide) (by intro h; exact absurd h (by decide)) (by decide)
    refine h2.plain (c := 36) (by decide) (fun _ => ?_) (by decide)
    unfold FM.part; rw [number_three (by decide) (by decide) (by decide)]; simp
theorem pieces_scan (more : List Int) : ∀ ps : List (List Int), (∀ p ∈ ps, p ∈ pieces) → Scans (ps.flatten ++ 47 :: more) ∧ Starts (ps.flatten ++ 47 :: more)
  | [], _ => ⟨scans_end _, 47, more, rfl, by decide, by decide⟩
  | p :: ps, h => by
    have ih := pieces_scan more ps (fun q hq => h q (by simp [hq]))
    rw [List.flatten_cons, List.append_assoc]
    exact piece_scans (h p (by simp)) ih.2 ih.1
theorem pieces_sign : ∀ p ∈ pieces, p.all RX.isSign = true := by decide
end Go.Proofs.YtfblkahjefdmaaaDoor.FM
