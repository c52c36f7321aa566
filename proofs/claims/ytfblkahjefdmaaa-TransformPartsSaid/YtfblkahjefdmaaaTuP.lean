/- Plain law: a made text transformed by a made pattern and format: nothing found; the whole put back; the first replaced. No program in sight. -/
import Derived.Test.YtfblkahjefdmaaaTrK
import Derived.Test.YtfblkahjefdmaaaTsC
namespace Go.Proofs.Ytfblkahjefdmaaa.TR
open MX (First Alls)

theorem fillR_fits (G : Int → List Int) (room : Nat) : ∀ (l : List FM.Form) (out : List Int), out.length + (fillL l G).length ≤ room → fillR G room l out = some (out ++ fillL l G)
  | [], out, _ => by simp [fillR, fillL]
  | f :: l, out, h => by
    have e : fillL (f :: l) G = part f G ++ fillL l G := by simp [fillL]
    rw [e, List.length_append] at h
    rw [fillR, if_neg (by omega), fillR_fits G room l _ (by rw [List.length_append]; omega), e, List.append_assoc]
theorem take_mid {s : List Int} {i a : Nat} (h : i ≤ a) : s.take i ++ (s.drop i).take (a - i) = s.take a := by
  have := List.take_add (l := s) (i := i) (j := a - i)
  rw [← this, show i + (a - i) = a by omega]
theorem cut_zero {s c : List Int} {a b : Nat} (ha : c[0]? = some (a : Int)) (hb : c[1]? = some (b : Int)) (hab : a ≤ b) : cut s c 0 = (s.drop a).take (b - a) := by
  unfold cut
  simp only [Int.toNat_zero, Nat.mul_zero, Nat.zero_add, ha, hb]
  rw [if_pos (by omega), Int.toNat_natCast, Int.toNat_natCast]
theorem note_nat {c : List Int} {i a : Nat} (h : c[i]? = some (a : Int)) : (c.getD i 0).toNat = a := by
  rw [List.getD_eq_getElem?_getD, h]; simp
theorem go_whole {s : List Int} (hs : s.length ≤ 1000) : ∀ {L : List (List Int)} {i : Nat}, Mts s.length i L → goR s [gF] L (s.take i) i = some s
  | _, _, .nil i h => by
    rw [goR, if_neg (by rw [List.length_take]; omega), List.take_append_drop]
  | _, _, .cons i a b c L ha hb h1 h2 h3 _ hm => by
    have hp : fillL [gF] (cut s c) = (s.drop a).take (b - a) := by simp [fillL, part_g, cut_zero ha hb h2]
    have e : fillR (cut s c) 1000 [gF] (s.take i ++ (s.drop i).take (a - i)) = some (s.take b) := by
      rw [take_mid h1, fillR_fits, hp, take_mid h2]
      rw [hp, List.length_take, List.length_take, List.length_drop]; omega
    rw [goR, note_nat ha, note_nat hb, e]
    exact go_whole hs hm
/-- What Run tells where the pattern is one and the arguments may be. -/
theorem runQ_ok {s p text : List Int} {forms : List FM.Form} {all fold : Bool} {code bat : Int} {l : List PG.Inst} {t : List RX.ReN} (hsg : s.all RX.isSign = true) (hl : s.length ≤ 1000) (hm : FM.may forms = true) (hc : PG.compile p = (l, 0, 0)) (hp : RX.parse p = (t, 0, 0))
    (h : RunQ s p forms all fold text code bat) : ∃ k L, PG.Made l (RX.groups t) k ∧ Fnd (MX.act l fold s) s.length (MX.blank (RX.groups t)) all L ∧ ((goR s forms L [] 0 = none ∧ text = [] ∧ code = 3 ∧ bat = 0) ∨ (goR s forms L [] 0 = some text ∧ code = 0 ∧ bat = 0)) := by
  unfold RunQ at h
  rw [if_pos ⟨hsg, hl, hm⟩] at h
  rcases h with ⟨c, b, h1, h2, -⟩ | ⟨l', t', k, L, h1, h2, h3, h4, h5⟩
  · rw [hc] at h1
    injection h1 with _ h1
    injection h1 with h1 _
    exact absurd h1.symm h2
  · rw [hc] at h1
    rw [hp] at h2
    injection h1 with h1 _
    injection h2 with h2 _
    subst h1 h2
    exact ⟨k, L, h3, h4, h5⟩
theorem run_whole {s p text : List Int} {all fold : Bool} {code bat : Int} {l : List PG.Inst} {t : List RX.ReN} (hsg : s.all RX.isSign = true) (hl : s.length ≤ 1000) (hc : PG.compile p = (l, 0, 0)) (hp : RX.parse p = (t, 0, 0))
    (h : RunQ s p [gF] all fold text code bat) : text = s ∧ code = 0 ∧ bat = 0 := by
  obtain ⟨k, L, h1, h2, h3⟩ := runQ_ok hsg hl (by decide) hc hp h
  have e := go_whole hl (fnd_mts h1 h2)
  rw [List.take_zero] at e
  rw [e] at h3
  rcases h3 with ⟨h3, -⟩ | ⟨h3, h4, h5⟩
  · cases h3
  · injection h3 with h3
    exact ⟨h3.symm, h4, h5⟩
theorem run_absent {s p text : List Int} {forms : List FM.Form} {all fold : Bool} {code bat : Int} {l : List PG.Inst} {t : List RX.ReN} (hsg : s.all RX.isSign = true) (hl : s.length ≤ 1000) (hm : FM.may forms = true) (hc : PG.compile p = (l, 0, 0)) (hp : RX.parse p = (t, 0, 0))
    (hF : First (MX.act l fold s) s.length (MX.blank (RX.groups t)) 0 none) (h : RunQ s p forms all fold text code bat) : text = s ∧ code = 0 ∧ bat = 0 := by
  obtain ⟨k, L, h1, h2, h3⟩ := runQ_ok hsg hl hm hc hp h
  have hL : L = [] := by
    rcases h2 with ⟨-, h2⟩ | ⟨-, ⟨-, h2⟩ | ⟨r, h2, -⟩⟩
    · exact MX.alls_one h2 (.none_ 0 (Nat.zero_le _) hF)
    · exact h2
    · cases MX.first_one h2 hF
  subst hL
  have e : goR s forms [] [] 0 = some s := by
    rw [goR, if_neg (by simp only [List.length_nil]; omega)]; simp
  rw [e] at h3
  rcases h3 with ⟨h3, -⟩ | ⟨h3, h4, h5⟩
  · cases h3
  · injection h3 with h3
    exact ⟨h3.symm, h4, h5⟩
theorem run_first {s p text c : List Int} {forms : List FM.Form} {fold : Bool} {code bat : Int} {l : List PG.Inst} {t : List RX.ReN} {a b : Nat} (hsg : s.all RX.isSign = true) (hl : s.length ≤ 1000) (hm : FM.may forms = true) (hc : PG.compile p = (l, 0, 0)) (hp : RX.parse p = (t, 0, 0))
    (hF : First (MX.act l fold s) s.length (MX.blank (RX.groups t)) 0 (some c)) (ha : c[0]? = some (a : Int)) (hb : c[1]? = some (b : Int)) (hfit : s.length + (fillL forms (cut s c)).length ≤ 1000)
    (h : RunQ s p forms false fold text code bat) : text = (s.take a ++ fillL forms (cut s c)) ++ s.drop b ∧ code = 0 ∧ bat = 0 := by
  obtain ⟨k, L, h1, h2, h3⟩ := runQ_ok hsg hl hm hc hp h
  have hL : L = [c] := by
    rcases h2 with ⟨h2, -⟩ | ⟨-, ⟨h2, -⟩ | ⟨r, h2, rfl⟩⟩
    · cases h2
    · cases MX.first_one h2 hF
    · have := MX.first_one h2 hF
      injection this with this
      rw [this]
  subst hL
  obtain ⟨a', b', e1, e2, e3, e4, e5, -⟩ := mts_first h1 hF
  rw [ha] at e1
  rw [hb] at e2
  have e1 := Option.some.inj e1
  have e2 := Option.some.inj e2
  have e : goR s forms [c] [] 0 = some ((s.take a ++ fillL forms (cut s c)) ++ s.drop b) := by
    have e6 : fillR (cut s c) 1000 forms ([] ++ (s.drop 0).take (a - 0)) = some (s.take a ++ fillL forms (cut s c)) := by
      rw [List.drop_zero, Nat.sub_zero, List.nil_append, fillR_fits]
      rw [List.length_take]; omega
    rw [goR, note_nat ha, note_nat hb, e6]
    show goR s forms [] _ b = _
    rw [goR, if_neg (by rw [List.length_append, List.length_take]; omega)]
  rw [e] at h3
  rcases h3 with ⟨h3, -⟩ | ⟨h3, h4, h5⟩
  · cases h3
  · injection h3 with h3
    exact ⟨h3.symm, h4, h5⟩
/-- The groups of a match, as a list. -/
def cuts (s c : List Int) (n : Nat) : List (List Int) := (List.range n).map fun (k : Nat) => cut s c (k : Int)
theorem cuts_snoc (s c : List Int) (n : Nat) : cuts s c (n + 1) = cuts s c n ++ [cut s c (n : Int)] := by
  unfold cuts
  rw [List.range_succ, List.map_append]; rfl
theorem grp_cuts {s c : List Int} {n : Nat} (h : c.length ≤ 2 * n + 1) (k : Int) : grp (cuts s c n) k = cut s c k := by
  unfold grp cuts
  rw [List.getElem?_map]
  rcases Nat.lt_or_ge k.toNat n with hlt | hge
  · rw [List.getElem?_range hlt]
    show cut s c (k.toNat : Int) = cut s c k
    unfold cut
    rw [Int.toNat_natCast]
  · rw [List.getElem?_eq_none (by simpa using hge)]
    show [] = _
    unfold cut
    rw [List.getElem?_eq_none (l := c) (i := 2 * k.toNat + 1) (by omega)]
    split
    · rename_i h1; cases h1
    · rfl
theorem grp_cuts_all {s c : List Int} {n : Nat} (h : c.length ≤ 2 * n + 1) : grp (cuts s c n) = cut s c := funext (grp_cuts h)
theorem cuts_len {s c : List Int} {n : Nat} : ∀ g ∈ cuts s c n, g.length ≤ s.length := by
  intro g hg
  obtain ⟨k, -, rfl⟩ := List.mem_map.1 hg
  exact cut_len s c _
theorem fill_total {G : Int → List Int} (hG : ∀ k, (G k).length ≤ 20) : ∀ (l : List FM.Form), 17 * (fillL l G).length ≤ 20 * FM.total l
  | [] => by simp [fillL]
  | f :: l => by
    have ih := fill_total hG l
    have e : fillL (f :: l) G = part f G ++ fillL l G := by simp [fillL]
    have e2 : FM.total (f :: l) = 2 * f.text.length + 2 * f.els.length + (if f.kind = 0 then 0 else 17) + FM.total l := rfl
    have hp : 17 * (part f G).length ≤ 20 * (2 * f.text.length + 2 * f.els.length + (if f.kind = 0 then 0 else 17)) := by
      unfold part partL
      have h1 := caseP_len f.cas (G f.group)
      have h2 := hG f.group
      by_cases k0 : f.kind = 0
      · rw [if_neg (by omega), if_neg (by omega), if_neg (by omega), if_pos k0]; omega
      · rw [if_neg k0 (α := Nat)]
        repeat' split
        all_goals first | omega | (simp only [List.length_nil]; omega)
    rw [e, e2, List.length_append]
    omega
end Go.Proofs.Ytfblkahjefdmaaa.TR
namespace Go.Proofs.Ytfblkahjefdmaaa
theorem scanAt_fit {s : List Int} {a : Int} {l : List FM.Form} {j : Nat} (h : scanAt s a = some (l, j)) : FM.total l ≤ 10 * s.length ∧ FM.may l = true ∧ l.length ≤ 2 * s.length + 1 := by
  have h0 := (scanAt_small h).1
  unfold scanAt at h
  split at h
  · rename_i hc
    unfold scanK at h
    have hs : (s.drop a.toNat).all RX.isSign = true := by
      rw [List.all_eq_true]
      intro x hx
      exact List.all_eq_true.1 hc.2.2 x (List.mem_of_mem_drop hx)
    have h2 := FM.scan_total _ _ _ _ _ _ _ h hs
    have h3 := FM.scan_ok _ _ _ _ _ _ _ h hs rfl rfl rfl
    rw [List.length_drop] at h2
    simp only [List.length_nil] at h2
    have h4 : FM.total [] = 0 := rfl
    exact ⟨by omega, h3.1, h0⟩
  · cases h
end Go.Proofs.Ytfblkahjefdmaaa
