/- For ResynMadeS: what the texts XPgW XPgZ of wip/tpl say. -/
import Derived.Test.YtpcdknfmgacggaaI
import Derived.Test.YtpcdknfmgacggaaM
namespace Go.Proofs.Ytpcdknfmgacggaa
open Go.RowKit
namespace PG
open RX (ReN)
theorem kids_fuel : ∀ (n m : Nat) (r : List ReN), r.length ≤ n → r.length ≤ m → kids n r = kids m r
  | 0, m, r, h, _ => by
    cases r with
    | nil => cases m <;> rfl
    | cons x r => simp at h
  | n + 1, 0, r, _, h => by
    cases r with
    | nil => rfl
    | cons x r => simp at h
  | n + 1, m + 1, r, h1, h2 => by
    cases r with
    | nil => rfl
    | cons x r =>
      rw [kids, kids]
      congr 1
      have := (List.dropWhile_sublist (l := r) (fun y : ReN => decide (x.deep < y.deep))).length_le
      simp at h1 h2
      exact kids_fuel n m _ (by omega) (by omega)
def kidsA (r : List ReN) : List (List ReN) := kids r.length r
theorem kidsA_step {l : List ReN} {i k : Nat} (hi : i < k) (hk : k ≤ l.length) (h : ∀ j (hj : j < l.length), i < j → j < k → (l[i]'(Nat.lt_of_lt_of_le hi hk)).deep < l[j].deep) (he : ∀ hj : k < l.length, ¬ (l[i]'(Nat.lt_of_lt_of_le hi hk)).deep < l[k].deep) :
    kidsA (l.drop i) = (l.drop i).take (k - i) :: kidsA (l.drop k) := by
  have hil := Nat.lt_of_lt_of_le hi hk
  unfold kidsA
  rw [List.drop_eq_getElem_cons hil]
  have hsp : l.drop (i + 1) = (l.drop (i + 1)).take (k - i - 1) ++ l.drop k := by
    conv => lhs; rw [← List.take_append_drop (k - i - 1) (l.drop (i + 1))]
    rw [List.drop_drop, show i + 1 + (k - i - 1) = k by omega]
  have hw := takeWhile_all (p := fun y : ReN => decide (l[i].deep < y.deep)) (a := (l.drop (i + 1)).take (k - i - 1)) (b := l.drop k) (fun x hx => by
      obtain ⟨j, hj, rfl⟩ := List.getElem_of_mem hx
      have hj2 := hj
      rw [List.length_take, List.length_drop] at hj2
      rw [List.getElem_take, List.getElem_drop]
      exact decide_eq_true (h _ (by omega) (by omega) (by omega))) (fun x r hx => by
      have hkl : k < l.length := by
        have := congrArg List.length hx
        rw [List.length_drop] at this
        simp at this; omega
      rw [List.drop_eq_getElem_cons hkl] at hx
      injection hx with hx _
      rw [← hx]
      exact decide_eq_false (he hkl))
  rw [← hsp] at hw
  rw [List.length_cons, kids, hw.1, hw.2, show k - i = (k - i - 1) + 1 by omega, List.take_succ_cons]
  congr 1
  exact kids_fuel _ _ _ (by rw [List.length_drop, List.length_drop]; omega) (Nat.le_refl _)
end PG
/-- A cut of a row in blocks from a bound on. -/
theorem SlB.cutP {α : Type} {t sz : Nat} {C : World → List Value → α → Prop} {B : Nat} {w : World} {A : Option Addr} {n c : Nat} {xs : List α} (h : SlB t sz C B w (.slice A n c) xs) {k m : Nat} (hk : k < m) (hm : m ≤ xs.length) :
    SlB t sz C B w (.slice (cutA A c k sz) (m - k) (c - k)) ((xs.drop k).take (m - k)) := by
  obtain ⟨A', c', hv, hl, hc, hn, ha⟩ := h
  injection hv with h1 h2 h3
  subst h1 h2 h3
  have hlen : ((xs.drop k).take (m - k)).length = m - k := by rw [List.length_take, List.length_drop]; omega
  refine ⟨cutA A c k sz, c - k, by rw [hlen], by rw [hlen]; omega, by omega, ?_, ?_⟩
  · intro hA
    unfold cutA at hA
    split at hA
    · omega
    · cases A with
      | none => have := hn rfl; omega
      | some _ => cases hA
  · intro ad had
    unfold cutA at had
    rw [if_neg (by omega)] at had
    cases A with
    | none => cases had
    | some a0 =>
      obtain ⟨g, o, cur, rfl, hb, hh, ho, hx⟩ := ha a0 rfl
      simp only [Option.map_some, Option.some.injEq] at had
      have hadd : (⟨g, o, none⟩ : Addr).add (k * sz) = ⟨g, o + k * sz, none⟩ := by unfold Addr.add; split <;> simp_all
      rw [hadd] at had
      subst had
      have hcc : (c - k) * sz + k * sz = c * sz := by rw [← Nat.add_mul]; congr 1; omega
      refine ⟨g, o + k * sz, cur, rfl, hb, hh, by omega, fun j x hj => ?_⟩
      rw [List.getElem?_take] at hj
      split at hj
      · rw [List.getElem?_drop] at hj
        obtain ⟨cs, h4, h5⟩ := hx _ _ hj
        refine ⟨cs, h4, fun i u hu => ?_⟩
        have := h5 i u hu
        rw [Nat.add_mul] at this
        rw [show o + k * sz + j * sz + i = o + (k * sz + j * sz) + i by omega]; exact this
      · cases hj
theorem cutA_add {g o c k sz : Nat} (h : c ≠ k) : cutA (some ⟨g, o, none⟩) c k sz = some ⟨g, o + k * sz, none⟩ := by
  unfold cutA
  rw [if_neg h]
  have hadd : (⟨g, o, none⟩ : Addr).add (k * sz) = ⟨g, o + k * sz, none⟩ := by unfold Addr.add; split <;> simp_all
  rw [Option.map_some, hadd]
/-- A tree that stood already in w. -/
abbrev Kc (w : World) : World → List Value → List RX.ReN → Prop := fun _ cs kid => CL 0 w cs kid
theorem keeps_kc (w : World) (T : List TypeId) : Keeps T (Kc w) := fun _ _ _ _ _ h => h
def KidsP (K : List (List RX.ReN)) (w : World) (e : Ending) (w' : World) : Prop := Ext w w' ∧ ∃ A c, e = .returned (.slice A K.length c) ∧ SlB 36 1 (Kc w) w.heap.size w' (.slice A K.length c) K
/-- append(v, x) of one element, the new value spelled out. -/
theorem app_tell {α : Type} {P : Program} {w : World} {ops : Array Oper} {rest : List Oper} {o : Oper} {a : Act} {Q : Exit → Act → World → Prop} {t te sz bytes : Nat} {z : Value}
    (ht : P.underlying t = some (.slice te)) (hinf : (P.info? te).map (fun i => (i.zero, i.size, i.bytes)) = some (some z, sz, bytes)) (hzs : z.cells.size = sz) (hsz : 0 < sz) (hby : bytes ≤ 100)
    {T : List TypeId} {C : World → List Value → α → Prop} (hC : Keeps T C) (hT : te ∉ T)
    (hgd : o.guard = none) (s x : Operand) (ho : o.op = .call { callee := .builtin .append, args := #[s, x], argTypes := #[t, t] })
    (B : Nat) (v : Value) (xs : List α) (y : α) (cs : List Value) (tb : TypeId) (hown : OwnB te sz C B w v xs) (hy : C w cs y) (hcs : cs.length = sz) (h1 : ∀ u ∈ cs, u.oneCell' = true)
    (hs : a.eval s = v) (nb : Nat) (hx : a.eval x = .slice (some ⟨nb, 0, none⟩) 1 1) (hnb : nb = w.heap.size) (hn : xs.length ≤ 1000000000) (hB : B ≤ w.heap.size)
    (h : ∀ g cap w', OwnB te sz C B w' (.slice (some ⟨g, 0, none⟩) (xs.length + 1) cap) (xs ++ [y]) → (w.alloc (.cells cs.toArray tb)).grownBy w' v.ownBlock → (v.ownBlock = some g ∨ g = w.heap.size + 1) → wpList P ops Q rest (a.put o.dst (.slice (some ⟨g, 0, none⟩) (xs.length + 1) cap)) w') :
    wpList P ops Q (o :: rest) a (w.alloc (.cells cs.toArray tb)) := by
  subst hnb
  obtain ⟨i0, hi, hz0, hz1, hz2⟩ := info_parts hinf
  obtain ⟨flat, hr, h2⟩ := hown
  refine wpList_append_lies _ hgd s x t ho B te i0 z sz bytes ht hi hz0 hz1 hz2 hzs hsz v xs.length flat hs (World.ownsRow.alloc hr _) ⟨w.heap.size, 0, none⟩ 1 1 cs hx (by omega) (fun j u hu => news_all w cs tb j u hu) h1 (by decide) (by unfold maxLen; omega) (Nat.le_trans (Nat.mul_le_mul (show xs.length + 1 ≤ 1000000001 by omega) hby) (by omega)) (by simp; omega) (w.heap.size + 1) (by simp) ?_
  intro g cap w' h3 h4 h5 _
  refine h g cap w' (OwnB.snoc h2 hr.1 hC ?_ hy hcs h3) h4 h5
  refine (KeepT.of_ext ((Ext.refl w).alloc _)).trans (KeepT.of_grown h4 (fun g hg => ?_))
  obtain ⟨cur, hh⟩ := own_type hr g hg
  exact ⟨cur, te, ((Ext.refl w).alloc _).heap hh, hT⟩
/-- The blocks that w has not, but for a row's own one. -/
abbrev Nx (w : World) (v : Value) : Nat → Prop := fun b => w.heap.size ≤ b ∧ v.ownBlock ≠ some b
theorem PtC.keep {S S' : Nat → Prop} {w w' : World} {cs : List Value} {p : PG.Part} (h : PtC S w cs p) (hk : KeepS S S' w w') (hn : NewIn S' w') : PtC S' w' cs p := by
  obtain ⟨A, c, h1, h2⟩ := h
  exact ⟨A, c, h1, hn, h2.2.keep hk⟩
section
variable {w wr w' : World} {rb tb : Nat} {tc : Array Value} {vl : Value} {ps : List PG.Part}
end
/-- A part in the first place of a row. -/
theorem SlP.head {S : Nat → Prop} {w : World} {v : Value} {p : PG.Part} {ps : List PG.Part} (h : SlP S w v (p :: ps)) : ∃ g o c A a, v = .slice (some ⟨g, o, none⟩) (ps.length + 1) c ∧ w.cell? ⟨g, o, none⟩ = some (.slice A p.l.length a) ∧ w.cell? ⟨g, o + 1, none⟩ = some (.int .i64 (p.n : Int)) ∧ SlN S w (.slice A p.l.length a) p.l := by
  obtain ⟨A, c, rfl, -, -⟩ := h.form
  obtain ⟨g, o, cs, rfl, ⟨B, b, rfl, hl⟩, hcell⟩ := h.atP (k := 0) (by simp)
  have h0 := hcell 0 _ rfl
  have h1 := hcell 1 _ rfl
  simp only [Nat.zero_mul, Nat.add_zero] at h0 h1
  exact ⟨g, o, c, B, b, rfl, h0, h1, hl⟩
/-- append([]rune(nil), set...), as a step of a region that draws its order. -/
theorem step_set {w : World} {ops : Array Oper} {o : Oper} {a : Act} {K : Act → World → Prop} {Q : Exit → Act → World → Prop} {E : Prop} (hgd : o.guard = none) (s x : Operand)
    (ho : o.op = .call { callee := .builtin .append, args := #[s, x], argTypes := #[23, 23] }) (ad : Addr) (set : List Int) (c : Nat)
    (hc : ∀ j y, set[j]? = some y → w.cell? (ad.add j) = some (.int .i32 y)) (hpos : 0 < set.length) (hm : set.length ≤ 1000000) (hs : a.eval s = .slice none 0 0) (hx : a.eval x = .slice (some ad) set.length c)
    (h : ∀ g cap w', (∀ S, NewIn S w → SlCS S w' (.slice (some ⟨g, 0, none⟩) set.length cap) set) → Ext w w' → K (a.put o.dst (.slice (some ⟨g, 0, none⟩) set.length cap)) w') :
    if Region.wanted o (yielded ops a.tmps) = true then Oper.wp Try.prog o a w K Q else E := by
  obtain ⟨i0, hi, hz0, hz1, hz2⟩ := info_parts info_c
  refine step_append_lies _ hgd s x 23 ho w.heap.size 21 i0 (.int .i32 0) 1 4 Try.underlying23 hi hz0 hz1 hz2 rfl (by decide) (.slice none 0 0) 0 [] hs ⟨by simp, .inl ⟨rfl, rfl⟩⟩ ad set.length c (set.map (Value.int .i32)) hx (by simp) (cells_map hc)
    (fun u hu => by obtain ⟨y, _, rfl⟩ := List.mem_map.1 hu; rfl) hpos (by unfold maxLen; omega) (by omega) (Nat.le_refl _) _ rfl ?_
  intro g cap w' h3 h4 _ _
  rw [Nat.zero_add] at h3 ⊢
  refine h g cap w' (fun S hS => ?_) ((Ext.refl w).grown h4 (fun k hk => by cases hk))
  obtain ⟨_, h5⟩ := h3
  rcases h5 with ⟨h5, _⟩ | ⟨g', cap', cur, hv, hb, hg, hle, hmx, hsz, htk⟩
  · cases h5
  injection hv with hv1 _ hv3
  injection hv1 with hv1
  injection hv1 with hv1
  subst hv1 hv3
  refine ⟨_, cap, rfl, hle, by unfold maxLen at hmx; omega, fun k y hy => ⟨g, 0, rfl, hS g hb, ?_⟩, by intro h; cases h⟩
  obtain ⟨hk, hky⟩ := List.getElem?_eq_some_iff.1 hy
  rw [cell_of_row w' g _ cur _ (0, 0) hg]
  have h6 : (cur.toList.take (set.length * 1))[k]? = some (.int .i32 y) := by rw [htk, List.nil_append, List.getElem?_map, hy]; rfl
  rw [List.getElem?_take, if_pos (by omega)] at h6
  simpa using h6
end Go.Proofs.Ytpcdknfmgacggaa
