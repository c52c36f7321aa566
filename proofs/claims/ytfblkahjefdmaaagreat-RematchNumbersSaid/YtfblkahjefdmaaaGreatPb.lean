/- Walk: kids of package reprog. -/
import Derived.Test.YtfblkahjefdmaaaGreatPgV
import Derived.Test.YtfblkahjefdmaaaGreatWc
import Derived.Test.YtfblkahjefdmaaaGreatPureA
import Derived.BigQuiet
import Derived.IntWalk
namespace Go.Proofs.YtfblkahjefdmaaaGreat
open Go.RowKit

namespace PG
open RX (ReN)
theorem kids_fuel : ∀ (n m : Nat) (r : List ReN), r.length ≤ n → r.length ≤ m → kids n r = kids m r
  | 0, m, r, h, _ => by
    cases r with
    | nil => cases m <;> rfl
    | cons x r => simp at h
  | n + 1, 0, r, _, h => by
    cases r with
    | nil => rfl
    | cons x r => simp at h
  | n + 1, m + 1, r, h1, h2 => by
    cases r with
    | nil => rfl
    | cons x r =>
      rw [kids, kids]
      congr 1
      have := (List.dropWhile_sublist (l := r) (fun y : ReN => decide (x.deep < y.deep))).length_le
      simp at h1 h2
      exact kids_fuel n m _ (by omega) (by omega)
def kidsA (r : List ReN) : List (List ReN) := kids r.length r
theorem kidsA_step {l : List ReN} {i k : Nat} (hi : i < k) (hk : k ≤ l.length) (h : ∀ j (hj : j < l.length), i < j → j < k → (l[i]'(Nat.lt_of_lt_of_le hi hk)).deep < l[j].deep) (he : ∀ hj : k < l.length, ¬ (l[i]'(Nat.lt_of_lt_of_le hi hk)).deep < l[k].deep) :
    kidsA (l.drop i) = (l.drop i).take (k - i) :: kidsA (l.drop k) := by
  have hil := Nat.lt_of_lt_of_le hi hk
  unfold kidsA
  rw [List.drop_eq_getElem_cons hil]
  have hsp : l.drop (i + 1) = (l.drop (i + 1)).take (k - i - 1) ++ l.drop k := by
    conv => lhs; rw [← List.take_append_drop (k - i - 1) (l.drop (i + 1))]
    rw [List.drop_drop, show i + 1 + (k - i - 1) = k by omega]
  have hw := takeWhile_all (p := fun y : ReN => decide (l[i].deep < y.deep)) (a := (l.drop (i + 1)).take (k - i - 1)) (b := l.drop k) (fun x hx => by
      obtain ⟨j, hj, rfl⟩ := List.getElem_of_mem hx
      have hj2 := hj
      rw [List.length_take, List.length_drop] at hj2
      rw [List.getElem_take, List.getElem_drop]
      exact decide_eq_true (h _ (by omega) (by omega) (by omega))) (fun x r hx => by
      have hkl : k < l.length := by
        have := congrArg List.length hx
        rw [List.length_drop] at this
        simp at this; omega
      rw [List.drop_eq_getElem_cons hkl] at hx
      injection hx with hx _
      rw [← hx]
      exact decide_eq_false (he hkl))
  rw [← hsp] at hw
  rw [List.length_cons, kids, hw.1, hw.2, show k - i = (k - i - 1) + 1 by omega, List.take_succ_cons]
  congr 1
  exact kids_fuel _ _ _ (by rw [List.length_drop, List.length_drop]; omega) (Nat.le_refl _)
end PG
/-- A cut of a row in blocks from a bound on. -/
theorem SlB.cutP {α : Type} {t sz : Nat} {C : World → List Value → α → Prop} {B : Nat} {w : World} {A : Option Addr} {n c : Nat} {xs : List α} (h : SlB t sz C B w (.slice A n c) xs) {k m : Nat} (hk : k < m) (hm : m ≤ xs.length) :
    SlB t sz C B w (.slice (cutA A c k sz) (m - k) (c - k)) ((xs.drop k).take (m - k)) := by
  obtain ⟨A', c', hv, hl, hc, hn, ha⟩ := h
  injection hv with h1 h2 h3
  subst h1 h2 h3
  have hlen : ((xs.drop k).take (m - k)).length = m - k := by rw [List.length_take, List.length_drop]; omega
  refine ⟨cutA A c k sz, c - k, by rw [hlen], by rw [hlen]; omega, by omega, ?_, ?_⟩
  · intro hA
    unfold cutA at hA
    split at hA
    · omega
    · cases A with
      | none => have := hn rfl; omega
      | some _ => cases hA
  · intro ad had
    unfold cutA at had
    rw [if_neg (by omega)] at had
    cases A with
    | none => cases had
    | some a0 =>
      obtain ⟨g, o, cur, rfl, hb, hh, ho, hx⟩ := ha a0 rfl
      simp only [Option.map_some, Option.some.injEq] at had
      have hadd : (⟨g, o, none⟩ : Addr).add (k * sz) = ⟨g, o + k * sz, none⟩ := by unfold Addr.add; split <;> simp_all
      rw [hadd] at had
      subst had
      have hcc : (c - k) * sz + k * sz = c * sz := by rw [← Nat.add_mul]; congr 1; omega
      refine ⟨g, o + k * sz, cur, rfl, hb, hh, by omega, fun j x hj => ?_⟩
      rw [List.getElem?_take] at hj
      split at hj
      · rw [List.getElem?_drop] at hj
        obtain ⟨cs, h4, h5⟩ := hx _ _ hj
        refine ⟨cs, h4, fun i u hu => ?_⟩
        have := h5 i u hu
        rw [Nat.add_mul] at this
        rw [show o + k * sz + j * sz + i = o + (k * sz + j * sz) + i by omega]; exact this
      · cases hj


theorem cutA_add {g o c k sz : Nat} (h : c ≠ k) : cutA (some ⟨g, o, none⟩) c k sz = some ⟨g, o + k * sz, none⟩ := by
  unfold cutA
  rw [if_neg h]
  have hadd : (⟨g, o, none⟩ : Addr).add (k * sz) = ⟨g, o + k * sz, none⟩ := by unfold Addr.add; split <;> simp_all
  rw [Option.map_some, hadd]
/-- A tree that stood already in w. -/
abbrev Kc (w : World) : World → List Value → List RX.ReN → Prop := fun _ cs kid => CL 0 w cs kid
theorem keeps_kc (w : World) (T : List TypeId) : Keeps T (Kc w) := fun _ _ _ _ _ h => h
def KidsP (K : List (List RX.ReN)) (w : World) (e : Ending) (w' : World) : Prop := Ext w w' ∧ ∃ A c, e = .returned (.slice A K.length c) ∧ SlB 51 1 (Kc w) w.heap.size w' (.slice A K.length c) K
set_option maxRecDepth 100000 in
set_option maxHeartbeats 4000000 in
theorem pkids_any (l : List RX.ReN) (v : Value) (w : World) (hs : SlRe 0 0 w v l) (hl : l.length ≤ 100000000) : Calls Tryz.prog 49 #[v] w (KidsP (PG.kidsA (l.drop 1)) w) := by
  obtain ⟨A, c, rfl, hlc, hcc⟩ := hs.form
  have HS := Lib.hid hs
  obtain ⟨K, hK⟩ : ∃ K, PG.kidsA (l.drop 1) = K := ⟨_, rfl⟩
  rw [hK]
  have HK := Lib.hid hK
  clear hs hK
  go_enter Tryz.func49, Tryz.ntmps49
  go_upto_region 3 with fail
  go_loopw [3, 4] (fun v3 x wr => ∃ (i : Nat) (ks : List (List RX.ReN)), 1 ≤ i ∧ x = .int .i64 (i : Int) ∧ ks.length ≤ i ∧ i ≤ l.length + 1 ∧ Ext w wr ∧ OwnB 51 1 (Kc w) w.heap.size wr v3 ks ∧ ks ++ PG.kidsA (l.drop i) = K) (fun _ x _ => l.length + 1 - (intOf x).toNat)
  case atStart => exact ⟨1, [], Nat.le_refl _, rfl, Nat.zero_le _, by omega, Ext.refl _, OwnB.nil_, HK.out⟩
  case round =>
    obtain ⟨i, ks, hi1, rfl, hki, hil, hx, hown, hT⟩ := hrel
    have HX := Lib.hid hx
    have HO := Lib.hid hown
    have HT := Lib.hid hT
    obtain ⟨Al, cl, rfl, hcl, -⟩ := hown.form
    have hws := hx.size
    clear hx hown hT
    by_cases hlt : i < l.length
    rotate_left
    · have HN := Lib.hid (show K = ks by rw [← HT.out, List.drop_eq_nil_of_le (by omega)]; simp [PG.kidsA, PG.kids])
      go_wp2_with fail
      rw [HN.out]
      go_ret
      exact ⟨HX.out, Al, cl, rfl, HO.out.sl⟩
    obtain ⟨g1, o1, cs, rfl, hcr, hcell⟩ := HS.out.at_ hlt
    obtain ⟨A1, c1, rfl⟩ := hcr.cells
    have d1 : wr.cell? ⟨g1, o1 + i * 7 + 1, none⟩ = _ := HX.out.cell (hcell 1 _ rfl)
    clear hcr hcell
    obtain ⟨D, hD⟩ : ∃ D, l[i].deep = D := ⟨_, rfl⟩
    rw [hD] at d1
    have HD := Lib.hid hD
    clear hD
    go_upto_region 5 with fail
    go_loopw [5] (fun x w9 => ∃ (k m : Nat), i < k ∧ k ≤ l.length ∧ x = .int .i64 (k : Int) ∧ (∀ j (hj : j < l.length), i < j → j < k → D < l[j].deep) ∧ w9 = wr.drewN m) (fun x _ => l.length - (intOf x).toNat)
    case atStart => exact ⟨i + 1, 0, by omega, by omega, by go_num, fun j hj h1 h2 => by omega, rfl⟩
    case round =>
      obtain ⟨k, m, hik, hkl, rfl, hall, rfl⟩ := hrel
      by_cases hkt : k < l.length
      · obtain ⟨g2, o2, cs, he, hcr, hcell⟩ := HS.out.at_ hkt
        injection he with he
        injection he with he1 he2
        subst he1 he2
        obtain ⟨A2, c2, rfl⟩ := hcr.cells
        have d2 : wr.cell? ⟨g1, o1 + k * 7 + 1, none⟩ = _ := HX.out.cell (hcell 1 _ rfl)
        clear hcr hcell
        obtain ⟨E, hE⟩ : ∃ E, l[k].deep = E := ⟨_, rfl⟩
        rw [hE] at d2
        have HE := Lib.hid hE
        have HA := Lib.hid hall
        clear hE hall
        have e1 : decide ((k : Int) < (l.length : Int)) = true := by simp; omega
        have e2 : decide (k < l.length) = true := by simp; omega
        have b1 : (k : Int) < (l.length : Int) := by omega
        have b2 : (i : Int) < (l.length : Int) := by omega
        have b3 : (0 : Int) ≤ (k : Int) := by omega
        have b4 : (0 : Int) ≤ (i : Int) := by omega
        by_cases hde : D < E
        · have e3 : decide (D < E) = true := by simp; omega
          go_upto_region 5 with fail
          go_quiet (fail)
          go_wp2_with fail
          go_roundw
          case rel => exact ⟨k + 1, _, by omega, by omega, by go_num, fun j hj h1 h2 => (by
            rcases Nat.lt_or_ge j k with h | h
            · exact HA.out j hj h1 h
            · obtain rfl : j = k := by omega
              rw [HE.out]; exact hde), rfl⟩
          case measure => simp [intOf]; omega
        have e3 : decide (D < E) = false := by simp; omega
        have HST := Lib.hid (PG.kidsA_step (l := l) hik hkl (fun j hj h1 h2 => by rw [HD.out]; exact HA.out j hj h1 h2) (fun hj h => hde (by rw [HD.out, HE.out] at h; exact h)))
        go_upto_region 5 with fail
        go_quiet (fail)
        have hB : w.heap.size ≤ (wr.drewN m).heap.size := hws
        have HKD := Lib.hid (SlB.cutP HS.out hik hkl)
        rw [show cutA (some ⟨g1, o1, none⟩) c i 7 = some ⟨g1, o1 + i * 7, none⟩ from cutA_add (by omega)] at HKD
        have hkn : ks.length ≤ 1000000000 := by omega
        go_wp2_with (at_builtin; go_loud (refine app_part Tryz.underlying102 info_rows rfl (by decide) (by decide) (keeps_kc w []) (by simp) rfl _ _ rfl w.heap.size _ ks ((l.drop i).take (k - i)) [.slice (some ⟨g1, o1 + i * 7, none⟩) (k - i) (c - i)] 51 HO.out ⟨_, rfl, HKD.out⟩ rfl (by simp [Value.oneCell']) rfl wr.heap.size rfl rfl hkn hB ?_; intro gg cap w5 h1 h2; have HF := Lib.hid h1; have HX5 := Lib.hid (((HX.out.drewN _).alloc _).grown h2 (fun b hb => (HO.out.lt b hb).1)); clear h1 h2))
        go_roundw
        case rel => exact ⟨k, ks ++ [(l.drop i).take (k - i)], by omega, rfl, by simp; omega, by omega, HX5.out, HF.out, by rw [List.append_assoc, List.singleton_append, ← HST.out]; exact HT.out⟩
        case measure => simp [intOf]; omega
      · have e1 : decide ((k : Int) < (l.length : Int)) = false := by simp; omega
        have e2 : decide (k < l.length) = false := by simp; omega
        have HST := Lib.hid (PG.kidsA_step (l := l) hik hkl (fun j hj h1 h2 => by rw [HD.out]; exact hall j hj h1 h2) (fun hj h => hkt hj))
        clear hall
        go_upto_region 5 with fail
        go_quiet (fail)
        have hB : w.heap.size ≤ (wr.drewN m).heap.size := hws
        have HKD := Lib.hid (SlB.cutP HS.out hik hkl)
        rw [show cutA (some ⟨g1, o1, none⟩) c i 7 = some ⟨g1, o1 + i * 7, none⟩ from cutA_add (by omega)] at HKD
        have hkn : ks.length ≤ 1000000000 := by omega
        go_wp2_with (at_builtin; go_loud (refine app_part Tryz.underlying102 info_rows rfl (by decide) (by decide) (keeps_kc w []) (by simp) rfl _ _ rfl w.heap.size _ ks ((l.drop i).take (k - i)) [.slice (some ⟨g1, o1 + i * 7, none⟩) (k - i) (c - i)] 51 HO.out ⟨_, rfl, HKD.out⟩ rfl (by simp [Value.oneCell']) rfl wr.heap.size rfl rfl hkn hB ?_; intro gg cap w5 h1 h2; have HF := Lib.hid h1; have HX5 := Lib.hid (((HX.out.drewN _).alloc _).grown h2 (fun b hb => (HO.out.lt b hb).1)); clear h1 h2))
        go_roundw
        case rel => exact ⟨k, ks ++ [(l.drop i).take (k - i)], by omega, rfl, by simp; omega, by omega, HX5.out, HF.out, by rw [List.append_assoc, List.singleton_append, ← HST.out]; exact HT.out⟩
        case measure => simp [intOf]; omega
end Go.Proofs.YtfblkahjefdmaaaGreat

/- Words on memory for tree of package reprog. -/
namespace Go.Proofs.YtfblkahjefdmaaaGreat
open Go.RowKit

/-- append(v, x) of one element, the new value spelled out. -/
theorem app_tell {α : Type} {P : Program} {w : World} {ops : Array Oper} {rest : List Oper} {o : Oper} {a : Act} {Q : Exit → Act → World → Prop} {t te sz bytes : Nat} {z : Value}
    (ht : P.underlying t = some (.slice te)) (hinf : (P.info? te).map (fun i => (i.zero, i.size, i.bytes)) = some (some z, sz, bytes)) (hzs : z.cells.size = sz) (hsz : 0 < sz) (hby : bytes ≤ 100)
    {T : List TypeId} {C : World → List Value → α → Prop} (hC : Keeps T C) (hT : te ∉ T)
    (hgd : o.guard = none) (s x : Operand) (ho : o.op = .call { callee := .builtin .append, args := #[s, x], argTypes := #[t, t] })
    (B : Nat) (v : Value) (xs : List α) (y : α) (cs : List Value) (tb : TypeId) (hown : OwnB te sz C B w v xs) (hy : C w cs y) (hcs : cs.length = sz) (h1 : ∀ u ∈ cs, u.oneCell' = true)
    (hs : a.eval s = v) (nb : Nat) (hx : a.eval x = .slice (some ⟨nb, 0, none⟩) 1 1) (hnb : nb = w.heap.size) (hn : xs.length ≤ 1000000000) (hB : B ≤ w.heap.size)
    (h : ∀ g cap w', OwnB te sz C B w' (.slice (some ⟨g, 0, none⟩) (xs.length + 1) cap) (xs ++ [y]) → (w.alloc (.cells cs.toArray tb)).grownBy w' v.ownBlock → (v.ownBlock = some g ∨ g = w.heap.size + 1) → wpList P ops Q rest (a.put o.dst (.slice (some ⟨g, 0, none⟩) (xs.length + 1) cap)) w') :
    wpList P ops Q (o :: rest) a (w.alloc (.cells cs.toArray tb)) := by
  subst hnb
  obtain ⟨i0, hi, hz0, hz1, hz2⟩ := info_parts hinf
  obtain ⟨flat, hr, h2⟩ := hown
  refine wpList_append_lies _ hgd s x t ho B te i0 z sz bytes ht hi hz0 hz1 hz2 hzs hsz v xs.length flat hs (World.ownsRow.alloc hr _) ⟨w.heap.size, 0, none⟩ 1 1 cs hx (by omega) (fun j u hu => news_all w cs tb j u hu) h1 (by decide) (by unfold maxLen; omega) (Nat.le_trans (Nat.mul_le_mul (show xs.length + 1 ≤ 1000000001 by omega) hby) (by omega)) (by simp; omega) (w.heap.size + 1) (by simp) ?_
  intro g cap w' h3 h4 h5 _
  refine h g cap w' (OwnB.snoc h2 hr.1 hC ?_ hy hcs h3) h4 h5
  refine (KeepT.of_ext ((Ext.refl w).alloc _)).trans (KeepT.of_grown h4 (fun g hg => ?_))
  obtain ⟨cur, hh⟩ := own_type hr g hg
  exact ⟨cur, te, ((Ext.refl w).alloc _).heap hh, hT⟩

/-- The blocks that w has not, but for a row's own one. -/
abbrev Nx (w : World) (v : Value) : Nat → Prop := fun b => w.heap.size ≤ b ∧ v.ownBlock ≠ some b
theorem PtC.keep {S S' : Nat → Prop} {w w' : World} {cs : List Value} {p : PG.Part} (h : PtC S w cs p) (hk : KeepS S S' w w') (hn : NewIn S' w') : PtC S' w' cs p := by
  obtain ⟨A, c, h1, h2⟩ := h
  exact ⟨A, c, h1, hn, h2.2.keep hk⟩
/-- Inside of tree: the result's box, the top's box, the row of parts. -/
structure Tre (w : World) (rb tb : Nat) (tc : Array Value) (vl : Value) (ps : List PG.Part) (wr : World) : Prop where
  ext : Ext w wr
  lo : w.heap.size ≤ rb
  lt : rb < tb
  res : wr.heap[rb]? = some (.cells #[.slice none 0 0, .int .i64 0] 66 (0, 0))
  top : wr.heap[tb]? = some (.cells tc 82 (0, 0))
  own : OwnB 66 2 (Pc (Nx w vl) wr) (tb + 1) wr vl ps
section
variable {w wr w' : World} {rb tb : Nat} {tc : Array Value} {vl : Value} {ps : List PG.Part}
theorem Tre.ext_ (h : Tre w rb tb tc vl ps wr) (hx : Ext wr w') : Tre w rb tb tc vl ps w' :=
  ⟨h.ext.trans hx, h.lo, h.lt, hx.heap h.res, hx.heap h.top, h.own.keepP (fun _ _ hc => hc.ext hx) (fun _ _ _ hg => hx.heap hg)⟩
theorem Tre.newIn (h : Tre w rb tb tc vl ps wr) : NewIn (Nx w vl) wr := fun b hb => ⟨Nat.le_trans h.ext.size hb, fun e => by have := (h.own.lt b e).2; omega⟩
theorem Tre.cell (h : Tre w rb tb tc vl ps wr) {j : Nat} {u : Value} (hu : tc[j]? = some u) : wr.cell? ⟨tb, j, none⟩ = some u := (cell_of_row wr tb j _ _ _ h.top).trans hu
theorem Tre.r0 (h : Tre w rb tb tc vl ps wr) : wr.cell? ⟨rb, 0, none⟩ = some (.slice none 0 0) := cell_of_row wr rb 0 _ _ _ h.res
theorem Tre.r1 (h : Tre w rb tb tc vl ps wr) : wr.cell? ⟨rb, 1, none⟩ = some (.int .i64 0) := cell_of_row wr rb 1 _ _ _ h.res
theorem Tre.fr (h : Tre w rb tb tc vl ps wr) (o : Nat) : wr.frozen? ⟨rb, o, none⟩ = false := frozen_of_row wr rb o _ _ h.res
theorem Tre.slp (h : Tre w rb tb tc vl ps wr) : SlP (Nx w vl) wr vl ps := h.own.slp (Ext.refl _) h.newIn
/-- What a call tells of its part, beside the row. -/
theorem Tre.part (h : Tre w rb tb tc vl ps wr) {v : Value} {l : List PG.Inst} (hl : SlN (Nw wr) w' v l) : SlN (Nx w vl) w' v l := hl.new h.newIn
/-- Behind an append. -/
theorem Tre.app {cs : List Value} {t : TypeId} {ps' : List PG.Part} {g n c : Nat} (h : Tre w rb tb tc vl ps wr) (h1 : OwnB 66 2 (Pc (Nx w vl) wr) (tb + 1) w' (.slice (some ⟨g, 0, none⟩) n c) ps') (h2 : (wr.alloc (.cells cs.toArray t)).grownBy w' vl.ownBlock) (h3 : vl.ownBlock = some g ∨ g = wr.heap.size + 1) :
    Tre w rb tb tc (.slice (some ⟨g, 0, none⟩) n c) ps' w' := by
  have hlt := fun k hk => h.own.lt k hk
  have hlo := h.lo
  have hrt := h.lt
  have hx := ((h.ext.alloc (.cells cs.toArray t)).grown h2 (fun k hk => by have := (hlt k hk).1; omega))
  have hg' : g < w'.heap.size := (h1.lt g rfl).2
  have hn : NewIn (Nx w (.slice (some ⟨g, 0, none⟩) n c)) w' := fun b hb => ⟨Nat.le_trans hx.size hb, fun e => by injection e with e; have e : g = b := e; omega⟩
  have hold : ∀ b, b < wr.heap.size → vl.ownBlock ≠ some b → w'.heap[b]? = wr.heap[b]? := fun b hb ho =>
    (h2.block b (Nat.lt_of_lt_of_le hb (by simp)) (fun e => ho e.symm)).trans (by
      have hb' : wr.heap[b]? = some (wr.heap[b]) := Array.getElem?_eq_getElem hb
      rw [hb']
      exact ((Ext.refl wr).alloc _).heap hb')
  have hk : KeepS (Nx w vl) (Nx w (.slice (some ⟨g, 0, none⟩) n c)) wr w' := by
    intro b o u hs hc
    have hb := World.block_lt_of_cell? wr ⟨b, o, none⟩ hc
    refine ⟨⟨hs.1, fun e => ?_⟩, (cell_heap (hold b hb hs.2)).trans hc⟩
    injection e with e
    rcases h3 with h3 | h3
    · exact hs.2 (h3.trans (congrArg some e))
    · have hb : b < wr.heap.size := hb
      have e : g = b := e
      omega
  refine ⟨hx, hlo, hrt, (hold rb (heap_lt h.res) (fun e => by have := (hlt rb e).1; omega)).trans h.res, (hold tb (heap_lt h.top) (fun e => by have := (hlt tb e).1; omega)).trans h.top, h1.keepP (fun _ _ hc => PtC.keep hc hk hn) (fun _ _ _ hg => hg)⟩
end
/-- A part in the first place of a row. -/
theorem SlP.head {S : Nat → Prop} {w : World} {v : Value} {p : PG.Part} {ps : List PG.Part} (h : SlP S w v (p :: ps)) : ∃ g o c A a, v = .slice (some ⟨g, o, none⟩) (ps.length + 1) c ∧ w.cell? ⟨g, o, none⟩ = some (.slice A p.l.length a) ∧ w.cell? ⟨g, o + 1, none⟩ = some (.int .i64 (p.n : Int)) ∧ SlN S w (.slice A p.l.length a) p.l := by
  obtain ⟨A, c, rfl, -, -⟩ := h.form
  obtain ⟨g, o, cs, rfl, ⟨B, b, rfl, hl⟩, hcell⟩ := h.atP (k := 0) (by simp)
  have h0 := hcell 0 _ rfl
  have h1 := hcell 1 _ rfl
  simp only [Nat.zero_mul, Nat.add_zero] at h0 h1
  exact ⟨g, o, c, B, b, rfl, h0, h1, hl⟩
/-- append([]rune(nil), set...), as a step of a region that draws its order. -/
theorem step_set {w : World} {ops : Array Oper} {o : Oper} {a : Act} {K : Act → World → Prop} {Q : Exit → Act → World → Prop} {E : Prop} (hgd : o.guard = none) (s x : Operand)
    (ho : o.op = .call { callee := .builtin .append, args := #[s, x], argTypes := #[24, 24] }) (ad : Addr) (set : List Int) (c : Nat)
    (hc : ∀ j y, set[j]? = some y → w.cell? (ad.add j) = some (.int .i32 y)) (hpos : 0 < set.length) (hm : set.length ≤ 1000000) (hs : a.eval s = .slice none 0 0) (hx : a.eval x = .slice (some ad) set.length c)
    (h : ∀ g cap w', (∀ S, NewIn S w → SlCS S w' (.slice (some ⟨g, 0, none⟩) set.length cap) set) → Ext w w' → K (a.put o.dst (.slice (some ⟨g, 0, none⟩) set.length cap)) w') :
    if Region.wanted o (yielded ops a.tmps) = true then Oper.wp Tryz.prog o a w K Q else E := by
  obtain ⟨i0, hi, hz0, hz1, hz2⟩ := info_parts info_c
  refine step_append_lies _ hgd s x 24 ho w.heap.size 21 i0 (.int .i32 0) 1 4 Tryz.underlying24 hi hz0 hz1 hz2 rfl (by decide) (.slice none 0 0) 0 [] hs ⟨by simp, .inl ⟨rfl, rfl⟩⟩ ad set.length c (set.map (Value.int .i32)) hx (by simp) (cells_map hc)
    (fun u hu => by obtain ⟨y, _, rfl⟩ := List.mem_map.1 hu; rfl) hpos (by unfold maxLen; omega) (by omega) (Nat.le_refl _) _ rfl ?_
  intro g cap w' h3 h4 _ _
  rw [Nat.zero_add] at h3 ⊢
  refine h g cap w' (fun S hS => ?_) ((Ext.refl w).grown h4 (fun k hk => by cases hk))
  obtain ⟨_, h5⟩ := h3
  rcases h5 with ⟨h5, _⟩ | ⟨g', cap', cur, hv, hb, hg, hle, hmx, hsz, htk⟩
  · cases h5
  injection hv with hv1 _ hv3
  injection hv1 with hv1
  injection hv1 with hv1
  subst hv1 hv3
  refine ⟨_, cap, rfl, hle, by unfold maxLen at hmx; omega, fun k y hy => ⟨g, 0, rfl, hS g hb, ?_⟩, by intro h; cases h⟩
  obtain ⟨hk, hky⟩ := List.getElem?_eq_some_iff.1 hy
  rw [cell_of_row w' g _ cur _ (0, 0) hg]
  have h6 : (cur.toList.take (set.length * 1))[k]? = some (.int .i32 y) := by rw [htk, List.nil_append, List.getElem?_map, hy]; rfl
  rw [List.getElem?_take, if_pos (by omega)] at h6
  simpa using h6
end Go.Proofs.YtfblkahjefdmaaaGreat
