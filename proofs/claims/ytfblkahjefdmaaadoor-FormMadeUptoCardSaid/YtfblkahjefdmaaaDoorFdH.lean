/- Walk: Scan of package format. -/
import Derived.Test.YtfblkahjefdmaaaDoorFdG
namespace Go.Proofs.YtfblkahjefdmaaaDoor
open Go.RowKit

namespace FM
theorem scan_le : ∀ (n : Nat) (l : List Int) (fs : List Form) (tx : List Int) (i : Nat) (r : List Form) (j : Nat), scan n l fs tx i = some (r, j) → i ≤ j
  | 0, _, _, _, _, _, _, h => by cases h
  | _ + 1, [], _, _, _, _, _, h => by cases h
  | n + 1, c :: l, fs, tx, i, r, j, h => by
    rw [scan] at h
    split at h
    · injection h with h
      injection h with h1 h2
      omega
    split at h
    · split at h
      · have := scan_le n _ _ _ _ r j h; omega
      · have := scan_le n _ _ _ _ r j h; omega
    · split at h
      · have := scan_le n _ _ _ _ r j h; omega
      · have := scan_le n _ _ _ _ r j h; omega
end FM
def scanK (s : List Int) (k : Nat) (fs : List FM.Form) (tx : List Int) : Option (List FM.Form × Nat) := FM.scan (s.length - k + 1) (s.drop k) fs tx k
theorem scanK_fuel {s : List Int} {k n : Nat} {fs : List FM.Form} {tx : List Int} (h : s.length - k < n) : FM.scan n (s.drop k) fs tx k = scanK s k fs tx := by
  refine FM.scan_fuel _ _ _ _ _ _ ?_ ?_
  · rw [List.length_drop]; exact h
  · rw [List.length_drop]; omega
section
variable {s : List Int} {k k' : Nat} {fs : List FM.Form} {tx : List Int} {f : FM.Form}
theorem sc_end (h : s.length ≤ k) : scanK s k fs tx = none := by
  unfold scanK; rw [List.drop_eq_nil_of_le h]; rfl
theorem sc_slash (h : k < s.length) (h1 : s[k] = 47) : scanK s k fs tx = some (FM.endT fs tx, k) := by
  unfold scanK; rw [List.drop_eq_getElem_cons h, h1, FM.scan, if_pos rfl]
theorem sc_part (h : k < s.length) (h1 : s[k] = 36) (h2 : partA s k = some (f, k')) : scanK s k fs tx = scanK s k' (FM.endT fs tx ++ [f]) [] := by
  unfold partA at h2
  rw [Option.map_eq_some_iff] at h2
  obtain ⟨⟨f', c⟩, h3, h4⟩ := h2
  injection h4 with h4 h5
  simp only at h4 h5
  subst h4 h5
  have e : scanK s k fs tx = FM.scan (s.length - k) ((s.drop (k + 1)).drop c) (FM.endT fs tx ++ [f']) [] (k + 1 + c) := by
    unfold scanK; rw [List.drop_eq_getElem_cons h, h1, FM.scan_part h3]
  rw [e, List.drop_drop]
  exact scanK_fuel (by omega)
theorem sc_esc (h : k + 1 < s.length) (h1 : s[k] = 92) (h2 : s[k + 1] ∈ FM.outer) : scanK s k fs tx = scanK s (k + 2) fs (tx ++ [s[k + 1]]) := by
  have e : scanK s k fs tx = FM.scan (s.length - k) (s.drop (k + 2)) fs (tx ++ [s[k + 1]]) (k + 2) := by
    unfold scanK; rw [List.drop_eq_getElem_cons (by omega : k < s.length), List.drop_eq_getElem_cons h, h1, FM.scan_esc h2]
  rw [e]
  exact scanK_fuel (by omega)
theorem sc_plain (h : k < s.length) (h1 : s[k] ≠ 47) (h2 : s[k] = 36 → partA s k = none) (h3 : ¬ (s[k] = 92 ∧ ∃ hk : k + 1 < s.length, s[k + 1] ∈ FM.outer)) : scanK s k fs tx = scanK s (k + 1) fs (tx ++ [s[k]]) := by
  have e : scanK s k fs tx = FM.scan (s.length - k) (s.drop (k + 1)) fs (tx ++ [s[k]]) (k + 1) := by
    unfold scanK
    rw [List.drop_eq_getElem_cons h, FM.scan_plain h1]
    · intro h4
      have := h2 h4
      unfold partA at this
      simpa using this
    · rintro ⟨h4, d, r', h5, h6⟩
      refine h3 ⟨h4, ?_⟩
      have hk : k + 1 < s.length := by
        have := congrArg List.length h5
        rw [List.length_drop] at this
        simp at this; omega
      refine ⟨hk, ?_⟩
      rw [List.drop_eq_getElem_cons hk] at h5
      injection h5 with h5 _
      rw [h5]; exact h6
  rw [e]
  exact scanK_fuel (by omega)
theorem partA_le (hs : s.all RX.isSign = true) (h : partA s k = some (f, k')) (hk : k < s.length) : k + 2 ≤ k' ∧ k' ≤ s.length := by
  unfold partA at h
  rw [Option.map_eq_some_iff] at h
  obtain ⟨⟨f', c⟩, h3, h4⟩ := h
  injection h4 with h4 h5
  have := FM.part_ok h3 (FM.all_drop hs _)
  rw [List.length_drop] at this
  simp only at h5; omega
end
def scanAt (s : List Int) (a : Int) : Option (List FM.Form × Nat) := if 0 ≤ a ∧ a ≤ s.length ∧ s.all RX.isSign = true then scanK s a.toNat [] [] else none
/-- Parts and the place behind them, or none. -/
def ScanP (R : Option (List FM.Form × Nat)) (w : World) (e : Ending) (w' : World) : Prop :=
  Ext w w' ∧ ((∃ l j A c, R = some (l, j) ∧ e = .returned (.tuple #[.slice A l.length c, .int .i64 (j : Int), .bool true]) ∧ SlB 34 5 (CF w.heap.size) w.heap.size w' (.slice A l.length c) l) ∨
    (R = none ∧ e = .returned (.tuple #[.slice none 0 0, .int .i64 0, .bool false])))
theorem CF.keepT {B : Nat} {w w' : World} {cs : List Value} {f : FM.Form} (h : CF B w cs f) (hk : KeepT [21] w w') : CF B w' cs f := by
  obtain ⟨vt, ve, h1, h2, h3⟩ := h
  exact ⟨vt, ve, h1, h2.keep (keeps_c []) (hk.sub (by simp)) hk, h3.keep (keeps_c []) (hk.sub (by simp)) hk⟩
theorem Scs.done {w wr : World} {xb T : Nat} {vl vt : Value} {fs : List FM.Form} {tx : List Int} (h : Scs w xb T vl vt fs tx wr) : SlB 34 5 (CF w.heap.size) w.heap.size wr vl fs :=
  (h.own.sl.imp (fun _ _ hc => hc.cf)).weaken (by have := h.lo; omega)

/-- append(v, x) of one element, the new value spelled out. -/
theorem app_lit {α : Type} {P : Program} {w : World} {ops : Array Oper} {rest : List Oper} {o : Oper} {a : Act} {Q : Exit → Act → World → Prop} {t te sz bytes : Nat} {z : Value}
    (ht : P.underlying t = some (.slice te)) (hinf : (P.info? te).map (fun i => (i.zero, i.size, i.bytes)) = some (some z, sz, bytes)) (hzs : z.cells.size = sz) (hsz : 0 < sz) (hby : bytes ≤ 100)
    {T : List TypeId} {C : World → List Value → α → Prop} (hC : Keeps T C) (hT : te ∉ T)
    (hgd : o.guard = none) (s x : Operand) (ho : o.op = .call { callee := .builtin .append, args := #[s, x], argTypes := #[t, t] })
    (B : Nat) (v : Value) (xs : List α) (y : α) (cs : List Value) (tb : TypeId) (hown : OwnB te sz C B w v xs) (hy : C w cs y) (hcs : cs.length = sz) (h1 : ∀ u ∈ cs, u.oneCell' = true)
    (hs : a.eval s = v) (nb : Nat) (hx : a.eval x = .slice (some ⟨nb, 0, none⟩) 1 1) (hnb : nb = w.heap.size) (hn : xs.length ≤ 1000000000) (hB : B ≤ w.heap.size)
    (h : ∀ g cap w', OwnB te sz C B w' (.slice (some ⟨g, 0, none⟩) (xs.length + 1) cap) (xs ++ [y]) → (w.alloc (.cells cs.toArray tb)).grownBy w' v.ownBlock → wpList P ops Q rest (a.put o.dst (.slice (some ⟨g, 0, none⟩) (xs.length + 1) cap)) w') :
    wpList P ops Q (o :: rest) a (w.alloc (.cells cs.toArray tb)) := by
  subst hnb
  obtain ⟨i0, hi, hz0, hz1, hz2⟩ := info_parts hinf
  obtain ⟨flat, hr, h2⟩ := hown
  refine wpList_append_lies _ hgd s x t ho B te i0 z sz bytes ht hi hz0 hz1 hz2 hzs hsz v xs.length flat hs (World.ownsRow.alloc hr _) ⟨w.heap.size, 0, none⟩ 1 1 cs hx (by omega) (fun j u hu => news_all w cs tb j u hu) h1 (by decide) (by unfold maxLen; omega) (Nat.le_trans (Nat.mul_le_mul (show xs.length + 1 ≤ 1000000001 by omega) hby) (by omega)) (by simp; omega) _ rfl ?_
  intro g cap w' h3 h4 _ _
  refine h g cap w' (OwnB.snoc h2 hr.1 hC ?_ hy hcs h3) h4
  refine (KeepT.of_ext ((Ext.refl w).alloc _)).trans (KeepT.of_grown h4 (fun g hg => ?_))
  obtain ⟨cur, hh⟩ := own_type hr g hg
  exact ⟨cur, te, ((Ext.refl w).alloc _).heap hh, hT⟩
set_option maxRecDepth 100000 in
set_option maxHeartbeats 4000000 in
theorem scan_any (s : List Int) (vs : Value) (a : Int) (w : World) (hs : SlC w vs s) (hsl : s.length ≤ 35184372088832) (hM : s.length ≤ 900000000 ∨ ∃ l j, scanAt s a = some (l, j) ∧ j ≤ 900000000) :
    Calls Tryd.prog 21 #[vs, .int .i64 a] w (ScanP (scanAt s a) w) := by
  have H := Lib.hid hs
  have HMS := Lib.hid (mays_any s vs w hs)
  obtain ⟨A, ca, rfl, hlx, hcx, -⟩ := hs
  obtain ⟨R, hR⟩ : ∃ R, scanAt s a = R := ⟨_, rfl⟩
  rw [hR] at hM ⊢
  have HR := Lib.hid hR
  have HM := Lib.hid hM
  clear hR hM
  by_cases ha0 : a < 0
  · have HN := Lib.hid (show R = none by rw [← HR.out]; unfold scanAt; rw [if_neg (by omega)])
    go_enter Tryd.func21, Tryd.ntmps21
    go_wp2_with fail
    go_ret3
    exact ⟨Ext.refl _, .inr ⟨HN.out, rfl⟩⟩
  by_cases ha1 : (s.length : Int) < a
  · have HN := Lib.hid (show R = none by rw [← HR.out]; unfold scanAt; rw [if_neg (by omega)])
    go_enter Tryd.func21, Tryd.ntmps21
    go_wp2_with fail
    go_ret3
    exact ⟨Ext.refl _, .inr ⟨HN.out, rfl⟩⟩
  obtain ⟨i, rfl⟩ : ∃ i : Nat, a = i := ⟨a.toNat, by omega⟩
  have hd0 : decide ((i : Int) < 0) = false := by simp
  have hd1 : decide ((s.length : Int) < (i : Int)) = false := by simp; omega
  have hd2 : decide (s.length < i) = false := by simp; omega
  have hil : i ≤ s.length := by omega
  rcases hsg : s.all RX.isSign with _ | _
  · have HN := Lib.hid (show R = none by rw [← HR.out]; unfold scanAt; rw [if_neg (by rw [hsg]; simp)])
    rw [hsg] at HMS
    clear hsg ha0 ha1
    go_enter Tryd.func21, Tryd.ntmps21
    go_wp2_with (go_at_call 40; refine HMS.out.mono ?_; rintro e w' ⟨rfl, n, rfl⟩)
    go_ret3
    exact ⟨(Ext.refl _).drewN _, .inr ⟨HN.out, rfl⟩⟩
  have HS := Lib.hid (show scanK s i [] [] = R by rw [← HR.out]; unfold scanAt; rw [if_pos ⟨by omega, by omega, hsg⟩]; rfl)
  have HSG := Lib.hid hsg
  rw [hsg] at HMS
  clear hsg ha0 ha1
  have HAM := Lib.hid among_outer
  have HPT := Lib.hid (fun (j : Nat) (hj : j < s.length) (W : World) (hW : Ext w W) => part_any s _ j W (H.out.ext hW) hsl hj)
  go_enter Tryd.func21, Tryd.ntmps21
  go_wp2_with (go_at_call 40; refine HMS.out.mono ?_; rintro e w' ⟨rfl, n, hw⟩; have HW := Lib.hid hw; have hsz : w'.heap.size = w.heap.size := (by rw [hw]; rfl); have HSZ := Lib.hid hsz; clear hw hsz)
  obtain ⟨xb, hxb⟩ : ∃ xb, xb = w'.heap.size := ⟨_, rfl⟩
  have HXB := Lib.hid hxb
  rw [← hxb]
  clear hxb
  go_loopw [1] (fun x wr => ∃ (k T : Nat) (vl vt : Value) (fs : List FM.Form) (tx : List Int), k ≤ s.length ∧ x = .int .i64 (k : Int) ∧ Scs w xb T vl vt fs tx wr ∧ fs.length ≤ k ∧ tx.length ≤ k ∧ scanK s k fs tx = R) (fun x _ => s.length - (intOf x).toNat)
  case atStart =>
    refine ⟨i, xb + 1, _, _, [], [], hil, rfl, ⟨?_, ?_, ?_, Nat.lt_succ_self _, ?_, OwnB.nil_, OwnB.nil_, fun _ => rfl⟩, Nat.zero_le _, Nat.zero_le _, HS.out⟩
    · rw [HW.out]; exact ((Ext.refl w).drewN n).alloc _
    · rw [HXB.out]; exact heap_alloc_new w' _
    · rw [HXB.out, HSZ.out]; exact Nat.le_refl _
    · rw [HXB.out]; simp
  case round =>
    obtain ⟨k, T, vl, vt, fs, tx, hk, rfl, hcs, hfl, htl, hT⟩ := hrel
    have HC := Lib.hid hcs
    have HT := Lib.hid hT
    have c0 := hcs.c0
    have c1 := hcs.c1
    have f0 := hcs.fr 0
    have f1 := hcs.fr 1
    have hxs := heap_lt hcs.box
    have hTs := hcs.top
    have hws := hcs.ext.size
    have hk9 : k < s.length → k ≤ 900000000 := fun h => by
      rcases HM.out with h1 | ⟨l, j, h1, h2⟩
      · omega
      · have h3 := HT.out
        rw [h1] at h3
        have := FM.scan_le _ _ _ _ _ _ _ h3
        omega
    obtain ⟨At, ct, rfl, hct, -⟩ := hcs.txt.form
    obtain ⟨Al, cl, rfl, hcl, -⟩ := hcs.own.form
    clear hcs hT
    by_cases hlt : k < s.length
    rotate_left
    · have HN := Lib.hid (show R = none by rw [← HT.out, sc_end (by omega)])
      clear hk9
      go_wp2_with fail
      go_ret3
      exact ⟨HC.out.ext, .inr ⟨HN.out, rfl⟩⟩
    have hk9 := hk9 hlt
    obtain ⟨b, o, rfl, hc⟩ := (H.out.ext HC.out.ext).at_ hlt
    by_cases h47 : s[k] = 47
    · have HN := Lib.hid (show R = some (FM.endT fs tx, k) by rw [← HT.out, sc_slash hlt h47])
      have HE := Lib.hid (end_any w xb T _ _ fs tx wr HC.out (by omega))
      rw [h47] at hc
      clear h47
      go_wp2_with (go_at_call 41; go_loud (refine HE.out.mono ?_; rintro e w2 ⟨rfl, ⟨T2, vl2, hs2⟩, -, -⟩; have c0 := hs2.c0; obtain ⟨Al2, cl2, rfl, -⟩ := hs2.own.form; have HC2 := Lib.hid hs2; clear hs2))
      go_ret3
      exact ⟨HC2.out.ext, .inl ⟨_, _, _, _, HN.out, rfl, HC2.out.done⟩⟩
    by_cases h36 : s[k] = 36
    · obtain ⟨F, hF⟩ : ∃ F, partA s k = F := ⟨_, rfl⟩
      have HF0 := Lib.hid hF
      have HP := Lib.hid (HPT.out k hlt _ HC.out.ext)
      have hc36 := hc
      rw [h36] at hc36
      cases F with
      | none =>
        have HN := Lib.hid ((sc_plain (fs := fs) (tx := tx) hlt h47 (fun _ => hF) (fun h => absurd (h36.symm.trans h.1) (by decide))).symm.trans HT.out)
        rw [h36] at HN
        clear h47 h36 hF hc
        go_upto_region 18 with (go_at_call 42; go_loud (refine HP.out.mono ?_; rw [HF0.out]; rintro e w2 ⟨hx, hx2⟩; have HC := Lib.hid (HC.out.ext_ hx); have c0 := HC.out.c0; have c1 := HC.out.c1; have f0 := HC.out.fr 0; have f1 := HC.out.fr 1; have hxs := heap_lt HC.out.box; have hTs := HC.out.top; clear hx; rcases hx2 with ⟨f, k3, cs, hq, -, -⟩ | ⟨hq, x0, x1, x2, x3, A1, A2, l1, m1, l2, m2, rfl⟩; (exact absurd hq (by simp))))
        have HC := Lib.hid (HC.out.ext_ ((Ext.refl w2).alloc (.cells #[.int .i64 x0, .int .i64 x1, .int .i64 x2, .slice A1 l1 m1, .slice A2 l2 m2] 34)))
        clear c0 c1 f0 f1 hxs hTs hc36
        generalize w2.alloc (.cells #[.int .i64 x0, .int .i64 x1, .int .i64 x2, .slice A1 l1 m1, .slice A2 l2 m2] 34) = w3 at HC ⊢
        have c1 := HC.out.c1
        have f1 := HC.out.fr 1
        have hxs := heap_lt HC.out.box
        have htx : tx.length ≤ 1000000000 := by omega
        go_wp2_with (at_builtin; go_loud (have HCD := Lib.hid (HC.out.ext_ ((Ext.refl w3).alloc (.cells #[.int .i32 36] 21))); refine app_lit Tryd.underlying22 info_c rfl (by decide) (by decide) (keeps_c []) (by simp) rfl _ _ rfl T _ tx 36 [.int .i32 36] 21 HC.out.txt rfl rfl (by simp [Value.oneCell']) rfl w3.heap.size rfl rfl htx HC.out.top ?_; intro gg cap w1 h1 h2; have hb := HCD.out.boxT h2; have c0 := cell_of_row w1 xb 0 _ _ _ hb; have c1 := cell_of_row w1 xb 1 _ _ _ hb; have f0 := frozen_of_row w1 xb 0 _ _ hb; have f1 := frozen_of_row w1 xb 1 _ _ hb; have HF := Lib.hid (Scs.appT HCD.out (by simp) h1 h2); clear hb h1 h2))
        go_roundw
        case rel => exact ⟨k + 1, T, _, _, fs, _, by omega, by go_num, HF.out, by omega, by rw [List.length_append]; simp; omega, HN.out⟩
        case measure => simp [intOf]; omega
      | some q =>
        obtain ⟨f, k'⟩ := q
        have hle := partA_le HSG.out hF hlt
        have HN := Lib.hid ((sc_part (fs := fs) (tx := tx) hlt h36 hF).symm.trans HT.out)
        clear h47 h36 hF hc
        obtain ⟨hle1, hle2⟩ := hle
        go_upto_region 12 with (go_at_call 42; go_loud (refine HP.out.mono ?_; rw [HF0.out]; rintro e w2 ⟨hx, hx2⟩; have HC := Lib.hid (HC.out.ext_ hx); have c0 := HC.out.c0; have c1 := HC.out.c1; have f0 := HC.out.fr 0; have f1 := HC.out.fr 1; have hxs := heap_lt HC.out.box; have hTs := HC.out.top; rcases hx2 with ⟨f', k3, cs, hq, rfl, vt', ve', rfl, ht, he⟩ | ⟨hq, -⟩; rotate_left; (exact absurd hq (by simp)); injection hq with hq; injection hq with hq1 hq2; subst hq1 hq2; obtain ⟨At', ct', rfl, -⟩ := ht.form; obtain ⟨Ae', ce', rfl, -⟩ := he.form; have HCF := Lib.hid (show CF w.heap.size w2 _ f from ⟨_, _, rfl, ht.weaken hws, he.weaken hws⟩); clear hx ht he))
        have hE3 := (Ext.refl w2).alloc (.cells #[.int .i64 f.kind, .int .i64 f.group, .int .i64 f.cas, .slice At' f.text.length ct', .slice Ae' f.els.length ce'] 34)
        have hn1 : w2.heap.size ≠ xb := by omega
        have hn2 : (Value.slice Al fs.length cl).ownBlock ≠ some w2.heap.size := fun e => by have := (HC.out.own.lt _ e).2; omega
        have HC := Lib.hid (HC.out.ext_ hE3)
        have HCF := Lib.hid (HCF.out.keepT (KeepT.of_ext hE3))
        have HB9 := Lib.hid (heap_alloc_new w2 (.cells #[.int .i64 f.kind, .int .i64 f.group, .int .i64 f.cas, .slice At' f.text.length ct', .slice Ae' f.els.length ce'] 34))
        have HN1 := Lib.hid hn1
        have HN2 := Lib.hid hn2
        clear hE3 hn1 hn2 c0 c1 f0 f1 hxs hTs hc36
        generalize w2.alloc (.cells #[.int .i64 f.kind, .int .i64 f.group, .int .i64 f.cas, .slice At' f.text.length ct', .slice Ae' f.els.length ce'] 34) = w3 at HC HCF HB9 ⊢
        generalize w2.heap.size = nb at HB9 HN1 HN2 ⊢
        obtain ⟨fs4, hfs4⟩ : ∃ l, FM.endT fs tx = l := ⟨_, rfl⟩
        have hl4 : fs4.length ≤ fs.length + 1 := by rw [← hfs4]; unfold FM.endT; split <;> simp
        have HE := Lib.hid (end_any w xb T _ _ fs tx w3 HC.out (by omega))
        have HFS := Lib.hid hfs4
        rw [hfs4] at HN
        clear hfs4
        go_upto_region 13 with (go_at_call 41; go_loud (refine HE.out.mono ?_; rintro e w4 ⟨rfl, ⟨T4, vl4, hs4⟩, hkt, hfr⟩; rw [HFS.out] at hs4; have c0 := hs4.c0; have c1 := hs4.c1; have f0 := hs4.fr 0; have f1 := hs4.fr 1; obtain ⟨Al4, cl4, rfl, -⟩ := hs4.own.form; have hb4 := hfr nb _ HB9.out HN1.out HN2.out; have d0 := cell_of_row w4 nb 0 _ _ _ hb4; have d1 := cell_of_row w4 nb 1 _ _ _ hb4; have d2 := cell_of_row w4 nb 2 _ _ _ hb4; have d3 := cell_of_row w4 nb 3 _ _ _ hb4; have d4 := cell_of_row w4 nb 4 _ _ _ hb4; have hbs := heap_lt hb4; have hxs := heap_lt hs4.box; have HCF4 := Lib.hid (HCF.out.keepT hkt); have HC4 := Lib.hid hs4; clear hs4 hkt hfr hb4))
        have hn4 : fs4.length ≤ 1000000000 := by omega
        have hB4 : xb + 1 ≤ w4.heap.size := hxs
        have HCD := Lib.hid (HC4.out.ext_ (((Ext.refl w4).alloc (.cells #[.int .i64 f.kind, .int .i64 f.group, .int .i64 f.cas, .slice At' f.text.length ct', .slice Ae' f.els.length ce'] 34)).drew))
        go_region_law ((refine step_one Tryd.underlying32 info_form rfl (by decide) (by decide) (keeps_ft _ _) (by decide) rfl _ _ (by rfl) (xb + 1) _ fs4 f [.int .i64 f.kind, .int .i64 f.group, .int .i64 f.cas, .slice At' f.text.length ct', .slice Ae' f.els.length ce'] 34 HC4.out.ownTop HCF4.out.cft rfl (by simp [Value.oneCell']) (by rfl) w4.heap.size (by rfl) rfl hn4 hB4 ?_); intro gg cap w1 h1 h2; have hb := HCD.out.boxF h2; have c0 := cell_of_row w1 xb 0 _ _ _ hb; have c1 := cell_of_row w1 xb 1 _ _ _ hb; have f0 := frozen_of_row w1 xb 0 _ _ hb; have f1 := frozen_of_row w1 xb 1 _ _ hb; have HF := Lib.hid (Scs.appG HCD.out h1 (Nat.le_trans (by simp) h2.size) h2); clear hb h1 h2)
        all_goals
          go_wp2_with fail
          go_roundw
          case rel => exact ⟨k', _, _, _, fs4 ++ [f], [], hle2, rfl, HF.out, by rw [List.length_append]; simp; omega, Nat.zero_le _, HN.out⟩
          case measure => simp [intOf]; omega
    by_cases h92 : s[k] = 92
    · have b1 : (s[k] == 47) = false := by simpa using h47
      have b3 : (s[k] == 92) = true := by simpa using h92
      have b2 : (s[k] == 36) = false := by simpa using h36
      have htx : tx.length ≤ 1000000000 := by omega
      by_cases hk1 : k + 1 < s.length
      · have hk1i : (k : Int) + 1 < s.length := by omega
        obtain ⟨b', o', hbo, hc'⟩ := (H.out.ext HC.out.ext).at_ hk1
        injection hbo with hbo
        injection hbo with hb1 hb2
        subst hb1 hb2
        by_cases hm : s[k + 1] ∈ FM.outer
        · have HN := Lib.hid ((sc_esc (fs := fs) (tx := tx) hk1 h92 hm).symm.trans HT.out)
          have HMM := Lib.hid (show decide (s[k + 1] ∈ FM.outer) = true from decide_eq_true hm)
          clear h92 h47 h36 hm
          generalize s[k] = x at hc b1 b2 b3
          generalize s[k + 1] = y at hc' HMM HN
          go_wp2_with (first | (go_at_call 43; refine (HAM.out y _).mono ?_; rw [HMM.out]; rintro e' w2 ⟨rfl, hx⟩; have HC := Lib.hid (HC.out.ext_ hx); have c0 := HC.out.c0; have c1 := HC.out.c1; have f0 := HC.out.fr 0; have f1 := HC.out.fr 1; have hxs := heap_lt HC.out.box; have hTs := HC.out.top; have hc := hx.cell hc; have hc' := hx.cell hc'; clear hx) | (at_builtin; go_loud (have HCD := Lib.hid (HC.out.ext_ ((Ext.refl w2).alloc (.cells #[.int .i32 y] 21))); refine app_lit Tryd.underlying22 info_c rfl (by decide) (by decide) (keeps_c []) (by simp) rfl _ _ rfl T _ tx y [.int .i32 y] 21 HC.out.txt rfl rfl (by simp [Value.oneCell']) rfl w2.heap.size rfl rfl htx HC.out.top ?_; intro gg cap w1 h1 h2; have hb := HCD.out.boxT h2; have c0 := cell_of_row w1 xb 0 _ _ _ hb; have c1 := cell_of_row w1 xb 1 _ _ _ hb; have f0 := frozen_of_row w1 xb 0 _ _ hb; have f1 := frozen_of_row w1 xb 1 _ _ hb; have HF := Lib.hid (Scs.appT HCD.out (by simp) h1 h2); clear hb h1 h2)))
          go_roundw
          case rel => exact ⟨k + 2, T, _, _, fs, _, by omega, by go_num, HF.out, by omega, by rw [List.length_append]; simp; omega, HN.out⟩
          case measure => simp [intOf]; omega
        · have HN := Lib.hid ((sc_plain (fs := fs) (tx := tx) hlt h47 (fun h => absurd h h36) (fun h => by obtain ⟨_, _, h⟩ := h; exact hm h)).symm.trans HT.out)
          have HMM := Lib.hid (show decide (s[k + 1] ∈ FM.outer) = false from decide_eq_false hm)
          clear h92 h47 h36 hm
          generalize s[k] = x at hc b1 b2 b3 HN
          generalize s[k + 1] = y at hc' HMM
          go_wp2_with (first | (go_at_call 43; refine (HAM.out y _).mono ?_; rw [HMM.out]; rintro e' w2 ⟨rfl, hx⟩; have HC := Lib.hid (HC.out.ext_ hx); have c0 := HC.out.c0; have c1 := HC.out.c1; have f0 := HC.out.fr 0; have f1 := HC.out.fr 1; have hxs := heap_lt HC.out.box; have hTs := HC.out.top; have hc := hx.cell hc; have hc' := hx.cell hc'; clear hx) | (at_builtin; go_loud (have HCD := Lib.hid (HC.out.ext_ ((Ext.refl w2).alloc (.cells #[.int .i32 x] 21))); refine app_lit Tryd.underlying22 info_c rfl (by decide) (by decide) (keeps_c []) (by simp) rfl _ _ rfl T _ tx x [.int .i32 x] 21 HC.out.txt rfl rfl (by simp [Value.oneCell']) rfl w2.heap.size rfl rfl htx HC.out.top ?_; intro gg cap w1 h1 h2; have hb := HCD.out.boxT h2; have c0 := cell_of_row w1 xb 0 _ _ _ hb; have c1 := cell_of_row w1 xb 1 _ _ _ hb; have f0 := frozen_of_row w1 xb 0 _ _ hb; have f1 := frozen_of_row w1 xb 1 _ _ hb; have HF := Lib.hid (Scs.appT HCD.out (by simp) h1 h2); clear hb h1 h2)))
          go_roundw
          case rel => exact ⟨k + 1, T, _, _, fs, _, by omega, by go_num, HF.out, by omega, by rw [List.length_append]; simp; omega, HN.out⟩
          case measure => simp [intOf]; omega
      · have HN := Lib.hid ((sc_plain (fs := fs) (tx := tx) hlt h47 (fun h => absurd h h36) (fun h => by obtain ⟨_, h, _⟩ := h; exact hk1 h)).symm.trans HT.out)
        have hk1i : ¬ (k : Int) + 1 < s.length := by omega
        clear h92 h47 h36 hk1
        generalize s[k] = x at hc b1 b2 b3 HN
        go_wp2_with (at_builtin; go_loud (have HCD := Lib.hid (HC.out.ext_ ((Ext.refl wr).alloc (.cells #[.int .i32 x] 21))); refine app_lit Tryd.underlying22 info_c rfl (by decide) (by decide) (keeps_c []) (by simp) rfl _ _ rfl T _ tx x [.int .i32 x] 21 HC.out.txt rfl rfl (by simp [Value.oneCell']) rfl wr.heap.size rfl rfl htx HC.out.top ?_; intro gg cap w1 h1 h2; have hb := HCD.out.boxT h2; have c0 := cell_of_row w1 xb 0 _ _ _ hb; have c1 := cell_of_row w1 xb 1 _ _ _ hb; have f0 := frozen_of_row w1 xb 0 _ _ hb; have f1 := frozen_of_row w1 xb 1 _ _ hb; have HF := Lib.hid (Scs.appT HCD.out (by simp) h1 h2); clear hb h1 h2))
        go_roundw
        case rel => exact ⟨k + 1, T, _, _, fs, _, by omega, by go_num, HF.out, by omega, by rw [List.length_append]; simp; omega, HN.out⟩
        case measure => simp [intOf]; omega
    have HN := Lib.hid ((sc_plain (fs := fs) (tx := tx) hlt h47 (fun h => absurd h h36) (fun h => h92 h.1)).symm.trans HT.out)
    have b1 : (s[k] == 47) = false := by simpa using h47
    have b2 : (s[k] == 36) = false := by simpa using h36
    have b3 : (s[k] == 92) = false := by simpa using h92
    clear h47 h36 h92
    generalize s[k] = x at hc b1 b2 b3 HN
    have htx : tx.length ≤ 1000000000 := by omega
    go_wp2_with (at_builtin; go_loud (have HCD := Lib.hid (HC.out.ext_ ((Ext.refl wr).alloc (.cells #[.int .i32 x] 21))); refine app_lit Tryd.underlying22 info_c rfl (by decide) (by decide) (keeps_c []) (by simp) rfl _ _ rfl T _ tx x [.int .i32 x] 21 HC.out.txt rfl rfl (by simp [Value.oneCell']) rfl wr.heap.size rfl rfl htx HC.out.top ?_; intro gg cap w1 h1 h2; have hb := HCD.out.boxT h2; have c0 := cell_of_row w1 xb 0 _ _ _ hb; have c1 := cell_of_row w1 xb 1 _ _ _ hb; have f0 := frozen_of_row w1 xb 0 _ _ hb; have f1 := frozen_of_row w1 xb 1 _ _ hb; have HF := Lib.hid (Scs.appT HCD.out (by simp) h1 h2); clear hb h1 h2))
    go_roundw
    case rel => exact ⟨k + 1, T, _, _, fs, _, by omega, by go_num, HF.out, by omega, by rw [List.length_append]; simp; omega, HN.out⟩
    case measure => simp [intOf]; omega
end Go.Proofs.YtfblkahjefdmaaaDoor
