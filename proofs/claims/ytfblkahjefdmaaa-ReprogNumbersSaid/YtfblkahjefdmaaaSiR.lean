/- Walks: two programs of regular texts are alike; two texts, one behind the other. -/
import Derived.Test.YtfblkahjefdmaaaSa
import Derived.Test.YtfblkahjefdmaaaPc
import Derived.Test.YtfblkahjefdmaaaQh
namespace Go.Proofs.Ytfblkahjefdmaaa
open Go.RowKit

theorem SlR.cut3 {α : Type} {sz : Nat} {R : World → Nat → Nat → α → Prop} {w : World} {A : Option Addr} {n c : Nat} {xs : List α} (h : SlR sz R w (.slice A n c) xs) {i m : Nat} (hi : i ≤ m) (hm : m ≤ xs.length) : SlR sz R w (.slice (cutA A c i sz) (m - i) (c - i)) ((xs.drop i).take (m - i)) := by
  have h2 := h.cut (k := i) (by omega)
  obtain ⟨A', c', hv, hl, hc, hx, hn⟩ := h2
  injection hv with e1 e2 e3
  subst e1 e3
  have hlen : ((xs.drop i).take (m - i)).length = m - i := by rw [List.length_take, List.length_drop]; omega
  refine ⟨cutA A c i sz, c - i, by rw [hlen], by rw [hlen]; rw [List.length_drop] at hl; omega, hc, fun j x hj => ?_, hn⟩
  rw [List.getElem?_take] at hj
  split at hj
  · exact hx j x hj
  · cases hj
/-- Instructions, wherever they lie. -/
abbrev InsT := InsS (fun _ => True)
theorem InsT.ext {w w' : World} {v : Value} {l : List PG.Inst} (h : InsT w v l) (hx : Ext w w') : InsT w' v l := InsS.keep h hx.keepS
theorem SlX.insT {B : Nat} {w : World} {v : Value} {l : List PG.Inst} (h : SlX B w v l) : InsT w v l := by
  obtain ⟨A, c, rfl, h1, h2, h3, h4⟩ := h
  refine ⟨A, c, rfl, h1, h2, fun k x hx => ?_, h3⟩
  cases A with
  | none =>
    have := h3 rfl
    obtain ⟨hk, -⟩ := List.getElem?_eq_some_iff.1 hx
    omega
  | some ad =>
    obtain ⟨g, o, cur, rfl, hB, hg, hc⟩ := h4 ad rfl
    obtain ⟨cs, ⟨vs, rfl, h5⟩, h6⟩ := hc k x hx
    exact ⟨g, o, rfl, trivial, _, ⟨vs, rfl, SlR.mono2 (SlB.slc h5) fun _ _ _ hh => ⟨trivial, hh⟩⟩, rfl, h6⟩
theorem InsT.at_ {w : World} {A : Option Addr} {n c : Nat} {l : List PG.Inst} (h : InsT w (.slice A n c) l) {k : Nat} {x : PG.Inst} (hx : l[k]? = some x) :
    ∃ g o As ns cs, A = some ⟨g, o, none⟩ ∧ SlC w (.slice As ns cs) x.set ∧ ns = x.set.length ∧ ∀ (j : Nat) (u : Value), [Value.int .i64 x.op, .int .i64 x.x, .int .i64 x.y, .bool x.neg, .slice As ns cs][j]? = some u → w.cell? ⟨g, o + k * 5 + j, none⟩ = some u := by
  obtain ⟨b, o, hA, -, cs, ⟨vs, rfl, h1⟩, -, h2⟩ := SlR.at_ h hx
  have h3 : SlC w vs x.set := SlR.mono2 h1 fun _ _ _ hh => hh.2
  obtain ⟨A', c', rfl, -⟩ := id h3
  exact ⟨b, o, A', _, c', hA, h3, rfl, h2⟩
set_option maxRecDepth 100000 in
set_option maxHeartbeats 2000000 in
theorem sameinst_any (l : List PG.Inst) (va vb : Value) (w : World) (ha : InsT w va l) (hb : InsT w vb l) (_hl : l.length ≤ 1000000) :
    Calls Try.prog 30 #[va, vb] w (Ret (.bool true) w) := by
  have HA := Lib.hid ha
  have HB := Lib.hid hb
  obtain ⟨A, ca, rfl, hla, hca, -⟩ := id ha
  obtain ⟨A', cb, rfl, hlb, hcb, -⟩ := id hb
  clear ha hb
  have hne : ((l.length : Int) != l.length) = false := by simp
  go_enter Try.func30, Try.ntmps30
  go_wp2_with fail
  go_loopw [5] (fun i wr => ∃ k : Nat, k ≤ l.length ∧ i = .int .i64 k ∧ Ext w wr) (fun i _ => l.length - (intOf i).toNat)
  case atStart => exact ⟨0, Nat.zero_le _, rfl, Ext.refl w⟩
  case round =>
    obtain ⟨k, hk, rfl, hE⟩ := hrel
    have HE := Lib.hid hE
    by_cases hlt : k < l.length
    · obtain ⟨x, hxk⟩ : ∃ x, l[k]? = some x := ⟨_, List.getElem?_eq_getElem hlt⟩
      obtain ⟨g, o, As, ns, cas, rfl, hsv, hns, hcell⟩ := (InsT.ext HA.out hE).at_ hxk
      obtain ⟨g', o', As', ns', cas', rfl, hsv', hns', hcell'⟩ := (InsT.ext HB.out hE).at_ hxk
      have HS := Lib.hid hsv
      have HS' := Lib.hid hsv'
      have c0 := hcell 0 _ rfl
      have c1 := hcell 1 _ rfl
      have c2 := hcell 2 _ rfl
      have c3 := hcell 3 _ rfl
      have c4 := hcell 4 _ rfl
      have d0 := hcell' 0 _ rfl
      have d1 := hcell' 1 _ rfl
      have d2 := hcell' 2 _ rfl
      have d3 := hcell' 3 _ rfl
      have d4 := hcell' 4 _ rfl
      rw [Nat.add_zero] at c0 d0
      have hgl := World.block_lt_of_cell? _ _ c0
      have hgl' := World.block_lt_of_cell? _ _ d0
      clear hcell hcell' hE hsv hsv' hxk hns hns'
      go_upto_region 6 with fail
      go_cut [6, 7] (fun s6 s7 wx => ∃ p q, s6 = .pointer (some ⟨p, 0, none⟩) ∧ s7 = .pointer (some ⟨q, 0, none⟩) ∧ Ext wr wx ∧
        wx.heap[p]? = some (.cells #[.int .i64 x.op, .int .i64 x.x, .int .i64 x.y, .bool x.neg, .slice As ns cas] 53 (0, 0)) ∧
        wx.heap[q]? = some (.cells #[.int .i64 x.op, .int .i64 x.x, .int .i64 x.y, .bool x.neg, .slice As' ns' cas'] 53 (0, 0)))
      case first =>
        go_region
        all_goals go_wp2_with fail
        all_goals go_meet
        · exact ⟨_, _, rfl, rfl, (((Ext.refl wr).alloc _).alloc _).drew, ((Ext.refl _).alloc _).heap (heap_alloc_new wr _), heap_new2 wr _ _⟩
        · exact ⟨_, _, rfl, rfl, (((Ext.refl wr).alloc _).alloc _).drew, heap_new2 wr _ _, ((Ext.refl _).alloc _).heap (heap_alloc_new wr _)⟩
      case rest =>
        obtain ⟨p, q, rfl, rfl, hEx, hp, hq⟩ := hcut
        have p0 := samere_b (o := 0) hp rfl
        have p1 := samere_b (o := 1) hp rfl
        have p2 := samere_b (o := 2) hp rfl
        have p3 := samere_b (o := 3) hp rfl
        have p4 := samere_b (o := 4) hp rfl
        have q0 := samere_b (o := 0) hq rfl
        have q1 := samere_b (o := 1) hq rfl
        have q2 := samere_b (o := 2) hq rfl
        have q3 := samere_b (o := 3) hq rfl
        have q4 := samere_b (o := 4) hq rfl
        have HX := Lib.hid hEx
        have b0 : (x.op != x.op) = false := by simp
        have b2 : (x.x != x.x) = false := by simp
        have b3 : (x.y != x.y) = false := by simp
        have b5 : (x.neg != x.neg) = false := by simp
        have HC := Lib.hid (same_any _ _ x.set x.set wc (HS.out.ext hEx) (HS'.out.ext hEx))
        have HD := Lib.hid (show decide (x.set = x.set) = true by simp)
        clear hEx hp hq c0 c1 c2 c3 c4 d0 d1 d2 d3 d4
        go_wp2_with (go_at_call 38; refine HC.out.mono ?_; rw [HD.out]; rintro e w' ⟨rfl, hE2⟩)
        go_roundw
        case rel => exact ⟨k + 1, by omega, by go_num, (HE.out.trans HX.out).trans hE2⟩
        case measure => simp [intOf]; omega
    · go_wp2_with fail
      go_ret
      exact ⟨rfl, hE⟩
set_option maxRecDepth 100000 in
set_option maxHeartbeats 2000000 in
theorem rjoin_any (xs ys : List Int) (va vb : Value) (w : World) (ha : SlC w va xs) (hb : SlC w vb ys) (hl : xs.length + ys.length ≤ 35184372088832) :
    Calls Try.prog 20 #[va, vb] w (RetP (fun w' v => OwnB 21 1 Cc w.heap.size w' v (xs ++ ys)) w) := by
  have HA := Lib.hid ha
  have HB := Lib.hid hb
  obtain ⟨A, ca, rfl, hla, hca, -⟩ := id ha
  obtain ⟨A', cb, rfl, hlb, hcb, -⟩ := id hb
  clear ha hb
  have HNIL := Lib.hid (show OwnB 21 1 Cc w.heap.size w (.slice none 0 0) ([] : List Int) from OwnB.nil_)
  have tok1 : True := trivial
  go_enter Try.func20, Try.ntmps20
  go_wp2_with (first
    | (at_builtin; have _t := tok1; go_loud (refine app_srcC rfl _ _ rfl w.heap.size (.slice none 0 0) _ [] xs HNIL.out rfl rfl HA.out ?hn ?hB ?_; (case hn => (simp only [List.length_nil]; omega)); (case hB => exact Nat.le_refl _); intro v6 w6 h1 h2; have hE6 : Ext w w6 := (Ext.refl w).grown h2 (fun k hk => (HNIL.out.lt k hk).1); rw [List.nil_append] at h1; obtain ⟨A6, c6, rfl, -⟩ := h1.form; have HO6 := Lib.hid h1; have HE6 := Lib.hid hE6; clear h1 h2 hE6 tok1 _t))
    | (at_builtin; go_loud (refine app_srcC rfl _ _ rfl w.heap.size (.slice A6 xs.length c6) _ xs ys HO6.out rfl rfl (HB.out.ext HE6.out) ?hn ?hB ?_; (case hn => omega); (case hB => exact HE6.out.size); intro v7 w7 h1 h2; have HE7 := Lib.hid (HE6.out.grown h2 (fun k hk => (HO6.out.lt k hk).1)); have HO7 := Lib.hid h1; clear h1 h2)))
  go_ret
  exact ⟨_, rfl, HO7.out, HE7.out⟩
end Go.Proofs.Ytfblkahjefdmaaa
