/- Walk: what every program answers that finds regular texts. -/
import Derived.Test.YtfblkahjefdmaaaGreatMb
import Derived.Test.YtfblkahjefdmaaaGreatPureA
import Derived.Test.YtfblkahjefdmaaaGreatInts
namespace Go.Proofs.YtfblkahjefdmaaaGreat
open Go.RowKit

theorem mnew_ok {s : List Int} {l : List PG.Inst} {t : List RX.ReN} {v : Value} {w : World} (fold : Bool) (hc : PG.compile s = (l, 0, 0)) (hp : RX.parse s = (t, 0, 0)) (hv : SlC w v s) :
    Calls Tryz.prog 8 #[v, .bool fold] w (fun e w' => Ext w w' ∧ ∃ (k mb : Nat) (vp : Value), PG.Made l (RX.groups t) k ∧ (∀ x ∈ l, x.set.length ≤ 1000) ∧ RX.groups t ≤ 200 ∧ e = .returned (.tuple #[.pointer (some ⟨mb, 0, none⟩), .agg #[.int .i64 0, .int .i64 0]]) ∧ Mtc w' mb vp l (RX.groups t) fold) := by
  refine (mnew_any s fold v w hv).mono ?_
  rintro e w' ⟨hx, ⟨h, -⟩ | ⟨l', t', k, mb, vp, h1, h2, h3, h4, h5, h6, h7, -⟩⟩
  · rw [hc] at h; exact absurd rfl h
  · rw [hc] at h1
    rw [hp] at h2
    injection h1 with e1
    injection h2 with e2
    subst e1 e2
    exact ⟨hx, k, mb, vp, h3, h4, h5, h6, h7⟩
theorem mnew_bad {s : List Int} {c p : Int} {v : Value} {w : World} (fold : Bool) (hc : PG.compile s = ([], c, p)) (h0 : c ≠ 0) (hv : SlC w v s) :
    Calls Tryz.prog 8 #[v, .bool fold] w (Ret (.tuple #[.pointer none, .agg #[.int .i64 c, .int .i64 p]]) w) := by
  refine (mnew_any s fold v w hv).mono ?_
  rintro e w' ⟨hx, ⟨-, h⟩ | ⟨l', t', k, mb, vp, h1, -⟩⟩
  · rw [hc] at h; exact ⟨h, hx⟩
  · rw [hc] at h1
    injection h1 with _ h1
    injection h1 with h1 _
    exact absurd h1 h0
/-- A match that is told. -/
theorem mfind_hit {w : World} {mb : Nat} {sv vp : Value} {prog : List PG.Inst} {g e : Nat} {fold : Bool} {s r : List Int} (hmade : PG.Made prog g e) (hset : ∀ x ∈ prog, x.set.length ≤ 1000) (hg : g ≤ 200)
    (hm : Mtc w mb vp prog g fold) (hs : SlC w sv s) (hsl : s.length ≤ 1000) (k : Nat) (hk : k ≤ s.length) (hf : MX.First (MX.act prog fold s) s.length (MX.blank g) k (some r)) :
    Calls Tryz.prog 12 #[.pointer (some ⟨mb, 0, none⟩), sv, .int .i64 (k : Int)] w (fun e w' => Ext w w' ∧ ∃ v, e = .returned (.tuple #[v, .bool true]) ∧ NtS w w' v r) := by
  refine (mfind_any hmade hset hg hm hs hsl k hk).mono ?_
  rintro e w' ⟨hx, r', h1, h2⟩
  obtain rfl := MX.first_one hf h1
  exact ⟨hx, h2⟩
theorem mfind_miss {w : World} {mb : Nat} {sv vp : Value} {prog : List PG.Inst} {g e : Nat} {fold : Bool} {s : List Int} (hmade : PG.Made prog g e) (hset : ∀ x ∈ prog, x.set.length ≤ 1000) (hg : g ≤ 200)
    (hm : Mtc w mb vp prog g fold) (hs : SlC w sv s) (hsl : s.length ≤ 1000) (k : Nat) (hk : k ≤ s.length) (hf : MX.First (MX.act prog fold s) s.length (MX.blank g) k none) :
    Calls Tryz.prog 12 #[.pointer (some ⟨mb, 0, none⟩), sv, .int .i64 (k : Int)] w (Ret (.tuple #[.slice none 0 0, .bool false]) w) := by
  refine (mfind_any hmade hset hg hm hs hsl k hk).mono ?_
  rintro e w' ⟨hx, r', h1, h2⟩
  obtain rfl := MX.first_one hf h1
  exact ⟨h2, hx⟩
theorem NtS.sli {w w' : World} {v : Value} {r : List Int} (h : NtS w w' v r) (hl : r.length ≤ 1000000) : SlI w' v r := by
  obtain ⟨nb, rfl, -, h3⟩ := h
  refine ⟨_, r.length, rfl, Nat.le_refl _, by omega, fun k x hx => ⟨nb, 0, rfl, ?_⟩, by intro h; cases h⟩
  rw [Nat.mul_one, Nat.zero_add]
  exact cell_note h3 hx
theorem NtS.ext {w a b : World} {v : Value} {r : List Int} (h : NtS w a v r) (hx : Ext a b) : NtS w b v r := by
  obtain ⟨nb, h1, h2, h3⟩ := h
  exact ⟨nb, h1, h2, hx.heap h3⟩
theorem sli_lit {w : World} {g n : Nat} {t : TypeId} (a b : Int) (hg : g = w.heap.size) (hn : n = 2) : SlI (w.alloc (.cells #[.int .i64 a, .int .i64 b] t)) (.slice (some ⟨g, 0, none⟩) n n) [a, b] := by
  subst hg hn
  refine ⟨_, 2, rfl, Nat.le_refl _, by omega, fun k x hx => ⟨w.heap.size, 0, rfl, ?_⟩, by intro h; cases h⟩
  rw [Nat.mul_one, Nat.zero_add]
  show (w.alloc _).cell? _ = _
  rw [World.cell?_alloc_new]
  match k, hx with
  | 0, hx => simp at hx; subst hx; rfl
  | 1, hx => simp at hx; subst hx; rfl
def k10 : List PG.Inst := [⟨3, 0, 0, false, []⟩, ⟨0, 0, 0, false, [97, 97]⟩, ⟨4, 3, 5, false, []⟩, ⟨0, 0, 0, false, [97, 97]⟩, ⟨5, 2, 0, false, []⟩, ⟨3, 1, 0, false, []⟩, ⟨6, 0, 0, false, []⟩]
def t10 : List RX.ReN := [⟨0, 0, 0, 0, false, false, []⟩, ⟨6, 1, 1, -1, false, false, []⟩, ⟨2, 2, 0, 0, false, false, [97, 97]⟩]
theorem compile_k10 : PG.compile [97, 43] = (k10, 0, 0) := by kernel_rfl
theorem compile_k10b : PG.compile [40] = ([], 5, 1) := by kernel_rfl
theorem parse_k10 : RX.parse [97, 43] = (t10, 0, 0) := by kernel_rfl
theorem groups_k10 : RX.groups t10 = 0 := rfl
theorem first_k10 : MX.First (MX.act k10 false [98, 97, 97]) 3 (MX.blank 0) 0 (some [1, 3]) :=
  ⟨1, by decide, by decide, MX.reck_tries (f := 20) (by kernel_rfl), fun q _ hq => by
    obtain rfl : q = 0 := by omega
    exact MX.reck_tries (f := 20) (by kernel_rfl)⟩
theorem alls_k10 : MX.Alls (MX.act k10 false [97, 98, 97]) 3 (MX.blank 0) 0 [[0, 1], [2, 3]] := by
  refine .more 0 0 1 [0, 1] _ (by decide) ⟨0, by decide, by decide, MX.reck_tries (f := 20) (by kernel_rfl), fun q _ hq => by omega⟩ rfl rfl ?_
  refine .more _ 2 3 [2, 3] _ (by decide) ⟨2, by decide, by decide, MX.reck_tries (f := 20) (by kernel_rfl), fun q h1 hq => ?_⟩ rfl rfl ?_
  · have h1 : 1 ≤ q := h1
    obtain rfl : q = 1 := by omega
    exact MX.reck_tries (f := 20) (by kernel_rfl)
  · refine .none_ _ (by decide) (fun p h1 h2 => ?_)
    have h1 : 3 ≤ p := h1
    obtain rfl : p = 3 := by omega
    exact MX.reck_tries (f := 20) (by kernel_rfl)
end Go.Proofs.YtfblkahjefdmaaaGreat

/- Walk: what every program answers that finds regular texts, the walk. -/
namespace Go.Proofs.YtfblkahjefdmaaaGreat
open Go.RowKit

theorem mall_lit {w : World} {mb : Nat} {sv vp : Value} {prog : List PG.Inst} {g e : Nat} {fold : Bool} {s : List Int} {L : List (List Int)} (hmade : PG.Made prog g e) (hset : ∀ x ∈ prog, x.set.length ≤ 1000) (hg : g ≤ 200)
    (hm : Mtc w mb vp prog g fold) (hs : SlC w sv s) (hsl : s.length ≤ 1000) (hL : MX.Alls (MX.act prog fold s) s.length (MX.blank g) 0 L) :
    Calls Tryz.prog 14 #[.pointer (some ⟨mb, 0, none⟩), sv] w (fun e w' => Ext w w' ∧ ∃ v, e = .returned v ∧ SlB 39 1 (Cn w) w.heap.size w' v L) := by
  refine (mall_any hmade hset hg hm hs hsl).mono ?_
  rintro e w' ⟨hx, L', v, h1, rfl, h2⟩
  obtain rfl := MX.alls_one hL h1
  exact ⟨hx, v, rfl, h2⟩
set_option maxRecDepth 100000 in
set_option maxHeartbeats 4000000 in
theorem known10_any (w : World) : Calls Tryz.prog 6 #[] w (Ret (.bool true) w) := by
  go_enter Tryz.func6, Tryz.ntmps6
  go_wp2_with fail
  refine (mnew_ok false compile_k10 parse_k10 (SlB.slc (lit_c w [97, 43] (Nat.le_refl _) (by decide)).sl)).mono ?_
  rintro e w1 ⟨hE1, k, mb, vp, hmd, hst, hgl, rfl, hmt⟩
  rw [groups_k10] at hmd hgl hmt
  have HMD := Lib.hid hmd
  have HST := Lib.hid hst
  have HM1 := Lib.hid hmt
  have HE1 := Lib.hid (((Ext.refl w).alloc _).trans hE1)
  clear hE1 hmd hst hgl hmt
  go_wp2_with fail
  refine (mfind_hit (s := [98, 97, 97]) HMD.out HST.out (by decide) (HM1.out.ext (((Ext.refl w1).alloc _).alloc _)) ?hs1 (by decide) 0 (by decide) first_k10).mono ?_
  case hs1 => exact SlB.slc (c_lit (B := 0) _ [98, 97, 97] _ _ (by simp) rfl (Nat.zero_le _) (by decide))
  rintro e w2 ⟨hE2, v2, rfl, hn2⟩
  have hX2 : Ext w1 w2 := (((Ext.refl w1).alloc _).alloc _).trans hE2
  have HN2 := Lib.hid (hn2.sli (by decide))
  have HM2 := Lib.hid (HM1.out.ext hX2)
  have HE2 := Lib.hid (HE1.out.trans hX2)
  obtain ⟨nb, rfl, -, -⟩ := hn2
  clear hE2 hX2 HM1 HE1
  go_wp2_with fail
  refine (mall_lit (s := [97, 98, 97]) HMD.out HST.out (by decide) (HM2.out.ext ((Ext.refl w2).alloc _)) ?hs2 (by decide) alls_k10).mono ?_
  case hs2 => exact SlB.slc (c_lit (B := 0) _ [97, 98, 97] _ _ (by simp) rfl (Nat.zero_le _) (by decide))
  rintro e w3 ⟨hE3, v3, rfl, hl3⟩
  have hX3 : Ext w2 w3 := ((Ext.refl w2).alloc _).trans hE3
  obtain ⟨A3, c3, rfl, -, -⟩ := hl3.form
  obtain ⟨g3, o3, cs3, rfl, ⟨u3, rfl, hn3⟩, hcell3⟩ := hl3.at_ (k := 1) (by decide)
  have q1 : w3.cell? ⟨g3, o3 + 1, none⟩ = some u3 := hcell3 0 _ rfl
  have HN3 := Lib.hid (hn3.sli (by decide))
  obtain ⟨nb3, rfl, -, -⟩ := hn3
  have q1 : w3.cell? ⟨g3, o3 + 1, none⟩ = some (.slice (some ⟨nb3, 0, none⟩) 2 2) := q1
  have HN2 := Lib.hid (SlI.ext HN2.out hX3)
  have HM3 := Lib.hid (HM2.out.ext hX3)
  have HE3 := Lib.hid (HE2.out.trans hX3)
  clear hE3 hX3 HM2 HE2 hl3 hcell3
  go_wp2_with fail
  refine (mnew_bad true compile_k10b (by decide) ?hs3).mono ?_
  case hs3 => exact SlB.slc (c_lit (B := 0) _ [40] _ _ (by simp) rfl (Nat.zero_le _) (by decide))
  rintro e w4 ⟨rfl, hE4⟩
  have hX4 : Ext w3 w4 := ((Ext.refl w3).alloc _).trans hE4
  replace q1 := hX4.cell q1
  have HN2 := Lib.hid (SlI.ext HN2.out hX4)
  have HN3 := Lib.hid (SlI.ext HN3.out hX4)
  have HM4 := Lib.hid (HM3.out.ext hX4)
  have HE4 := Lib.hid (HE3.out.trans hX4)
  have hX5 := (Ext.refl w4).alloc (.cells #[.int .i64 5, .int .i64 1] 31)
  have f0 : (w4.alloc (.cells #[.int .i64 5, .int .i64 1] 31)).cell? ⟨w4.heap.size, 0, none⟩ = some (.int .i64 5) := by rw [World.cell?_alloc_new]; rfl
  clear hX4 hE4 HM3 HE3
  replace q1 := hX5.cell q1
  have HN2 := Lib.hid (SlI.ext HN2.out hX5)
  have HN3 := Lib.hid (SlI.ext HN3.out hX5)
  have HM5 := Lib.hid (HM4.out.ext hX5)
  have HE5 := Lib.hid (HE4.out.trans hX5)
  have HS := Lib.hid sameInts_any
  have HG := Lib.hid mgroups_any
  have HGN := Lib.hid mgroups_nil
  have HFN := Lib.hid mfind_nil
  clear hX5 HM4 HE4
  go_upto_region 7 with fail
  generalize w4.alloc _ = w5 at q1 f0 HN2 HN3 HM5 HE5 ⊢
  have hfb : w4.heap.size < w5.heap.size := World.block_lt_of_cell? w5 _ f0
  generalize w4.heap.size = fb at f0 hfb ⊢
  go_wp2_with fail
  refine (HFN.out _).mono ?_
  rintro e w6 ⟨rfl, hE6⟩
  replace q1 := hE6.cell q1
  replace f0 := hE6.cell f0
  have HN2 := Lib.hid (SlI.ext HN2.out hE6)
  have HN3 := Lib.hid (SlI.ext HN3.out hE6)
  have HM6 := Lib.hid (HM5.out.ext hE6)
  have HE6 := Lib.hid (HE5.out.trans hE6)
  clear hE6 hfb HM5 HE5
  go_wp2_with fail
  refine (HS.out _ _ [1, 3] [1, 3] _ (SlI.ext HN2.out ((Ext.refl w6).alloc _)) (sli_lit 1 3 rfl rfl)).mono ?_
  rintro e w7 ⟨rfl, hE7⟩
  rw [show eqB [1, 3] [1, 3] = true from rfl]
  have hX7 : Ext w6 w7 := ((Ext.refl w6).alloc _).trans hE7
  replace q1 := hX7.cell q1
  replace f0 := hX7.cell f0
  have HN3 := Lib.hid (SlI.ext HN3.out hX7)
  have HM7 := Lib.hid (HM6.out.ext hX7)
  have HE7 := Lib.hid (HE6.out.trans hX7)
  clear hE7 hX7 HM6 HE6
  go_wp2_with fail
  refine (HS.out _ _ [2, 3] [2, 3] _ (SlI.ext HN3.out ((Ext.refl w7).alloc _)) (sli_lit 2 3 rfl rfl)).mono ?_
  rintro e w8 ⟨rfl, hE8⟩
  rw [show eqB [2, 3] [2, 3] = true from rfl]
  have hX8 : Ext w7 w8 := ((Ext.refl w7).alloc _).trans hE8
  replace f0 := hX8.cell f0
  have HM8 := Lib.hid (HM7.out.ext hX8)
  have HE8 := Lib.hid (HE7.out.trans hX8)
  clear hE8 hX8 HM7 HE7
  go_wp2_with fail
  refine (HG.out _ mb vp k10 0 false HM8.out).mono ?_
  rintro e w9 ⟨rfl, hE9⟩
  replace f0 := hE9.cell f0
  have HE9 := Lib.hid (HE8.out.trans hE9)
  clear hE9
  go_wp2_with fail
  refine (HGN.out _).mono ?_
  rintro e w10 ⟨rfl, hE10⟩
  have HE10 := Lib.hid (HE9.out.trans hE10)
  clear hE10
  go_wp2_with fail
  go_ret
  exact ⟨rfl, HE10.out⟩
end Go.Proofs.YtfblkahjefdmaaaGreat
