/- Walks: the document's own Splice; words for a row of rows of signs that is made. -/
import Derived.Test.YtfblkahjefdmaaaTuA
import Derived.Deep.RegionHeld3
namespace Go.Proofs.Ytfblkahjefdmaaa
open Go.RowKit

theorem run_sl_hi {P : Program} {t e : TypeId} {i : TypeInfo} (ht : P.underlying t = some (.slice e)) (hi : P.info? e = some i) (A : Option Addr) {n c m : Nat} (hm : m ≤ c) (W : World) :
    (Instr.slice t (.slice A n c) none (some (.int .i64 (m : Int))) none).run P W = .ok (.slice (cutA A c 0 i.size) m c) W := by
  have h2 : (m : Int) ≤ c := by omega
  simp [Instr.slice, Instr.sliceBounds, run_underlying ht, sizeOf, typeInfo, hi, run_sliceBound, h2, cutA]
theorem SlC.head {w : World} {A : Option Addr} {n c : Nat} {xs : List Int} (h : SlC w (.slice A n c) xs) {m : Nat} (hm : m ≤ xs.length) : SlC w (.slice (cutA A c 0 1) m c) (xs.take m) := by
  have := SlR.cut3 h (Nat.zero_le m) hm
  simpa using this
set_option maxRecDepth 100000 in
set_option maxHeartbeats 2000000 in
theorem rsplice_any (s put : List Int) (a b : Nat) (x : Int) (vs vp : Value) (w : World) (hs : SlC w vs s) (hp : SlC w vp put) (hab : a ≤ b) (hb : b ≤ s.length) (hx : (b : Int) - a = x) (hl : s.length + put.length ≤ 1000000) :
    Calls Try.prog 50 #[vs, .int .i64 a, .int .i64 x, vp] w (RetP (fun w' v => OwnB 21 1 Cc w.heap.size w' v ((s.take a ++ put) ++ s.drop b)) w) := by
  obtain ⟨As, cs, rfl, hsc, hscm, -⟩ := id hs
  obtain ⟨Ap, cp, rfl, hpc, hpcm, -⟩ := id hp
  have s1 : IntKind.i64.wrap ((a : Int) + x) = (b : Int) := by rw [← hx, IntWalk.i64_in _ (by omega)]; omega
  obtain ⟨i0, hi0, hz0, hz1, hz2⟩ := info_parts info_c
  have hsh := fun W => run_sl_hi (P := Try.prog) Try.underlying23 hi0 As (n := s.length) (c := cs) (m := a) (by omega) W
  have hsl := fun W => run_sl_lo (P := Try.prog) Try.underlying23 hi0 As (n := s.length) (c := cs) (k := b) hb W
  rw [hz1] at hsh hsl
  have HS := Lib.hid hs
  have HP := Lib.hid hp
  have HH := Lib.hid (SlC.head hs (m := a) (by omega))
  have HT := Lib.hid (SlR.cut hs hb)
  have ht1 : (s.take a).length ≤ 1000000 := by rw [List.length_take]; omega
  have htl : (s.take a ++ put).length + (s.drop b).length ≤ 3000000 := by rw [List.length_append, List.length_take, List.length_drop]; omega
  have htp : (s.take a).length + put.length ≤ 3000000 := by rw [List.length_take]; omega
  obtain ⟨sa, hsa⟩ : ∃ l, s.take a = l := ⟨_, rfl⟩
  obtain ⟨sb, hsb⟩ : ∃ l, s.drop b = l := ⟨_, rfl⟩
  rw [hsa] at HH htl htp ht1
  rw [hsb] at HT htl
  rw [hsa, hsb]
  obtain ⟨sp, hsp⟩ : ∃ l, sa ++ put = l := ⟨_, rfl⟩
  rw [hsp] at htl ⊢
  have HSP := Lib.hid hsp
  clear hs hp hx hi0 hz0 hz1 hz2 hsa hsb hsp
  go_enter Try.func50, Try.ntmps50
  go_wp2_with fail
  go_region_held3 (fun _ => True) (first | go_keep | trivial) (first
    | (go_at_call 20; go_loud (refine (rjoin_any sa put _ _ _ (SlC.ext HH.out (by first | exact Ext.refl _ | exact (Ext.refl _).drewN _ | exact (Ext.refl _).drew)) (SlC.ext HP.out (by first | exact Ext.refl _ | exact (Ext.refl _).drewN _ | exact (Ext.refl _).drew)) (by omega)).mono ?_); go_loud (rw [HSP.out]; rintro e w1 ⟨v1, rfl, ho1, hx1⟩; obtain ⟨A1, c1, rfl, -⟩ := ho1.form; have HX1 := Lib.hid (Ext.trans (show Ext w _ by first | exact Ext.refl _ | exact (Ext.refl _).drewN _ | exact (Ext.refl _).drew) hx1); have HO1 := Lib.hid ho1; clear ho1 hx1))
    | (go_loud (refine step_appC rfl _ _ (by rfl) w.heap.size (.slice A1 sp.length c1) _ sp sb HO1.out (by rfl) (by rfl) (SlC.ext HT.out (by first | exact HX1.out | exact HX1.out.drewN _ | exact HX1.out.drew)) (by omega) (by first | exact HX1.out.size) ?_; intro v2 w2 h1 h2; have HX2 := Lib.hid (HX1.out.grown h2 (fun k hk => (HO1.out.lt k hk).1)); have HO2 := Lib.hid h1; clear h1 h2)))
  go_wp2_with fail
  go_ret
  exact ⟨_, rfl, HO2.out, HX2.out⟩
def RawV (_ : World) (cs : List Value) (x : Value) : Prop := cs = [x]
theorem keeps_rawV (T : List TypeId) : Keeps T RawV := fun _ _ _ _ _ h => h
theorem info_sl : (Try.prog.info? 23).map (fun i => (i.zero, i.size, i.bytes)) = some (some (.slice none 0 0), 1, 24) := by kernel_rfl
theorem OwnB.slgV {B : Nat} {w : World} {v : Value} {us : List Value} {gs : List (List Int)} (h : OwnB 23 1 RawV B w v us) (hl : us.length = gs.length) (hf : ∀ (k : Nat) (u : Value) (g : List Int), us[k]? = some u → gs[k]? = some g → SlC w u g) : SlG w v gs := by
  obtain ⟨A, c, hv, hlc, hcm, hn, ha⟩ := h.sl
  rw [hl] at hv hlc
  refine ⟨A, c, hv, hlc, hcm, fun k g hg => ?_, hn⟩
  have hk : k < us.length := by rw [hl]; exact (List.getElem?_eq_some_iff.1 hg).1
  cases A with
  | none =>
    have := hn rfl
    omega
  | some ad =>
    obtain ⟨b, o, cur, rfl, _, h3, _, h5⟩ := ha ad rfl
    obtain ⟨cs, h6, h7⟩ := h5 k _ (List.getElem?_eq_getElem hk)
    have h6 : cs = _ := h6
    subst h6
    refine ⟨b, o, rfl, us[k], ?_, hf k _ g (List.getElem?_eq_getElem hk) hg⟩
    exact (cell_of_row w b _ cur 23 (0, 0) h3).trans (by have := h7 0 _ rfl; simpa using this)
end Go.Proofs.Ytfblkahjefdmaaa
