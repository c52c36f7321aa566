/- Walk: are two texts one. -/
import Derived.Test.YtfblkahjefdmaaaGreatWc
import Derived.RegionTactic
import Derived.ChangeAlike
import Derived.Deep.DeepCutAuto
import Derived.Deep.CutBlock
import Derived.Test.YtfblkahjefdmaaaGreatQh
namespace Go.Proofs.YtfblkahjefdmaaaGreat
open Go.RowKit

set_option maxHeartbeats 1000000 in
theorem same_any (va vb : Value) (xs ys : List Int) (w : World) (hx : SlC w va xs) (hy : SlC w vb ys) :
    Calls Tryz.prog 24 #[va, vb] w (Ret (.bool (decide (xs = ys))) w) := by
  have HX := Lib.hid hx
  have HY := Lib.hid hy
  obtain ⟨A, ca, rfl, hlx, hcx, _⟩ := hx
  obtain ⟨B, cb, rfl, hly, hcy, _⟩ := hy
  by_cases hl : xs.length = ys.length
  · have hb1 : ((xs.length : Int) != ys.length) = false := by simp [hl]
    have HL := Lib.hid hl
    clear hl
    go_enter Tryz.func24, Tryz.ntmps24
    go_wp2_with fail
    go_loopw [5] (fun i wr => ∃ k : Nat, k ≤ xs.length ∧ i = .int .i64 k ∧ (∀ j, j < k → xs[j]? = ys[j]?) ∧ Ext w wr) (fun i _ => xs.length - (intOf i).toNat)
    case atStart => exact ⟨0, Nat.zero_le _, rfl, by intro j hj; omega, Ext.refl w⟩
    case round =>
      obtain ⟨k, hk, rfl, hpre, hE⟩ := hrel
      have HP := Lib.hid hpre
      clear hpre
      by_cases hlt : k < xs.length
      · have hlt2 : k < ys.length := by have := HL.out; omega
        obtain ⟨b, o, rfl, hc⟩ := (HX.out.ext hE).at_ hlt
        obtain ⟨b', o', rfl, hc'⟩ := (HY.out.ext hE).at_ hlt2
        by_cases he : xs[k] = ys[k]
        · have hb2 : (xs[k] != ys[k]) = false := by simp [he]
          have HE := Lib.hid he
          clear he
          go_wp2_with fail
          go_quiet (fail)
          go_wp2_with fail
          go_roundw
          case rel => exact ⟨k + 1, by omega, by go_num, by intro j hj; rcases Nat.lt_succ_iff_lt_or_eq.1 hj with h | rfl; exact HP.out j h; rw [List.getElem?_eq_getElem hlt, List.getElem?_eq_getElem hlt2, HE.out], hE.drewN _⟩
          case measure => simp [intOf]; omega
        · have hb2 : (xs[k] != ys[k]) = true := by simp [he]
          have hf : decide (xs = ys) = false := decide_eq_false (fun h => he (by subst h; rfl))
          have HF := Lib.hid hf
          clear hf
          go_wp2_with fail
          go_quiet (fail)
          go_wp2_with fail
          go_ret
          exact ⟨by rw [HF.out]; rfl, hE.drewN _⟩
      · have hf : decide (xs = ys) = true := decide_eq_true (List.ext_getElem? fun j => by
          rcases Nat.lt_or_ge j k with h | h
          · exact HP.out j h
          · rw [List.getElem?_eq_none (by omega), List.getElem?_eq_none (by have := HL.out; omega)])
        have HF := Lib.hid hf
        clear hf
        go_wp2_with fail
        go_ret
        exact ⟨by rw [HF.out]; rfl, hE⟩
  · have hb1 : ((xs.length : Int) != ys.length) = true := by simp; omega
    have hf : decide (xs = ys) = false := decide_eq_false (fun h => hl (by rw [h]))
    have HF := Lib.hid hf
    clear hf hl
    go_enter Tryz.func24, Tryz.ntmps24
    go_wp2_with fail
    go_ret
    exact ⟨by rw [HF.out]; rfl, Ext.refl _⟩
end Go.Proofs.YtfblkahjefdmaaaGreat

/- Walk: a tree of a regular text is like itself. -/
namespace Go.Proofs.YtfblkahjefdmaaaGreat
open Go.RowKit

theorem samere_b {w : World} {g : Nat} {cs : Array Value} {t : TypeId} {o : Nat} {v : Value} (h : w.heap[g]? = some (.cells cs t (0, 0))) (hv : cs[o]? = some v) : w.cell? ⟨g, o, none⟩ = some v := by
  rw [cell_of_row w g o cs t (0, 0) h]; exact hv
theorem heap_new2 (w : World) (a b : Obj) : ((w.alloc a).alloc b).heap[w.heap.size + 1]? = some b := by
  have h := heap_alloc_new (w.alloc a) b
  have e : (w.alloc a).heap.size = w.heap.size + 1 := by simp
  rw [e] at h; exact h
end Go.Proofs.YtfblkahjefdmaaaGreat

/- Walks: what was answered is written over; what is lent, and kept. On the plain seat. -/
namespace Go.Proofs.YtfblkahjefdmaaaGreat
open Go.RowKit

theorem heap_nS {w : World} {g h o : Nat} {u : Value} (hne : g ≠ h) : (w.setCell ⟨h, o, none⟩ u).heap[g]? = w.heap[g]? := Below.heap_setCell w ⟨h, o, none⟩ u g hne
/-- Outside of the blocks from B to below T all is as it was. -/
structure Rng (B T : Nat) (w w' : World) : Prop where
  os : w'.os = w.os
  tape : w'.tape = w.tape
  output : w'.output = w.output
  size : w.heap.size ≤ w'.heap.size
  out : ∀ i, i < w.heap.size → ¬ (B ≤ i ∧ i < T) → w'.heap[i]? = w.heap[i]?
theorem Rng.refl (B T : Nat) (w : World) : Rng B T w w := ⟨rfl, rfl, rfl, Nat.le_refl _, fun _ _ _ => rfl⟩
theorem Rng.trans {B T : Nat} {a b c : World} (h : Rng B T a b) (k : Rng B T b c) : Rng B T a c :=
  ⟨k.os.trans h.os, k.tape.trans h.tape, k.output.trans h.output, Nat.le_trans h.size k.size, fun i hi hn => (k.out i (Nat.lt_of_lt_of_le hi h.size) hn).trans (h.out i hi hn)⟩
theorem Rng.set {B T g o : Nat} (w : World) (u : Value) (hB : B ≤ g) (hT : g < T) : Rng B T w (w.setCell ⟨g, o, none⟩ u) :=
  ⟨rfl, rfl, rfl, by simp, fun i _ hn => heap_nS (by intro e; subst e; exact hn ⟨hB, hT⟩)⟩
theorem Rng.of_ext {B T : Nat} {a b : World} (h : Ext a b) : Rng B T a b := ⟨Below.os h, Below.tape h, Below.output h, Below.size h, fun i hi _ => Below.block h i hi⟩
theorem Rng.ext {B T : Nat} {w0 w w' : World} (h : Ext w0 w) (k : Rng B T w w') (hB : w0.heap.size ≤ B) : Ext w0 w' :=
  ⟨k.os.trans (Below.os h), k.tape.trans (Below.tape h), k.output.trans (Below.output h), Nat.le_trans (Below.size h) k.size, fun i hi => (k.out i (Nat.lt_of_lt_of_le hi (Below.size h)) (by omega)).trans (Below.block h i hi)⟩
theorem Rng.keepB {B T : Nat} {w w' : World} (k : Rng B T w w') : KeepB T w w' := fun g o hg ho => (k.out g (heap_lt ho) (by omega)).trans ho
/-- The same, and rows of signs stay rows of signs, rows of anything else stay as they were. -/
structure Spo (B T : Nat) (w w' : World) : Prop where
  rng : Rng B T w w'
  row : ∀ (g : Nat) (cur : Array Value), w.heap[g]? = some (.cells cur 21 (0, 0)) → ∃ cur', w'.heap[g]? = some (.cells cur' 21 (0, 0)) ∧ cur'.size = cur.size
  oth : ∀ (g : Nat) (cur : Array Value) (t : TypeId), t ≠ 21 → w.heap[g]? = some (.cells cur t (0, 0)) → w'.heap[g]? = some (.cells cur t (0, 0))
theorem Spo.refl (B T : Nat) (w : World) : Spo B T w w := ⟨Rng.refl _ _ _, fun _ cur h => ⟨cur, h, rfl⟩, fun _ _ _ _ h => h⟩
theorem Spo.set {B T g o : Nat} {w a : World} {cur : Array Value} (h : Spo B T w a) (u : Value) (hB : B ≤ g) (hT : g < T) (hg : a.heap[g]? = some (.cells cur 21 (0, 0))) : Spo B T w (a.setCell ⟨g, o, none⟩ u) := by
  refine ⟨h.rng.trans (Rng.set a u hB hT), fun g2 cu hg2 => ?_, fun g2 cu t ht hg2 => ?_⟩
  · obtain ⟨cu2, h1, h2⟩ := h.row g2 cu hg2
    by_cases e : g2 = g
    · subst e
      exact ⟨_, heap_set h1, by simpa using h2⟩
    · exact ⟨cu2, by rw [heap_nS e]; exact h1, h2⟩
  · have h1 := h.oth g2 cu t ht hg2
    have e : g2 ≠ g := by
      intro e
      subst e
      rw [hg] at h1
      injection h1 with h1
      injection h1 with _ h1 _
      exact ht h1.symm
    rw [heap_nS e]; exact h1
theorem Spo.drewN {B T n : Nat} {w a : World} (h : Spo B T w a) : Spo B T w (a.drewN n) := ⟨h.rng.trans (Rng.of_ext ((Ext.refl a).drewN n)), h.row, h.oth⟩
/-- A row of signs that may be written over. -/
def Shp (B T : Nat) (w : World) (v : Value) : Prop :=
  ∃ (A : Option Addr) (n c : Nat), v = .slice A n c ∧ n ≤ c ∧ c ≤ 9223372036854775807 ∧ (A = none → n = 0) ∧ ∀ ad, A = some ad → ∃ g o cur, ad = ⟨g, o, none⟩ ∧ B ≤ g ∧ g < T ∧ w.heap[g]? = some (.cells cur 21 (0, 0)) ∧ o + n ≤ cur.size
theorem Shp.of {B : Nat} {w : World} {v : Value} {xs : List Int} (h : SlB 21 1 Cc B w v xs) : Shp B w.heap.size w v := by
  obtain ⟨A, c, rfl, hl, hc, hn, ha⟩ := h
  refine ⟨A, xs.length, c, rfl, hl, hc, fun e => by have := hn e; omega, fun ad had => ?_⟩
  obtain ⟨g, o, cur, h1, h2, h3, h4, _⟩ := ha ad had
  exact ⟨g, o, cur, h1, h2, heap_lt h3, h3, by omega⟩
theorem Shp.spo {B T : Nat} {w w' : World} {v : Value} (h : Shp B T w v) (hr : ∀ (g : Nat) (cur : Array Value), w.heap[g]? = some (.cells cur 21 (0, 0)) → ∃ cur', w'.heap[g]? = some (.cells cur' 21 (0, 0)) ∧ cur'.size = cur.size) : Shp B T w' v := by
  obtain ⟨A, n, c, rfl, hl, hc, hn, ha⟩ := h
  refine ⟨A, n, c, rfl, hl, hc, hn, fun ad had => ?_⟩
  obtain ⟨g, o, cur, h1, h2, h3, h4, h5⟩ := ha ad had
  obtain ⟨cur', h6, h7⟩ := hr g cur h4
  exact ⟨g, o, cur', h1, h2, h3, h6, by omega⟩

def SpoP (B T : Nat) (w : World) (e : Ending) (w' : World) : Prop := e = .returned (.tuple #[]) ∧ Spo B T w w'
set_option maxHeartbeats 1000000 in
theorem kspoil_any (B T : Nat) (v : Value) (w : World) (h : Shp B T w v) : Calls Tryz.prog 11 #[v] w (SpoP B T w) := by
  have H := Lib.hid h
  obtain ⟨A, n, c, rfl, hnc, hcm, -⟩ := id h
  clear h
  go_enter Tryz.func11, Tryz.ntmps11
  go_wp2_with fail
  go_loopw [2] (fun i wr => ∃ k : Nat, k ≤ n ∧ i = .int .i64 (k : Int) ∧ Spo B T w wr) (fun i _ => n - (intOf i).toNat)
  case atStart => exact ⟨0, Nat.zero_le _, rfl, Spo.refl _ _ _⟩
  case round =>
    obtain ⟨k, hk, rfl, hS⟩ := hrel
    have HS := Lib.hid hS
    by_cases hlt : k < n
    · obtain ⟨A', n', c', hv, hl, _, hn, ha⟩ := H.out.spo hS.row
      injection hv with e1 e2 e3
      subst e1 e2 e3
      cases A with
      | none => have := hn rfl; omega
      | some ad =>
        obtain ⟨g, o, cur, rfl, hB, hT, hg, hs⟩ := ha ad rfl
        have hc := cell_of_row wr g (o + k) _ _ _ hg
        rw [Array.getElem?_eq_getElem (by omega)] at hc
        have hf := frozen_of_row wr g (o + k) _ _ hg
        have HG := Lib.hid (And.intro hB (And.intro hT hg))
        generalize cur[o + k]'(by omega) = u at hc
        clear hB hT hg hS hl hn ha
        go_wp2_with fail
        go_roundw
        case rel => exact ⟨k + 1, by omega, by go_num, HS.out.set _ HG.out.1 HG.out.2.1 HG.out.2.2⟩
        case measure => simp [intOf]; omega
    · clear hS
      go_wp2_with fail
      go_end0
      exact ⟨rfl, HS.out⟩

def LendP (s : List Int) (w : World) (e : Ending) (w' : World) : Prop :=
  Ext w w' ∧ ∃ g c, e = .returned (.slice (some ⟨g, 0, none⟩) s.length c) ∧ s.length + 2 ≤ c ∧ OwnB 21 1 Cc w.heap.size w' (.slice (some ⟨g, 0, none⟩) (s.length + 2) c) (s ++ [-77, -78])
theorem run_sl_hiS {P : Program} {t e : TypeId} {i : TypeInfo} (ht : P.underlying t = some (.slice e)) (hi : P.info? e = some i) (A : Option Addr) {n c m : Nat} (hm : m ≤ c) (W : World) :
    (Instr.slice t (.slice A n c) none (some (.int .i64 (m : Int))) none).run P W = .ok (.slice A m c) W := by
  have h1 : (m : Int) ≤ c := by omega
  simp [Instr.slice, Instr.sliceBounds, run_underlying ht, sizeOf, typeInfo, hi, run_sliceBound, h1]
  intro _
  cases A <;> simp [Addr.add]
theorem SlC.front {w : World} {A : Option Addr} {n c : Nat} {xs ys : List Int} (h : SlC w (.slice A n c) (xs ++ ys)) : SlC w (.slice A xs.length c) xs := by
  obtain ⟨A', c', hv, hl, hc, hk, hn⟩ := h
  injection hv with e1 e2 e3
  subst e1 e3
  rw [List.length_append] at hl
  refine ⟨A, c, rfl, by omega, hc, fun k x hx => hk k x ?_, hn⟩
  rw [List.getElem?_append_left (List.getElem?_eq_some_iff.1 hx).1]; exact hx
set_option maxRecDepth 100000 in
set_option maxHeartbeats 2000000 in
theorem lend_any (s : List Int) (vs : Value) (w : World) (hs : SlC w vs s) (hsl : s.length ≤ 35184372088000) : Calls Tryz.prog 7 #[vs] w (LendP s w) := by
  have H := Lib.hid hs
  obtain ⟨A, ca, rfl, hlx, hcx, -⟩ := id hs
  have HNIL := Lib.hid (show OwnB 21 1 Cc w.heap.size w (.slice none 0 0) ([] : List Int) from OwnB.nil_)
  clear hs
  have tok1 : True := trivial
  go_enter Tryz.func7, Tryz.ntmps7
  go_upto_region 2 with (first
    | (at_builtin; have _t := tok1; go_loud (refine app_srcC rfl _ _ rfl w.heap.size (.slice none 0 0) _ [] s HNIL.out rfl rfl H.out ?hn ?hB ?_; (case hn => (simp only [List.length_nil]; omega)); (case hB => exact Nat.le_refl _); intro v6 w6 h1 h2; have hE6 : Ext w w6 := (Ext.refl w).grown h2 (fun k hk => (HNIL.out.lt k hk).1); rw [List.nil_append] at h1; obtain ⟨A6, c6, rfl, -⟩ := h1.form; have HO6 := Lib.hid h1; have HE6 := Lib.hid hE6; clear h1 h2 hE6; clear tok1 _t))
    | (at_builtin; go_loud (refine app_srcC rfl _ _ rfl w.heap.size _ _ s [-77, -78] (OwnB.allocs HO6.out) rfl rfl (SlB.slc (c_lit (B := 0) w6 [-77, -78] _ _ rfl rfl (Nat.zero_le _) (by decide))) ?hn ?hB ?_; (case hn => (simp only [List.length_cons, List.length_nil]; omega)); (case hB => exact Nat.le_trans HE6.out.size (by simp)); intro v7 w7 h1 h2; have hE7 : Ext w w7 := (HE6.out.alloc _).grown h2 (fun k hk => (HO6.out.lt k hk).1); obtain ⟨A7, c7, rfl, hc7, hm7⟩ := h1.form; have HO7 := Lib.hid h1; have HE7 := Lib.hid hE7; clear h1 h2 hE7)))
  have hll : (s ++ [-77, -78]).length = s.length + 2 := by simp
  rw [hll] at hc7 HO7
  obtain ⟨g, rfl, -⟩ := HO7.out.get (k := 0) (by rw [hll]; omega)
  have HC7 := Lib.hid hc7
  obtain ⟨i0, hi0, hz0, hz1, hz2⟩ := info_parts info_c
  have hsl7 := fun W => run_sl_hiS (P := Tryz.prog) Tryz.underlying24 hi0 (some ⟨g, 0, none⟩) (n := s.length + 2) (c := c7) (m := s.length) (by omega) W
  clear hll
  go_wp2_with fail
  go_ret
  exact ⟨HE7.out, g, c7, rfl, HC7.out, HO7.out⟩

set_option maxRecDepth 100000 in
set_option maxHeartbeats 2000000 in
theorem kept_any (s : List Int) (vs : Value) (b g c : Nat) (w : World) (hs : SlC w vs s) (hx : SlB 21 1 Cc b w (.slice (some ⟨g, 0, none⟩) (s.length + 2) c) (s ++ [-77, -78])) :
    Calls Tryz.prog 10 #[.slice (some ⟨g, 0, none⟩) s.length c, vs] w (Ret (.bool true) w) := by
  obtain ⟨A', c', hv, hlc, hcm, -⟩ := id hx
  have hll : (s ++ [-77, -78]).length = s.length + 2 := by simp
  have hc2 : s.length + 2 ≤ c := by
    injection hv with e1 e2 e3
    omega
  have hcm2 : c ≤ 9223372036854775807 := by
    injection hv with e1 e2 e3
    omega
  have HSM := Lib.hid (same_any _ vs s s w (SlC.front (SlB.slc hx)) hs)
  have HD := Lib.hid (show decide (s = s) = true by simp)
  have hcell : ∀ j y, (s ++ [-77, -78])[j]? = some y → w.cell? ⟨g, j, none⟩ = some (.int .i32 y) := by
    intro j y hy
    have := SlB.add hx j y hy
    rw [Go.WideShapes.add_plain, Nat.zero_add] at this
    exact this
  have k77 := hcell s.length (-77) (by simp)
  have k78 := hcell (s.length + 1) (-78) (by simp)
  obtain ⟨Av, cv, rfl, hlv, hcv, -⟩ := id hs
  obtain ⟨i0, hi0, hz0, hz1, hz2⟩ := info_parts info_c
  have hsl7 := fun W => run_sl_hiS (P := Tryz.prog) Tryz.underlying24 hi0 (some ⟨g, 0, none⟩) (n := s.length) (c := c) (m := s.length + 2) (by omega) W
  simp only [Int.natCast_add, Int.cast_ofNat_Int] at hsl7
  clear hs hx hv hlc hcm hll hcell
  go_enter Tryz.func10, Tryz.ntmps10
  go_wp2_with (go_at_call 24; go_loud (refine HSM.out.mono ?_; rw [HD.out]; rintro e w2 ⟨rfl, hE⟩; replace k77 := hE.cell k77; replace k78 := hE.cell k78; have HE := Lib.hid hE; clear hE))
  go_ret
  exact ⟨rfl, HE.out⟩
end Go.Proofs.YtfblkahjefdmaaaGreat
