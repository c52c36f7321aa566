/- Walks: what was answered is written over; what is lent, and kept. -/
import Derived.Test.YtfblkahjefdmaaaDoorFdQ
namespace Go.Proofs.YtfblkahjefdmaaaDoor
open Go.RowKit

/-- Outside of the blocks from B to below T all is as it was. -/
structure Rng (B T : Nat) (w w' : World) : Prop where
  os : w'.os = w.os
  tape : w'.tape = w.tape
  output : w'.output = w.output
  size : w.heap.size ≤ w'.heap.size
  out : ∀ i, i < w.heap.size → ¬ (B ≤ i ∧ i < T) → w'.heap[i]? = w.heap[i]?
theorem Rng.refl (B T : Nat) (w : World) : Rng B T w w := ⟨rfl, rfl, rfl, Nat.le_refl _, fun _ _ _ => rfl⟩
theorem Rng.trans {B T : Nat} {a b c : World} (h : Rng B T a b) (k : Rng B T b c) : Rng B T a c :=
  ⟨k.os.trans h.os, k.tape.trans h.tape, k.output.trans h.output, Nat.le_trans h.size k.size, fun i hi hn => (k.out i (Nat.lt_of_lt_of_le hi h.size) hn).trans (h.out i hi hn)⟩
theorem Rng.set {B T g o : Nat} (w : World) (u : Value) (hB : B ≤ g) (hT : g < T) : Rng B T w (w.setCell ⟨g, o, none⟩ u) :=
  ⟨rfl, rfl, rfl, by simp, fun i _ hn => heap_ne (by intro e; subst e; exact hn ⟨hB, hT⟩)⟩
theorem Rng.of_ext {B T : Nat} {a b : World} (h : Ext a b) : Rng B T a b := ⟨Below.os h, Below.tape h, Below.output h, Below.size h, fun i hi _ => Below.block h i hi⟩
theorem Rng.ext {B T : Nat} {w0 w w' : World} (h : Ext w0 w) (k : Rng B T w w') (hB : w0.heap.size ≤ B) : Ext w0 w' :=
  ⟨k.os.trans (Below.os h), k.tape.trans (Below.tape h), k.output.trans (Below.output h), Nat.le_trans (Below.size h) k.size, fun i hi => (k.out i (Nat.lt_of_lt_of_le hi (Below.size h)) (by omega)).trans (Below.block h i hi)⟩
theorem Rng.keepB {B T : Nat} {w w' : World} (k : Rng B T w w') : KeepB T w w' := fun g o hg ho => (k.out g (heap_lt ho) (by omega)).trans ho
/-- The same, and rows of signs stay rows of signs, parts stay as they were. -/
structure Spo (B T : Nat) (w w' : World) : Prop where
  rng : Rng B T w w'
  row : ∀ (g : Nat) (cur : Array Value), w.heap[g]? = some (.cells cur 21 (0, 0)) → ∃ cur', w'.heap[g]? = some (.cells cur' 21 (0, 0)) ∧ cur'.size = cur.size
  frm : ∀ (g : Nat) (cur : Array Value), w.heap[g]? = some (.cells cur 34 (0, 0)) → w'.heap[g]? = some (.cells cur 34 (0, 0))
theorem Spo.refl (B T : Nat) (w : World) : Spo B T w w := ⟨Rng.refl _ _ _, fun _ cur h => ⟨cur, h, rfl⟩, fun _ _ h => h⟩
theorem Spo.set {B T g o : Nat} {w a : World} {cur : Array Value} (h : Spo B T w a) (u : Value) (hB : B ≤ g) (hT : g < T) (hg : a.heap[g]? = some (.cells cur 21 (0, 0))) : Spo B T w (a.setCell ⟨g, o, none⟩ u) := by
  refine ⟨h.rng.trans (Rng.set a u hB hT), fun g2 cu hg2 => ?_, fun g2 cu hg2 => ?_⟩
  · obtain ⟨cu2, h1, h2⟩ := h.row g2 cu hg2
    by_cases e : g2 = g
    · subst e
      exact ⟨_, heap_set h1, by simpa using h2⟩
    · exact ⟨cu2, by rw [heap_ne e]; exact h1, h2⟩
  · have h1 := h.frm g2 cu hg2
    have e : g2 ≠ g := by
      intro e
      subst e
      rw [hg] at h1
      injection h1 with h1
      injection h1 with _ h1 _
      exact absurd h1 (by decide)
    rw [heap_ne e]; exact h1
theorem Spo.drewN {B T n : Nat} {w a : World} (h : Spo B T w a) : Spo B T w (a.drewN n) := ⟨h.rng.trans (Rng.of_ext ((Ext.refl a).drewN n)), h.row, h.frm⟩
/-- A row of signs that may be written over. -/
def Shp (B T : Nat) (w : World) (v : Value) : Prop :=
  ∃ (A : Option Addr) (n c : Nat), v = .slice A n c ∧ n ≤ c ∧ c ≤ 9223372036854775807 ∧ (A = none → n = 0) ∧ ∀ ad, A = some ad → ∃ g o cur, ad = ⟨g, o, none⟩ ∧ B ≤ g ∧ g < T ∧ w.heap[g]? = some (.cells cur 21 (0, 0)) ∧ o + n ≤ cur.size
theorem Shp.of {B T : Nat} {w : World} {v : Value} {xs : List Int} (h : SlB 21 1 Cc B w v xs) (hb : Blo T v) : Shp B T w v := by
  obtain ⟨A, c, rfl, hl, hc, hn, ha⟩ := h
  refine ⟨A, xs.length, c, rfl, hl, hc, fun e => by have := hn e; omega, fun ad had => ?_⟩
  obtain ⟨g, o, cur, h1, h2, h3, h4, _⟩ := ha ad had
  refine ⟨g, o, cur, h1, h2, ?_, h3, by omega⟩
  have := hb ad xs.length c (by rw [had])
  rw [h1] at this; exact this
theorem Shp.spo {B T : Nat} {w w' : World} {v : Value} (h : Shp B T w v) (hr : ∀ (g : Nat) (cur : Array Value), w.heap[g]? = some (.cells cur 21 (0, 0)) → ∃ cur', w'.heap[g]? = some (.cells cur' 21 (0, 0)) ∧ cur'.size = cur.size) : Shp B T w' v := by
  obtain ⟨A, n, c, rfl, hl, hc, hn, ha⟩ := h
  refine ⟨A, n, c, rfl, hl, hc, hn, fun ad had => ?_⟩
  obtain ⟨g, o, cur, h1, h2, h3, h4, h5⟩ := ha ad had
  obtain ⟨cur', h6, h7⟩ := hr g cur h4
  exact ⟨g, o, cur', h1, h2, h3, h6, by omega⟩

def SpoP (B T : Nat) (w : World) (e : Ending) (w' : World) : Prop := e = .returned (.tuple #[]) ∧ Spo B T w w'
set_option maxHeartbeats 1000000 in
theorem kspoil_any (B T : Nat) (v : Value) (w : World) (h : Shp B T w v) : Calls Tryd.prog 19 #[v] w (SpoP B T w) := by
  have H := Lib.hid h
  obtain ⟨A, n, c, rfl, hnc, hcm, -⟩ := id h
  clear h
  go_enter Tryd.func19, Tryd.ntmps19
  go_wp2_with fail
  go_loopw [2] (fun i wr => ∃ k : Nat, k ≤ n ∧ i = .int .i64 (k : Int) ∧ Spo B T w wr) (fun i _ => n - (intOf i).toNat)
  case atStart => exact ⟨0, Nat.zero_le _, rfl, Spo.refl _ _ _⟩
  case round =>
    obtain ⟨k, hk, rfl, hS⟩ := hrel
    have HS := Lib.hid hS
    by_cases hlt : k < n
    · obtain ⟨A', n', c', hv, hl, _, hn, ha⟩ := H.out.spo hS.row
      injection hv with e1 e2 e3
      subst e1 e2 e3
      cases A with
      | none => have := hn rfl; omega
      | some ad =>
        obtain ⟨g, o, cur, rfl, hB, hT, hg, hs⟩ := ha ad rfl
        have hc := cell_of_row wr g (o + k) _ _ _ hg
        rw [Array.getElem?_eq_getElem (by omega)] at hc
        have hf := frozen_of_row wr g (o + k) _ _ hg
        have HG := Lib.hid (And.intro hB (And.intro hT hg))
        generalize cur[o + k]'(by omega) = u at hc
        clear hB hT hg hS hl hn ha
        go_wp2_with fail
        go_roundw
        case rel => exact ⟨k + 1, by omega, by go_num, HS.out.set _ HG.out.1 HG.out.2.1 HG.out.2.2⟩
        case measure => simp [intOf]; omega
    · clear hS
      go_wp2_with fail
      go_end0
      exact ⟨rfl, HS.out⟩

/-- Inside of spoil: the parts' kinds may be other ones, their texts' places are as they were. -/
structure SpoF (B T g o n : Nat) (cur : Array Value) (w w' : World) : Prop where
  rng : Rng B T w w'
  row : ∀ (g : Nat) (cur : Array Value), w.heap[g]? = some (.cells cur 21 (0, 0)) → ∃ cur', w'.heap[g]? = some (.cells cur' 21 (0, 0)) ∧ cur'.size = cur.size
  frm : ∃ cur', w'.heap[g]? = some (.cells cur' 34 (0, 0)) ∧ cur'.size = cur.size ∧ ∀ k i, (i = 3 ∨ i = 4) → cur'[o + k * 5 + i]? = cur[o + k * 5 + i]?
theorem SpoF.spo {B T g o n : Nat} {cur : Array Value} {w a b : World} (h : SpoF B T g o n cur w a) (k : Spo B T a b) : SpoF B T g o n cur w b := by
  refine ⟨h.rng.trans k.rng, fun g2 cu hg2 => ?_, ?_⟩
  · obtain ⟨c1, h1, h2⟩ := h.row g2 cu hg2
    obtain ⟨c2, h3, h4⟩ := k.row g2 c1 h1
    exact ⟨c2, h3, h4.trans h2⟩
  · obtain ⟨c1, h1, h2⟩ := h.frm
    exact ⟨c1, k.frm g c1 h1, h2⟩
theorem SpoF.set {B T g o n k : Nat} {cur : Array Value} {w a : World} (h : SpoF B T g o n cur w a) (u : Value) (hB : B ≤ g) (hT : g < T) : SpoF B T g o n cur w (a.setCell ⟨g, o + k * 5, none⟩ u) := by
  obtain ⟨c1, h1, h2, h3⟩ := h.frm
  refine ⟨h.rng.trans (Rng.set a u hB hT), fun g2 cu hg2 => ?_, _, heap_set h1, by simpa using h2, fun j i hi => ?_⟩
  · obtain ⟨cu2, h4, h5⟩ := h.row g2 cu hg2
    have e : g2 ≠ g := by
      intro e
      subst e
      rw [h1] at h4
      injection h4 with h4
      injection h4 with _ h4 _
      exact absurd h4 (by decide)
    exact ⟨cu2, by rw [heap_ne e]; exact h4, h5⟩
  · rw [← h3 j i hi, Array.getElem?_setIfInBounds_ne (by omega)]

def RngP (B T : Nat) (w : World) (e : Ending) (w' : World) : Prop := e = .returned (.tuple #[]) ∧ Rng B T w w'
set_option maxRecDepth 100000 in
set_option maxHeartbeats 1000000 in
theorem lspoil_any (B T : Nat) (v : Value) (l : List FM.Form) (w : World) (h : SlB 34 5 (CFT B T) B w v l) (hb : Blo T v) : Calls Tryd.prog 28 #[v] w (RngP B T w) := by
  have H := Lib.hid h
  have HBL := Lib.hid hb
  obtain ⟨A, c, rfl, hnc, hcm, hn, ha⟩ := id h
  cases A with
  | none =>
    obtain ⟨rfl, -, -⟩ := SlB.none_ h
    clear h hb ha hn
    go_enter Tryd.func28, Tryd.ntmps28
    go_wp2_with fail
    go_loopw [5] (fun i wr => i = .int .i64 0 ∧ wr = w) (fun i _ => 0)
    case atStart => exact ⟨rfl, rfl⟩
    case round =>
      obtain ⟨rfl, rfl⟩ := hrel
      go_wp2_with fail
      go_end0
      exact ⟨rfl, Rng.refl _ _ _⟩
  | some ad =>
    obtain ⟨g, o, cur, rfl, hB, hg, hsz, hcells⟩ := ha ad rfl
    have hT : g < T := hb _ _ _ rfl
    have HG := Lib.hid (And.intro hB hT)
    have HCELLS := Lib.hid hcells
    have HS0 := Lib.hid (show SpoF B T g o l.length cur w w from ⟨Rng.refl _ _ _, fun _ cur h => ⟨cur, h, rfl⟩, cur, hg, rfl, fun _ _ _ => rfl⟩)
    have HSP := Lib.hid (fun v W => kspoil_any B T v W)
    clear h hb ha hn hB hT hg hcells
    go_enter Tryd.func28, Tryd.ntmps28
    go_wp2_with fail
    go_loopw [5] (fun i wr => ∃ k : Nat, k ≤ l.length ∧ i = .int .i64 (k : Int) ∧ SpoF B T g o l.length cur w wr) (fun i _ => l.length - (intOf i).toNat)
    case atStart => exact ⟨0, Nat.zero_le _, rfl, HS0.out⟩
    case round =>
      obtain ⟨k, hk, rfl, hS⟩ := hrel
      have HS := Lib.hid hS
      by_cases hlt : k < l.length
      · obtain ⟨cs, ⟨vt, ve, rfl, ⟨ht, htb⟩, he, heb⟩, hcs⟩ := HCELLS.out k _ (List.getElem?_eq_getElem hlt)
        have HT1 := Lib.hid ((Shp.of ht htb).spo hS.row)
        have HE1 := Lib.hid ((Shp.of he heb).spo hS.row)
        obtain ⟨At, ct, rfl, -⟩ := ht.form
        obtain ⟨Ae, ce, rfl, -⟩ := he.form
        obtain ⟨cur1, h1, h2, h3⟩ := hS.frm
        have c3 := cell_of_row wr g (o + k * 5 + 3) _ _ _ h1
        have c4 := cell_of_row wr g (o + k * 5 + 4) _ _ _ h1
        have c0 := cell_of_row wr g (o + k * 5) _ _ _ h1
        have f0 := frozen_of_row wr g (o + k * 5) _ _ h1
        rw [h3 k 3 (.inl rfl), hcs 3 _ rfl] at c3
        rw [h3 k 4 (.inr rfl), hcs 4 _ rfl] at c4
        rw [Array.getElem?_eq_getElem (by omega)] at c0
        generalize cur1[o + k * 5]'(by omega) = u at c0
        have HH := Lib.hid h1
        have tok1 : True := trivial
        clear hS ht htb he heb hcs h1 h2 h3
        go_wp2_with (first
          | (go_at_call 19; have _t := tok1; go_loud (refine (HSP.out _ _ HT1.out).mono ?_; rintro e w2 ⟨rfl, hs2⟩; have h9 := hs2.frm _ _ HH.out; have HH2 := Lib.hid h9; have d4 := (cell_of_row w2 g (o + k * 5 + 4) _ _ _ h9).trans ((cell_of_row wr g (o + k * 5 + 4) _ _ _ HH.out).symm.trans c4); have HE2 := Lib.hid (HE1.out.spo hs2.row); have HS2 := Lib.hid (HS.out.spo hs2); clear hs2 h9; clear tok1 _t))
          | (go_at_call 19; go_loud (refine (HSP.out _ _ HE2.out).mono ?_; rintro e w3 ⟨rfl, hs3⟩; have h9 := hs3.frm _ _ HH2.out; have HS3 := Lib.hid (HS2.out.spo hs3); have e0 := (cell_of_row w3 g (o + k * 5) _ _ _ h9).trans ((cell_of_row wr g (o + k * 5) _ _ _ HH.out).symm.trans c0); have g0 := frozen_of_row w3 g (o + k * 5) _ _ h9; clear hs3 h9)))
        go_roundw
        case rel => exact ⟨k + 1, by omega, by go_num, HS3.out.set _ HG.out.1 HG.out.2⟩
        case measure => simp [intOf]; omega
      · clear hS
        go_wp2_with fail
        go_end0
        exact ⟨rfl, HS.out.rng⟩

/-- Behind Lend: what was lent, with room behind it. -/
def LendP (s : List Int) (w : World) (e : Ending) (w' : World) : Prop :=
  Ext w w' ∧ ∃ g c, e = .returned (.slice (some ⟨g, 0, none⟩) s.length c) ∧ s.length + 2 ≤ c ∧ OwnB 21 1 Cc w.heap.size w' (.slice (some ⟨g, 0, none⟩) (s.length + 2) c) (s ++ [-77, -78])
theorem run_sl_hi {P : Program} {t e : TypeId} {i : TypeInfo} (ht : P.underlying t = some (.slice e)) (hi : P.info? e = some i) (A : Option Addr) {n c m : Nat} (hm : m ≤ c) (W : World) :
    (Instr.slice t (.slice A n c) none (some (.int .i64 (m : Int))) none).run P W = .ok (.slice A m c) W := by
  have h1 : (m : Int) ≤ c := by omega
  simp [Instr.slice, Instr.sliceBounds, run_underlying ht, sizeOf, typeInfo, hi, run_sliceBound, h1]
  intro _
  cases A <;> simp [Addr.add]
end Go.Proofs.YtfblkahjefdmaaaDoor
