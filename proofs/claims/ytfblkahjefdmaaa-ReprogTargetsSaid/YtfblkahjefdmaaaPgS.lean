/- Literal rows of parts; walk: loop of package reprog. -/
import Derived.Test.YtfblkahjefdmaaaPgR
import Derived.Deep.RegionHeld3
import Derived.IntWalk
namespace Go.Proofs.Ytfblkahjefdmaaa
open Go.RowKit

/-- A part's own cells. -/
abbrev PtV (A : Option Addr) (c : Nat) (p : PG.Part) : List Value := [.slice A p.l.length c, .int .i64 (p.n : Int)]
theorem ptC {S : Nat → Prop} {w : World} {A : Option Addr} {c : Nat} {p : PG.Part} (h : SlN S w (.slice A p.l.length c) p.l) : PtC S w (PtV A c p) p := ⟨A, c, rfl, h⟩
/-- A literal row of parts. -/
theorem parts_lit {S : Nat → Prop} {w : World} {cells : Array Value} {ps : List PG.Part} {t : TypeId} {g n : Nat} (hg : g = w.heap.size) (hn : n = ps.length) (hm : n ≤ 1000) (hS : NewIn S w)
    (h : ∀ k p, ps[k]? = some p → ∃ A c, SlN S w (.slice A p.l.length c) p.l ∧ cells[k * 2]? = some (.slice A p.l.length c) ∧ cells[k * 2 + 1]? = some (.int .i64 (p.n : Int))) :
    SlP S (w.alloc (.cells cells t)) (.slice (some ⟨g, 0, none⟩) n n) ps := by
  subst hg hn
  refine ⟨hS.ext ((Ext.refl w).alloc _), _, ps.length, rfl, Nat.le_refl _, by omega, fun k p hp => ?_, by intro h; cases h⟩
  obtain ⟨A, c, h1, h2, h3⟩ := h k p hp
  refine ⟨w.heap.size, 0, rfl, _, (ptC h1).ext ((Ext.refl w).alloc _), fun j u hu => ?_⟩
  rw [Nat.zero_add, World.cell?_alloc_new]
  match j, hu with
  | 0, hu => simp [PtV] at hu; subst hu; exact h2
  | 1, hu => simp [PtV] at hu; subst hu; exact h3
  | j + 2, hu => simp [PtV] at hu
theorem parts2 {S : Nat → Prop} {w : World} {t : TypeId} {g : Nat} {p q : PG.Part} {A B : Option Addr} {a b : Nat} (hg : g = w.heap.size) (hp : SlN S w (.slice A p.l.length a) p.l) (hq : SlN S w (.slice B q.l.length b) q.l) :
    SlP S (w.alloc (.cells #[.slice A p.l.length a, .int .i64 (p.n : Int), .slice B q.l.length b, .int .i64 (q.n : Int)] t)) (.slice (some ⟨g, 0, none⟩) 2 2) [p, q] := by
  refine parts_lit hg rfl (by decide) hp.1 fun k x hx => ?_
  match k, hx with
  | 0, hx => simp at hx; subst hx; exact ⟨_, _, hp, rfl, rfl⟩
  | 1, hx => simp at hx; subst hx; exact ⟨_, _, hq, rfl, rfl⟩
theorem parts3 {S : Nat → Prop} {w : World} {t : TypeId} {g : Nat} {p q r : PG.Part} {A B C : Option Addr} {a b c : Nat} (hg : g = w.heap.size) (hp : SlN S w (.slice A p.l.length a) p.l) (hq : SlN S w (.slice B q.l.length b) q.l) (hr : SlN S w (.slice C r.l.length c) r.l) :
    SlP S (w.alloc (.cells #[.slice A p.l.length a, .int .i64 (p.n : Int), .slice B q.l.length b, .int .i64 (q.n : Int), .slice C r.l.length c, .int .i64 (r.n : Int)] t)) (.slice (some ⟨g, 0, none⟩) 3 3) [p, q, r] := by
  refine parts_lit hg rfl (by decide) hp.1 fun k x hx => ?_
  match k, hx with
  | 0, hx => simp at hx; subst hx; exact ⟨_, _, hp, rfl, rfl⟩
  | 1, hx => simp at hx; subst hx; exact ⟨_, _, hq, rfl, rfl⟩
  | 2, hx => simp at hx; subst hx; exact ⟨_, _, hr, rfl, rfl⟩
theorem parts4 {S : Nat → Prop} {w : World} {t : TypeId} {g : Nat} {p q r s : PG.Part} {A B C D : Option Addr} {a b c d : Nat} (hg : g = w.heap.size) (hp : SlN S w (.slice A p.l.length a) p.l) (hq : SlN S w (.slice B q.l.length b) q.l) (hr : SlN S w (.slice C r.l.length c) r.l) (hs : SlN S w (.slice D s.l.length d) s.l) :
    SlP S (w.alloc (.cells #[.slice A p.l.length a, .int .i64 (p.n : Int), .slice B q.l.length b, .int .i64 (q.n : Int), .slice C r.l.length c, .int .i64 (r.n : Int), .slice D s.l.length d, .int .i64 (s.n : Int)] t)) (.slice (some ⟨g, 0, none⟩) 4 4) [p, q, r, s] := by
  refine parts_lit hg rfl (by decide) hp.1 fun k x hx => ?_
  match k, hx with
  | 0, hx => simp at hx; subst hx; exact ⟨_, _, hp, rfl, rfl⟩
  | 1, hx => simp at hx; subst hx; exact ⟨_, _, hq, rfl, rfl⟩
  | 2, hx => simp at hx; subst hx; exact ⟨_, _, hr, rfl, rfl⟩
  | 3, hx => simp at hx; subst hx; exact ⟨_, _, hs, rfl, rfl⟩
/-- A part that may be put into a row. -/
def Rok (p : PG.Part) : Prop := PG.Fine p ∧ ∀ i ∈ p.l, MovOk i
theorem rowable2 {p q : PG.Part} (h1 : Rok p) (h2 : Rok q) : Rowable [p, q] := by
  intro x hx
  simp at hx
  rcases hx with rfl | rfl
  · exact h1
  · exact h2
theorem rowable3 {p q r : PG.Part} (h1 : Rok p) (h2 : Rok q) (h3 : Rok r) : Rowable [p, q, r] := by
  intro x hx
  simp at hx
  rcases hx with rfl | rfl | rfl
  · exact h1
  · exact h2
  · exact h3
theorem rowable4 {p q r s : PG.Part} (h1 : Rok p) (h2 : Rok q) (h3 : Rok r) (h4 : Rok s) : Rowable [p, q, r, s] := by
  intro x hx
  simp at hx
  rcases hx with rfl | rfl | rfl | rfl
  · exact h1
  · exact h2
  · exact h3
  · exact h4
theorem rok_split {far : Int} (lz : Bool) (h : -1000 ≤ far ∧ far ≤ 1000) : Rok (PG.split far lz) := by
  refine ⟨PG.split_fine _ _, fun i hi => ?_⟩
  cases lz
  all_goals
    simp [PG.split, PG.one] at hi
    subst hi
    exact ⟨fun _ => by simp; omega, fun h => by simp at h⟩
theorem rok_jump {far : Int} (h : -1000 ≤ far ∧ far ≤ 1000) : Rok (PG.jump far) := by
  refine ⟨PG.jump_fine _, fun i hi => ?_⟩
  simp [PG.jump, PG.one] at hi
  subst hi
  exact ⟨fun h => by simp at h, fun _ => by simpa using h⟩
theorem rok_save {far : Int} : Rok (PG.save far) := by
  refine ⟨PG.save_fine _, fun i hi => ?_⟩
  simp [PG.save, PG.one] at hi
  subst hi
  exact ⟨fun h => by simp at h, fun h => by simp at h⟩
theorem rok_nil : Rok ⟨[], 0⟩ := ⟨.inl ⟨by decide, rfl⟩, fun i hi => by simp at hi⟩
theorem Rok.of_ok {g : Nat} {p : PG.Part} (h : PG.Ok g p) : Rok p := by
  have hn : p.n ≤ 301 := by rcases h.1 with ⟨h1, h2⟩ | ⟨h1, h2⟩ <;> omega
  refine ⟨h.1, fun i hi => ?_⟩
  obtain ⟨k, hk, rfl⟩ := List.getElem_of_mem hi
  have := h.2 k _ (List.getElem?_eq_getElem hk)
  refine ⟨fun ho => ?_, fun ho => ?_⟩
  · have := this.1 ho; omega
  · have := this.2.1 ho; omega
theorem Rok.le {p : PG.Part} (h : Rok p) : p.n ≤ 301 := by rcases h.1 with ⟨h1, h2⟩ | ⟨h1, h2⟩ <;> omega
/-- The result, stored in its box. -/
theorem part_retB {S : Nat → Prop} {p : PG.Part} {w wr : World} {rb : Nat} {A : Option Addr} {c : Nat} (hx : Ext w wr) (hlo : w.heap.size ≤ rb) (hb : wr.heap[rb]? = some (.cells #[.slice none 0 0, .int .i64 0] 103 (0, 0))) (hl : SlN S wr (.slice A p.l.length c) p.l) :
    PartR S p w (.returned (.agg #[.slice A p.l.length c, .int .i64 (p.n : Int)])) ((wr.setCell ⟨rb, 0, none⟩ (.slice A p.l.length c)).setCell ⟨rb, 1, none⟩ (.int .i64 (p.n : Int))) :=
  ⟨(hx.set (p := ⟨rb, 0, none⟩) hlo _).set (p := ⟨rb, 1, none⟩) hlo _, A, c, rfl, hl.off hb (by intro x h; cases h) (fun i hi => (heap_off hi).trans (heap_off hi)) (by simp)⟩
/-- What a call on parts finds: the part's box, the result's box. -/
structure Pbx (w : World) (pb rb : Nat) (v : Value) (n : Int) (wr : World) : Prop where
  ext : Ext w wr
  lo : w.heap.size ≤ rb
  box : wr.heap[pb]? = some (.cells #[v, .int .i64 n] 103 (0, 0))
  res : wr.heap[rb]? = some (.cells #[.slice none 0 0, .int .i64 0] 103 (0, 0))
section
variable {w wr w' : World} {pb rb : Nat} {v : Value} {n : Int}
theorem Pbx.ext_ (h : Pbx w pb rb v n wr) (hx : Ext wr w') : Pbx w pb rb v n w' := ⟨h.ext.trans hx, h.lo, hx.heap h.box, hx.heap h.res⟩
theorem Pbx.c0 (h : Pbx w pb rb v n wr) : wr.cell? ⟨pb, 0, none⟩ = some v := cell_of_row wr pb 0 _ _ _ h.box
theorem Pbx.c1 (h : Pbx w pb rb v n wr) : wr.cell? ⟨pb, 1, none⟩ = some (.int .i64 n) := cell_of_row wr pb 1 _ _ _ h.box
theorem Pbx.r0 (h : Pbx w pb rb v n wr) : wr.cell? ⟨rb, 0, none⟩ = some (.slice none 0 0) := cell_of_row wr rb 0 _ _ _ h.res
theorem Pbx.r1 (h : Pbx w pb rb v n wr) : wr.cell? ⟨rb, 1, none⟩ = some (.int .i64 0) := cell_of_row wr rb 1 _ _ _ h.res
theorem Pbx.fr (h : Pbx w pb rb v n wr) (o : Nat) : wr.frozen? ⟨rb, o, none⟩ = false := frozen_of_row wr rb o _ _ h.res
end
theorem heap_alloc_2 (w : World) (a b : Obj) : ((w.alloc a).alloc b).heap[w.heap.size + 1]? = some b := by
  have h := heap_alloc_new (w.alloc a) b
  rwa [show (w.alloc a).heap.size = w.heap.size + 1 by simp] at h
theorem heap_alloc_1 (w : World) (a b : Obj) : ((w.alloc a).alloc b).heap[w.heap.size]? = some a := by
  exact ((Ext.refl _).alloc b).heap (heap_alloc_new w a)
set_option maxRecDepth 100000 in
set_option maxHeartbeats 4000000 in
theorem ploop_any {S : Nat → Prop} (p : PG.Part) (lz : Bool) (A : Option Addr) (c : Nat) (w : World) (hs : SlN S w (.slice A p.l.length c) p.l) (hp : Rok p) :
    Calls Try.prog 102 #[.agg #[.slice A p.l.length c, .int .i64 (p.n : Int)], .bool lz] w (PartR S (PG.loop p lz) w) := by
  have HS := Lib.hid hs
  have HP := Lib.hid hp
  have hpn := hp.le
  have HSP := Lib.hid (psplit_all ((p.n : Int) + 2) lz)
  have HJ := Lib.hid (pjump_any (-(p.n : Int) - 1))
  have HRW := Lib.hid (rowable3 (rok_split (far := (p.n : Int) + 2) lz (by omega)) hp (rok_jump (far := -(p.n : Int) - 1) (by omega)))
  have HL0 := Lib.hid (show PG.loop p lz = PG.row [PG.split ((p.n : Int) + 2) lz, p, PG.jump (-(p.n : Int) - 1)] from rfl)
  obtain ⟨R, hR⟩ : ∃ R, PG.loop p lz = R := ⟨_, rfl⟩
  rw [hR] at HL0 ⊢
  obtain ⟨p1, hp1⟩ : ∃ q, PG.split ((p.n : Int) + 2) lz = q := ⟨_, rfl⟩
  obtain ⟨p2, hp2⟩ : ∃ q, PG.jump (-(p.n : Int) - 1) = q := ⟨_, rfl⟩
  rw [hp1] at HSP HRW HL0
  rw [hp2] at HJ HRW HL0
  have HROW := Lib.hid (fun v w (h : SlP S w v [p1, p, p2]) => prow_any [p1, p, p2] v w h HRW.out)
  rw [← HL0.out] at HROW
  clear hs hp hR hp1 hp2
  go_enter Try.func102, Try.ntmps102
  go_upto_region 1 with fail
  have HC := Lib.hid (show Pbx w w.heap.size (w.heap.size + 1) (.slice A p.l.length c) (p.n : Int) _ from ⟨((Ext.refl w).alloc (.cells #[.slice A p.l.length c, .int .i64 (p.n : Int)] 103)).alloc (.cells #[.slice none 0 0, .int .i64 0] 103), Nat.le_succ _, heap_alloc_1 _ _ _, heap_alloc_2 _ _ _⟩)
  generalize (w.alloc (.cells #[.slice A p.l.length c, .int .i64 (p.n : Int)] 103)).alloc (.cells #[.slice none 0 0, .int .i64 0] 103) = w1 at HC ⊢
  generalize hrb : w.heap.size + 1 = rb at HC ⊢
  generalize hpb : w.heap.size = pb at HC hrb ⊢
  have hpr : pb ≠ rb := by omega
  have hrp : rb ≠ pb := by omega
  clear hpb hrb
  have c0 := HC.out.c0
  have c1 := HC.out.c1
  have s1 : IntKind.i64.wrap ((p.n : Int) + 2) = (p.n : Int) + 2 := IntWalk.i64_in _ (by omega)
  have s2 : IntKind.i64.wrap (-(p.n : Int)) = -(p.n : Int) := IntWalk.i64_in _ (by omega)
  have s3 : IntKind.i64.wrap (-(p.n : Int) - 1) = -(p.n : Int) - 1 := IntWalk.i64_in _ (by omega)
  go_region_held3 (fun w' => w'.cell? ⟨pb, 0, none⟩ = some (.slice A p.l.length c) ∧ w'.cell? ⟨pb, 1, none⟩ = some (.int .i64 (p.n : Int)))
    (first | go_keep | (go_split_ands; refine ⟨?_, ?_⟩ <;> (refine Ext.cell (by assumption) ?_; assumption)))
    (first
      | (go_at_call 123; go_loud (refine (HSP.out _).mono ?_); go_loud (rintro e w2 ⟨hx2, A2, c2, rfl, hl2⟩; have HL2 := Lib.hid (hl2.new (HS.out.1.ext (HC.out.ext.trans ((Ext.refl _).drew)))); have HC2 := Lib.hid (HC.out.ext_ (((Ext.refl _).drew).trans hx2)); clear hl2))
      | (go_at_call 124; go_loud (refine (HJ.out _).mono ?_); go_loud (rintro e w3 ⟨hx3, A3, c3, rfl, hl3⟩; have HL3 := Lib.hid (hl3.new (HS.out.1.ext HC2.out.ext)); have HL23 := Lib.hid (HL2.out.ext hx3); have HC3 := Lib.hid (HC2.out.ext_ hx3); have HS3 := Lib.hid (HS.out.ext HC3.out.ext); clear hl3))
      | (go_at_call 66; go_loud (refine (HROW.out _ _ (parts3 (by simp) HL23.out HS3.out HL3.out)).mono ?_); go_loud (rintro e w4 ⟨hx4, A4, c4, rfl, hl4⟩; have HL4 := Lib.hid hl4; have HC4 := Lib.hid (HC3.out.ext_ (((Ext.refl _).alloc _).trans hx4)); have r0 := HC4.out.r0; have r1 := HC4.out.r1; have f0 := HC4.out.fr 0; have f1 := HC4.out.fr 1; clear hl4)))
  go_wp2_with fail
  refine bodyPost_ret (v := .agg #[.slice A4 R.l.length c4, .int .i64 (R.n : Int)]) (by simp [results, Try.results102, go_sem, r0, r1]) rfl ?_
  exact part_retB HC4.out.ext HC4.out.lo HC4.out.res HL4.out
end Go.Proofs.Ytfblkahjefdmaaa
