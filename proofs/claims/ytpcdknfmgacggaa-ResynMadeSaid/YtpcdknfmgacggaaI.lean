/- For ResynMadeS: what the texts XPgS XPgU XPgV of wip/tpl say. -/
import Derived.Test.YtpcdknfmgacggaaH
import Derived.Deep.RegionHeld3
import Derived.IntWalk
namespace Go.Proofs.Ytpcdknfmgacggaa
open Go.RowKit
/-- A part's own cells. -/
abbrev PtV (A : Option Addr) (c : Nat) (p : PG.Part) : List Value := [.slice A p.l.length c, .int .i64 (p.n : Int)]
theorem ptC {S : Nat → Prop} {w : World} {A : Option Addr} {c : Nat} {p : PG.Part} (h : SlN S w (.slice A p.l.length c) p.l) : PtC S w (PtV A c p) p := ⟨A, c, rfl, h⟩
/-- A literal row of parts. -/
theorem parts_lit {S : Nat → Prop} {w : World} {cells : Array Value} {ps : List PG.Part} {t : TypeId} {g n : Nat} (hg : g = w.heap.size) (hn : n = ps.length) (hm : n ≤ 1000) (hS : NewIn S w)
    (h : ∀ k p, ps[k]? = some p → ∃ A c, SlN S w (.slice A p.l.length c) p.l ∧ cells[k * 2]? = some (.slice A p.l.length c) ∧ cells[k * 2 + 1]? = some (.int .i64 (p.n : Int))) :
    SlP S (w.alloc (.cells cells t)) (.slice (some ⟨g, 0, none⟩) n n) ps := by
  subst hg hn
  refine ⟨hS.ext ((Ext.refl w).alloc _), _, ps.length, rfl, Nat.le_refl _, by omega, fun k p hp => ?_, by intro h; cases h⟩
  obtain ⟨A, c, h1, h2, h3⟩ := h k p hp
  refine ⟨w.heap.size, 0, rfl, _, (ptC h1).ext ((Ext.refl w).alloc _), fun j u hu => ?_⟩
  rw [Nat.zero_add, World.cell?_alloc_new]
  match j, hu with
  | 0, hu => simp [PtV] at hu; subst hu; exact h2
  | 1, hu => simp [PtV] at hu; subst hu; exact h3
  | j + 2, hu => simp [PtV] at hu
theorem parts2 {S : Nat → Prop} {w : World} {t : TypeId} {g : Nat} {p q : PG.Part} {A B : Option Addr} {a b : Nat} (hg : g = w.heap.size) (hp : SlN S w (.slice A p.l.length a) p.l) (hq : SlN S w (.slice B q.l.length b) q.l) :
    SlP S (w.alloc (.cells #[.slice A p.l.length a, .int .i64 (p.n : Int), .slice B q.l.length b, .int .i64 (q.n : Int)] t)) (.slice (some ⟨g, 0, none⟩) 2 2) [p, q] := by
  refine parts_lit hg rfl (by decide) hp.1 fun k x hx => ?_
  match k, hx with
  | 0, hx => simp at hx; subst hx; exact ⟨_, _, hp, rfl, rfl⟩
  | 1, hx => simp at hx; subst hx; exact ⟨_, _, hq, rfl, rfl⟩
theorem parts3 {S : Nat → Prop} {w : World} {t : TypeId} {g : Nat} {p q r : PG.Part} {A B C : Option Addr} {a b c : Nat} (hg : g = w.heap.size) (hp : SlN S w (.slice A p.l.length a) p.l) (hq : SlN S w (.slice B q.l.length b) q.l) (hr : SlN S w (.slice C r.l.length c) r.l) :
    SlP S (w.alloc (.cells #[.slice A p.l.length a, .int .i64 (p.n : Int), .slice B q.l.length b, .int .i64 (q.n : Int), .slice C r.l.length c, .int .i64 (r.n : Int)] t)) (.slice (some ⟨g, 0, none⟩) 3 3) [p, q, r] := by
  refine parts_lit hg rfl (by decide) hp.1 fun k x hx => ?_
  match k, hx with
  | 0, hx => simp at hx; subst hx; exact ⟨_, _, hp, rfl, rfl⟩
  | 1, hx => simp at hx; subst hx; exact ⟨_, _, hq, rfl, rfl⟩
  | 2, hx => simp at hx; subst hx; exact ⟨_, _, hr, rfl, rfl⟩
theorem parts4 {S : Nat → Prop} {w : World} {t : TypeId} {g : Nat} {p q r s : PG.Part} {A B C D : Option Addr} {a b c d : Nat} (hg : g = w.heap.size) (hp : SlN S w (.slice A p.l.length a) p.l) (hq : SlN S w (.slice B q.l.length b) q.l) (hr : SlN S w (.slice C r.l.length c) r.l) (hs : SlN S w (.slice D s.l.length d) s.l) :
    SlP S (w.alloc (.cells #[.slice A p.l.length a, .int .i64 (p.n : Int), .slice B q.l.length b, .int .i64 (q.n : Int), .slice C r.l.length c, .int .i64 (r.n : Int), .slice D s.l.length d, .int .i64 (s.n : Int)] t)) (.slice (some ⟨g, 0, none⟩) 4 4) [p, q, r, s] := by
  refine parts_lit hg rfl (by decide) hp.1 fun k x hx => ?_
  match k, hx with
  | 0, hx => simp at hx; subst hx; exact ⟨_, _, hp, rfl, rfl⟩
  | 1, hx => simp at hx; subst hx; exact ⟨_, _, hq, rfl, rfl⟩
  | 2, hx => simp at hx; subst hx; exact ⟨_, _, hr, rfl, rfl⟩
  | 3, hx => simp at hx; subst hx; exact ⟨_, _, hs, rfl, rfl⟩
/-- A part that may be put into a row. -/
def Rok (p : PG.Part) : Prop := PG.Fine p ∧ ∀ i ∈ p.l, MovOk i
theorem rowable2 {p q : PG.Part} (h1 : Rok p) (h2 : Rok q) : Rowable [p, q] := by
  intro x hx
  simp at hx
  rcases hx with rfl | rfl
  · exact h1
  · exact h2
theorem rowable3 {p q r : PG.Part} (h1 : Rok p) (h2 : Rok q) (h3 : Rok r) : Rowable [p, q, r] := by
  intro x hx
  simp at hx
  rcases hx with rfl | rfl | rfl
  · exact h1
  · exact h2
  · exact h3
theorem rowable4 {p q r s : PG.Part} (h1 : Rok p) (h2 : Rok q) (h3 : Rok r) (h4 : Rok s) : Rowable [p, q, r, s] := by
  intro x hx
  simp at hx
  rcases hx with rfl | rfl | rfl | rfl
  · exact h1
  · exact h2
  · exact h3
  · exact h4
theorem rok_split {far : Int} (lz : Bool) (h : -1000 ≤ far ∧ far ≤ 1000) : Rok (PG.split far lz) := by
  refine ⟨PG.split_fine _ _, fun i hi => ?_⟩
  cases lz
  all_goals
    simp [PG.split, PG.one] at hi
    subst hi
    exact ⟨fun _ => by simp; omega, fun h => by simp at h⟩
theorem rok_jump {far : Int} (h : -1000 ≤ far ∧ far ≤ 1000) : Rok (PG.jump far) := by
  refine ⟨PG.jump_fine _, fun i hi => ?_⟩
  simp [PG.jump, PG.one] at hi
  subst hi
  exact ⟨fun h => by simp at h, fun _ => by simpa using h⟩
theorem rok_save {far : Int} : Rok (PG.save far) := by
  refine ⟨PG.save_fine _, fun i hi => ?_⟩
  simp [PG.save, PG.one] at hi
  subst hi
  exact ⟨fun h => by simp at h, fun h => by simp at h⟩
theorem rok_nil : Rok ⟨[], 0⟩ := ⟨.inl ⟨by decide, rfl⟩, fun i hi => by simp at hi⟩
theorem Rok.of_ok {g : Nat} {p : PG.Part} (h : PG.Ok g p) : Rok p := by
  have hn : p.n ≤ 301 := by rcases h.1 with ⟨h1, h2⟩ | ⟨h1, h2⟩ <;> omega
  refine ⟨h.1, fun i hi => ?_⟩
  obtain ⟨k, hk, rfl⟩ := List.getElem_of_mem hi
  have := h.2 k _ (List.getElem?_eq_getElem hk)
  refine ⟨fun ho => ?_, fun ho => ?_⟩
  · have := this.1 ho; omega
  · have := this.2.1 ho; omega
theorem Rok.le {p : PG.Part} (h : Rok p) : p.n ≤ 301 := by rcases h.1 with ⟨h1, h2⟩ | ⟨h1, h2⟩ <;> omega
section
variable {w wr w' : World} {pb rb : Nat} {v : Value} {n : Int}
end
theorem heap_alloc_2 (w : World) (a b : Obj) : ((w.alloc a).alloc b).heap[w.heap.size + 1]? = some b := by
  have h := heap_alloc_new (w.alloc a) b
  rwa [show (w.alloc a).heap.size = w.heap.size + 1 by simp] at h
theorem heap_alloc_1 (w : World) (a b : Obj) : ((w.alloc a).alloc b).heap[w.heap.size]? = some a := by
  exact ((Ext.refl _).alloc b).heap (heap_alloc_new w a)
section
variable {w wr w' : World} {pb rb ob : Nat} {v vo vo' : Value} {n no no' : Int}
end
theorem PG.maybe_step {g : Nat} {p out : PG.Part} (lz : Bool) (hp : PG.Ok g p) (ho : PG.Ok g out) : PG.Ok g (PG.row [PG.split (1 + (p.n : Int) + out.n) lz, p, out]) := PG.maybeL_ok hp lz 1 out ho
/-- append(v, x) of one element, the new value spelled out. -/
theorem app_part {α : Type} {P : Program} {w : World} {ops : Array Oper} {rest : List Oper} {o : Oper} {a : Act} {Q : Exit → Act → World → Prop} {t te sz bytes : Nat} {z : Value}
    (ht : P.underlying t = some (.slice te)) (hinf : (P.info? te).map (fun i => (i.zero, i.size, i.bytes)) = some (some z, sz, bytes)) (hzs : z.cells.size = sz) (hsz : 0 < sz) (hby : bytes ≤ 100)
    {T : List TypeId} {C : World → List Value → α → Prop} (hC : Keeps T C) (hT : te ∉ T)
    (hgd : o.guard = none) (s x : Operand) (ho : o.op = .call { callee := .builtin .append, args := #[s, x], argTypes := #[t, t] })
    (B : Nat) (v : Value) (xs : List α) (y : α) (cs : List Value) (tb : TypeId) (hown : OwnB te sz C B w v xs) (hy : C w cs y) (hcs : cs.length = sz) (h1 : ∀ u ∈ cs, u.oneCell' = true)
    (hs : a.eval s = v) (nb : Nat) (hx : a.eval x = .slice (some ⟨nb, 0, none⟩) 1 1) (hnb : nb = w.heap.size) (hn : xs.length ≤ 1000000000) (hB : B ≤ w.heap.size)
    (h : ∀ g cap w', OwnB te sz C B w' (.slice (some ⟨g, 0, none⟩) (xs.length + 1) cap) (xs ++ [y]) → (w.alloc (.cells cs.toArray tb)).grownBy w' v.ownBlock → wpList P ops Q rest (a.put o.dst (.slice (some ⟨g, 0, none⟩) (xs.length + 1) cap)) w') :
    wpList P ops Q (o :: rest) a (w.alloc (.cells cs.toArray tb)) := by
  subst hnb
  obtain ⟨i0, hi, hz0, hz1, hz2⟩ := info_parts hinf
  obtain ⟨flat, hr, h2⟩ := hown
  refine wpList_append_lies _ hgd s x t ho B te i0 z sz bytes ht hi hz0 hz1 hz2 hzs hsz v xs.length flat hs (World.ownsRow.alloc hr _) ⟨w.heap.size, 0, none⟩ 1 1 cs hx (by omega) (fun j u hu => news_all w cs tb j u hu) h1 (by decide) (by unfold maxLen; omega) (Nat.le_trans (Nat.mul_le_mul (show xs.length + 1 ≤ 1000000001 by omega) hby) (by omega)) (by simp; omega) _ rfl ?_
  intro g cap w' h3 h4 _ _
  refine h g cap w' (OwnB.snoc h2 hr.1 hC ?_ hy hcs h3) h4
  refine (KeepT.of_ext ((Ext.refl w).alloc _)).trans (KeepT.of_grown h4 (fun g hg => ?_))
  obtain ⟨cur, hh⟩ := own_type hr g hg
  exact ⟨cur, te, ((Ext.refl w).alloc _).heap hh, hT⟩
/-- A part that stood already in w. -/
abbrev Pc (S : Nat → Prop) (w : World) : World → List Value → PG.Part → Prop := fun _ cs p => PtC S w cs p
theorem keeps_pc (S : Nat → Prop) (w : World) (T : List TypeId) : Keeps T (Pc S w) := fun _ _ _ _ _ h => h
section
variable {S : Nat → Prop} {w wr w' : World} {pb rb : Nat} {v vl vl' : Value} {n : Int} {ps ps' : List PG.Part}
end
end Go.Proofs.Ytpcdknfmgacggaa
