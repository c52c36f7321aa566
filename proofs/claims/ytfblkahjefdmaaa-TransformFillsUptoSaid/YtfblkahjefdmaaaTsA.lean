/- The tape's formats, on the plain seat. -/
import Derived.Test.YtfblkahjefdmaaaTrL
import Derived.Test.YtfblkahjefdmaaaPureC
namespace Go.Proofs.Ytfblkahjefdmaaa
open Go.RowKit
section
variable {w : World} {ops : Array Oper} {rest : List Oper} {o : Oper} {a : Act} {Q : Exit → Act → World → Prop}
end
/-- append(v, src...) of signs, whatever the source. -/
theorem app_srcL {w : World} {ops : Array Oper} {rest : List Oper} {o : Oper} {a : Act} {Q : Exit → Act → World → Prop} (hgd : o.guard = none) (s x : Operand) (ho : o.op = .call { callee := .builtin .append, args := #[s, x], argTypes := #[23, 23] })
    (B b : Nat) (v src : Value) (xs ys : List Int) (hown : OwnB 21 1 Cc B w v xs) (hs : a.eval s = v) (hx : a.eval x = src) (hsrc : SlB 21 1 Cc b w src ys)
    (hn : xs.length + ys.length ≤ 35184372088832) (hB : B ≤ w.heap.size)
    (h : ∀ v' w', OwnB 21 1 Cc B w' v' (xs ++ ys) → w.grownBy w' v.ownBlock → wpList Try.prog ops Q rest (a.put o.dst v') w') :
    wpList Try.prog ops Q (o :: rest) a w := by
  obtain ⟨i0, hi, hz0, hz1, hz2⟩ := info_parts info_c
  obtain ⟨A, c, rfl, hl, hc⟩ := hsrc.form
  cases A with
  | none =>
    obtain ⟨hy, hl0, hc0⟩ := SlB.none_ hsrc
    subst hy hc0
    refine wpList_append_own_none hgd s x 23 ho B 21 i0 1 Try.underlying23 hi v xs.length (xs.map (Value.int .i32)) hs hown.flat_i32 hx ?_
    exact h v w (by rw [List.append_nil]; exact hown) (World.grownBy.refl _ _)
  | some ad =>
    refine wpList_append_own (P := Try.prog) (w := w) hgd s x _ ho B 21 i0 (.int .i32 0) 1 4 Try.underlying23 hi hz0 hz1 hz2 rfl (by decide) v xs.length _ hs hown.flat_i32 ad ys.length c (ys.map (Value.int .i32)) hx (by simp) ?_ ?_ (by unfold maxLen; omega) (by omega) hB ?_
    · exact cells_map (SlB.add hsrc)
    · intro u hu
      simp at hu
      obtain ⟨y, _, rfl⟩ := hu
      rfl
    · intro v' w' h1 h2 _
      refine h v' w' (OwnB.of_flat_i32 ?_) h2
      rw [List.map_append, List.length_append]
      exact h1
end Go.Proofs.Ytfblkahjefdmaaa
namespace Go.Proofs.Ytfblkahjefdmaaa
open Go.RowKit
section
variable {w0 : World} {tb : Nat} {sv : Value} {ts : List Int} {w wr w' : World} {i j : Nat}
end
end Go.Proofs.Ytfblkahjefdmaaa
namespace Go.Proofs.Ytfblkahjefdmaaa
open Go.RowKit
section
variable {w0 : World} {tb : Nat} {sv : Value} {ts : List Int} {w wr w' : World} {i j : Nat}
theorem next4 (a : Nat × Nat) (w : World) (i : Nat) (he : Ten w0 tb sv ts w i) (ha : TP.next ts i 4 = a) : Calls Try.prog 53 #[.pointer (some ⟨tb, 0, none⟩), .int .i64 4] w (PostT (.int .i64 (a.1 : Nat)) tb sv w a.2) := by
  subst ha; exact tnext_any 4 w i he (by decide)
variable {v v' : Value} {out out' : List Int}
end
end Go.Proofs.Ytfblkahjefdmaaa
namespace Go.Proofs.Ytfblkahjefdmaaa
open Go.RowKit
def BoolP (b : Bool) (w : World) (e : Ending) (w' : World) : Prop := e = .returned (.bool b) ∧ w = w'
end Go.Proofs.Ytfblkahjefdmaaa
namespace Go.Proofs.Ytfblkahjefdmaaa
open Go.RowKit
end Go.Proofs.Ytfblkahjefdmaaa
namespace Go.Proofs.Ytfblkahjefdmaaa
open Go.RowKit
end Go.Proofs.Ytfblkahjefdmaaa
namespace Go.Proofs.Ytfblkahjefdmaaa
open Go.RowKit
end Go.Proofs.Ytfblkahjefdmaaa
namespace Go.Proofs.Ytfblkahjefdmaaa
open Go.RowKit
def TextP (R : Option (List Int × Nat)) (w : World) (en : Ending) (w' : World) : Prop :=
  Ext w w' ∧ ((∃ t k v, R = some (t, k) ∧ en = .returned (.tuple #[v, .int .i64 (k : Int), .bool true]) ∧ OwnB 21 1 Cc w.heap.size w' v t) ∨ (R = none ∧ en = .returned (.tuple #[.slice none 0 0, .int .i64 0, .bool false])))
def txt (e : Int) (s : List Int) (k : Nat) : Option (List Int × Nat) := (FM.text e (s.drop k)).map (fun p => (p.1, k + p.2))
/-- Inside of a loop that makes a row of signs: the row so far, and what was there is as it was. -/
structure Acs (w : World) (v : Value) (out : List Int) (wr : World) : Prop where
  own : OwnB 21 1 Cc w.heap.size wr v out
  ext : Ext w wr
variable {w wr w' : World} {v v' : Value} {out out' : List Int}
theorem Acs.alloc {o : Obj} (h : Acs w v out wr) : Acs w v out (wr.alloc o) := ⟨h.own.allocs, h.ext.alloc o⟩
theorem Acs.drewN {n : Nat} (h : Acs w v out wr) : Acs w v out (wr.drewN n) := ⟨h.own.drewN, h.ext.drewN n⟩
theorem Acs.call (h : Acs w v out wr) (hx : Ext wr w') : Acs w v out w' := ⟨h.own.keepB (keepsB_c _) (fun _ _ _ ho => hx.heap ho), h.ext.trans hx⟩
theorem Acs.app (h : Acs w v out wr) (h1 : OwnB 21 1 Cc w.heap.size w' v' out') (h2 : wr.grownBy w' v.ownBlock) : Acs w v' out' w' := ⟨h1, h.ext.grown h2 (fun k hk => (h.own.lt k hk).1)⟩
theorem Acs.size (h : Acs w v out wr) : w.heap.size ≤ wr.heap.size := h.ext.size
end Go.Proofs.Ytfblkahjefdmaaa
namespace Go.Proofs.Ytfblkahjefdmaaa
open Go.RowKit
namespace FM
end FM
section
variable {g : Int} {s : List Int} {i : Nat}
end
/-- The cells of a format's part; its texts lie in blocks from B on. -/
def CF (B : Nat) (w : World) (cs : List Value) (f : FM.Form) : Prop :=
  ∃ vt ve, cs = [.int .i64 f.kind, .int .i64 f.group, .int .i64 f.cas, vt, ve] ∧ SlB 21 1 Cc B w vt f.text ∧ SlB 21 1 Cc B w ve f.els
/-- As TextP, the slice spelled out. -/
def TextF (R : Option (List Int × Nat)) (w : World) (en : Ending) (w' : World) : Prop :=
  Ext w w' ∧ ((∃ t k A c, R = some (t, k) ∧ en = .returned (.tuple #[.slice A t.length c, .int .i64 (k : Int), .bool true]) ∧ SlB 21 1 Cc w.heap.size w' (.slice A t.length c) t) ∨ (R = none ∧ en = .returned (.tuple #[.slice none 0 0, .int .i64 0, .bool false])))
theorem TextP.form {R : Option (List Int × Nat)} {w w' : World} {en : Ending} (h : TextP R w en w') : TextF R w en w' := by
  refine ⟨h.1, ?_⟩
  rcases h.2 with ⟨t, k, v, h1, h2, h3⟩ | h3
  · obtain ⟨A, c, rfl, _⟩ := h3.form
    exact .inl ⟨t, k, A, c, h1, h2, h3.sl⟩
  · exact .inr h3
end Go.Proofs.Ytfblkahjefdmaaa
namespace Go.Proofs.Ytfblkahjefdmaaa
open Go.RowKit
section
variable {s : List Int} {i k : Nat} {n : Int}
end
end Go.Proofs.Ytfblkahjefdmaaa
namespace Go.Proofs.Ytfblkahjefdmaaa
open Go.RowKit
/-- A value that is a slice lies in a block below T. -/
def Blo (T : Nat) (v : Value) : Prop := ∀ (ad : Addr) (n c : Nat), v = .slice (some ad) n c → ad.block < T
theorem Blo.nil_ {T : Nat} : Blo T (.slice none 0 0) := by intro ad n c h; cases h
theorem Blo.mono {T T' : Nat} {v : Value} (h : Blo T v) (hT : T ≤ T') : Blo T' v := fun ad n c e => Nat.lt_of_lt_of_le (h ad n c e) hT
/-- Rows of signs in blocks below T are as they were. -/
def KLt (T : Nat) (w w' : World) : Prop := ∀ (g : Nat) (cur : Array Value), g < T → w.heap[g]? = some (.cells cur 21 (0, 0)) → w'.heap[g]? = some (.cells cur 21 (0, 0))
theorem SlB.keepLt {B T : Nat} {w w' : World} {v : Value} {xs : List Int} (h : SlB 21 1 Cc B w v xs) (hb : Blo T v) (hk : KLt T w w') : SlB 21 1 Cc B w' v xs := by
  obtain ⟨A, c, hv, hl, hc, hn, ha⟩ := h
  refine ⟨A, c, hv, hl, hc, hn, fun ad had => ?_⟩
  obtain ⟨g, o, cur, h1, h2, h3, h4, h5⟩ := ha ad had
  refine ⟨g, o, cur, h1, h2, hk g cur ?_ h3, h4, h5⟩
  have := hb ad xs.length c (by rw [hv, had])
  rw [h1] at this; exact this
/-- As CF, the texts in blocks below T. -/
def CFT (B T : Nat) (w : World) (cs : List Value) (f : FM.Form) : Prop :=
  ∃ vt ve, cs = [.int .i64 f.kind, .int .i64 f.group, .int .i64 f.cas, vt, ve] ∧ (SlB 21 1 Cc B w vt f.text ∧ Blo T vt) ∧ SlB 21 1 Cc B w ve f.els ∧ Blo T ve
theorem CFT.keep {B T : Nat} {w w' : World} {cs : List Value} {f : FM.Form} (h : CFT B T w cs f) (hk : KLt T w w') : CFT B T w' cs f := by
  obtain ⟨vt, ve, h1, ⟨h2, h3⟩, h4, h5⟩ := h
  exact ⟨vt, ve, h1, ⟨h2.keepLt h3 hk, h3⟩, h4.keepLt h5 hk, h5⟩
theorem CFT.mono {B T T' : Nat} {w : World} {cs : List Value} {f : FM.Form} (h : CFT B T w cs f) (hT : T ≤ T') : CFT B T' w cs f := by
  obtain ⟨vt, ve, h1, ⟨h2, h3⟩, h4, h5⟩ := h
  exact ⟨vt, ve, h1, ⟨h2, h3.mono hT⟩, h4, h5.mono hT⟩
theorem CFT.cf {B T : Nat} {w : World} {cs : List Value} {f : FM.Form} (h : CFT B T w cs f) : CF B w cs f := by
  obtain ⟨vt, ve, h1, ⟨h2, h3⟩, h4, h5⟩ := h
  exact ⟨vt, ve, h1, h2, h4⟩
theorem SlB.blo {t sz B : Nat} {α : Type} {C : World → List Value → α → Prop} {w : World} {v : Value} {xs : List α} (h : SlB t sz C B w v xs) : Blo w.heap.size v := by
  obtain ⟨A, c, hv, hl, hc, hn, ha⟩ := h
  intro ad n c' e
  rw [hv] at e
  injection e with e1 e2 e3
  obtain ⟨g, o, cur, h1, h2, h3, _⟩ := ha ad e1
  rw [h1]; exact heap_lt h3
/-- An own row, kept where its block and what its elements ask is kept. -/
theorem OwnB.keepG {α : Type} {t sz B : Nat} {C C' : World → List Value → α → Prop} {w w' : World} {v : Value} {xs : List α} (h : OwnB t sz C B w v xs) (hC : ∀ cs x, C w cs x → C' w' cs x)
    (ht : ∀ g cur, v.ownBlock = some g → w.heap[g]? = some (.cells cur t (0, 0)) → w'.heap[g]? = some (.cells cur t (0, 0))) : OwnB t sz C' B w' v xs := by
  obtain ⟨flat, hown, h2⟩ := h
  refine ⟨flat, ⟨hown.1, ?_⟩, fun k x hx => ?_⟩
  · rcases hown.2 with hn | ⟨g, cap, cur, hv, hb, hg, rest⟩
    · exact .inl hn
    · exact .inr ⟨g, cap, cur, hv, hb, ht g cur (by rw [hv]; rfl) hg, rest⟩
  · obtain ⟨cs, h6, h7⟩ := h2 k x hx
    exact ⟨cs, hC _ _ h6, h7⟩
section
variable {w wr w' : World} {xb T : Nat} {vl vt vl' vt' : Value} {fs fs' : List FM.Form} {tx tx' : List Int}
end
section
variable {α : Type} {P : Program} {w : World} {ops : Array Oper} {rest : List Oper} {o : Oper} {a : Act} {Q : Exit → Act → World → Prop}
end
section
variable {w wr w' : World} {xb T : Nat} {vl vt vl' vt' v' : Value} {fs fs' : List FM.Form} {tx tx' : List Int}
theorem heap_ne {w : World} {g h o : Nat} {u : Value} (hne : g ≠ h) : (w.setCell ⟨h, o, none⟩ u).heap[g]? = w.heap[g]? := Below.heap_setCell w ⟨h, o, none⟩ u g hne
end
end Go.Proofs.Ytfblkahjefdmaaa
namespace Go.Proofs.Ytfblkahjefdmaaa
open Go.RowKit
namespace FM
end FM
section
variable {s : List Int} {k k' : Nat} {fs : List FM.Form} {tx : List Int} {f : FM.Form}
end
end Go.Proofs.Ytfblkahjefdmaaa
namespace Go.Proofs.Ytfblkahjefdmaaa
open Go.RowKit
theorem Acs.keepF {w wr w' : World} {v : Value} {out : List Int} (h : Acs w v out wr) (h2 : wr.grownBy w' v.ownBlock) : KeepT [82] wr w' :=
  KeepT.of_grown h2 (fun g hg => by obtain ⟨cur, hh⟩ := h.own.type g hg; exact ⟨cur, _, hh, by decide⟩)
end Go.Proofs.Ytfblkahjefdmaaa
namespace Go.Proofs.Ytfblkahjefdmaaa
open Go.RowKit
/-- Inside of put: the row so far; the part's box. -/
structure Pts (w0 ws : World) (nb : Nat) (cs : List Value) (v : Value) (out : List Int) (wr : World) : Prop where
  acs : Acs w0 v out wr
  box : wr.heap[nb]? = some (.cells cs.toArray 82 (0, 0))
  keep : KeepT [82] ws wr
section
variable {w0 ws wr w' : World} {nb : Nat} {cs : List Value} {v v' : Value} {out out' : List Int}
theorem Pts.app (h : Pts w0 ws nb cs v out wr) (h1 : OwnB 21 1 Cc w0.heap.size w' v' out') (h2 : wr.grownBy w' v.ownBlock) : Pts w0 ws nb cs v' out' w' :=
  ⟨h.acs.app h1 h2, h.acs.keepF h2 nb _ _ (by simp) h.box, h.keep.trans (h.acs.keepF h2)⟩
theorem Pts.c (h : Pts w0 ws nb cs v out wr) (i : Nat) (u : Value) (hu : cs[i]? = some u) : wr.cell? ⟨nb, i, none⟩ = some u := (cell_of_row wr nb i _ _ _ h.box).trans (by simpa using hu)
end
end Go.Proofs.Ytfblkahjefdmaaa
namespace Go.Proofs.Ytfblkahjefdmaaa
open Go.RowKit
def bsf : List ByteArray := [⟨#[36, 49]⟩, ⟨#[36, 123, 49, 125]⟩, ⟨#[36, 123, 48, 58, 47, 117, 112, 99, 97, 115, 101, 125]⟩, ⟨#[36, 123, 49, 58, 47, 112, 97, 115, 99, 97, 108, 99, 97, 115, 101, 125]⟩, ⟨#[36, 123, 49, 58, 43, 120, 125]⟩, ⟨#[36, 123, 49, 58, 45, 121, 125]⟩, ⟨#[36, 123, 49, 58, 63, 120, 58, 121, 125]⟩, ⟨#[36, 123, 49, 58, 122, 125]⟩, ⟨#[97]⟩, ⟨#[45]⟩, ⟨#[36]⟩, ⟨#[92, 47]⟩, ⟨#[36, 123, 49, 58, 47, 110, 111, 125]⟩, ⟨#[36, 49, 50]⟩, ⟨#[92, 36, 49]⟩, ⟨#[36, 123, 50, 58, 47, 99, 97, 109, 101, 108, 99, 97, 115, 101, 125]⟩, ⟨#[36, 49, 50, 51]⟩]
section
variable {w0 : World} {tb : Nat} {sv : Value} {ts : List Int}
set_option maxRecDepth 100000 in
set_option maxHeartbeats 2000000 in
theorem format2_any (w : World) (i : Nat) (he : Ten w0 tb sv ts w i) :
    Calls Try.prog 43 #[.pointer (some ⟨tb, 0, none⟩)] w (PostTV (fun w' v => OwnB 21 1 Cc w.heap.size w' v (TP.fmt ts i).1) tb sv w (TP.fmt ts i).2) := by
  have HC := Lib.hid (Tps.start he)
  have hN := TP.next_lt ts i (n := 4) (by decide)
  have hNl := TP.next_le 4 he.le
  obtain ⟨R, hR⟩ : ∃ R, TP.fmt ts i = R := ⟨_, rfl⟩
  have HR := Lib.hid (show TP.fmtL ts (TP.next ts i 4).1 (TP.next ts i 4).2 [] = R from hR)
  rw [hR]
  obtain ⟨nx, hnx⟩ : ∃ nx, TP.next ts i 4 = nx := ⟨_, rfl⟩
  have HK := Lib.hid (fun w he => next4 (w0 := w0) (tb := tb) (sv := sv) nx w i he hnx)
  rw [hnx] at HR hN hNl
  obtain ⟨n0, i0⟩ := nx
  dsimp only at HR HK hN hNl
  clear he hR hnx
  go_enter Try.func43, Try.ntmps43
  go_wp2_with (go_at_call 53; refine (HK.out _ ?hen).mono ?_; (case hen => exact HC.out.ten); rintro e w' ⟨rfl, hr, ho⟩; have HC := Lib.hid (Tps.call HC.out hr ho (by omega)); clear hr ho)
  go_loopw [3, 4] (fun v n wr => ∃ (k i' : Nat) (out : List Int), n = .int .i64 (k : Int) ∧ Tps w0 tb sv ts w i' v out wr ∧ TP.fmtL ts k i' out = R ∧ k ≤ 3 ∧ out.length + k * 17 ≤ 51) (fun _ n _ => (intOf n).toNat)
  case atStart => exact ⟨n0, i0, [], rfl, HC.out, HR.out, by omega, by simp only [List.length_nil]; omega⟩
  case round =>
    obtain ⟨k, i', out, rfl, hcs, hlo, hk3, hlen⟩ := hrel
    have HC := Lib.hid hcs
    have HL := Lib.hid hlo
    have hil := hcs.ten.le
    obtain ⟨Ao, co, rfl, hco, hcm⟩ := hcs.own.form
    clear hcs hlo
    by_cases hk0 : k = 0
    · subst hk0
      go_wp2_with fail
      go_ret
      rw [← HL.out]
      exact ⟨_, rfl, HC.out.own, HC.out.ten.st, HC.out.only⟩
    · obtain ⟨j, rfl⟩ : ∃ j, k = j + 1 := ⟨k - 1, by omega⟩
      obtain ⟨a, ha⟩ : ∃ a, TP.one ts i' FM.pieces = a := ⟨_, rfl⟩
      have HO1 := Lib.hid (fun w he => one_lit (w0 := w0) (tb := tb) (sv := sv) bsf 17 FM.pieces a w i' he (by decide) (by decide) (by decide) rfl rfl ha)
      have hal := TP.one_le FM.pieces hil
      have han := TP.one_len (ts := ts) (i := i') (l := FM.pieces) (n := 17) (by decide)
      have HZ := Lib.hid (show TP.fmtL ts j a.2 (out ++ a.1) = R by rw [← ha]; exact HL.out)
      rw [ha] at hal han
      clear ha hk0
      have hj1 : (0 : Int) < (j : Int) + 1 := by omega
      go_wp2_with (first
        | (go_at_call 54; refine (HO1.out _ ?hen).mono ?_; (case hen => exact HC.out.ten); rintro e w' ⟨v, rfl, hv, hr, ho⟩; have HC := Lib.hid (Tps.call (Tps.alloc HC.out) hr ho (by omega)); obtain ⟨Aa, ca, rfl, -⟩ := hv.form; have HV := Lib.hid hv; clear hv hr ho)
        | (at_builtin; go_loud (refine app_srcL rfl _ _ rfl w.heap.size (tb + 1) _ _ _ _ HC.out.own rfl rfl HV.out ?hn ?hB ?_; (case hn => omega); (case hB => exact World.grownBy.size HC.out.only); intro v' w2 h1 h2; generalize hl : ((_ : List Int) ++ (_ : List Int)) = out2 at h1; have HX := Lib.hid hl; have hl2 := Nat.le_of_eq ((congrArg List.length hl.symm).trans List.length_append); have hz := Tps.app HC.out h1 h2; obtain ⟨Ax, cx, rfl, -⟩ := h1.form; have HC := Lib.hid hz; clear h1 h2 hz hl)))
      go_roundw
      case rel => exact ⟨j, a.2, out2, by go_num, HC.out, by rw [← HX.out]; exact HZ.out, by omega, by omega⟩
      case measure => simp [intOf]
theorem format_any (w : World) (i : Nat) (he : Ten w0 tb sv ts w i) :
    Calls Try.prog 43 #[.pointer (some ⟨tb, 0, none⟩)] w (PostTV (fun w' v => OwnB 21 1 Cc (tb + 1) w' v (TP.fmt ts i).1) tb sv w (TP.fmt ts i).2) :=
  (format2_any w i he).mono fun _ _ ⟨v, h1, h2, h3, h4⟩ => ⟨v, h1, OwnB.weak h2 he.tbl, h3, h4⟩
end
end Go.Proofs.Ytfblkahjefdmaaa
namespace Go.Proofs.Ytfblkahjefdmaaa
open Go.RowKit
end Go.Proofs.Ytfblkahjefdmaaa
namespace Go.Proofs.Ytfblkahjefdmaaa
open Go.RowKit
end Go.Proofs.Ytfblkahjefdmaaa
namespace Go.Proofs.Ytfblkahjefdmaaa
open Go.RowKit
end Go.Proofs.Ytfblkahjefdmaaa
namespace Go.Proofs.Ytfblkahjefdmaaa
open Go.RowKit
/-- Only two blocks are other ones. -/
def Two (g1 g2 : Nat) (w w' : World) : Prop := ∀ i : Nat, i ≠ g1 → i ≠ g2 → w'.heap[i]? = w.heap[i]?
theorem Two.refl (g1 g2 : Nat) (w : World) : Two g1 g2 w w := fun _ _ _ => rfl
theorem Two.drewN {g1 g2 n : Nat} {w a : World} (h : Two g1 g2 w a) : Two g1 g2 w (a.drewN n) := h
end Go.Proofs.Ytfblkahjefdmaaa
namespace Go.Proofs.Ytfblkahjefdmaaa
open Go.RowKit
/-- Five cells, as they are. -/
def Raw (_ : World) (cs x : List Value) : Prop := cs = x ∧ x.length = 5
def Fits (B T : Nat) (w : World) (css : List (List Value)) (fs : List FM.Form) : Prop := css.length = fs.length ∧ ∀ (k : Nat) (cs : List Value) (f : FM.Form), css[k]? = some cs → fs[k]? = some f → CFT B T w cs f
theorem Fits.nil_ {B T : Nat} {w : World} : Fits B T w [] [] := ⟨rfl, by intro k cs f h; simp at h⟩
theorem Fits.imp {B T B' T' : Nat} {w w' : World} {css : List (List Value)} {fs : List FM.Form} (h : Fits B T w css fs) (hi : ∀ cs f, CFT B T w cs f → CFT B' T' w' cs f) : Fits B' T' w' css fs :=
  ⟨h.1, fun k cs f h1 h2 => hi _ _ (h.2 k cs f h1 h2)⟩
theorem Fits.snoc {B T : Nat} {w : World} {css : List (List Value)} {fs : List FM.Form} {cs : List Value} {f : FM.Form} (h : Fits B T w css fs) (hc : CFT B T w cs f) : Fits B T w (css ++ [cs]) (fs ++ [f]) := by
  refine ⟨by rw [List.length_append, List.length_append, h.1]; rfl, fun k c g h1 h2 => ?_⟩
  rcases Nat.lt_or_ge k css.length with hk | hk
  · rw [List.getElem?_append_left hk] at h1
    rw [List.getElem?_append_left (by rw [← h.1]; exact hk)] at h2
    exact h.2 k c g h1 h2
  · rw [List.getElem?_append_right hk] at h1
    rw [List.getElem?_append_right (by rw [← h.1]; exact hk)] at h2
    rw [← h.1] at h2
    have hk0 : k - css.length = 0 := by
      rcases Nat.eq_zero_or_pos (k - css.length) with e | e
      · exact e
      · rw [List.getElem?_eq_none (by simp; omega)] at h1; cases h1
    rw [hk0] at h1 h2
    simp at h1 h2
    subst h1 h2
    exact hc
/-- A raw row is a row of parts. -/
theorem OwnB.parts {B T base : Nat} {w : World} {v : Value} {css : List (List Value)} {fs : List FM.Form} (h : OwnB 82 5 Raw base w v css) (hf : Fits B T w css fs) : OwnB 82 5 (CFT B T) base w v fs := by
  obtain ⟨flat, hown, h2⟩ := h
  refine ⟨flat, by rw [← hf.1]; exact hown, fun k f hk => ?_⟩
  have hlt : k < css.length := by rw [hf.1]; exact (List.getElem?_eq_some_iff.1 hk).1
  obtain ⟨cs, ⟨rfl, h3⟩, h4, h5⟩ := h2 k _ (List.getElem?_eq_getElem hlt)
  exact ⟨_, hf.2 k _ f (List.getElem?_eq_getElem hlt) hk, h4, h5⟩
/-- The last of a raw row: its block, its cells; a cell of it may be written over. -/
theorem OwnB.lastRaw {base : Nat} {w : World} {A : Option Addr} {n c : Nat} {css : List (List Value)} {cs : List Value} (h : OwnB 82 5 Raw base w (.slice A n c) (css ++ [cs])) :
    ∃ g cur, A = some ⟨g, 0, none⟩ ∧ base ≤ g ∧ n = css.length + 1 ∧ n ≤ c ∧ w.heap[g]? = some (.cells cur 82 (0, 0)) ∧ (∀ i u, cs[i]? = some u → cur[css.length * 5 + i]? = some u) ∧
      ∀ (w' : World) (u : Value) (i : Nat), i < 5 → w'.heap[g]? = some (.cells (cur.setIfInBounds (css.length * 5 + i) u) 82 (0, 0)) → OwnB 82 5 Raw base w' (.slice A n c) (css ++ [cs.set i u]) := by
  obtain ⟨flat, hown, h2⟩ := h
  obtain ⟨hl, hf⟩ := hown
  have hlen : (css ++ [cs]).length = css.length + 1 := by simp
  rcases hf with ⟨hv, h0⟩ | ⟨g, cap, cur, hv, hb, hg, hnc, hcm, hcs, htk⟩
  · rw [hlen] at h0; omega
  · injection hv with e1 e2 e3
    subst e1 e2 e3
    rw [hlen] at hl hnc htk
    have hat : ∀ i u, cs[i]? = some u → flat[css.length * 5 + i]? = some u := by
      intro i u hu
      obtain ⟨ds, ⟨h3, h4⟩, _, h5⟩ := h2 css.length cs (by simp)
      subst h3
      exact h5 i u hu
    have hcl : cs.length = 5 := by
      obtain ⟨ds, ⟨h3, h4⟩, _, _⟩ := h2 css.length cs (by simp)
      exact h4
    refine ⟨g, cur, rfl, hb, hlen, by rw [hlen]; exact hnc, hg, fun i u hu => ?_, fun w' u i hi hg' => ?_⟩
    · have h6 := hat i u hu
      rw [← htk, List.getElem?_take] at h6
      split at h6
      · simpa using h6
      · cases h6
    · have hl2 : (css ++ [cs.set i u]).length = css.length + 1 := by simp
      rw [hlen]
      refine ⟨flat.set (css.length * 5 + i) u, ⟨by rw [List.length_set, hl2]; exact hl, .inr ⟨g, c, _, by rw [hl2], hb, hg', by rw [hl2]; exact hnc, hcm, by rw [Array.size_setIfInBounds]; exact hcs, ?_⟩⟩, fun k x hx => ?_⟩
      · rw [hl2, Array.toList_setIfInBounds, List.take_set, htk]
      · rcases Nat.lt_or_ge k css.length with hk | hk
        · rw [List.getElem?_append_left hk] at hx
          obtain ⟨ds, h3, h4, h5⟩ := h2 k x (by rw [List.getElem?_append_left hk]; exact hx)
          refine ⟨ds, h3, h4, fun j y hy => ?_⟩
          have hj : j < 5 := by rw [← h4]; exact (List.getElem?_eq_some_iff.1 hy).1
          rw [List.getElem?_set_ne (by omega)]
          exact h5 j y hy
        · rw [List.getElem?_append_right hk] at hx
          have hk0 : k - css.length = 0 := by
            rcases Nat.eq_zero_or_pos (k - css.length) with e | e
            · exact e
            · rw [List.getElem?_eq_none (by simp; omega)] at hx; cases hx
          obtain rfl : k = css.length := by omega
          rw [hk0] at hx
          simp at hx
          subst hx
          refine ⟨_, ⟨rfl, by simpa using hcl⟩, by simpa using hcl, fun j y hy => ?_⟩
          rcases Nat.lt_or_ge j 5 with hj | hj
          · by_cases hij : i = j
            · subst hij
              rw [List.getElem?_set_self (by omega)] at hy
              rw [List.getElem?_set_self (by rw [hl]; omega)]
              exact hy
            · rw [List.getElem?_set_ne hij] at hy
              rw [List.getElem?_set_ne (by omega)]
              exact hat j y hy
          · rw [List.getElem?_eq_none (by rw [List.length_set]; omega)] at hy; cases hy
/-- The cells of a text that stands last. -/
def tcs (vt : Value) : List Value := [.int .i64 0, .int .i64 0, .int .i64 0, vt, .slice none 0 0]
def tl (tx : List Int) (vt : Value) : List (List Value) := if tx = [] then [] else [tcs vt]
/-- Inside of the document's own Scan: the parts so far, the last text's own row from T on. -/
structure Rcs (w : World) (T : Nat) (vl vt : Value) (cf : List (List Value)) (fs : List FM.Form) (tx : List Int) (wr : World) : Prop where
  ext : Ext w wr
  lo : w.heap.size ≤ T
  top : T ≤ wr.heap.size
  fit : Fits w.heap.size T wr cf fs
  own : OwnB 82 5 Raw w.heap.size wr vl (cf ++ tl tx vt)
  txt : OwnB 21 1 Cc T wr vt tx
  nt : ∀ f, fs.getLast? = some f → f.kind ≠ 0
section
variable {w wr w' : World} {T : Nat} {vl vt vl' vt' v' : Value} {cf : List (List Value)} {fs : List FM.Form} {tx : List Int}
theorem Rcs.start (w : World) : Rcs w w.heap.size (.slice none 0 0) (.slice none 0 0) [] [] [] w :=
  ⟨Ext.refl w, Nat.le_refl _, Nat.le_refl _, Fits.nil_, OwnB.nil_, OwnB.nil_, by intro f h; simp at h⟩
/-- The parts, with the text as one more. -/
theorem Rcs.fits (h : Rcs w T vl vt cf fs tx wr) : Fits w.heap.size wr.heap.size wr (cf ++ tl tx vt) (FM.endT fs tx) := by
  have h1 : Fits w.heap.size wr.heap.size wr cf fs := h.fit.imp (fun _ _ hc => hc.mono h.top)
  unfold tl FM.endT
  split
  · rw [List.append_nil]; exact h1
  · exact h1.snoc ⟨vt, _, rfl, ⟨h.txt.sl.weaken h.lo, h.txt.sl.blo⟩, SlB.nil_, Blo.nil_⟩
/-- Behind an append of a part. -/
theorem Rcs.part {cs : List Value} {f : FM.Form} (h : Rcs w T vl vt cf fs tx wr) (hf : CFT w.heap.size wr.heap.size wr cs f) (hk : f.kind ≠ 0) (h1 : OwnB 82 5 Raw w.heap.size w' v' ((cf ++ tl tx vt) ++ [cs])) (h2 : wr.grownBy w' vl.ownBlock) :
    Rcs w w'.heap.size v' (.slice none 0 0) ((cf ++ tl tx vt) ++ [cs]) (FM.endT fs tx ++ [f]) [] w' := by
  have hlt := fun k hk => (h.own.lt k hk).1
  refine ⟨h.ext.grown h2 hlt, Nat.le_trans h.ext.size h2.size, Nat.le_refl _, ?_, by rw [show tl [] (.slice none 0 0) = [] from rfl, List.append_nil]; exact h1, OwnB.nil_, by intro g hg; simp at hg; subst hg; exact hk⟩
  refine (h.fits.snoc hf).imp (fun _ _ hc => (hc.mono h2.size).keep (fun g cur _ hg => ?_))
  refine (h2.block g (heap_lt hg) (fun e => ?_)).trans hg
  obtain ⟨cur2, h4⟩ := h.own.type g e.symm
  rw [hg] at h4
  injection h4 with h4
  injection h4 with _ h4 _
  exact absurd h4 (by decide)
/-- Behind an append to the last text, and its store. -/
theorem Rcs.more {A : Option Addr} {n c : Nat} {r : Int} {g o : Nat} (h : Rcs w T (.slice A n c) vt cf fs tx wr) (hne : tx ≠ []) (hg : A = some ⟨g, 0, none⟩) (ho : o = cf.length * 5 + 3)
    (h1 : OwnB 21 1 Cc T w' v' (tx ++ [r])) (h2 : wr.grownBy w' vt.ownBlock) : Rcs w T (.slice A n c) v' cf fs (tx ++ [r]) (w'.setCell ⟨g, o, none⟩ v') := by
  subst hg ho
  have hlt := fun k hk => (h.txt.lt k hk).1
  have hown := h.own
  rw [show tl tx vt = [tcs vt] from if_neg hne] at hown
  obtain ⟨g', cur', hA, hb, hn, hnc, hh, hcs, hset⟩ := hown.lastRaw
  injection hA with hA
  injection hA with hA _ _
  subst hA
  have hh2 : w'.heap[g]? = some (.cells cur' 82 (0, 0)) := by
    refine (h2.block g (heap_lt hh) (fun e => ?_)).trans hh
    obtain ⟨cur2, h4⟩ := h.txt.type g e.symm
    rw [hh] at h4
    injection h4 with h4
    injection h4 with _ h4 _
    exact absurd h4 (by decide)
  have hne2 : ∀ g2 cu, w'.heap[g2]? = some (.cells cu 21 (0, 0)) → g2 ≠ g := by
    intro g2 cu hg2 e
    subst e
    rw [hh2] at hg2
    injection hg2 with hg2
    injection hg2 with _ hg2 _
    exact absurd hg2 (by decide)
  refine ⟨(h.ext.grown h2 (fun k hk => Nat.le_trans h.lo (hlt k hk))).set (p := ⟨g, _, none⟩) hb _, h.lo, Nat.le_trans h.top (Nat.le_trans h2.size (by simp)), ?_, ?_, ?_, h.nt⟩
  · refine h.fit.imp (fun _ _ hc => hc.keep (fun g2 cu hg2 hh3 => ?_))
    have h3 : w'.heap[g2]? = some (.cells cu 21 (0, 0)) := (h2.block g2 (heap_lt hh3) (by intro e; have := hlt g2 e.symm; omega)).trans hh3
    rw [heap_ne (hne2 g2 _ h3)]; exact h3
  · rw [show tl (tx ++ [r]) v' = [tcs v'] from if_neg (by simp)]
    exact hset _ v' 3 (by omega) (heap_set hh2)
  · refine h1.keepG (fun _ _ hc => hc) (fun g2 cu _ hh3 => ?_)
    rw [heap_ne (hne2 g2 _ hh3)]; exact hh3
end
end Go.Proofs.Ytfblkahjefdmaaa
namespace Go.Proofs.Ytfblkahjefdmaaa
open Go.RowKit
theorem Fits.kind {B T : Nat} {w : World} {css : List (List Value)} {fs : List FM.Form} (h : Fits B T w css fs) {cs : List Value} (hc : css.getLast? = some cs) : ∃ f vt ve, fs.getLast? = some f ∧ cs = [.int .i64 f.kind, .int .i64 f.group, .int .i64 f.cas, vt, ve] := by
  rw [List.getLast?_eq_getElem?] at hc
  have hlt := (List.getElem?_eq_some_iff.1 hc).1
  have hlt2 : fs.length - 1 < fs.length := by have := h.1; omega
  have hf := List.getElem?_eq_getElem hlt2
  obtain ⟨vt, ve, h1, _⟩ := h.2 _ cs _ hc (by rw [h.1]; exact hf)
  exact ⟨_, vt, ve, by rw [List.getLast?_eq_getElem?]; exact hf, h1⟩
end Go.Proofs.Ytfblkahjefdmaaa
namespace Go.Proofs.Ytfblkahjefdmaaa
open Go.RowKit
theorem CF.weaken {B B' : Nat} {w : World} {cs : List Value} {f : FM.Form} (h : CF B w cs f) (hb : B' ≤ B) : CF B' w cs f := by
  obtain ⟨vt, ve, h1, h2, h3⟩ := h
  exact ⟨vt, ve, h1, h2.weaken hb, h3.weaken hb⟩
theorem Rcs.form {w wr : World} {T : Nat} {v vt : Value} {cf : List (List Value)} {fs : List FM.Form} {tx : List Int} (h : Rcs w T v vt cf fs tx wr) : ∃ A n c, v = .slice A n c ∧ n ≤ c ∧ c ≤ 9223372036854775807 := by
  obtain ⟨A, c, hv, h1, h2⟩ := h.own.form
  exact ⟨A, _, c, hv, h1, h2⟩
end Go.Proofs.Ytfblkahjefdmaaa
