/- Walks: New, Groups of package rematch; Find of no matcher. -/
import Derived.Test.YtfblkahjefdmaaaGreatMxH
import Derived.Test.YtfblkahjefdmaaaGreatPc
import Derived.Test.YtfblkahjefdmaaaGreatWc
namespace Go.Proofs.YtfblkahjefdmaaaGreat
open Go.RowKit

theorem SlX.insB {B : Nat} {w : World} {v : Value} {l : List PG.Inst} (h : SlX B w v l) : InsS (B ≤ ·) w v l := by
  obtain ⟨A, c, rfl, h1, h2, h3, h4⟩ := h
  refine ⟨A, c, rfl, h1, h2, fun k x hx => ?_, h3⟩
  cases A with
  | none =>
    have := h3 rfl
    obtain ⟨hk, -⟩ := List.getElem?_eq_some_iff.1 hx
    omega
  | some ad =>
    obtain ⟨g, o, cur, rfl, hB, hg, hc⟩ := h4 ad rfl
    obtain ⟨cs, ⟨vs, rfl, h5⟩, h6⟩ := hc k x hx
    refine ⟨g, o, rfl, hB, _, ⟨vs, rfl, ?_⟩, rfl, h6⟩
    obtain ⟨A', c', hv, e1, e2, e3, e4⟩ := h5
    refine ⟨A', c', hv, e1, e2, fun i y hy => ?_, e3⟩
    cases A' with
    | none =>
      have := e3 rfl
      obtain ⟨hk, -⟩ := List.getElem?_eq_some_iff.1 hy
      omega
    | some ad =>
      obtain ⟨b, q, cur', rfl, hb, hh, -, h7⟩ := e4 ad rfl
      obtain ⟨cs, h8, h9⟩ := h7 i y hy
      have h8 : cs = [.int .i32 y] := h8
      subst h8
      exact ⟨b, q, rfl, hb, (cell_of_row _ b _ _ _ _ hh).trans (h9 0 _ rfl)⟩
theorem SlX.ins {B : Nat} {w : World} {v : Value} {l : List PG.Inst} (h : SlX B w v l) : InsS (fun _ => True) w v l := h.insB.keep fun _ _ _ _ hc => ⟨trivial, hc⟩
/-- What New returns. -/
def NewP (s : List Int) (fold : Bool) (w : World) (e : Ending) (w' : World) : Prop :=
  Ext w w' ∧ ((PG.compile s).2.1 ≠ 0 ∧ e = .returned (.tuple #[.pointer none, .agg #[.int .i64 (PG.compile s).2.1, .int .i64 (PG.compile s).2.2]]) ∨
    ∃ (l : List PG.Inst) (t : List RX.ReN) (k mb : Nat) (vp : Value), PG.compile s = (l, 0, 0) ∧ RX.parse s = (t, 0, 0) ∧ PG.Made l (RX.groups t) k ∧ (∀ x ∈ l, x.set.length ≤ 1000) ∧ RX.groups t ≤ 200 ∧
      e = .returned (.tuple #[.pointer (some ⟨mb, 0, none⟩), .agg #[.int .i64 0, .int .i64 0]]) ∧ Mtc w' mb vp l (RX.groups t) fold ∧ w.heap.size ≤ mb ∧ InsS (w.heap.size ≤ ·) w' vp l)
set_option maxRecDepth 100000 in
set_option maxHeartbeats 4000000 in
theorem mnew_any (s : List Int) (fold : Bool) (v : Value) (w : World) (hv : SlC w v s) : Calls Tryz.prog 8 #[v, .bool fold] w (NewP s fold w) := by
  obtain ⟨A, c, rfl, hlc, hcm, -⟩ := id hv
  have HV := Lib.hid hv
  have HCO := Lib.hid (fun w' (h : Ext w w') => pcompile_any s _ w' (hv.ext h))
  obtain ⟨R, hR⟩ : ∃ R, PG.compile s = R := ⟨_, rfl⟩
  obtain ⟨l, code, bat⟩ := R
  have HR := Lib.hid hR
  unfold NewP
  rw [hR]
  clear hv hR
  go_enter Tryz.func8, Tryz.ntmps8
  go_upto_region 2 with (go_at_call 18; go_loud (refine (HCO.out _ ((Ext.refl w).alloc _)).mono ?_; rintro e w2 ⟨hE2, v2, rfl, hX2⟩; have HM2 := Lib.hid (show Cmr w w.heap.size w2 from ⟨((Ext.refl w).alloc _).trans hE2, Nat.le_refl _, hE2.heap (heap_alloc_new w _)⟩); rw [HR.out] at hX2 ⊢; dsimp only at hX2 ⊢; have HX2 := Lib.hid hX2; have hX2f := hX2.form; clear hX2 hE2))
  obtain ⟨A2, c2, rfl, hlc2, hcm2⟩ := hX2f
  have HM3 := Lib.hid (HM2.out.ext_ ((Ext.refl w2).alloc (.cells #[.int .i64 code, .int .i64 bat] 31)))
  have HX3 := Lib.hid (HX2.out.ext ((Ext.refl w2).alloc (.cells #[.int .i64 code, .int .i64 bat] 31)))
  have q0 : (w2.alloc (.cells #[.int .i64 code, .int .i64 bat] 31)).cell? ⟨w2.heap.size, 0, none⟩ = some (.int .i64 code) := by rw [World.cell?_alloc_new]; rfl
  have q1 : (w2.alloc (.cells #[.int .i64 code, .int .i64 bat] 31)).cell? ⟨w2.heap.size, 1, none⟩ = some (.int .i64 bat) := by rw [World.cell?_alloc_new]; rfl
  have hne : w2.heap.size ≠ w.heap.size := by have := heap_lt HM2.out.flt; omega
  have r0 := HM3.out.r0
  have r1 := HM3.out.r1
  have f0 := HM3.out.fr 0
  have f1 := HM3.out.fr 1
  generalize w2.alloc _ = w3 at HM3 HX3 q0 q1 r0 r1 f0 f1 ⊢
  generalize hfb : w.heap.size = fb at HM3 hne r0 r1 f0 f1 ⊢
  generalize w2.heap.size = xb at q0 q1 hne ⊢
  clear hfb HM2 HX2
  by_cases hc : code = 0
  rotate_left
  · have hb : (code != 0) = true := by simpa using hc
    have HC := Lib.hid hc
    clear hc
    go_wp2_with fail
    go_region
    go_wp2_with fail
    refine bodyPost_ret (v := .tuple #[.pointer none, .agg #[.int .i64 code, .int .i64 bat]]) (by simp [results, Tryz.results8, go_sem, r0, r1]) rfl ?_
    exact ⟨((HM3.out.ext.set (p := ⟨fb, 0, none⟩) HM3.out.lof _).set (p := ⟨fb, 1, none⟩) HM3.out.lof _).drew, .inl ⟨HC.out, rfl⟩⟩
  subst hc
  obtain ⟨t, k, hp, hmade, hl, hn, hbat⟩ := PG.compile_made HR.out
  subst hbat
  have hg : RX.groups t ≤ 200 := by
    have h1 := (RX.parse_few hp).1
    have h2 : RX.groups t ≤ t.length := by unfold RX.groups; exact List.length_filter_le _ _
    omega
  have htl : t.length ≤ 1000000 := by have := (RX.parse_few hp).1; omega
  have hset : ∀ x ∈ l, x.set.length ≤ 1000 := by
    obtain ⟨b, hw, -⟩ := RX.parse_wf hp
    have hb := (RX.wf_base hw).le
    have hok := PG.tree_wf (g := b.toNat) hw (Int.le_refl _) (by omega) 0 t.length (Nat.le_refl _)
    rw [lift_zero] at hok
    rw [hl]
    exact (PG.whole_made (RX.parse_sms hp) hok hn).2.1
  obtain ⟨g9, hg9⟩ : ∃ g9, RX.groups t = g9 := ⟨_, rfl⟩
  have HG := Lib.hid hg9
  have HPT := Lib.hid hp
  have HMD := Lib.hid hmade
  have HST := Lib.hid hset
  have HGL := Lib.hid hg
  clear hp hmade hl hn hset hg hg9 q1
  have HV3 := Lib.hid (HV.out.ext HM3.out.ext)
  go_upto_region 5 with (go_at_call 19; go_loud (refine (parse_any s _ _ HV3.out).mono ?_; rintro e w4 ⟨v4, u4, rfl, ⟨hv4, rfl⟩, hE4⟩; rw [HPT.out] at hv4 ⊢; dsimp only at hv4 ⊢; have hv4f := hv4.form; have HV4 := Lib.hid hv4; have HM4 := Lib.hid (HM3.out.ext_ hE4); have HX4 := Lib.hid (HX3.out.ext hE4); clear hv4 hE4))
  obtain ⟨A4, c4, rfl, -, -⟩ := hv4f
  have hx5 := (Ext.refl w4).alloc (.cells #[.int .i64 0, .int .i64 0] 31)
  have HV5 := Lib.hid (SlB.keep HV4.out (keeps_re _) (KeepT.of_ext hx5) (KeepT.of_ext hx5))
  have HM5 := Lib.hid (HM4.out.ext_ hx5)
  have HX5 := Lib.hid (HX4.out.ext hx5)
  clear hx5 r0 r1 f0 f1 q0 HV4 HM4 HX4 HM3 HX3
  generalize w4.alloc _ = w5 at HV5 HM5 HX5 ⊢
  have HGR := Lib.hid (fun w' (h : Ext w5 w') => groups_any t _ (.slice A4 t.length c4) w' (SlB.keep HV5.out (keeps_re _) (KeepT.of_ext h) (KeepT.of_ext h)) htl)
  rw [HG.out] at HGR
  go_wp2_with (go_at_call 20; go_loud (refine (HGR.out _ (Ext.refl _)).mono ?_; rintro e w6 ⟨rfl, hE6⟩; have HM6 := Lib.hid (HM5.out.ext_ hE6); have HX6 := Lib.hid (HX5.out.ext hE6); have r0 := HM6.out.r0; have r1 := HM6.out.r1; have f0 := HM6.out.fr 0; have f1 := HM6.out.fr 1; have hfl : fb < w6.heap.size := heap_lt HM6.out.flt; clear hE6))
  have HXF := Lib.hid (HX6.out.off HM6.out.flt (w' := (w6.setCell ⟨fb, 0, none⟩ (.int .i64 0)).setCell ⟨fb, 1, none⟩ (.int .i64 0)) (fun _ hi => (heap_off hi).trans (heap_off hi)))
  have hEF := (HM6.out.ext.set (p := ⟨fb, 0, none⟩) HM6.out.lof (.int .i64 0)).set (p := ⟨fb, 1, none⟩) HM6.out.lof (.int .i64 0)
  refine bodyPost_ret (v := .tuple #[.pointer (some ⟨w6.heap.size, 0, none⟩), .agg #[.int .i64 0, .int .i64 0]]) (by simp [results, Tryz.results8, go_sem, r0, r1, hfl]) rfl ?_
  refine ⟨hEF.alloc _, .inr ⟨l, t, k, w6.heap.size, _, rfl, HPT.out, HMD.out, HST.out, HGL.out, rfl, ⟨?_, (HXF.out.ext ((Ext.refl _).alloc _)).ins⟩, Nat.le_trans HM6.out.ext.size (Nat.le_refl _), (HXF.out.ext ((Ext.refl _).alloc _)).insB.keep fun _ _ _ hb hc => ⟨Nat.le_trans (by simp) hb, hc⟩⟩⟩
  rw [HG.out]
  have hb := heap_alloc_new ((w6.setCell ⟨fb, 0, none⟩ (.int .i64 0)).setCell ⟨fb, 1, none⟩ (.int .i64 0)) (.cells #[.slice A2 l.length c2, .int .i64 (g9 : Int), .bool fold] 56)
  simpa using hb
/-- Find of no matcher. -/
theorem mfind_nil (w : World) : Calls Tryz.prog 12 #[.pointer none, .slice none 0 0, .int .i64 0] w (Ret (.tuple #[.slice none 0 0, .bool false]) w) := by
  go_enter Tryz.func12, Tryz.ntmps12
  go_wp2_with fail
  refine bodyPost_ret (v := .tuple #[.slice none 0 0, .bool false]) (by simp [results, Tryz.results12, go_sem]) rfl ?_
  exact ⟨rfl, Ext.refl _⟩
theorem mgroups_any (w : World) (mb : Nat) (vp : Value) (prog : List PG.Inst) (g : Nat) (fold : Bool) (hm : Mtc w mb vp prog g fold) : Calls Tryz.prog 16 #[.pointer (some ⟨mb, 0, none⟩)] w (Ret (.int .i64 (g : Int)) w) := by
  have c1 := hm.c1
  go_enter Tryz.func16, Tryz.ntmps16
  go_wp2_with fail
  go_ret
  exact ⟨rfl, Ext.refl _⟩
theorem mgroups_nil (w : World) : Calls Tryz.prog 16 #[.pointer none] w (Ret (.int .i64 0) w) := by
  go_enter Tryz.func16, Tryz.ntmps16
  go_wp2_with fail
  go_ret
  exact ⟨rfl, Ext.refl _⟩
end Go.Proofs.YtfblkahjefdmaaaGreat

/- Walk: All of package rematch. -/
namespace Go.Proofs.YtfblkahjefdmaaaGreat
open Go.RowKit

namespace MX
theorem alls_total {l : List PG.Inst} {g e : Nat} (h : PG.Made l g e) (fold : Bool) (s : List Int) : ∀ (N at_ : Nat), s.length + 1 - at_ ≤ N → ∃ L, Alls (act l fold s) s.length (blank g) at_ L := by
  intro N
  induction N with
  | zero => intro at_ hN; exact ⟨[], .out at_ (by omega)⟩
  | succ N ih =>
    intro at_ hN
    rcases Nat.lt_or_ge s.length at_ with h1 | h1
    · exact ⟨[], .out at_ h1⟩
    obtain ⟨r, -, hf⟩ := find_all (nt := blank g) (valid_made h fold s) (by omega) at_
    cases r with
    | none => exact ⟨[], .none_ at_ h1 hf⟩
    | some r =>
      obtain ⟨p, h2, h3, hm, -⟩ := first_match h hf
      obtain ⟨b, hb, hb2, hb3, -⟩ := hm.last
      obtain ⟨L, hL⟩ := ih (if p = b then b + 1 else b) (by split <;> omega)
      exact ⟨r :: L, .more at_ p b r L h1 hf hm.first hb hL⟩
end MX
/-- Notes that were found, as cells of a row. -/
def Cn (w0 w : World) (cs : List Value) (r : List Int) : Prop := ∃ v, cs = [v] ∧ NtS w0 w v r
theorem keeps_n (w0 : World) : Keeps [3] (Cn w0) := fun w w' cs r hk ⟨v, h1, nb, h2, h3, h4⟩ => ⟨v, h1, nb, h2, h3, hk nb _ _ (by simp) h4⟩
theorem info_ri : (Tryz.prog.info? 39).map (fun i => (i.zero, i.size, i.bytes)) = some (some (.slice none 0 0), 1, 24) := by kernel_rfl
/-- A block of another type than the row that was appended to. -/
theorem cells_far {α : Type} {te sz B : Nat} {C : World → List Value → α → Prop} {w wa w' : World} {v : Value} {xs : List α} {b : Nat} {cs : Array Value} {t : TypeId} (h : wa.grownBy w' v.ownBlock) (ho : OwnB te sz C B w v xs) (hb : wa.heap[b]? = some (.cells cs t (0, 0))) (ht : te ≠ t) (hx : Ext w wa) : w'.heap[b]? = some (.cells cs t (0, 0)) :=
  (h.block b (heap_lt hb) (by
    intro e
    obtain ⟨cur, hh⟩ := ho.type b e.symm
    exact types_ne (hx.heap hh) hb ht rfl)).trans hb
theorem Ext.grown2 {a b c d : World} (h : Ext a b) (hx : Ext b c) {row : Option Nat} (hg : c.grownBy d row) (hr : ∀ k, row = some k → a.heap.size ≤ k) : Ext a d := (h.trans hx).grown hg hr
theorem cell_note {w : World} {nb : Nat} {r : List Int} {t : TypeId} (h : w.heap[nb]? = some (.cells (r.map (Value.int .i64)).toArray t (0, 0))) {i : Nat} {x : Int} (hx : r[i]? = some x) : w.cell? ⟨nb, i, none⟩ = some (.int .i64 x) := by
  rw [cell_of_row w nb i _ _ _ h]
  simp [hx]
/-- What All returns. -/
def AllP (A : Nat → Nat → MX.Act) (n : Nat) (nt : List Int) (w : World) (e : Ending) (w' : World) : Prop :=
  Ext w w' ∧ ∃ L v, MX.Alls A n nt 0 L ∧ e = .returned v ∧ SlB 39 1 (Cn w) w.heap.size w' v L
set_option maxRecDepth 100000 in
set_option maxHeartbeats 4000000 in
theorem mall_any {w : World} {mb : Nat} {sv vp : Value} {prog : List PG.Inst} {g e : Nat} {fold : Bool} {s : List Int} (hmade : PG.Made prog g e) (hset : ∀ x ∈ prog, x.set.length ≤ 1000) (hg : g ≤ 200)
    (hm : Mtc w mb vp prog g fold) (hs : SlC w sv s) (hsl : s.length ≤ 1000) :
    Calls Tryz.prog 14 #[.pointer (some ⟨mb, 0, none⟩), sv] w (AllP (MX.act prog fold s) s.length (MX.blank g) w) := by
  obtain ⟨L, hL⟩ := MX.alls_total hmade fold s _ 0 (Nat.le_refl _)
  obtain ⟨As, cs, rfl, hsc, hscm, -⟩ := id hs
  have HFI := Lib.hid (fun (w' : World) (h : Ext w w') (k : Nat) (hk : k ≤ s.length) => mfind_any hmade hset hg (hm.ext h) (hs.ext h) hsl k hk)
  have HMA := Lib.hid (fun (at_ : Nat) (r : List Int) (h : MX.First (MX.act prog fold s) s.length (MX.blank g) at_ (some r)) => MX.first_match hmade h)
  have HL := Lib.hid hL
  generalize hA : MX.act prog fold s = A at HFI HMA HL ⊢
  clear hL hm hs hmade hset hA
  go_enter Tryz.func14, Tryz.ntmps14
  go_wp2_with fail
  go_loopw [5, 6] (fun x5 x6 wr => ∃ (j : Nat) (L0 L1 : List (List Int)), x6 = .int .i64 (j : Int) ∧ j ≤ s.length + 1 ∧ L0.length ≤ j ∧ Ext w wr ∧ OwnB 39 1 (Cn w) w.heap.size wr x5 L0 ∧ MX.Alls A s.length (MX.blank g) j L1 ∧ L0 ++ L1 = L) (fun _ x6 _ => s.length + 2 - (intOf x6).toNat)
  case atStart => exact ⟨0, [], L, rfl, Nat.zero_le _, Nat.le_refl _, Ext.refl _, OwnB.nil_, HL.out, rfl⟩
  case round =>
    obtain ⟨j, L0, L1, rfl, hj, hlj, hx, hown, hal, happ⟩ := hrel
    have HX := Lib.hid hx
    have HO := Lib.hid hown
    have HAL := Lib.hid hal
    have HAP := Lib.hid happ
    obtain ⟨Ao, co, rfl, -, -⟩ := hown.form
    have hB : w.heap.size ≤ wr.heap.size := hx.size
    clear hown hal happ
    by_cases hlt : j ≤ s.length
    rotate_left
    · have hd : decide ((j : Int) ≤ (s.length : Int)) = false := by simp; omega
      have HN := Lib.hid (show L1 = [] by
        have h1 := HAL.out
        cases h1 with
        | out => rfl
        | none_ => rfl
        | more _ _ _ _ _ h2 => omega)
      clear hx
      go_wp2_with fail
      go_ret
      exact ⟨HX.out, L0, _, by have h1 := HAP.out; rw [HN.out, List.append_nil] at h1; rw [h1]; exact HL.out, rfl, HO.out.sl⟩
    have hd : decide ((j : Int) ≤ (s.length : Int)) = true := by simp; omega
    have hcase : (MX.First A s.length (MX.blank g) j none ∧ L1 = []) ∨ ∃ (r : List Int) (a b : Nat) (L2 : List (List Int)), MX.First A s.length (MX.blank g) j (some r) ∧ r[0]? = some (a : Int) ∧ r[1]? = some (b : Int) ∧ MX.Alls A s.length (MX.blank g) (if a = b then b + 1 else b) L2 ∧ L1 = r :: L2 := by
      have h1 := HAL.out
      cases h1 with
      | out _ h => omega
      | none_ _ _ h => exact .inl ⟨h, rfl⟩
      | more _ a b r L2 _ h2 h3 h4 h5 => exact .inr ⟨r, a, b, L2, h2, h3, h4, h5, rfl⟩
    rcases hcase with ⟨hf, rfl⟩ | ⟨r, a, b, L2, hf, ha, hb, hl2, rfl⟩
    · have HC := Lib.hid (show Calls Tryz.prog 12 #[.pointer (some ⟨mb, 0, none⟩), .slice As s.length cs, .int .i64 (j : Int)] wr (Ret (.tuple #[.slice none 0 0, .bool false]) wr) from (HFI.out wr hx j hlt).mono (by
        rintro e2 w2 ⟨hx2, r, hfr, hre⟩
        obtain rfl := MX.first_one hfr hf
        exact ⟨hre, hx2⟩))
      clear hx hf
      go_wp2_with (go_at_call 12; go_loud (refine HC.out.mono ?_; rintro e2 w2 ⟨rfl, hx2⟩; have HX2 := Lib.hid hx2; clear hx2))
      go_ret
      refine ⟨HX.out.trans HX2.out, L0, _, by have h1 := HAP.out; rw [List.append_nil] at h1; rw [h1]; exact HL.out, rfl, SlB.keep HO.out.sl (keeps_n w) (KeepT.of_ext HX2.out) (KeepT.of_ext HX2.out)⟩
    · have HC := Lib.hid (show Calls Tryz.prog 12 #[.pointer (some ⟨mb, 0, none⟩), .slice As s.length cs, .int .i64 (j : Int)] wr (fun e w' => Ext wr w' ∧ ∃ v, e = .returned (.tuple #[v, .bool true]) ∧ NtS wr w' v r) from (HFI.out wr hx j hlt).mono (by
        rintro e2 w2 ⟨hx2, r2, hfr, hre⟩
        obtain rfl := MX.first_one hfr hf
        exact ⟨hx2, hre⟩))
      have hm := HMA.out j r hf
      have hab : j ≤ a ∧ a ≤ b ∧ b ≤ s.length := by
        obtain ⟨p, h1, h2, h3, -⟩ := hm
        have e1 := h3.first
        rw [ha] at e1
        obtain ⟨b', h4, h5, h6, -⟩ := h3.last
        rw [hb] at h4
        have e1 := Option.some.inj e1
        have e2 := Option.some.inj h4
        omega
      have hrl : 2 ≤ r.length := by
        obtain ⟨h1, -⟩ := List.getElem?_eq_some_iff.1 hb
        omega
      have HRA := Lib.hid ha
      have HRB := Lib.hid hb
      have HL2 := Lib.hid hl2
      have HAP2 := Lib.hid (show (L0 ++ [r]) ++ L2 = L by rw [← HAP.out]; simp)
      clear hx hf hm ha hb hl2
      have hl0 : L0.length ≤ 1000000 := by omega
      have hNX : ∃ c : Nat, (if a = b then b + 1 else b) = c ∧ j + 1 ≤ c ∧ c ≤ s.length + 1 := ⟨_, rfl, by split <;> omega, by split <;> omega⟩
      have s1 : IntKind.i64.wrap ((b : Int) + 1) = ((b + 1 : Nat) : Int) := by rw [IntWalk.i64_in _ (by omega)]; omega
      rcases hz : ((a : Int) == (b : Int)) with _ | _
      all_goals go_wp2_with (first
        | (go_at_call 12; go_loud (refine HC.out.mono ?_; rintro e2 w2 ⟨hx2, v2, rfl, nb, rfl, hnb, hh2⟩; have HX2 := Lib.hid hx2; have HNB := Lib.hid hnb; have HH2 := Lib.hid hh2; have HO2 := Lib.hid (HO.out.keepT (keeps_n w) (KeepT.of_ext hx2) (KeepT.of_ext hx2)); have hB2 : w.heap.size ≤ w2.heap.size := Nat.le_trans hB hx2.size; clear hx2 hnb hh2))
        | (at_builtin; go_loud (refine app_one Tryz.underlying42 info_ri rfl (by decide) (by decide) (keeps_n w) (by decide) rfl _ _ rfl w.heap.size _ L0 r [.slice (some ⟨nb, 0, none⟩) r.length r.length] 39 HO2.out ⟨_, rfl, nb, rfl, Nat.le_trans hB HNB.out, HH2.out⟩ rfl (by simp [Value.oneCell']) rfl w2.heap.size rfl rfl hl0 hB2 ?_; intro v3 w3 h3 h4; have HO3 := Lib.hid h3; have hE3 := ((Ext.refl w2).alloc (.cells #[.slice (some ⟨nb, 0, none⟩) r.length r.length] 39)); have hh3 := cells_far h4 HO2.out (hE3.heap HH2.out) (by decide) hE3; have HX3 := Lib.hid ((HX.out.trans HX2.out).grown2 hE3 h4 (fun k hk => (HO2.out.lt k hk).1)); have e0 := cell_note hh3 HRA.out; have e1 := cell_note hh3 HRB.out; have hr2 : (1 : Int) < (r.length : Int) := (by omega); have hr1 : (0 : Int) < (r.length : Int) := (by omega); clear h3 h4 hE3 hh3)))
      all_goals
        go_quiet (fail)
        go_wp2_with fail
        go_roundw
      case rel => exact ⟨b, _, L2, rfl, by omega, by have := beq_eq_false_iff_ne.1 hz; simp; omega, HX3.out.drewN _, OwnB.keepP HO3.out (fun _ _ hc => hc) (fun _ _ _ hg => hg), by have h1 := HL2.out; rw [if_neg (by intro e; rw [e] at hz; simp at hz)] at h1; exact h1, HAP2.out⟩
      case measure => have := beq_eq_false_iff_ne.1 hz; simp [intOf]; omega
      case rel => exact ⟨b + 1, _, L2, by go_num, by omega, by simp; omega, HX3.out.drewN _, OwnB.keepP HO3.out (fun _ _ hc => hc) (fun _ _ _ hg => hg), by have h1 := HL2.out; rw [if_pos (by have := beq_iff_eq.1 hz; omega)] at h1; exact h1, HAP2.out⟩
      case measure => simp [intOf]; omega
end Go.Proofs.YtfblkahjefdmaaaGreat
