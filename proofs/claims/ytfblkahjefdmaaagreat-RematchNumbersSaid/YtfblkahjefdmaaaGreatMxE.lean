/- Words for run of package rematch: what a try leaves; how far it may go. -/
import Derived.Test.YtfblkahjefdmaaaGreatMa
namespace Go.Proofs.YtfblkahjefdmaaaGreat
open Go.RowKit

namespace MX
/-- What is left leads to states and notes that there are. -/
structure WOk (g m n : Nat) (c : Cf) : Prop where
  len : c.notes.length = 2 * g + 2
  way : ∀ x ∈ c.ways, match x with
    | .back i _ => i < 2 * g + 2
    | .fwd p a => p < m ∧ a < n
/-- How far a try may go yet. -/
def mu (m n : Nat) (c : Cf) : Nat := 2 * unseen m n c.seen + c.ways.length
theorem step_ok {l : List PG.Inst} {g e : Nat} (h : PG.Made l g e) (fold : Bool) (s : List Int) {c : Cf} {pc at_ : Nat} (hc : WOk g (e + 2) (s.length + 1) c) (hp : pc < e + 2) (ha : at_ ≤ s.length) :
    WOk g (e + 2) (s.length + 1) (step (act l fold s) c pc at_).1 ∧ mu (e + 2) (s.length + 1) (step (act l fold s) c pc at_).1 ≤ mu (e + 2) (s.length + 1) c ∧
      ∀ p a, (step (act l fold s) c pc at_).2 = .to p a → p < e + 2 ∧ a < s.length + 1 ∧ mu (e + 2) (s.length + 1) (step (act l fold s) c pc at_).1 + 1 ≤ mu (e + 2) (s.length + 1) c := by
  have hact := act_made h fold s hp ha
  rcases hs : c.seen pc at_ with _ | _
  · have hu := unseen_mark (m := e + 2) (n := s.length + 1) hp (by omega : at_ < s.length + 1) hs
    rcases hA : act l fold s pc at_ with _ | _ | ⟨p, a⟩ | x | ⟨p, q⟩
    · rw [step_done hs hA]
      exact ⟨⟨hc.len, hc.way⟩, by simp only [mu]; omega, fun p a h => by cases h⟩
    · rw [step_fail hs hA]
      exact ⟨⟨hc.len, hc.way⟩, by simp only [mu]; omega, fun p a h => by cases h⟩
    · rw [step_to hs hA]
      rw [hA] at hact
      obtain ⟨h1, h2, h3, h4, h5⟩ := hact
      exact ⟨⟨hc.len, hc.way⟩, by simp only [mu]; omega, fun p' a' h => by injection h with e1 e2; subst e1 e2; exact ⟨by omega, by omega, by simp only [mu]; omega⟩⟩
    · rw [step_save hs hA]
      rw [hA] at hact
      obtain ⟨h1, h2⟩ := hact
      refine ⟨⟨by simp only [List.length_set]; exact hc.len, fun y hy => ?_⟩, by simp only [mu, List.length_cons]; omega, fun p' a' h => by injection h with e1 e2; subst e1 e2; exact ⟨by omega, by omega, by simp only [mu, List.length_cons]; omega⟩⟩
      rcases List.mem_cons.1 hy with rfl | hy
      · show x < 2 * g + 2
        omega
      · exact hc.way y hy
    · rw [step_split hs hA]
      rw [hA] at hact
      obtain ⟨h1, h2, h3, h4, h5⟩ := hact
      refine ⟨⟨hc.len, fun y hy => ?_⟩, by simp only [mu, List.length_cons]; omega, fun p' a' h => by injection h with e1 e2; subst e1 e2; exact ⟨by omega, by omega, by simp only [mu, List.length_cons]; omega⟩⟩
      rcases List.mem_cons.1 hy with rfl | hy
      · show q < e + 2 ∧ at_ < s.length + 1
        omega
      · exact hc.way y hy
  · have h1 : step (act l fold s) c pc at_ = (c, .fail) := by unfold step; rw [if_pos hs]
    rw [h1]
    exact ⟨hc, Nat.le_refl _, fun p a h => by cases h⟩
theorem next_go {A : Nat → Nat → Act} {c : Cf} {pc at_ : Nat} : next A c (.go pc at_) = (match (step A c pc at_).2 with
    | .fail => .inl ((step A c pc at_).1, .pop)
    | .done => .inr (.found (step A c pc at_).1.notes)
    | .to p a => .inl ((step A c pc at_).1, .go p a)) := by
  simp only [next]
  generalize step A c pc at_ = R
  obtain ⟨c', _ | _ | ⟨p, a⟩⟩ := R <;> rfl
end MX
section
variable {w wr w' : World} {tb mb sb nb m n : Nat} {sv vw vw' : Value} {c : MX.Cf}
/-- The beginning of a try: one way is left. -/
theorem Tri.renew {S : MX.Seen} {W0 : List MX.W} {nt : List Int} (h : Tri w tb mb sb nb sv vw m n ⟨S, W0, nt⟩ wr) (a : Nat) :
    Tri w tb mb sb nb sv (.slice (some ⟨wr.heap.size, 0, none⟩) 1 1) m n ⟨S, [.fwd 0 a], nt⟩ ((wr.alloc (.cells #[.bool false, .int .i64 0, .int .i64 (a : Int)] 93)).setCell ⟨tb, 3, none⟩ (.slice (some ⟨wr.heap.size, 0, none⟩) 1 1)) := by
  have hx := (Ext.refl wr).alloc (.cells #[.bool false, .int .i64 0, .int .i64 (a : Int)] 93)
  have hT := h.ext_ hx
  have hown : OwnB 93 3 Cw w.heap.size (wr.alloc (.cells #[.bool false, .int .i64 0, .int .i64 (a : Int)] 93)) (.slice (some ⟨wr.heap.size, 0, none⟩) 1 1) [MX.W.fwd 0 a] :=
    OwnB.lit _ [MX.W.fwd 0 a] _ _ rfl rfl h.ext.size (by simp) rfl fun k x hx => by
      match k, hx with
      | 0, hx =>
        simp at hx
        subst hx
        refine ⟨wayV (.fwd 0 a), rfl, rfl, fun i u hu => ?_⟩
        match i, hu with
        | 0, hu => simpa [wayV] using hu
        | 1, hu => simpa [wayV] using hu
        | 2, hu => simpa [wayV] using hu
        | i + 3, hu => simp [wayV] at hu
  refine ⟨hT.ext.set (p := ⟨tb, 3, none⟩) h.lo _, h.lo, h.los, h.lon, ?_, (heap_off h.ts.symm).trans hT.seen, (heap_off h.tn.symm).trans hT.notes, hown.keepP (fun _ _ hc => hc) (fun g cur hg hh => ?_)⟩
  · rw [heap_set (o := 3) hT.box]
    rfl
  · rw [heap_off (types_ne hh hT.box (by decide))]; exact hh
theorem Tri.formW (h : Tri w tb mb sb nb sv vw m n c wr) : ∃ A cap, vw = .slice A c.ways.length cap ∧ c.ways.length ≤ cap ∧ cap ≤ 9223372036854775807 := by
  obtain ⟨A, cap, hv, h1, h2⟩ := h.ways.form
  rw [List.length_reverse] at hv h1
  exact ⟨A, cap, hv, h1, h2⟩
end
/-- What run leaves behind. -/
def RunP (w : World) (tb mb sb nb : Nat) (sv : Value) (m n : Nat) (S' : MX.Seen) (nt : List Int) (r : Option (List Int)) (e : Ending) (w' : World) : Prop :=
  match r with
  | some r' => e = .returned (.bool true) ∧ ∃ vw c, c.notes = r' ∧ Tri w tb mb sb nb sv vw m n c w'
  | none => e = .returned (.bool false) ∧ ∃ vw, Tri w tb mb sb nb sv vw m n ⟨S', [], nt⟩ w'
set_option maxRecDepth 100000 in
set_option maxHeartbeats 4000000 in
theorem mrun_any {w : World} {tb mb sb nb : Nat} {sv vw vp : Value} {prog : List PG.Inst} {g e : Nat} {fold : Bool} {s : List Int} (hmade : PG.Made prog g e) (hset : ∀ x ∈ prog, x.set.length ≤ 1000)
    (hm : Mtc w mb vp prog g fold) (hs : SlC w sv s) (hsl : s.length ≤ 1000) (S : MX.Seen) (W0 : List MX.W) (nt : List Int) (wr : World) (hnt : nt.length = 2 * g + 2) (T : Tri w tb mb sb nb sv vw (e + 2) (s.length + 1) ⟨S, W0, nt⟩ wr)
    (at_ : Nat) (ha : at_ ≤ s.length) (S' : MX.Seen) (r : Option (List Int)) (hx : MX.Exp (MX.act prog fold s) S 0 at_ nt S' r) :
    Calls Tryz.prog 26 #[.pointer (some ⟨tb, 0, none⟩), .int .i64 (at_ : Int)] wr (RunP w tb mb sb nb sv (e + 2) (s.length + 1) S' nt r) := by
  have HST := Lib.hid (fun (c : MX.Cf) (vw : Value) (wr : World) (h1 : c.notes.length = 2 * g + 2) (h2 : c.ways.length ≤ 1000000) (h3 : Tri w tb mb sb nb sv vw (e + 2) (s.length + 1) c wr) (pc a : Nat) (h4 : pc < e + 2) (h5 : a ≤ s.length) => mstep_any hmade hset hm hs hsl c wr h1 h2 h3 pc a h4 h5)
  have HOK := Lib.hid (fun (c : MX.Cf) (pc a : Nat) (h1 : MX.WOk g (e + 2) (s.length + 1) c) (h2 : pc < e + 2) (h3 : a ≤ s.length) => MX.step_ok hmade fold s h1 h2 h3)
  have HEN := Lib.hid (MX.ends_run hx)
  have hle := hmade.le
  have HT := Lib.hid (show Tri w tb mb sb nb sv (.slice (some ⟨wr.heap.size, 0, none⟩) 1 1) (e + 2) (s.length + 1) ⟨S, [.fwd 0 at_], nt⟩ ((wr.setCell ⟨tb, 3, none⟩ (.slice (some ⟨wr.heap.size, 0, none⟩) 1 1)).alloc (.cells #[.bool false, .int .i64 0, .int .i64 (at_ : Int)] 93)) from by
    have h1 := T.renew at_
    rwa [World.setCell_alloc_past _ _ _ _ (heap_lt T.box)] at h1)
  have b0 := T.b3
  have ft3 := T.ft 3
  have htl := heap_lt T.box
  have HMU := Lib.hid (show MX.mu (e + 2) (s.length + 1) ⟨S, [.fwd 0 at_], nt⟩ ≤ 700000 from by
    have h1 : MX.unseen (e + 2) (s.length + 1) S ≤ (e + 2) * (s.length + 1) := by
      unfold MX.unseen
      have := List.countP_le_length (p := fun b : Bool => !b) (l := MX.seenL (e + 2) (s.length + 1) S)
      rw [MX.seenL_len] at this
      exact this
    have h2 : (e + 2) * (s.length + 1) ≤ 300 * 1001 := Nat.mul_le_mul (by omega) (by omega)
    simp only [MX.mu, List.length_cons, List.length_nil]
    omega)
  have HW0 := Lib.hid (show MX.WOk g (e + 2) (s.length + 1) ⟨S, [.fwd 0 at_], nt⟩ from ⟨hnt, fun x hx => by
    simp at hx
    subst hx
    show 0 < e + 2 ∧ at_ < s.length + 1
    omega⟩)
  have HSL := Lib.hid hsl
  generalize hA : MX.act prog fold s = A at HST HOK HEN
  clear hmade hset hm hs hnt T hx hA hsl
  generalize e + 2 = m at *
  generalize hn : s.length + 1 = n at *
  have HN := Lib.hid hn
  clear hn
  go_enter Tryz.func26, Tryz.ntmps26
  go_wp2_with fail
  obtain ⟨R, hR⟩ : ∃ R, MX.resOf S' nt r = R := ⟨_, rfl⟩
  rw [hR] at HEN
  have HR := Lib.hid hR
  clear hR b0 ft3 htl
  go_loopg [9] 700000 (fun k _ wr2 => ∃ (c : MX.Cf) (vw : Value), Tri w tb mb sb nb sv vw m n c wr2 ∧ MX.WOk g m n c ∧ MX.mu m n c ≤ k ∧ k ≤ 700000 ∧ MX.Ends A c .pop R)
  case atStart => exact ⟨_, _, HT.out, HW0.out, HMU.out, Nat.le_refl _, HEN.out⟩
  case round =>
    obtain ⟨⟨S2, W, nt2⟩, vw2, hT, hW, hmu, hk, hE⟩ := hrel
    obtain ⟨K0, rfl⟩ : ∃ K0, K0 = gk := ⟨gk, rfl⟩
    have HT2 := Lib.hid hT
    have b3 := hT.b3
    have ft3 := hT.ft 3
    have htl := heap_lt hT.box
    obtain ⟨Aw, cap, rfl, hwc, hcc⟩ := hT.formW
    cases W with
    | nil =>
      have HF := Lib.hid (show R = .lost S2 nt2 from (MX.Ends.stop rfl hE).symm)
      clear hT hW hmu hE
      go_wp2_with fail
      refine bodyPost_ret (v := .bool false) (by simp [results, Tryz.results26, go_sem]) rfl ?_
      have h1 : MX.resOf S' nt r = .lost S2 nt2 := HR.out.trans HF.out
      cases r with
      | some r => cases h1
      | none =>
        injection h1 with e1 e2
        subst e1 e2
        exact ⟨rfl, _, HT2.out⟩
    | cons x W =>
      obtain ⟨gw, rfl, -, hcell⟩ := hT.top
      have hmu2 : MX.mu m n ⟨S2, W, nt2⟩ + 1 = MX.mu m n ⟨S2, x :: W, nt2⟩ := by simp only [MX.mu, List.length_cons]; omega
      have HMU2 := Lib.hid hmu2
      have hwl : W.length ≤ 700000 := by simp only [MX.mu] at hmu2 hmu; omega
      have hWx := hW.way x (by simp)
      have hW2 : ∀ y, y = nt2 → MX.WOk g m n ⟨S2, W, nt2⟩ := fun _ _ => ⟨hW.len, fun y hy => hW.way y (by simp [hy])⟩
      have HW2 := Lib.hid (hW2 nt2 rfl)
      have hwc2 : W.length ≤ cap := by simp at hwc; omega
      have hgl : gw < wr.heap.size := by
        have h0 := hcell 0 (match x with | .back _ _ => .bool true | .fwd _ _ => .bool false) (by cases x <;> rfl)
        exact World.block_lt_of_cell? wr _ h0
      have hgt : gw ≠ tb := by
        obtain ⟨cur, hh⟩ := hT.ways.type gw rfl
        exact (hT.far gw cur rfl hh).1
      have htg := hgt.symm
      obtain ⟨q, hq⟩ : ∃ q, (x :: W).length = q := ⟨_, rfl⟩
      obtain ⟨rl, hrl⟩ : ∃ rl, W.length = rl := ⟨_, rfl⟩
      have hql : q = rl + 1 := by rw [← hq, ← hrl]; rfl
      have s1 : IntKind.i64.wrap ((q : Int) - 1) = (rl : Int) := by rw [IntWalk.i64_in _ (by omega)]; omega
      have q1 : (rl : Int) < (q : Int) := by omega
      have q2 : (0 : Int) < (q : Int) := by omega
      have q3 : rl < q := by omega
      have q4 : rl ≤ cap := by omega
      have q5 : (rl : Int) ≤ (cap : Int) := by omega
      have q6 : 0 < q := by omega
      rw [hrl] at hcell hwl hwc2
      have HRL := Lib.hid hrl
      have hb3 : wr.cell? ⟨tb, 3, none⟩ = some (.slice (some ⟨gw, 0, none⟩) q cap) := by rw [← hq]; exact b3
      have HTT := Lib.hid (show Tri w tb mb sb nb sv (.slice (some ⟨gw, 0, none⟩) q cap) m n ⟨S2, x :: W, nt2⟩ wr by rw [← hq]; exact hT)
      clear hW hmu2 hW2 hq hrl hql hT HT2 b3
      cases x with
      | back i v =>
        have e0 : wr.cell? ⟨gw, rl * 3, none⟩ = some (.bool true) := hcell 0 _ rfl
        have e1 : wr.cell? ⟨gw, rl * 3 + 1, none⟩ = some (.int .i64 (i : Int)) := hcell 1 _ rfl
        have e2 : wr.cell? ⟨gw, rl * 3 + 2, none⟩ = some (.int .i64 v) := hcell 2 _ rfl
        clear hcell
        go_wp2_with fail
        go_region
        have HTA := Lib.hid (HTT.out.ext_ (((Ext.refl wr).alloc (.cells #[.bool true, .int .i64 (i : Int), .int .i64 v] 93)).drew))
        have f0 : (wr.alloc (.cells #[.bool true, .int .i64 (i : Int), .int .i64 v] 93)).drew.cell? ⟨wr.heap.size, 0, none⟩ = some (.bool true) := (World.cell?_alloc_new wr _ _ 0).trans rfl
        have f1 : (wr.alloc (.cells #[.bool true, .int .i64 (i : Int), .int .i64 v] 93)).drew.cell? ⟨wr.heap.size, 1, none⟩ = some (.int .i64 (i : Int)) := (World.cell?_alloc_new wr _ _ 1).trans rfl
        have f2 : (wr.alloc (.cells #[.bool true, .int .i64 (i : Int), .int .i64 v] 93)).drew.cell? ⟨wr.heap.size, 2, none⟩ = some (.int .i64 v) := (World.cell?_alloc_new wr _ _ 2).trans rfl
        have hxt : wr.heap.size ≠ tb := Nat.ne_of_gt htl
        have htx := hxt.symm
        have hb3 := HTA.out.b3
        have ft3 := HTA.out.ft 3
        clear e0 e1 e2 htl hgl
        generalize (wr.alloc (.cells #[.bool true, .int .i64 (i : Int), .int .i64 v] 93)).drew = w3 at HTA f0 f1 f2 hb3 ft3 ⊢
        generalize wr.heap.size = xb at f0 f1 f2 hxt htx ⊢
        go_wp2_with fail
        go_region
        have HTB := Lib.hid (show Tri w tb mb sb nb sv (.slice (some ⟨gw, 0, none⟩) rl cap) m n ⟨S2, W, nt2⟩ ((w3.setCell ⟨tb, 3, none⟩ (.slice (some ⟨gw, 0, none⟩) rl cap)).drew) from by
          have h1 := HTA.out.pop
          rw [HRL.out] at h1
          exact h1.ext_ (Ext.refl _).drew)
        have f0 : ((w3.setCell ⟨tb, 3, none⟩ (.slice (some ⟨gw, 0, none⟩) rl cap)).drew).cell? ⟨xb, 0, none⟩ = some (.bool true) := (World.cell?_setCell_far _ _ _ _ htx).trans f0
        have f1 : ((w3.setCell ⟨tb, 3, none⟩ (.slice (some ⟨gw, 0, none⟩) rl cap)).drew).cell? ⟨xb, 1, none⟩ = some (.int .i64 (i : Int)) := (World.cell?_setCell_far _ _ _ _ htx).trans f1
        have f2 : ((w3.setCell ⟨tb, 3, none⟩ (.slice (some ⟨gw, 0, none⟩) rl cap)).drew).cell? ⟨xb, 2, none⟩ = some (.int .i64 v) := (World.cell?_setCell_far _ _ _ _ htx).trans f2
        clear hb3 ft3
        generalize (w3.setCell ⟨tb, 3, none⟩ (.slice (some ⟨gw, 0, none⟩) rl cap)).drew = w4 at HTB f0 f1 f2 ⊢
        have hil : i < nt2.length := by rw [HW2.out.len]; exact hWx
        have c4 : w4.cell? ⟨tb, 4, none⟩ = some (.slice (some ⟨nb, 0, none⟩) nt2.length nt2.length) := HTB.out.b4
        have cn : w4.cell? ⟨nb, i, none⟩ = some (.int .i64 (nt2.getD i (-1))) := HTB.out.nt hil
        have fn := HTB.out.fn i
        have hilI : (i : Int) < (nt2.length : Int) := by omega
        go_wp2_with fail
        go_region
        go_wp2_with fail
        go_roundg (MX.mu m n ⟨S2, W, nt2⟩)
        case measure => have := HMU2.out; omega
        case rel => exact ⟨⟨S2, W, nt2.set i v⟩, _, (HTB.out.note (x := i) (v := v)).ext_ (by first | exact Ext.refl _ | exact (Ext.refl _).drew | exact ((Ext.refl _).drew).drew), ⟨by simp only [List.length_set]; exact HW2.out.len, HW2.out.way⟩, Nat.le_refl _, by have := HMU2.out; omega, MX.Ends.off rfl hE⟩
      | fwd p a =>
        have e0 : wr.cell? ⟨gw, rl * 3, none⟩ = some (.bool false) := hcell 0 _ rfl
        have e1 : wr.cell? ⟨gw, rl * 3 + 1, none⟩ = some (.int .i64 (p : Int)) := hcell 1 _ rfl
        have e2 : wr.cell? ⟨gw, rl * 3 + 2, none⟩ = some (.int .i64 (a : Int)) := hcell 2 _ rfl
        clear hcell
        go_wp2_with fail
        go_region
        have HTA := Lib.hid (HTT.out.ext_ (((Ext.refl wr).alloc (.cells #[.bool false, .int .i64 (p : Int), .int .i64 (a : Int)] 93)).drew))
        have f0 : (wr.alloc (.cells #[.bool false, .int .i64 (p : Int), .int .i64 (a : Int)] 93)).drew.cell? ⟨wr.heap.size, 0, none⟩ = some (.bool false) := (World.cell?_alloc_new wr _ _ 0).trans rfl
        have f1 : (wr.alloc (.cells #[.bool false, .int .i64 (p : Int), .int .i64 (a : Int)] 93)).drew.cell? ⟨wr.heap.size, 1, none⟩ = some (.int .i64 (p : Int)) := (World.cell?_alloc_new wr _ _ 1).trans rfl
        have f2 : (wr.alloc (.cells #[.bool false, .int .i64 (p : Int), .int .i64 (a : Int)] 93)).drew.cell? ⟨wr.heap.size, 2, none⟩ = some (.int .i64 (a : Int)) := (World.cell?_alloc_new wr _ _ 2).trans rfl
        have hxt : wr.heap.size ≠ tb := Nat.ne_of_gt htl
        have htx := hxt.symm
        have hb3 := HTA.out.b3
        have ft3 := HTA.out.ft 3
        clear e0 e1 e2 htl hgl
        generalize (wr.alloc (.cells #[.bool false, .int .i64 (p : Int), .int .i64 (a : Int)] 93)).drew = w3 at HTA f0 f1 f2 hb3 ft3 ⊢
        generalize wr.heap.size = xb at f0 f1 f2 hxt htx ⊢
        go_wp2_with fail
        go_region
        have HTB := Lib.hid (show Tri w tb mb sb nb sv (.slice (some ⟨gw, 0, none⟩) rl cap) m n ⟨S2, W, nt2⟩ ((w3.setCell ⟨tb, 3, none⟩ (.slice (some ⟨gw, 0, none⟩) rl cap)).drew) from by
          have h1 := HTA.out.pop
          rw [HRL.out] at h1
          exact h1.ext_ (Ext.refl _).drew)
        have f0 : ((w3.setCell ⟨tb, 3, none⟩ (.slice (some ⟨gw, 0, none⟩) rl cap)).drew).cell? ⟨xb, 0, none⟩ = some (.bool false) := (World.cell?_setCell_far _ _ _ _ htx).trans f0
        have f1 : ((w3.setCell ⟨tb, 3, none⟩ (.slice (some ⟨gw, 0, none⟩) rl cap)).drew).cell? ⟨xb, 1, none⟩ = some (.int .i64 (p : Int)) := (World.cell?_setCell_far _ _ _ _ htx).trans f1
        have f2 : ((w3.setCell ⟨tb, 3, none⟩ (.slice (some ⟨gw, 0, none⟩) rl cap)).drew).cell? ⟨xb, 2, none⟩ = some (.int .i64 (a : Int)) := (World.cell?_setCell_far _ _ _ _ htx).trans f2
        clear hb3 ft3
        generalize (w3.setCell ⟨tb, 3, none⟩ (.slice (some ⟨gw, 0, none⟩) rl cap)).drew = w4 at HTB f0 f1 f2 ⊢
        go_wp2_with fail
        go_quiet (fail)
        go_wp2_with fail
        obtain ⟨hpm, han⟩ := hWx
        have HE0 := Lib.hid (MX.Ends.off (c' := ⟨S2, W, nt2⟩) (ph' := .go p a) rfl hE)
        have HX2 := Lib.hid (HTB.out.ext_ ((Ext.refl w4).drewN nq))
        clear f0 f1 f2
        generalize w4.drewN nq = w5 at HX2 ⊢
        go_loopg [6, 7, 8] (MX.mu m n ⟨S2, W, nt2⟩ + 1) (fun k x6 x7 x8 wr3 => ∃ (c : MX.Cf) (vw : Value), Tri w tb mb sb nb sv vw m n c wr3 ∧ MX.WOk g m n c ∧ MX.mu m n c + 1 ≤ K0 ∧
          ((x8 = .bool true ∧ ∃ p a : Nat, x6 = .int .i64 (p : Int) ∧ x7 = .int .i64 (a : Int) ∧ p < m ∧ a < n ∧ MX.mu m n c + 1 ≤ k ∧ MX.Ends A c (.go p a) R) ∨
           (x8 = .bool false ∧ MX.mu m n c ≤ k ∧ MX.Ends A c .pop R)))
        case atStart => exact ⟨_, _, HX2.out, HW2.out, by have := HMU2.out; omega, .inl ⟨rfl, p, a, rfl, rfl, hpm, han, Nat.le_refl _, HE0.out⟩⟩
        case round =>
          obtain ⟨c, vw, hTc, hWc, hmc, hor⟩ := hrel
          have HTc := Lib.hid hTc
          have HWc := Lib.hid hWc
          rcases hor with ⟨rfl, p2, a2, rfl, rfl, hp2, ha2, hm2, hE2⟩ | ⟨rfl, hm2, hE2⟩
          rotate_left
          · clear hTc hWc
            go_wp2_with fail
            go_roundg (MX.mu m n c)
            case measure => omega
            case rel => exact ⟨c, vw, HTc.out, HWc.out, Nat.le_refl _, by omega, hE2⟩
          have hS2 := HST.out c vw _ hWc.len (by have : MX.mu m n c ≤ 700000 := by omega
                                                 simp only [MX.mu] at this; omega) hTc p2 a2 hp2 (by have := HN.out; omega)
          have HS2 := Lib.hid hS2
          have hok := HOK.out c p2 a2 hWc hp2 (by have := HN.out; omega)
          have hnx := MX.next_go (A := A) (c := c) (pc := p2) (at_ := a2)
          obtain ⟨c3, hc3⟩ : ∃ c3, (MX.step A c p2 a2).1 = c3 := ⟨_, rfl⟩
          obtain ⟨g3, hg3⟩ : ∃ g3, (MX.step A c p2 a2).2 = g3 := ⟨_, rfl⟩
          have hstep : MX.step A c p2 a2 = (c3, g3) := by rw [← hc3, ← hg3]
          rw [hstep] at hok hnx HS2
          dsimp only at hok hnx
          obtain ⟨hok1, hok2, hok3⟩ := hok
          have HO1 := Lib.hid hok1
          clear hTc hWc hS2 hc3 hg3 hstep hok1
          rcases g3 with _ | _ | ⟨p3, a3⟩
          · -- fail
            have HE3 := Lib.hid (MX.Ends.off hnx hE2)
            clear hnx hok3
            go_wp2_with (go_at_call 46; go_loud (refine HS2.out.mono ?_; rintro e9 w9 ⟨vw9, x9, y9, ok9, dn9, rfl, hT9, hG9⟩; obtain ⟨rfl, rfl⟩ := hG9; have HT9 := Lib.hid hT9; clear hT9))
            go_roundg (MX.mu m n c3)
            case measure => omega
            case rel => exact ⟨c3, vw9, HT9.out, HO1.out, by omega, .inr ⟨rfl, Nat.le_refl _, HE3.out⟩⟩
          · -- done
            have HF := Lib.hid (show R = .found c3.notes from (MX.Ends.stop hnx hE2).symm)
            clear hnx hok3
            go_wp2_with (go_at_call 46; go_loud (refine HS2.out.mono ?_; rintro e9 w9 ⟨vw9, x9, y9, ok9, dn9, rfl, hT9, hG9⟩; obtain ⟨rfl, rfl⟩ := hG9; have HT9 := Lib.hid hT9; clear hT9))
            refine bodyPost_ret (v := .bool true) (by simp [results, Tryz.results26, go_sem]) rfl ?_
            have h1 : MX.resOf S' nt r = .found c3.notes := HR.out.trans HF.out
            cases r with
            | some r =>
              injection h1 with e1
              exact ⟨rfl, _, c3, e1.symm, HT9.out⟩
            | none => cases h1
          · -- on
            obtain ⟨h31, h32, h33⟩ := hok3 p3 a3 rfl
            have HE3 := Lib.hid (MX.Ends.off hnx hE2)
            clear hnx hok3
            go_wp2_with (go_at_call 46; go_loud (refine HS2.out.mono ?_; rintro e9 w9 ⟨vw9, x9, y9, ok9, dn9, rfl, hT9, hG9⟩; obtain ⟨rfl, rfl, rfl, rfl⟩ := hG9; have HT9 := Lib.hid hT9; clear hT9))
            go_roundg (MX.mu m n c3 + 1)
            case measure => omega
            case rel => exact ⟨c3, vw9, HT9.out, HO1.out, by omega, .inl ⟨rfl, p3, a3, rfl, rfl, h31, h32, Nat.le_refl _, HE3.out⟩⟩
end Go.Proofs.YtfblkahjefdmaaaGreat
