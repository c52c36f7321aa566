/- Walks: nodes in memory; under. -/
import Derived.Test.YtfblkahjefdmaaaRdr
namespace Go.Proofs.Ytfblkahjefdmaaa
open Go.RowKit

theorem info_re : (Try.prog.info? 40).map (fun i => (i.zero, i.size, i.bytes)) = some (some (.agg #[.int .i64 0, .int .i64 0, .int .i64 0, .int .i64 0, .bool false, .bool false, .slice none 0 0]), 7, 64) := by kernel_rfl
theorem info_rows : (Try.prog.info? 33).map (fun i => (i.zero, i.size, i.bytes)) = some (some (.slice none 0 0), 1, 24) := by kernel_rfl
theorem info_c : (Try.prog.info? 21).map (fun i => (i.zero, i.size, i.bytes)) = some (some (.int .i32 0), 1, 4) := by kernel_rfl

/-- The cells of a node; its set lies in blocks from B on. -/
def CR (B : Nat) (w : World) (cs : List Value) (x : RX.ReN) : Prop :=
  ∃ sv, cs = [.int .i64 x.kind, .int .i64 x.deep, .int .i64 x.lo, .int .i64 x.hi, .bool x.lazy, .bool x.neg, sv] ∧ SlB 21 1 Cc B w sv x.set
theorem keeps_re (B : Nat) : Keeps [21] (CR B) := fun _ _ _ _ hk ⟨sv, h1, h2⟩ => ⟨sv, h1, h2.keep (keeps_c []) (hk.sub (by simp)) hk⟩
abbrev OwnRe (B base : Nat) (w : World) (v : Value) (l : List RX.ReN) : Prop := OwnB 40 7 (CR B) base w v l
abbrev SlRe (B base : Nat) (w : World) (v : Value) (l : List RX.ReN) : Prop := SlB 40 7 (CR B) base w v l
/-- The cell of a row of nodes. -/
def CL (B : Nat) (w : World) (cs : List Value) (l : List RX.ReN) : Prop := ∃ v, cs = [v] ∧ SlRe B B w v l
theorem keeps_l (B : Nat) : Keeps [40, 21] (CL B) := fun _ _ _ _ hk ⟨v, h1, h2⟩ => ⟨v, h1, h2.keep (keeps_re B) (hk.sub (by simp)) (hk.sub (by simp))⟩
theorem CR.one {B : Nat} {w : World} {cs : List Value} {x : RX.ReN} (h : CR B w cs x) : ∀ u ∈ cs, u.oneCell' = true := by
  obtain ⟨sv, rfl, hs⟩ := h
  obtain ⟨A, c, rfl, _⟩ := hs
  intro u hu
  simp at hu
  rcases hu with rfl | rfl | rfl | rfl | rfl | rfl | rfl <;> rfl
theorem CR.down {B : Nat} {w : World} {k d lo hi : Int} {lz ng : Bool} {sv : Value} {x : RX.ReN} (h : CR B w [.int .i64 k, .int .i64 d, .int .i64 lo, .int .i64 hi, .bool lz, .bool ng, sv] x) : CR B w [.int .i64 k, .int .i64 (d + 1), .int .i64 lo, .int .i64 hi, .bool lz, .bool ng, sv] x.down := by
  obtain ⟨sv', h1, h2⟩ := h
  simp only [List.cons.injEq, Value.int.injEq, Value.bool.injEq, true_and, and_true] at h1
  obtain ⟨rfl, rfl, rfl, rfl, rfl, rfl, rfl⟩ := h1
  exact ⟨sv, rfl, h2⟩
theorem CR.cells {B : Nat} {w : World} {cs : List Value} {x : RX.ReN} (h : CR B w cs x) : ∃ A c, cs = [.int .i64 x.kind, .int .i64 x.deep, .int .i64 x.lo, .int .i64 x.hi, .bool x.lazy, .bool x.neg, .slice A x.set.length c] := by
  obtain ⟨sv, rfl, hs⟩ := h
  obtain ⟨A, c, rfl, _⟩ := hs
  exact ⟨A, c, rfl⟩
theorem CR.len {B : Nat} {w : World} {cs : List Value} {x : RX.ReN} (h : CR B w cs x) : cs.length = 7 := by
  obtain ⟨sv, rfl, _⟩ := h; rfl

theorem take_map_snoc (pre : List RX.ReN) (l : List RX.ReN) (m : Nat) (h : m < l.length) : pre ++ (l.take (m + 1)).map RX.ReN.down = (pre ++ (l.take m).map RX.ReN.down) ++ [l[m].down] := by
  rw [List.take_succ_eq_append_getElem h, List.map_append, ← List.append_assoc]; rfl
theorem take_flat_snoc (top : RX.ReN) (ps : List (List RX.ReN)) (m : Nat) (h : m < ps.length) : (top :: ((ps.take m).flatten.map RX.ReN.down)) ++ ps[m].map RX.ReN.down = top :: ((ps.take (m + 1)).flatten.map RX.ReN.down) := by
  rw [List.take_succ_eq_append_getElem h, List.flatten_append, List.map_append, List.cons_append, List.flatten_singleton]

/-- The bounds on what is put below a node. -/
def Small (top : RX.ReN) (parts : List (List RX.ReN)) : Prop := (RX.under top parts).length ≤ 100000 ∧ ∀ l ∈ parts, ∀ x ∈ l, 0 ≤ x.deep ∧ x.deep ≤ 1000
theorem Small.part {top : RX.ReN} {parts : List (List RX.ReN)} (h : Small top parts) {m : Nat} (hm : m < parts.length) : (top :: ((parts.take m).flatten.map RX.ReN.down)).length + parts[m].length ≤ 100000 := by
  have h1 := h.1
  have e : parts = parts.take m ++ (parts[m] :: parts.drop (m + 1)) := by rw [← List.drop_eq_getElem_cons hm, List.take_append_drop]
  have h2 : parts.flatten = (parts.take m).flatten ++ (parts[m] ++ (parts.drop (m + 1)).flatten) :=
    (congrArg List.flatten e).trans (by rw [List.flatten_append, List.flatten_cons])
  unfold RX.under at h1
  rw [h2] at h1
  simp at h1 ⊢
  omega

set_option maxRecDepth 100000 in
set_option maxHeartbeats 1000000 in
theorem under_any (B : Nat) (w : World) (top : RX.ReN) (parts : List (List RX.ReN)) (ctop : List Value) (vp : Value) (ht : CR B w ctop top) (hp : SlB 33 1 (CL B) B w vp parts) (hs : Small top parts) :
    Calls Try.prog 94 #[.agg ctop.toArray, vp] w (RetP (fun w' v => OwnRe B w.heap.size w' v (RX.under top parts)) w) := by
  have HT := Lib.hid ht
  obtain ⟨At, ct, rfl⟩ := ht.cells
  have HP := Lib.hid hp
  have HS := Lib.hid hs
  obtain ⟨Ap, cp, rfl, hlp, hcp⟩ := hp.form
  clear ht hs hp
  go_enter Try.func94, Try.ntmps94
  go_wp2_with fail
  go_loopg [5, 14] parts.length (fun k v i wr => ∃ m : Nat, m + k = parts.length ∧ i = .int .i64 m ∧ OwnRe B w.heap.size wr v (top :: ((parts.take m).flatten.map RX.ReN.down)) ∧ Ext w wr)
  case atStart =>
    refine ⟨0, by omega, rfl, ?_, ((Ext.refl w).alloc _).alloc _⟩
    refine OwnB.lit (w := w.alloc _) (base := w.heap.size) (sz := 7) _ [top] _ _ (by simp) rfl (by simp) (by simp) ?_ ?_
    · rfl
    intro k x hx
    match k, hx with
    | 0, hx =>
      simp at hx; subst hx
      exact ⟨_, keeps_re B _ _ _ _ (KeepT.of_ext (((Ext.refl w).alloc _).alloc _)) HT.out, rfl, fun i u hu => by simpa using hu⟩
  case round =>
    obtain ⟨m, hm, rfl, hown, hE⟩ := hrel
    have HO := Lib.hid hown
    have HM := Lib.hid hm
    clear hm hown
    have hml : m ≤ parts.length := by have := HM.out; omega
    by_cases hlt : m < parts.length
    · obtain ⟨gp, op, cs, rfl, ⟨vl, rfl, hsl⟩, hcell⟩ := HP.out.at_ hlt
      have hc := hE.cell (hcell 0 vl rfl)
      rw [Nat.mul_one, Nat.add_zero] at hc
      have hpart := HS.out.part hlt
      have hdeep := HS.out.2 parts[m] (List.getElem_mem hlt)
      have HF := Lib.hid (take_flat_snoc top parts m hlt)
      have HD := Lib.hid hdeep
      generalize parts[m] = l at hsl HF HD hpart
      generalize top :: ((parts.take m).flatten.map RX.ReN.down) = pre at HO HF hpart
      obtain ⟨Al, cl, rfl, hll, hcl⟩ := hsl.form
      have HL := Lib.hid hsl
      have HE := Lib.hid hE
      have hsz := hE.size
      clear hsl hcell hdeep hE
      obtain ⟨wo, rfl⟩ : ∃ wo : World, wo = wr := ⟨_, rfl⟩
      go_wp2_with fail
      clear hc
      go_loopg [5, 20] l.length (fun k v i wr => ∃ q : Nat, q + k = l.length ∧ i = .int .i64 q ∧ OwnRe B w.heap.size wr v (pre ++ (l.take q).map RX.ReN.down) ∧ Ext w wr)
      case atStart => exact ⟨0, by omega, rfl, by rw [List.take_zero]; simpa using HO.out, HE.out⟩
      case round =>
        obtain ⟨q, hq, rfl, hown, hE⟩ := hrel
        have HQ := Lib.hid hq
        clear hq
        have hql : q ≤ l.length := by have := HQ.out; omega
        by_cases hlt2 : q < l.length
        · obtain ⟨g, o, cs, rfl, hcr, hcell⟩ := (HL.out.keep (keeps_re B) (KeepT.of_ext hE) (KeepT.of_ext hE)).at_ hlt2
          have HSn := Lib.hid (take_map_snoc pre l q hlt2)
          have hd := HD.out l[q] (List.getElem_mem hlt2)
          generalize l[q] = x at hcr HSn hd
          have hln : (pre ++ (l.take q).map RX.ReN.down).length ≤ 1000000 := by simp; omega
          generalize pre ++ (l.take q).map RX.ReN.down = acc at HSn hown hln
          obtain ⟨acc', hac⟩ : ∃ a, a = pre ++ (l.take (q + 1)).map RX.ReN.down := ⟨_, rfl⟩
          rw [← hac] at HSn
          have HAC := Lib.hid hac
          clear hac
          obtain ⟨Ax, cx, rfl⟩ := hcr.cells
          have c0 := hcell 0 _ rfl
          have c1 := hcell 1 _ rfl
          have c2 := hcell 2 _ rfl
          have c3 := hcell 3 _ rfl
          have c4 := hcell 4 _ rfl
          have c5 := hcell 5 _ rfl
          have c6 := hcell 6 _ rfl
          rw [Nat.add_zero] at c0
          obtain ⟨hd0, hd1⟩ := hd
          have hy := hcr.down
          have hown2 := hown.keepT (keeps_re B) (KeepT.of_ext ((Ext.refl wr).alloc (.cells #[.int .i64 x.kind, .int .i64 (x.deep + 1), .int .i64 x.lo, .int .i64 x.hi, .bool x.lazy, .bool x.neg, .slice Ax x.set.length cx] 40))) (KeepT.of_ext ((Ext.refl wr).alloc _))
          have hy2 := keeps_re B _ _ _ _ (KeepT.of_ext ((Ext.refl wr).alloc (.cells #[.int .i64 x.kind, .int .i64 (x.deep + 1), .int .i64 x.lo, .int .i64 x.hi, .bool x.lazy, .bool x.neg, .slice Ax x.set.length cx] 40))) hy
          have hlen := hln
          have hsz2 := hE.size
          have HY := Lib.hid hy2
          have HOW := Lib.hid hown2
          have HE2 := Lib.hid hE
          have HLT := Lib.hid hown.lt
          clear hcr hcell hown hE hy hy2 hown2
          go_wp2_with (at_builtin; go_loud (refine app_one Try.underlying33 info_re rfl (by decide) (by decide) (keeps_re B) (by decide) rfl _ _ rfl w.heap.size _ _ _ _ _ HOW.out HY.out rfl HY.out.one rfl _ rfl (by simp) hlen (by simp; omega) ?_))
          intro v' w' h1 h2
          have hE3 : Ext w w' := ((HE2.out.alloc _).alloc _).grown h2 (fun k hk => (HLT.out k hk).1)
          rw [← HSn.out] at h1
          clear h2
          go_wp2_with fail
          go_roundg (l.length - (q + 1))
          case measure => have := HQ.out; omega
          case rel => exact ⟨q + 1, by omega, by go_num, by rw [← HAC.out]; exact h1, hE3⟩
        · have hq : q = l.length := by omega
          have HT2 := Lib.hid (show pre ++ (l.take q).map RX.ReN.down = top :: ((parts.take (m + 1)).flatten.map RX.ReN.down) by rw [hq, List.take_length]; exact HF.out)
          clear hq
          rw [HT2.out] at hown
          go_wp2_with fail
          go_roundg (parts.length - (m + 1))
          case measure => have := HM.out; omega
          case rel => exact ⟨m + 1, by omega, by go_num, hown, hE⟩
    · have HT2 := Lib.hid (show top :: ((parts.take m).flatten.map RX.ReN.down) = RX.under top parts by rw [List.take_of_length_le (by omega)]; rfl)
      go_wp2_with fail
      go_ret
      exact ⟨_, rfl, by rw [← HT2.out]; exact HO.out, hE⟩
end Go.Proofs.Ytfblkahjefdmaaa
