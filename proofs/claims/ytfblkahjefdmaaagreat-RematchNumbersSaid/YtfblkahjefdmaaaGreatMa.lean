/- Walks: lies, in of package rematch; Upper of package signs. -/
import Derived.Test.YtfblkahjefdmaaaGreatPc
import Derived.Test.YtfblkahjefdmaaaGreatPureA
import Derived.Deep.RegionHeld3
import Derived.IntWalk
import Derived.Test.YtfblkahjefdmaaaGreatWa
import Derived.Maps.RangeWalk
namespace Go.Proofs.YtfblkahjefdmaaaGreat
open Go.RowKit

set_option maxHeartbeats 1000000 in
theorem upper_any (r : Int) (w : World) : Calls Tryz.prog 78 #[.int .i32 r] w (RetD (.int .i32 (RX.upper r)) w) := by
  by_cases h1 : RX.within r 97 122 = true
  · have hb := within_iff.1 h1
    obtain ⟨b1, b2⟩ := hb
    go_enter Tryz.func78, Tryz.ntmps78
    go_wp2_with (go_at_call 55; refine (within_any _ _ _ _).mono ?_; rintro e w' ⟨rfl, n, rfl⟩)
    all_goals
      go_ret
      refine ⟨ret_congr ?_, _, rfl⟩
      simp_all [RX.upper]
  · by_cases h2 : RX.within r 224 254 = true
    · have hb := within_iff.1 h2
      obtain ⟨b1, b2⟩ := hb
      go_enter Tryz.func78, Tryz.ntmps78
      go_wp2_with (go_at_call 55; refine (within_any _ _ _ _).mono ?_; rintro e w' ⟨rfl, n, rfl⟩)
      all_goals
        go_ret
        refine ⟨ret_congr ?_, _, rfl⟩
        simp_all [RX.upper]
    · go_enter Tryz.func78, Tryz.ntmps78
      go_wp2_with (go_at_call 55; refine (within_any _ _ _ _).mono ?_; rintro e w' ⟨rfl, n, rfl⟩)
      all_goals
        go_ret
        refine ⟨ret_congr ?_, _, rfl⟩
        simp_all [RX.upper]
theorem MX.lies_drop {r : Int} {set : List Int} {k : Nat} (h : k + 1 < set.length) : MX.lies r (set.drop k) = ((decide (set[k]'(by omega) ≤ r) && decide (r ≤ set[k + 1])) || MX.lies r (set.drop (k + 2))) := by
  rw [List.drop_eq_getElem_cons (by omega : k < set.length), List.drop_eq_getElem_cons h]
  rfl
theorem MX.lies_end {r : Int} {set : List Int} {k : Nat} (h : ¬ k + 1 < set.length) : MX.lies r (set.drop k) = false := by
  have hl : (set.drop k).length ≤ 1 := by rw [List.length_drop]; omega
  generalize set.drop k = l at hl
  match l, hl with
  | [], _ => rfl
  | [_], _ => rfl
  | _ :: _ :: _, hl => simp at hl
set_option maxHeartbeats 1000000 in
theorem lies_any (r : Int) (set : List Int) (v : Value) (w : World) (hv : SlC w v set) (hl : set.length ≤ 1000000) : Calls Tryz.prog 77 #[.int .i32 r, v] w (RetD (.bool (MX.lies r set)) w) := by
  obtain ⟨A, c, rfl, hlc, hcm, _⟩ := id hv
  have HV := Lib.hid hv
  obtain ⟨L, hL⟩ : ∃ L, MX.lies r set = L := ⟨_, rfl⟩
  rw [hL]
  have HL := Lib.hid hL
  clear hv hL
  go_enter Tryz.func77, Tryz.ntmps77
  go_wp2_with fail
  go_loopw [5] (fun x wr => ∃ k n : Nat, k ≤ set.length + 1 ∧ x = .int .i64 (k : Int) ∧ wr = w.drewN n ∧ MX.lies r (set.drop k) = L) (fun x _ => set.length + 2 - (intOf x).toNat)
  case atStart => exact ⟨0, 0, Nat.zero_le _, rfl, rfl, HL.out⟩
  case round =>
    obtain ⟨k, n, hk, rfl, rfl, hT⟩ := hrel
    have s1 : IntKind.i64.wrap ((k : Int) + 1) = ((k + 1 : Nat) : Int) := by rw [IntWalk.i64_in _ (by omega)]; omega
    have s2 : IntKind.i64.wrap ((k : Int) + 2) = ((k + 2 : Nat) : Int) := by rw [IntWalk.i64_in _ (by omega)]; omega
    by_cases hlt : k + 1 < set.length
    rotate_left
    · have HN := Lib.hid (show L = false by rw [← hT]; exact MX.lies_end hlt)
      have hd : decide (((k + 1 : Nat) : Int) < (set.length : Int)) = false := by simp; omega
      clear hT
      go_wp2_with fail
      go_ret
      exact ⟨ret_congr (by rw [HN.out]; rfl), _, rfl⟩
    have hd : decide (((k + 1 : Nat) : Int) < (set.length : Int)) = true := by simp; omega
    rw [MX.lies_drop hlt] at hT
    obtain ⟨b, o, rfl, hc⟩ := HV.out.at_ (k := k) (by omega)
    obtain ⟨b2, o2, he, hc2⟩ := HV.out.at_ (k := k + 1) hlt
    injection he with he
    injection he with e1 e2
    subst e1 e2
    generalize set[k] = x at hc hT
    generalize set[k + 1] = y at hc2 hT
    have t1 : ((k : Int)).toNat = k := by omega
    have t2 : (((k + 1 : Nat) : Int)).toNat = k + 1 := by omega
    have t3 : k < set.length := by omega
    rcases h1 : decide (x ≤ r) with _ | _
    · have HT := Lib.hid (show MX.lies r (set.drop (k + 2)) = L by rw [← hT, h1]; rfl)
      clear hT
      go_wp2_with fail
      go_roundw
      case rel => exact ⟨k + 2, _, by omega, by go_num, rfl, HT.out⟩
      case measure => simp [intOf]; omega
    · rcases h2 : decide (r ≤ y) with _ | _
      · have HT := Lib.hid (show MX.lies r (set.drop (k + 2)) = L by rw [← hT, h1, h2]; rfl)
        clear hT
        go_wp2_with fail
        go_roundw
        case rel => exact ⟨k + 2, _, by omega, by go_num, rfl, HT.out⟩
        case measure => simp [intOf]; omega
      · have HT := Lib.hid (show L = true by rw [← hT, h1, h2]; rfl)
        clear hT
        go_wp2_with fail
        go_ret
        exact ⟨ret_congr (by rw [HT.out]; rfl), _, rfl⟩
end Go.Proofs.YtfblkahjefdmaaaGreat

/- Walk: in of package rematch. -/
namespace Go.Proofs.YtfblkahjefdmaaaGreat
open Go.RowKit

/-- A matcher's cells. -/
structure Mtc (w : World) (mb : Nat) (vp : Value) (prog : List PG.Inst) (g : Nat) (fold : Bool) : Prop where
  box : w.heap[mb]? = some (.cells #[vp, .int .i64 (g : Int), .bool fold] 56 (0, 0))
  ins : InsS (fun _ => True) w vp prog
theorem Mtc.ext {w w' : World} {mb : Nat} {vp : Value} {prog : List PG.Inst} {g : Nat} {fold : Bool} (h : Mtc w mb vp prog g fold) (hx : Ext w w') : Mtc w' mb vp prog g fold := ⟨hx.heap h.box, h.ins.keep hx.keepS⟩
theorem Mtc.c0 {w : World} {mb : Nat} {vp : Value} {prog : List PG.Inst} {g : Nat} {fold : Bool} (h : Mtc w mb vp prog g fold) : w.cell? ⟨mb, 0, none⟩ = some vp := cell_of_row w mb 0 _ _ _ h.box
theorem Mtc.c1 {w : World} {mb : Nat} {vp : Value} {prog : List PG.Inst} {g : Nat} {fold : Bool} (h : Mtc w mb vp prog g fold) : w.cell? ⟨mb, 1, none⟩ = some (.int .i64 (g : Int)) := cell_of_row w mb 1 _ _ _ h.box
theorem Mtc.c2 {w : World} {mb : Nat} {vp : Value} {prog : List PG.Inst} {g : Nat} {fold : Bool} (h : Mtc w mb vp prog g fold) : w.cell? ⟨mb, 2, none⟩ = some (.bool fold) := cell_of_row w mb 2 _ _ _ h.box

set_option maxRecDepth 100000 in
set_option maxHeartbeats 2000000 in
theorem in_any (x : PG.Inst) (r : Int) (vs : Value) (mb : Nat) (vp : Value) (prog : List PG.Inst) (g : Nat) (fold : Bool) (w : World) (hm : Mtc w mb vp prog g fold) (hs : SlC w vs x.set) (hl : x.set.length ≤ 1000000) :
    Calls Tryz.prog 67 #[.pointer (some ⟨mb, 0, none⟩), .int .i32 r, .agg #[.int .i64 x.op, .int .i64 x.x, .int .i64 x.y, .bool x.neg, vs]] w (Ret (.bool (MX.isIn fold r x)) w) := by
  obtain ⟨A, c, rfl, -⟩ := id hs
  have m2 := hm.c2
  have HA := Lib.hid (fun w' (h : Ext w w') => lies_any r x.set _ w' (hs.ext h) hl)
  have HB := Lib.hid (fun w' (h : Ext w w') => lies_any (RX.upper r) x.set _ w' (hs.ext h) hl)
  have HC := Lib.hid (fun w' (h : Ext w w') => lies_any (RX.lower r) x.set _ w' (hs.ext h) hl)
  have HU := Lib.hid (upper_any r)
  have HW := Lib.hid (lower_any r)
  obtain ⟨I, hI⟩ : ∃ I, MX.isIn fold r x = I := ⟨_, rfl⟩
  have HI := Lib.hid hI
  unfold MX.isIn at hI
  rw [HI.out]
  have hmb : mb < w.heap.size := heap_lt hm.box
  generalize x.set = set at *
  generalize x.neg = neg at *
  generalize x.op = op at *
  generalize x.x = xx at *
  generalize x.y = xy at *
  generalize RX.upper r = ru at *
  generalize RX.lower r = rl at *
  generalize MX.lies r set = a at *
  generalize MX.lies ru set = b at *
  generalize MX.lies rl set = d at *
  have hnb : mb ≠ w.heap.size := Nat.ne_of_lt hmb
  clear hm hs HI x
  have hX := (Ext.refl w).alloc (.cells #[.int .i64 op, .int .i64 xx, .int .i64 xy, .bool neg, .slice A set.length c] 72)
  have m2 := hX.cell m2
  have n3 : (w.alloc (.cells #[.int .i64 op, .int .i64 xx, .int .i64 xy, .bool neg, .slice A set.length c] 72)).cell? ⟨w.heap.size, 3, none⟩ = some (.bool neg) := by rw [World.cell?_alloc_new]; rfl
  have n4 : (w.alloc (.cells #[.int .i64 op, .int .i64 xx, .int .i64 xy, .bool neg, .slice A set.length c] 72)).cell? ⟨w.heap.size, 4, none⟩ = some (.slice A set.length c) := by rw [World.cell?_alloc_new]; rfl
  have HX := Lib.hid hX
  clear hX
  go_enter Tryz.func67, Tryz.ntmps67
  go_upto_region 1 with fail
  generalize w.alloc _ = w1 at m2 n3 n4 HX ⊢
  generalize w.heap.size = nb at n3 n4 hnb ⊢
  cases fold with
  | false =>
    go_wp2_with (go_at_call 77; go_loud (refine (HA.out _ HX.out).mono ?_; rintro e w2 ⟨rfl, n2, rfl⟩))
    go_ret
    exact ⟨ret_congr (by rw [← hI]; cases a <;> cases neg <;> rfl), HX.out.drewN _⟩
  | true =>
  go_upto_region 3 with (go_at_call 77; go_loud (refine (HA.out _ HX.out).mono ?_; rintro e w2 ⟨rfl, n2, rfl⟩; have HX2 := Lib.hid (HX.out.drewN n2)))
  have n3 : (w1.drewN n2).cell? ⟨nb, 3, none⟩ = some (.bool neg) := n3
  have n4 : (w1.drewN n2).cell? ⟨nb, 4, none⟩ = some (.slice A set.length c) := n4
  clear m2
  generalize w1.drewN n2 = w9 at HX2 n3 n4 ⊢
  have HB9 := Lib.hid (fun n => (Calls.quiet_of (HB.out _ (HX2.out.drewN n)) : Calls Tryz.prog 77 #[.int .i32 ru, .slice A set.length c] (w9.drewN n) fun e w'' => e = .returned (.bool b) ∧ ∃ m, w'' = w9.drewN m))
  have HC9 := Lib.hid (fun n => (Calls.quiet_of (HC.out _ (HX2.out.drewN n)) : Calls Tryz.prog 77 #[.int .i32 rl, .slice A set.length c] (w9.drewN n) fun e w'' => e = .returned (.bool d) ∧ ∃ m, w'' = w9.drewN m))
  clear HA HB HC
  cases a with
  | true =>
    go_quiet (fail)
    go_wp2_with fail
    go_ret
    exact ⟨ret_congr (by rw [← hI]; cases neg <;> rfl), HX2.out.drewN _⟩
  | false =>
  cases b with
  | true =>
    go_quiet (first
      | (go_at_call 78; exact Calls.quiet_of (HU.out _))
      | (go_at_call 77; with_reducible exact HB9.out _))
    go_wp2_with fail
    go_ret
    exact ⟨ret_congr (by rw [← hI]; cases neg <;> rfl), HX2.out.drewN _⟩
  | false =>
    go_quiet (first
      | (go_at_call 78; exact Calls.quiet_of (HU.out _))
      | (go_at_call 79; exact Calls.quiet_of (HW.out _))
      | (go_at_call 77; with_reducible exact HB9.out _)
      | (go_at_call 77; with_reducible exact HC9.out _))
    go_wp2_with fail
    go_ret
    exact ⟨ret_congr (by rw [← hI]; cases d <;> cases neg <;> rfl), HX2.out.drewN _⟩
end Go.Proofs.YtfblkahjefdmaaaGreat

/- Words on memory for a matcher's try. -/
namespace Go.Proofs.YtfblkahjefdmaaaGreat
open Go.RowKit

/-- What is left, as cells. -/
def wayV : MX.W → List Value
  | .back x v => [.bool true, .int .i64 (x : Int), .int .i64 v]
  | .fwd p a => [.bool false, .int .i64 (p : Int), .int .i64 (a : Int)]
def Cw (_ : World) (cs : List Value) (x : MX.W) : Prop := cs = wayV x
theorem keeps_w (T : List TypeId) : Keeps T Cw := fun _ _ _ _ _ h => h
theorem info_left : (Tryz.prog.info? 93).map (fun i => (i.zero, i.size, i.bytes)) = some (some (.agg #[.bool false, .int .i64 0, .int .i64 0]), 3, 24) := by kernel_rfl
theorem OwnB.pop {α : Type} {t sz : Nat} {C : World → List Value → α → Prop} {B : Nat} {w : World} {A : Option Addr} {n c : Nat} {xs : List α} {x : α} (h : OwnB t sz C B w (.slice A n c) (xs ++ [x])) : OwnB t sz C B w (.slice A xs.length c) xs := by
  obtain ⟨flat, hown, h2⟩ := h
  have hlen : (xs ++ [x]).length = xs.length + 1 := by simp
  rw [hlen] at hown
  have hmul : (xs.length + 1) * sz = xs.length * sz + sz := by rw [Nat.add_mul, Nat.one_mul]
  rcases hown.2 with ⟨_, h0⟩ | ⟨g, cap, cur, hv, hb, hg, hnc, hcm, hcs, htake⟩
  · omega
  · injection hv with e1 e2 e3
    subst e1 e3
    have hfl : flat.length = (xs.length + 1) * sz := hown.1
    refine ⟨flat.take (xs.length * sz), ⟨by rw [List.length_take]; omega, .inr ⟨g, c, cur, rfl, hb, hg, by omega, hcm, hcs, ?_⟩⟩, fun k y hy => ?_⟩
    · rw [← htake, List.take_take]
      congr 1
      omega
    · obtain ⟨hk, -⟩ := List.getElem?_eq_some_iff.1 hy
      obtain ⟨cs, h3, h4, h5⟩ := h2 k y (by rw [List.getElem?_append_left hk]; exact hy)
      refine ⟨cs, h3, h4, fun i u hu => ?_⟩
      obtain ⟨hi, -⟩ := List.getElem?_eq_some_iff.1 hu
      have h6 : (k + 1) * sz ≤ xs.length * sz := Nat.mul_le_mul_right sz hk
      rw [Nat.add_mul, Nat.one_mul] at h6
      rw [List.getElem?_take, if_pos (by omega)]
      exact h5 i u hu
/-- The last element of an own row. -/
theorem OwnB.last {α : Type} {t sz : Nat} {C : World → List Value → α → Prop} {B : Nat} {w : World} {A : Option Addr} {n c : Nat} {xs : List α} {x : α} (h : OwnB t sz C B w (.slice A n c) (xs ++ [x])) :
    ∃ g cs, A = some ⟨g, 0, none⟩ ∧ n = xs.length + 1 ∧ C w cs x ∧ ∀ i u, cs[i]? = some u → w.cell? ⟨g, xs.length * sz + i, none⟩ = some u := by
  obtain ⟨flat, hown, h2⟩ := h
  have hlen : (xs ++ [x]).length = xs.length + 1 := by simp
  rw [hlen] at hown
  rcases hown.2 with ⟨_, h0⟩ | ⟨g, cap, cur, hv, hb, hg, hnc, hcm, hcs, htake⟩
  · omega
  · injection hv with e1 e2 e3
    subst e1 e2 e3
    obtain ⟨cs, h3, h4, h5⟩ := h2 xs.length x (by simp)
    refine ⟨g, cs, rfl, rfl, h3, fun i u hu => ?_⟩
    have h6 := h5 i u hu
    rw [cell_of_row _ g _ _ _ _ hg]
    rw [← htake, List.getElem?_take] at h6
    split at h6
    · simpa using h6
    · cases h6

/-- A try's cells: its box tb, the seen states in sb, the notes in nb, the ways left. -/
structure Tri (w : World) (tb mb sb nb : Nat) (sv vw : Value) (m n : Nat) (c : MX.Cf) (wr : World) : Prop where
  ext : Ext w wr
  lo : w.heap.size ≤ tb
  los : w.heap.size ≤ sb
  lon : w.heap.size ≤ nb
  box : wr.heap[tb]? = some (.cells #[.pointer (some ⟨mb, 0, none⟩), sv, .slice (some ⟨sb, 0, none⟩) (m * n) (m * n), vw, .slice (some ⟨nb, 0, none⟩) c.notes.length c.notes.length] 62 (0, 0))
  seen : wr.heap[sb]? = some (.cells ((MX.seenL m n c.seen).map Value.bool).toArray 4 (0, 0))
  notes : wr.heap[nb]? = some (.cells (c.notes.map (Value.int .i64)).toArray 3 (0, 0))
  ways : OwnB 93 3 Cw w.heap.size wr vw c.ways.reverse
section
variable {w wr w' : World} {tb mb sb nb m n : Nat} {sv vw vw' : Value} {c : MX.Cf}
theorem types_ne {w : World} {a b : Nat} {x y : Array Value} {t u : TypeId} (ha : w.heap[a]? = some (.cells x t (0, 0))) (hb : w.heap[b]? = some (.cells y u (0, 0))) (h : t ≠ u) : a ≠ b := by
  intro e; rw [e, hb] at ha; injection ha with h1; injection h1 with _ h1 _; exact h h1.symm
theorem Tri.ext_ (h : Tri w tb mb sb nb sv vw m n c wr) (hx : Ext wr w') : Tri w tb mb sb nb sv vw m n c w' :=
  ⟨h.ext.trans hx, h.lo, h.los, h.lon, hx.heap h.box, hx.heap h.seen, hx.heap h.notes, h.ways.keepP (fun _ _ hc => hc) (fun _ _ _ hg => hx.heap hg)⟩
theorem Tri.b0 (h : Tri w tb mb sb nb sv vw m n c wr) : wr.cell? ⟨tb, 0, none⟩ = some (.pointer (some ⟨mb, 0, none⟩)) := cell_of_row wr tb 0 _ _ _ h.box
theorem Tri.b1 (h : Tri w tb mb sb nb sv vw m n c wr) : wr.cell? ⟨tb, 1, none⟩ = some sv := cell_of_row wr tb 1 _ _ _ h.box
theorem Tri.b2 (h : Tri w tb mb sb nb sv vw m n c wr) : wr.cell? ⟨tb, 2, none⟩ = some (.slice (some ⟨sb, 0, none⟩) (m * n) (m * n)) := cell_of_row wr tb 2 _ _ _ h.box
theorem Tri.b3 (h : Tri w tb mb sb nb sv vw m n c wr) : wr.cell? ⟨tb, 3, none⟩ = some vw := cell_of_row wr tb 3 _ _ _ h.box
theorem Tri.b4 (h : Tri w tb mb sb nb sv vw m n c wr) : wr.cell? ⟨tb, 4, none⟩ = some (.slice (some ⟨nb, 0, none⟩) c.notes.length c.notes.length) := cell_of_row wr tb 4 _ _ _ h.box
theorem Tri.ft (h : Tri w tb mb sb nb sv vw m n c wr) (o : Nat) : wr.frozen? ⟨tb, o, none⟩ = false := frozen_of_row wr tb o _ _ h.box
theorem Tri.fs (h : Tri w tb mb sb nb sv vw m n c wr) (o : Nat) : wr.frozen? ⟨sb, o, none⟩ = false := frozen_of_row wr sb o _ _ h.seen
theorem Tri.fn (h : Tri w tb mb sb nb sv vw m n c wr) (o : Nat) : wr.frozen? ⟨nb, o, none⟩ = false := frozen_of_row wr nb o _ _ h.notes
theorem Tri.ts (h : Tri w tb mb sb nb sv vw m n c wr) : tb ≠ sb := types_ne h.box h.seen (by decide)
theorem Tri.tn (h : Tri w tb mb sb nb sv vw m n c wr) : tb ≠ nb := types_ne h.box h.notes (by decide)
theorem Tri.sn (h : Tri w tb mb sb nb sv vw m n c wr) : sb ≠ nb := types_ne h.seen h.notes (by decide)
theorem Tri.see (h : Tri w tb mb sb nb sv vw m n c wr) {pc at_ : Nat} (hp : pc < m) (ha : at_ < n) : wr.cell? ⟨sb, pc * n + at_, none⟩ = some (.bool (c.seen pc at_)) := by
  rw [cell_of_row wr sb _ _ _ _ h.seen]
  have := MX.seenL_at c.seen hp ha
  simp [this]
theorem Tri.nt (h : Tri w tb mb sb nb sv vw m n c wr) {x : Nat} (hx : x < c.notes.length) : wr.cell? ⟨nb, x, none⟩ = some (.int .i64 (c.notes.getD x (-1))) := by
  rw [cell_of_row wr nb _ _ _ _ h.notes]
  simp [List.getElem?_eq_getElem hx]
theorem Tri.far (h : Tri w tb mb sb nb sv vw m n c wr) : ∀ g cur, vw.ownBlock = some g → wr.heap[g]? = some (.cells cur 93 (0, 0)) → g ≠ tb ∧ g ≠ sb ∧ g ≠ nb :=
  fun _ _ _ hg => ⟨types_ne hg h.box (by decide), types_ne hg h.seen (by decide), types_ne hg h.notes (by decide)⟩
/-- A state is marked. -/
theorem Tri.mark (h : Tri w tb mb sb nb sv vw m n c wr) {pc at_ : Nat} (hp : pc < m) (ha : at_ < n) : Tri w tb mb sb nb sv vw m n ⟨MX.mark c.seen pc at_, c.ways, c.notes⟩ (wr.setCell ⟨sb, pc * n + at_, none⟩ (.bool true)) := by
  refine ⟨h.ext.set (p := ⟨sb, pc * n + at_, none⟩) h.los _, h.lo, h.los, h.lon, (heap_off h.ts).trans h.box, ?_, (heap_off h.sn.symm).trans h.notes, h.ways.keepP (fun _ _ hc => hc) (fun g cur hg hh => ?_)⟩
  · have := heap_set (o := pc * n + at_) (u := .bool true) h.seen
    rw [this]
    congr 2
    show _ = ((MX.seenL m n (MX.mark c.seen pc at_)).map Value.bool).toArray
    rw [← MX.seenL_mark c.seen hp ha, List.map_set]
    simp
  · rw [heap_off (h.far g cur hg hh).2.1]; exact hh
/-- A note is set. -/
theorem Tri.note (h : Tri w tb mb sb nb sv vw m n c wr) {x : Nat} {v : Int} : Tri w tb mb sb nb sv vw m n ⟨c.seen, c.ways, c.notes.set x v⟩ (wr.setCell ⟨nb, x, none⟩ (.int .i64 v)) := by
  refine ⟨h.ext.set (p := ⟨nb, x, none⟩) h.lon _, h.lo, h.los, h.lon, ?_, (heap_off h.sn).trans h.seen, ?_, h.ways.keepP (fun _ _ hc => hc) (fun g cur hg hh => ?_)⟩
  · rw [heap_off h.tn]
    simp only [List.length_set]
    exact h.box
  · have := heap_set (o := x) (u := .int .i64 v) h.notes
    rw [this]
    congr 2
    show _ = ((c.notes.set x v).map (Value.int .i64)).toArray
    rw [List.map_set]
    simp
  · rw [heap_off (h.far g cur hg hh).2.2]; exact hh
theorem Tri.boxA (h : Tri w tb mb sb nb sv vw m n c wr) (h2 : wr.grownBy w' vw.ownBlock) : w'.heap[tb]? = some (.cells #[.pointer (some ⟨mb, 0, none⟩), sv, .slice (some ⟨sb, 0, none⟩) (m * n) (m * n), vw, .slice (some ⟨nb, 0, none⟩) c.notes.length c.notes.length] 62 (0, 0)) :=
  (h2.block tb (heap_lt h.box) (by intro e; obtain ⟨cur, hh⟩ := h.ways.type tb e.symm; exact (h.far tb cur e.symm hh).1 rfl)).trans h.box
theorem Tri.other (h : Tri w tb mb sb nb sv vw m n c wr) (h2 : wr.grownBy w' vw.ownBlock) {b : Nat} {cs : Array Value} {t : TypeId} (hb : wr.heap[b]? = some (.cells cs t (0, 0))) (ht : 93 ≠ t) : w'.heap[b]? = some (.cells cs t (0, 0)) :=
  (h2.block b (heap_lt hb) (by intro e; obtain ⟨cur, hh⟩ := h.ways.type b e.symm; exact types_ne hh hb ht rfl)).trans hb
/-- A way is left: behind the append, and its store. -/
theorem Tri.push (h : Tri w tb mb sb nb sv vw m n c wr) {x : MX.W} (h1 : OwnB 93 3 Cw w.heap.size w' vw' (c.ways.reverse ++ [x])) (h2 : wr.grownBy w' vw.ownBlock) : Tri w tb mb sb nb sv vw' m n ⟨c.seen, x :: c.ways, c.notes⟩ (w'.setCell ⟨tb, 3, none⟩ vw') := by
  have hlt := fun k hk => (h.ways.lt k hk).1
  have hs : w'.heap[sb]? = _ := (h2.block sb (heap_lt h.seen) (by intro e; obtain ⟨cur, hh⟩ := h.ways.type sb e.symm; exact (h.far sb cur e.symm hh).2.1 rfl)).trans h.seen
  have hn : w'.heap[nb]? = _ := (h2.block nb (heap_lt h.notes) (by intro e; obtain ⟨cur, hh⟩ := h.ways.type nb e.symm; exact (h.far nb cur e.symm hh).2.2 rfl)).trans h.notes
  have hb := h.boxA h2
  refine ⟨(h.ext.grown h2 (fun k hk => hlt k hk)).set (p := ⟨tb, 3, none⟩) h.lo _, h.lo, h.los, h.lon, ?_, (heap_off h.ts.symm).trans hs, (heap_off h.tn.symm).trans hn, ?_⟩
  · rw [heap_set (o := 3) (u := vw') hb]
    rfl
  · rw [show (x :: c.ways).reverse = c.ways.reverse ++ [x] from List.reverse_cons]
    refine h1.keepP (fun _ _ hc => hc) (fun g cur hg hh => ?_)
    rw [heap_off (types_ne hh hb (by decide))]; exact hh
/-- A way is taken. -/
theorem Tri.pop {S : MX.Seen} {x : MX.W} {r : List MX.W} {nt : List Int} {A : Option Addr} {k cap : Nat} (h : Tri w tb mb sb nb sv (.slice A k cap) m n ⟨S, x :: r, nt⟩ wr) : Tri w tb mb sb nb sv (.slice A r.length cap) m n ⟨S, r, nt⟩ (wr.setCell ⟨tb, 3, none⟩ (.slice A r.length cap)) := by
  have hw := h.ways
  rw [show (x :: r).reverse = r.reverse ++ [x] from List.reverse_cons] at hw
  have hp := hw.pop
  rw [List.length_reverse] at hp
  refine ⟨h.ext.set (p := ⟨tb, 3, none⟩) h.lo _, h.lo, h.los, h.lon, ?_, (heap_off h.ts.symm).trans h.seen, (heap_off h.tn.symm).trans h.notes, hp.keepP (fun _ _ hc => hc) (fun g cur hg hh => ?_)⟩
  · rw [heap_set (o := 3) h.box]
    rfl
  · rw [heap_off (types_ne hh h.box (by decide))]; exact hh
theorem Tri.top {S : MX.Seen} {x : MX.W} {r : List MX.W} {nt : List Int} {A : Option Addr} {k cap : Nat} (h : Tri w tb mb sb nb sv (.slice A k cap) m n ⟨S, x :: r, nt⟩ wr) :
    ∃ g, A = some ⟨g, 0, none⟩ ∧ k = r.length + 1 ∧ ∀ i u, (wayV x)[i]? = some u → wr.cell? ⟨g, r.length * 3 + i, none⟩ = some u := by
  have hw := h.ways
  rw [show (x :: r).reverse = r.reverse ++ [x] from List.reverse_cons] at hw
  obtain ⟨g, cs, h1, h2, h3, h4⟩ := hw.last
  have h3 : cs = wayV x := h3
  subst h3
  rw [List.length_reverse] at h2 h4
  exact ⟨g, h1, h2, h4⟩
end
end Go.Proofs.YtfblkahjefdmaaaGreat

/- A region that draws its order, of which one operation (a store that waits for all the loads) alone breaks what the loads lean on: after the law on held regions. -/
namespace Go.Proofs.YtfblkahjefdmaaaGreat
open Go

section
variable {P : Program} {ops : Array Oper} {Q : Exit → Act → World → Prop} {md : Region.Mode} {S : World → Prop} {L : Nat}

/-- Whatever order is picked from here on; S holds behind every operation but number L. -/
def wpAnyT (P : Program) (md : Region.Mode) (ops : Array Oper) (Q : Exit → Act → World → Prop) (S : World → Prop) (L : Nat) : Nat → Array Bool → Act → World → Prop
  | 0, listed, a, w => Region.ready md ops listed = [] ∧ Q .normal a w
  | fuel + 1, listed, a, w =>
    (Region.ready md ops listed = [] → Q .normal a w) ∧
    ∀ i ∈ Region.ready md ops listed, wpOp P ops Q i (fun a' w' => (i ≠ L → S w') ∧ wpAnyT P md ops Q S L fuel (listed.setIfInBounds i true) a' w') a w
theorem wpAny_of_T : ∀ (fuel : Nat) (listed : Array Bool) (a : Act) (w : World), wpAnyT P md ops Q S L fuel listed a w → wpAny P md ops Q fuel listed a w
  | 0, _, _, _, h => h
  | fuel + 1, _, _, _, h => ⟨h.1, fun i hi => wpOp_mono (fun a' w' h' => wpAny_of_T fuel _ a' w' h'.2) (h.2 i hi)⟩

/-- What has come up came up behind what it waits for. -/
def Down (md : Region.Mode) (ops : Array Oper) (listed : Array Bool) : Prop := ∀ j oj, ops[j]? = some oj → listed.getD j false = true → ∀ e ∈ oj.after, Region.binds md e = true → listed.getD e.on false = true
def downB (md : Region.Mode) (ops : Array Oper) (listed : Array Bool) : Bool := (List.range ops.size).all fun j => !listed.getD j false || match ops[j]? with
  | some o => o.after.all fun e => !Region.binds md e || listed.getD e.on false
  | none => true
theorem down_of {listed : Array Bool} (h : downB md ops listed = true) : Down md ops listed := by
  intro j oj hj hl e he hb
  unfold downB at h
  rw [List.all_eq_true] at h
  have h1 := h j (List.mem_range.2 (Array.getElem?_eq_some_iff.1 hj).1)
  rw [hl, hj] at h1
  simp only [Bool.not_true, Bool.false_or] at h1
  have h2 := Array.all_eq_true_iff_forall_mem.1 h1 e he
  rw [hb] at h2
  simpa using h2
/-- Does number k wait for number i, straight or through others? -/
def waitsB (md : Region.Mode) (ops : Array Oper) (i : Nat) : Nat → Nat → Bool
  | 0, _ => false
  | f + 1, k => match ops[k]? with
    | some o => o.after.any fun e => Region.binds md e && (e.on == i || waitsB md ops i f e.on)
    | none => false
theorem waits_not {i : Nat} {listed : Array Bool} (hd : Down md ops listed) (hi : listed.getD i false = false) : ∀ (f k : Nat), waitsB md ops i f k = true → listed.getD k false = false ∧ k ∉ Region.ready md ops listed
  | 0, k, h => by cases h
  | f + 1, k, h => by
    unfold waitsB at h
    split at h
    · rename_i o ho
      obtain ⟨e, he, hb⟩ := Array.any_eq_true'.1 h
      simp only [Bool.and_eq_true, Bool.or_eq_true, beq_iff_eq] at hb
      have hno : listed.getD e.on false = false := by
        rcases hb.2 with h1 | h1
        · rw [h1]; exact hi
        · exact (waits_not hd hi f e.on h1).1
      refine ⟨?_, fun hr => ?_⟩
      · rcases hk : listed.getD k false with _ | _
        · rfl
        · have := hd k o ho hk e he hb.1
          rw [hno] at this; cases this
      · obtain ⟨-, o', ho', hall⟩ := mem_ready.1 hr
        rw [ho] at ho'
        obtain rfl := Option.some.inj ho'
        have := hall e he hb.1
        rw [hno] at this; cases this
    · cases h
theorem down_set {listed : Array Bool} {i : Nat} (hd : Down md ops listed) (hi : i ∈ Region.ready md ops listed) : Down md ops (listed.setIfInBounds i true) := by
  intro j oj hj hl e he hb
  by_cases hij : i = j
  · subst hij
    obtain ⟨-, o, ho, hall⟩ := mem_ready.1 hi
    rw [hj] at ho
    obtain rfl := Option.some.inj ho
    exact getD_set_true (hall e he hb)
  · rw [getD_set_ne false hij] at hl
    exact getD_set_true (hd j oj hj hl e he hb)
theorem ready_false {i : Nat} {listed : Array Bool} (h : i ∈ Region.ready md ops listed) : listed.getD i false = false := by
  have h0 := (mem_ready.1 h).1
  rcases Nat.lt_or_ge i listed.size with h' | h'
  · simp [h'] at h0 ⊢; exact h0
  · simp [Array.getElem?_eq_none h']

theorem wpAnyT_first {i : Nat} {oi : Oper} {v : Value} (hi : ops[i]? = some oi) (hsel : ∀ (j : Nat) (o : Oper) cs b, ops[j]? = some o → o.op ≠ .select cs b)
    (hQ : ∀ c a w, Q (.panic c) (a.put oi.dst v) w → Q (.panic c) a w) (hwt : waitsB md ops i ops.size L = true) :
    ∀ (fuel : Nat) (listed : Array Bool) (a : Act) (w : World), Down md ops listed →
      (∀ j oj, ops[j]? = some oj → j ≠ i → listed.getD j true = false → (∀ e ∈ oj.after, Region.binds md e = true → e.on ≠ i) → oi.apart ops oj = true) →
      i ∈ Region.ready md ops listed → YieldsIf P ops S oi v a → S w →
      wpAnyT P md ops Q S L fuel (listed.setIfInBounds i true) (a.put oi.dst v) w → wpAnyT P md ops Q S L (fuel + 1) listed a w := by
  intro fuel
  induction fuel with
  | zero =>
    intro listed a w _ _ hr hy hS H
    refine ⟨fun h => (by rw [h] at hr; cases hr), fun j hj => ?_⟩
    by_cases hji : j = i
    · subst hji; exact hy.wpOp hi hS ⟨fun _ => hS, H⟩
    · have := ready_mono hj hji
      rw [H.1] at this
      cases this
  | succ fuel ih =>
    intro listed a w hdn hfree hr hy hS H
    refine ⟨fun h => (by rw [h] at hr; cases hr), fun j hj => ?_⟩
    by_cases hji : j = i
    · subst hji; exact hy.wpOp hi hS ⟨fun _ => hS, H⟩
    · have hjL : j ≠ L := by
        intro e
        subst e
        exact (waits_not hdn (ready_false hr) _ _ hwt).2 hj
      have h1 := H.2 j (ready_mono hj hji)
      obtain ⟨hjun, oj, hoj, hall⟩ := mem_ready.1 hj
      have hnot : ∀ e ∈ oj.after, Region.binds md e = true → e.on ≠ i := fun e he hb heq => by
        have h1 := hall e he hb
        rw [heq, ready_false hr] at h1
        cases h1
      have h2 := wpOp_putIf hoj (hfree j oj hoj hji hjun hnot) (fun cs b => hsel i oi cs b hi) (fun cs b => hsel j oj cs b hoj) hQ hy h1
      have hfree' : ∀ k ok, ops[k]? = some ok → k ≠ i → (listed.setIfInBounds j true).getD k true = false →
          (∀ e ∈ ok.after, Region.binds md e = true → e.on ≠ i) → oi.apart ops ok = true := fun k ok hk hki hun hno => by
        refine hfree k ok hk hki ?_ hno
        by_cases hjk : j = k
        · subst hjk; exact hjun
        · rw [getD_set_ne true hjk] at hun; exact hun
      refine wpOp_mono (fun a' w' h3 => ⟨h3.2.1, ih (listed.setIfInBounds j true) a' w' (down_set hdn hj) hfree' (ready_mono hr (Ne.symm hji)) h3.1 (h3.2.1 hjL) ?_⟩) h2
      rw [Array.setIfInBounds_comm _ _ hji]
      exact h3.2.2
/-- Take number i first: it yields v in every world that meets S; number L waits for it. -/
theorem wpAnyT_take (i : Nat) {oi : Oper} {v : Value} {fuel : Nat} {listed : Array Bool} {a : Act} {w : World} (hi : ops[i]? = some oi)
    (hk : (Region.noSelect ops && Region.free md ops listed i && (Region.ready md ops listed).contains i && downB md ops listed && waitsB md ops i ops.size L) = true)
    (hQ : ∀ c a w, Q (.panic c) (a.put oi.dst v) w → Q (.panic c) a w) (hS : S w) (hwn : Region.wanted oi (yielded ops a.tmps) = true) (hy : ∀ w, S w → (execOp a.eval oi).run P w = .ok (.value v) w)
    (h : wpAnyT P md ops Q S L fuel (listed.setIfInBounds i true) (a.put oi.dst v) w) : wpAnyT P md ops Q S L (fuel + 1) listed a w := by
  simp only [Bool.and_eq_true] at hk
  exact wpAnyT_first hi (Region.noSelect_spec hk.1.1.1.1) hQ hk.2 fuel listed a w (down_of hk.1.2) (Region.free_spec hi hk.1.1.1.2) (by simpa using hk.1.1.2) (.inl ⟨hwn, hy⟩) hS h
/-- Number i comes up, and no other. -/
theorem wpAnyT_one (i : Nat) {o : Oper} {fuel : Nat} {listed : Array Bool} {a : Act} {w : World} (hr : Region.ready md ops listed = [i]) (ho : ops[i]? = some o)
    (h : ∀ K' : Act → World → Prop, Shut (∀ a w, (i ≠ L → S w) → wpAnyT P md ops Q S L fuel (listed.setIfInBounds i true) a w → K' a w) → if Region.wanted o (yielded ops a.tmps) = true then Oper.wp P o a w K' Q else K' (a.put o.dst undef) w) :
    wpAnyT P md ops Q S L (fuel + 1) listed a w := by
  refine ⟨fun h0 => (by rw [hr] at h0; cases h0), fun j hj => ?_⟩
  rw [hr] at hj
  simp at hj
  subst hj
  exact wpOp_step ho (fun K' hK => h K' (fun a w hS hW => hK a w ⟨hS, hW⟩))
theorem wpAnyT_done {listed : Array Bool} {a : Act} {w : World} {fuel : Nat} (hr : Region.ready md ops listed = []) (h : Q .normal a w) : wpAnyT P md ops Q S L fuel listed a w := by
  cases fuel with
  | zero => exact ⟨hr, h⟩
  | succ fuel => exact ⟨fun _ => h, by rw [hr]; simp⟩
theorem wp_region_T (S : World → Prop) (L : Nat) {id : Nat} {a : Act} {w : World} (hm : P.follows .mixedOrders = true) (h : wpAnyT P .any ops Q S L ops.size (Array.replicate ops.size false) a w.drew) : (Code.region id ops true).wp P Q a w :=
  wp_region_any hm (wpAny_of_T _ _ _ _ h)
end
end Go.Proofs.YtfblkahjefdmaaaGreat

/- Walk: step of package rematch. -/
namespace Go.Proofs.YtfblkahjefdmaaaGreat
open Go.RowKit

/-- What step tells of where a try goes on. -/
def GoV : MX.Go → Int → Int → Bool → Bool → Prop
  | .fail, _, _, ok, dn => ok = false ∧ dn = false
  | .done, _, _, ok, dn => ok = false ∧ dn = true
  | .to p a, x, y, ok, dn => ok = true ∧ dn = false ∧ x = (p : Int) ∧ y = (a : Int)
def StepP (w : World) (tb mb sb nb : Nat) (sv : Value) (m n : Nat) (R : MX.Cf × MX.Go) (e : Ending) (w' : World) : Prop :=
  ∃ (vw : Value) (x y : Int) (ok dn : Bool), e = .returned (.tuple #[.int .i64 x, .int .i64 y, .bool ok, .bool dn]) ∧ Tri w tb mb sb nb sv vw m n R.1 w' ∧ GoV R.2 x y ok dn
/-- What an instruction of a pattern's program may be. -/
theorem PG.Made.ops {l : List PG.Inst} {g e : Nat} (h : PG.Made l g e) {k : Nat} {x : PG.Inst} (hx : l[k]? = some x) : 0 ≤ x.op ∧ x.op ≤ 6 := by
  obtain ⟨hk, -⟩ := List.getElem?_eq_some_iff.1 hx
  have hlen := h.len
  rcases Nat.eq_zero_or_pos k with h0 | h0
  · subst h0
    rw [h.first] at hx
    obtain rfl := Option.some.inj hx
    simp
  rcases Nat.lt_or_ge k e with h1 | h1
  · obtain ⟨-, -, -, -, m6, m7⟩ := h.mid k x hx h0 h1
    omega
  · rcases Nat.lt_or_ge e k with h2 | h2
    · have : k = e + 1 := by omega
      subst this
      rw [h.last] at hx
      obtain rfl := Option.some.inj hx
      simp
    · have : k = e := by omega
      subst this
      rw [h.note] at hx
      obtain rfl := Option.some.inj hx
      simp
namespace MX
section
variable {A : Nat → Nat → Act} {c : Cf} {pc at_ : Nat}
theorem step_fail (h : c.seen pc at_ = false) (ha : A pc at_ = .fail) : step A c pc at_ = (⟨mark c.seen pc at_, c.ways, c.notes⟩, .fail) := by unfold step; simp [h, ha]
theorem step_done (h : c.seen pc at_ = false) (ha : A pc at_ = .done) : step A c pc at_ = (⟨mark c.seen pc at_, c.ways, c.notes⟩, .done) := by unfold step; simp [h, ha]
theorem step_to {p a : Nat} (h : c.seen pc at_ = false) (ha : A pc at_ = .to p a) : step A c pc at_ = (⟨mark c.seen pc at_, c.ways, c.notes⟩, .to p a) := by unfold step; simp [h, ha]
theorem step_save {x : Nat} (h : c.seen pc at_ = false) (ha : A pc at_ = .save x) : step A c pc at_ = (⟨mark c.seen pc at_, .back x (c.notes.getD x (-1)) :: c.ways, c.notes.set x at_⟩, .to (pc + 1) at_) := by unfold step; simp [h, ha]
theorem step_split {p q : Nat} (h : c.seen pc at_ = false) (ha : A pc at_ = .split p q) : step A c pc at_ = (⟨mark c.seen pc at_, .fwd q at_ :: c.ways, c.notes⟩, .to p at_) := by unfold step; simp [h, ha]
end
end MX
set_option maxRecDepth 100000 in
set_option maxHeartbeats 4000000 in
theorem mstep_any {w : World} {tb mb sb nb : Nat} {sv vw vp : Value} {prog : List PG.Inst} {g e : Nat} {fold : Bool} {s : List Int} (hmade : PG.Made prog g e) (hset : ∀ x ∈ prog, x.set.length ≤ 1000)
    (hm : Mtc w mb vp prog g fold) (hs : SlC w sv s) (hsl : s.length ≤ 1000) (c : MX.Cf) (wr : World) (hc : c.notes.length = 2 * g + 2) (hw : c.ways.length ≤ 1000000) (T : Tri w tb mb sb nb sv vw (e + 2) (s.length + 1) c wr)
    (pc at_ : Nat) (hp : pc < e + 2) (ha : at_ ≤ s.length) :
    Calls Tryz.prog 46 #[.pointer (some ⟨tb, 0, none⟩), .int .i64 (pc : Int), .int .i64 (at_ : Int)] wr (StepP w tb mb sb nb sv (e + 2) (s.length + 1) (MX.step (MX.act prog fold s) c pc at_)) := by
  obtain ⟨As, cs, rfl, hsc, hscm, -⟩ := id hs
  obtain ⟨R, hR⟩ : ∃ R, MX.step (MX.act prog fold s) c pc at_ = R := ⟨_, rfl⟩
  rw [hR]
  have HR := Lib.hid hR
  have HT := Lib.hid T
  have HCN := Lib.hid hc
  clear hc
  have hle := hmade.le
  obtain ⟨n, hn⟩ : ∃ n, s.length + 1 = n := ⟨_, rfl⟩
  obtain ⟨m, hmm⟩ : ∃ m, e + 2 = m := ⟨_, rfl⟩
  have hn1 : n ≤ 1001 := by omega
  have hm1 : m ≤ 300 := by omega
  rw [hn, hmm] at T HT ⊢
  have han : at_ < n := by omega
  have hpm : pc < m := by omega
  have hK := MX.key_lt hpm han
  have hKb : m * n ≤ 300 * 1001 := Nat.mul_le_mul hm1 hn1
  have hpn : pc * n ≤ 300 * 1001 := Nat.mul_le_mul (by omega) hn1
  have hpb : 0 ≤ (pc : Int) * (n : Int) ∧ (pc : Int) * (n : Int) ≤ 300300 := by
    rw [← Int.natCast_mul]; omega
  obtain ⟨q, hq⟩ : ∃ q, pc * n = q := ⟨_, rfl⟩
  obtain ⟨K, hKK⟩ : ∃ K, q + at_ = K := ⟨_, rfl⟩
  obtain ⟨M, hM⟩ : ∃ M, m * n = M := ⟨_, rfl⟩
  rw [hq, hKK, hM] at hK
  rw [hM] at hKb
  rw [hq] at hpn
  have s1 : IntKind.i64.wrap ((s.length : Int) + 1) = (n : Int) := by rw [IntWalk.i64_in _ (by omega)]; omega
  have s2 : IntKind.i64.wrap ((pc : Int) * (n : Int)) = (q : Int) := by rw [IntWalk.i64_in _ (by omega), ← hq, Int.natCast_mul]
  have s3 : IntKind.i64.wrap ((q : Int) + (at_ : Int)) = (K : Int) := by rw [IntWalk.i64_in _ (by omega)]; omega
  have s4 : IntKind.i64.wrap ((pc : Int) + 1) = (pc : Int) + 1 := IntWalk.i64_in _ (by omega)
  have s5 : IntKind.i64.wrap ((at_ : Int) + 1) = (at_ : Int) + 1 := IntWalk.i64_in _ (by omega)
  have b0 := T.b0
  have b1 := T.b1
  have b2 := T.b2
  have hsee := T.see hpm han
  have fse := T.fs K
  rw [hM] at b2
  rw [hq, hKK] at hsee
  clear hpb
  rcases hsn : c.seen pc at_ with _ | _
  rotate_left
  · rw [hsn] at hsee
    have HRR := Lib.hid (show (c, MX.Go.fail) = R by rw [← HR.out]; unfold MX.step; rw [if_pos hsn])
    clear T hsn hn hmm
    go_enter Tryz.func46, Tryz.ntmps46
    go_wp2_with fail
    refine bodyPost_ret (v := .tuple #[.int .i64 0, .int .i64 0, .bool false, .bool false]) (by simp [results, Tryz.results46, go_sem]) rfl ?_
    exact ⟨vw, 0, 0, false, false, rfl, by rw [← HRR.out]; exact HT.out, by rw [← HRR.out]; exact ⟨rfl, rfl⟩⟩
  rw [hsn] at hsee
  have hlt : pc < prog.length := by rw [hmade.len]; exact hp
  have hops := hmade.ops (List.getElem?_eq_getElem hlt)
  have hinl := hmade.all (List.getElem?_eq_getElem hlt)
  have HSN := Lib.hid hsn
  have HMT := Lib.hid hm
  have HSS := Lib.hid hs
  have hact := MX.act_made hmade fold s hp ha
  have HT1 := Lib.hid (show Tri w tb mb sb nb (.slice As s.length cs) vw m n ⟨MX.mark c.seen pc at_, c.ways, c.notes⟩ (wr.setCell ⟨sb, K, none⟩ (.bool true)) from by have := HT.out.mark hpm han; rw [hq, hKK] at this; exact this)
  have HSL := Lib.hid (hset _ (List.getElem_mem hlt))
  obtain ⟨R2, hR2⟩ : ∃ R2, MX.act prog fold s pc at_ = R2 := ⟨_, rfl⟩
  have HRA := Lib.hid hR2
  have HRR := Lib.hid (show MX.step (MX.act prog fold s) c pc at_ = R from hR)
  have hact2 : MX.act prog fold s pc at_ = (if prog[pc].op = 0 then (if MX.hits fold s at_ prog[pc] = true then MX.Act.to (pc + 1) (at_ + 1) else .fail)
    else if prog[pc].op = 1 then (if at_ = 0 then .to (pc + 1) at_ else .fail) else if prog[pc].op = 2 then (if at_ = s.length then .to (pc + 1) at_ else .fail)
    else if prog[pc].op = 3 then .save prog[pc].x.toNat else if prog[pc].op = 4 then .split prog[pc].x.toNat prog[pc].y.toNat else if prog[pc].op = 5 then .to prog[pc].x.toNat at_ else .done) := by
    unfold MX.act
    rw [List.getElem?_eq_getElem hlt]
  obtain ⟨Ap, cp, rfl, hpl, hpcm, hpk, -⟩ := hm.ins
  obtain ⟨gp, op_, rfl, -, pcs, ⟨vs, rfl, hvs⟩, -, hpc⟩ := hpk pc _ (List.getElem?_eq_getElem hlt)
  have hqc : ∀ (j : Nat) (u : Value), [Value.int .i64 prog[pc].op, .int .i64 prog[pc].x, .int .i64 prog[pc].y, .bool prog[pc].neg, vs][j]? = some u → w.cell? ⟨gp, op_ + pc * 5 + j, none⟩ = some u := hpc
  have m0 := T.ext.cell hm.c0
  obtain ⟨x, hx⟩ : ∃ x, prog[pc] = x := ⟨_, rfl⟩
  rw [hx] at hops hinl hact2 hvs hqc HSL
  have HVS := Lib.hid hvs
  obtain ⟨Av, cv, rfl, -⟩ := id hvs
  have x0 : wr.cell? ⟨gp, op_ + pc * 5, none⟩ = _ := T.ext.cell (hqc 0 _ rfl)
  have x1 := T.ext.cell (hqc 1 _ rfl)
  have x2 := T.ext.cell (hqc 2 _ rfl)
  have x3 := T.ext.cell (hqc 3 _ rfl)
  have x4 := T.ext.cell (hqc 4 _ rfl)
  have HACT := Lib.hid hact
  have HACT2 := Lib.hid hact2
  have hgs : gp ≠ sb := by
    intro e1
    have h1 := World.block_lt_of_cell? w _ (hqc 0 _ rfl)
    have h2 := T.los
    have h1 : gp < w.heap.size := h1
    omega
  have hsg := hgs.symm
  have hst := T.ts
  have hts := hst.symm
  have hmbs : mb ≠ sb := by have := heap_lt hm.box; have := T.los; omega
  have hsmb := hmbs.symm
  have hme : prog.length = m := by rw [hmade.len]; exact hmm
  rw [hme] at hpl m0
  clear hq T hsn hn hmm hact hact2 hR hR2 hqc hvs hpk hlt hx hM hKK hpc HR hm hmade hset hs hme
  go_enter Tryz.func46, Tryz.ntmps46
  go_upto_region 6 with fail
  have HT2 := Lib.hid (HT1.out.ext_ ((Ext.refl _).alloc (.cells #[.int .i64 x.op, .int .i64 x.x, .int .i64 x.y, .bool x.neg, .slice Av x.set.length cv] 72)))
  have hn0 := heap_alloc_new (wr.setCell ⟨sb, K, none⟩ (.bool true)) (.cells #[.int .i64 x.op, .int .i64 x.x, .int .i64 x.y, .bool x.neg, .slice Av x.set.length cv] 72)
  rw [show (wr.setCell ⟨sb, K, none⟩ (.bool true)).heap.size = wr.heap.size by simp] at hn0
  clear b0 b1 b2 hsee fse x0 x1 x2 x3 x4 HT HT1 m0
  generalize (wr.setCell ⟨sb, K, none⟩ (.bool true)).alloc (.cells #[.int .i64 x.op, .int .i64 x.x, .int .i64 x.y, .bool x.neg, .slice Av x.set.length cv] 72) = w2 at HT2 hn0 ⊢
  generalize wr.heap.size = xb at hn0 ⊢
  have x0 : w2.cell? ⟨xb, 0, none⟩ = some (.int .i64 x.op) := cell_of_row w2 xb 0 _ _ _ hn0
  have x1 : w2.cell? ⟨xb, 1, none⟩ = some (.int .i64 x.x) := cell_of_row w2 xb 1 _ _ _ hn0
  have x2 : w2.cell? ⟨xb, 2, none⟩ = some (.int .i64 x.y) := cell_of_row w2 xb 2 _ _ _ hn0
  have x3 : w2.cell? ⟨xb, 3, none⟩ = some (.bool x.neg) := cell_of_row w2 xb 3 _ _ _ hn0
  have x4 : w2.cell? ⟨xb, 4, none⟩ = some (.slice Av x.set.length cv) := cell_of_row w2 xb 4 _ _ _ hn0
  have b0 := HT2.out.b0
  have b1 := HT2.out.b1
  have hxt : xb ≠ tb := types_ne hn0 HT2.out.box (by decide)
  have htx := hxt.symm
  have hxn : xb ≠ nb := types_ne hn0 HT2.out.notes (by decide)
  have hnx := hxn.symm
  have HN0 := Lib.hid hn0
  clear hn0
  have hcase : x.op = 0 ∨ x.op = 1 ∨ x.op = 2 ∨ x.op = 3 ∨ x.op = 4 ∨ x.op = 5 ∨ x.op = 6 := by omega
  clear hops
  have HINL := Lib.hid hinl
  clear hinl
  rcases hcase with h | h | h | h | h | h | h
  · -- a set
    rw [h] at x0
    by_cases hlt : at_ < s.length
    · obtain ⟨bs, os, hAs, hsc⟩ := HSS.out.at_ hlt
      subst hAs
      have y0 := HT2.out.ext.cell hsc
      obtain ⟨r, hr⟩ : ∃ r, s[at_] = r := ⟨_, rfl⟩
      rw [hr] at y0
      obtain ⟨I, hI⟩ : ∃ I, MX.isIn fold r x = I := ⟨_, rfl⟩
      have HH := Lib.hid (show MX.hits fold s at_ x = I by unfold MX.hits; rw [List.getElem?_eq_getElem hlt, hr]; exact hI)
      have HIN := Lib.hid (fun w' (hx : Ext w w') => in_any x r (.slice Av x.set.length cv) mb _ prog g fold w' (HMT.out.ext hx) (SlC.ext (SlR.mono2 HVS.out fun _ _ _ h => h.2) hx) (Nat.le_trans HSL.out (by decide)))
      rw [hI, h] at HIN
      have HX2 := Lib.hid HT2.out.ext
      have hltI : (at_ : Int) < (s.length : Int) := by omega
      cases I with
      | false =>
        have HF := Lib.hid (show (⟨MX.mark c.seen pc at_, c.ways, c.notes⟩, MX.Go.fail) = R from by
          rw [← HRR.out]
          exact (MX.step_fail HSN.out (by rw [HACT2.out, if_pos h, HH.out, if_neg (by decide)])).symm)
        clear h hr hI hsc
        go_upto_region 13 with fail
        go_region_held3 (fun w' => w'.cell? ⟨tb, 0, none⟩ = some (.pointer (some ⟨mb, 0, none⟩)) ∧ w'.cell? ⟨tb, 1, none⟩ = some (.slice (some ⟨bs, os, none⟩) s.length cs) ∧ w'.cell? ⟨bs, os + at_, none⟩ = some (.int .i32 r) ∧ w'.cell? ⟨xb, 0, none⟩ = some (.int .i64 0) ∧ w'.cell? ⟨xb, 1, none⟩ = some (.int .i64 x.x) ∧ w'.cell? ⟨xb, 2, none⟩ = some (.int .i64 x.y) ∧ w'.cell? ⟨xb, 3, none⟩ = some (.bool x.neg) ∧ w'.cell? ⟨xb, 4, none⟩ = some (.slice Av x.set.length cv))
          (first | go_keep | (go_split_ands; refine ⟨?_, ?_, ?_, ?_, ?_, ?_, ?_, ?_⟩ <;> (refine Ext.cell (by assumption) ?_; assumption)))
          (first | (go_at_call 67; go_loud (refine (HIN.out _ (HX2.out.trans ((Ext.refl _).drew))).mono ?_; rintro e3 w3 ⟨rfl, hE3⟩; have HT3 := Lib.hid (HT2.out.ext_ (((Ext.refl _).drew).trans hE3)))))
        go_wp2_with fail
        refine bodyPost_ret (v := .tuple #[.int .i64 ((pc : Int) + 1), .int .i64 ((at_ : Int) + 1), .bool false, .bool false]) (by simp [results, Tryz.results46, go_sem]) rfl ?_
        exact ⟨vw, _, _, _, _, rfl, by rw [← HF.out]; exact HT3.out, by rw [← HF.out]; exact ⟨rfl, rfl⟩⟩
      | true =>
        have HF := Lib.hid (show (⟨MX.mark c.seen pc at_, c.ways, c.notes⟩, MX.Go.to (pc + 1) (at_ + 1)) = R from by
          rw [← HRR.out]
          exact (MX.step_to HSN.out (by rw [HACT2.out, if_pos h, HH.out, if_pos rfl])).symm)
        clear h hr hI hsc
        go_upto_region 13 with fail
        go_region_held3 (fun w' => w'.cell? ⟨tb, 0, none⟩ = some (.pointer (some ⟨mb, 0, none⟩)) ∧ w'.cell? ⟨tb, 1, none⟩ = some (.slice (some ⟨bs, os, none⟩) s.length cs) ∧ w'.cell? ⟨bs, os + at_, none⟩ = some (.int .i32 r) ∧ w'.cell? ⟨xb, 0, none⟩ = some (.int .i64 0) ∧ w'.cell? ⟨xb, 1, none⟩ = some (.int .i64 x.x) ∧ w'.cell? ⟨xb, 2, none⟩ = some (.int .i64 x.y) ∧ w'.cell? ⟨xb, 3, none⟩ = some (.bool x.neg) ∧ w'.cell? ⟨xb, 4, none⟩ = some (.slice Av x.set.length cv))
          (first | go_keep | (go_split_ands; refine ⟨?_, ?_, ?_, ?_, ?_, ?_, ?_, ?_⟩ <;> (refine Ext.cell (by assumption) ?_; assumption)))
          (first | (go_at_call 67; go_loud (refine (HIN.out _ (HX2.out.trans ((Ext.refl _).drew))).mono ?_; rintro e3 w3 ⟨rfl, hE3⟩; have HT3 := Lib.hid (HT2.out.ext_ (((Ext.refl _).drew).trans hE3)))))
        go_wp2_with fail
        refine bodyPost_ret (v := .tuple #[.int .i64 ((pc : Int) + 1), .int .i64 ((at_ : Int) + 1), .bool true, .bool false]) (by simp [results, Tryz.results46, go_sem]) rfl ?_
        exact ⟨vw, _, _, _, _, rfl, by rw [← HF.out]; exact HT3.out, by rw [← HF.out]; exact ⟨rfl, rfl, rfl, rfl⟩⟩
    · have hat : at_ = s.length := by omega
      have HF := Lib.hid (show (⟨MX.mark c.seen pc at_, c.ways, c.notes⟩, MX.Go.fail) = R from by
        rw [← HRR.out]
        exact (MX.step_fail HSN.out (by rw [HACT2.out, if_pos h, if_neg (by unfold MX.hits; rw [List.getElem?_eq_none (by omega)]; simp)])).symm)
      have hltI : decide ((at_ : Int) < (s.length : Int)) = false := by simp; omega
      clear h hat
      go_wp2_with fail
      go_quiet (fail)
      go_wp2_with fail
      refine bodyPost_ret (v := .tuple #[.int .i64 ((pc : Int) + 1), .int .i64 ((at_ : Int) + 1), .bool false, .bool false]) (by simp [results, Tryz.results46, go_sem]) rfl ?_
      exact ⟨vw, _, _, _, _, rfl, by rw [← HF.out]; exact HT2.out.ext_ ((Ext.refl _).drewN _), by rw [← HF.out]; exact ⟨rfl, rfl⟩⟩
  · -- the beginning
    rw [h] at x0
    rcases hz : ((at_ : Int) == 0) with _ | _
    · have HF := Lib.hid (show (⟨MX.mark c.seen pc at_, c.ways, c.notes⟩, MX.Go.fail) = R from by
        rw [← HRR.out]
        exact (MX.step_fail HSN.out (by rw [HACT2.out, if_neg (by omega), if_pos h, if_neg (by intro e; rw [e] at hz; simp at hz)])).symm)
      clear h
      go_wp2_with fail
      refine bodyPost_ret (v := .tuple #[.int .i64 ((pc : Int) + 1), .int .i64 (at_ : Int), .bool false, .bool false]) (by simp [results, Tryz.results46, go_sem]) rfl ?_
      exact ⟨vw, _, _, _, _, rfl, by rw [← HF.out]; exact HT2.out, by rw [← HF.out]; exact ⟨rfl, rfl⟩⟩
    · have HF := Lib.hid (show (⟨MX.mark c.seen pc at_, c.ways, c.notes⟩, MX.Go.to (pc + 1) at_) = R from by
        rw [← HRR.out]
        exact (MX.step_to HSN.out (by rw [HACT2.out, if_neg (by omega), if_pos h, if_pos (by simpa using hz)])).symm)
      clear h
      go_wp2_with fail
      refine bodyPost_ret (v := .tuple #[.int .i64 ((pc : Int) + 1), .int .i64 (at_ : Int), .bool true, .bool false]) (by simp [results, Tryz.results46, go_sem]) rfl ?_
      exact ⟨vw, _, _, _, _, rfl, by rw [← HF.out]; exact HT2.out, by rw [← HF.out]; exact ⟨rfl, rfl, rfl, rfl⟩⟩
  · -- the end
    rw [h] at x0
    rcases hz : ((at_ : Int) == (s.length : Int)) with _ | _
    · have HF := Lib.hid (show (⟨MX.mark c.seen pc at_, c.ways, c.notes⟩, MX.Go.fail) = R from by
        rw [← HRR.out]
        exact (MX.step_fail HSN.out (by rw [HACT2.out, if_neg (by omega), if_neg (by omega), if_pos h, if_neg (by intro e; rw [e] at hz; simp at hz)])).symm)
      clear h
      go_wp2_with fail
      go_quiet (fail)
      go_wp2_with fail
      refine bodyPost_ret (v := .tuple #[.int .i64 ((pc : Int) + 1), .int .i64 (at_ : Int), .bool false, .bool false]) (by simp [results, Tryz.results46, go_sem]) rfl ?_
      exact ⟨vw, _, _, _, _, rfl, by rw [← HF.out]; exact HT2.out.ext_ ((Ext.refl _).drewN _), by rw [← HF.out]; exact ⟨rfl, rfl⟩⟩
    · have HF := Lib.hid (show (⟨MX.mark c.seen pc at_, c.ways, c.notes⟩, MX.Go.to (pc + 1) at_) = R from by
        rw [← HRR.out]
        exact (MX.step_to HSN.out (by rw [HACT2.out, if_neg (by omega), if_neg (by omega), if_pos h, if_pos (by have := beq_iff_eq.1 hz; omega)])).symm)
      clear h
      go_wp2_with fail
      go_quiet (fail)
      go_wp2_with fail
      refine bodyPost_ret (v := .tuple #[.int .i64 ((pc : Int) + 1), .int .i64 (at_ : Int), .bool true, .bool false]) (by simp [results, Tryz.results46, go_sem]) rfl ?_
      exact ⟨vw, _, _, _, _, rfl, by rw [← HF.out]; exact HT2.out.ext_ ((Ext.refl _).drewN _), by rw [← HF.out]; exact ⟨rfl, rfl, rfl, rfl⟩⟩
  · -- a note
    rw [h] at x0
    have hin := HINL.out.save h
    have ha2 := HACT.out
    rw [HACT2.out, if_neg (by omega), if_neg (by omega), if_neg (by omega), if_pos h] at ha2
    obtain ⟨X, hX⟩ : ∃ X, x.x.toNat = X := ⟨_, rfl⟩
    have hxX : x.x = (X : Int) := by omega
    have hXl : X < c.notes.length := by rw [HCN.out]; omega
    rw [hxX] at x1
    have y3 := HT2.out.b3
    have yn := HT2.out.nt (x := X) hXl
    have HF := Lib.hid (show (⟨MX.mark c.seen pc at_, .back X (c.notes.getD X (-1)) :: c.ways, c.notes.set X at_⟩, MX.Go.to (pc + 1) at_) = R from by
      rw [← HRR.out]
      exact (MX.step_save HSN.out (by rw [HACT2.out, if_neg (by omega), if_neg (by omega), if_neg (by omega), if_pos h, hX])).symm)
    obtain ⟨nv, hnv⟩ : ∃ nv, c.notes.getD X (-1) = nv := ⟨_, rfl⟩
    have hnv' : (⟨MX.mark c.seen pc at_, c.ways, c.notes⟩ : MX.Cf).notes.getD X (-1) = nv := hnv
    rw [hnv'] at yn
    rw [hnv] at HF
    obtain ⟨WL, hWL⟩ : ∃ WL, c.ways.reverse = WL := ⟨_, rfl⟩
    have hwl : WL.length ≤ 1000000000 := by rw [← hWL, List.length_reverse]; omega
    have hB : w.heap.size ≤ w2.heap.size := HT2.out.ext.size
    have hown : OwnB 93 3 Cw w.heap.size w2 vw WL := by rw [← hWL]; exact HT2.out.ways
    obtain ⟨Aw, cw, rfl, -⟩ := hown.form
    have HOW := Lib.hid hown
    have HWL := Lib.hid hWL
    have htn := HT2.out.tn
    have hnt := htn.symm
    have y4 : w2.cell? ⟨tb, 4, none⟩ = some (.slice (some ⟨nb, 0, none⟩) c.notes.length c.notes.length) := HT2.out.b4
    have HXC := Lib.hid HCN.out
    obtain ⟨NL, hNL⟩ : ∃ NL, c.notes.length = NL := ⟨_, rfl⟩
    rw [hNL] at y4 hXl
    have HNL := Lib.hid hNL
    have ft3 := HT2.out.ft 3
    have HXC1 := Lib.hid hxX
    have HYN := Lib.hid (show (((⟨MX.mark c.seen pc at_, c.ways, c.notes⟩ : MX.Cf).notes.map (Value.int .i64)).toArray[X]?) = some (.int .i64 nv) from by rw [← cell_of_row w2 nb X _ _ _ HT2.out.notes]; exact yn)
    have htl : tb < w2.heap.size := heap_lt HT2.out.box
    have hnl : nb < w2.heap.size := heap_lt HT2.out.notes
    have hxl : xb < w2.heap.size := heap_lt HN0.out
    clear h hin ha2 hX hxX hnv hnv' hNL hown hWL
    go_upto_region 16 with fail
    have hS0 : w2.drew.cell? ⟨tb, 3, none⟩ = some (.slice Aw WL.length cw) ∧ w2.drew.cell? ⟨xb, 1, none⟩ = some (.int .i64 (X : Int)) ∧ w2.drew.cell? ⟨tb, 4, none⟩ = some (.slice (some ⟨nb, 0, none⟩) NL NL) ∧ w2.drew.cell? ⟨nb, X, none⟩ = some (.int .i64 nv) := ⟨y3, x1, y4, yn⟩
    refine wp_region_T (fun w' => w'.cell? ⟨tb, 3, none⟩ = some (.slice Aw WL.length cw) ∧ w'.cell? ⟨xb, 1, none⟩ = some (.int .i64 (X : Int)) ∧ w'.cell? ⟨tb, 4, none⟩ = some (.slice (some ⟨nb, 0, none⟩) NL NL) ∧ w'.cell? ⟨nb, X, none⟩ = some (.int .i64 nv)) 20 (by kernel_rfl) ?_
    refine wpAnyT_take 0 (v := ?_) rfl (by kernel_rfl) (fun _ _ _ h => h) hS0 rfl ?_ ?_
    rotate_left
    · intro w9 hSw
      obtain ⟨hS1, hS2, hS3, hS4⟩ := hSw
      go_simp
      try with_reducible rfl
    go_frame
    refine wpAnyT_take 1 (v := ?_) rfl (by kernel_rfl) (fun _ _ _ h => h) hS0 rfl ?_ ?_
    rotate_left
    · intro w9 hSw
      obtain ⟨hS1, hS2, hS3, hS4⟩ := hSw
      go_simp
      try with_reducible rfl
    go_frame
    refine wpAnyT_take 2 (v := ?_) rfl (by kernel_rfl) (fun _ _ _ h => h) hS0 rfl ?_ ?_
    rotate_left
    · intro w9 hSw
      obtain ⟨hS1, hS2, hS3, hS4⟩ := hSw
      go_simp
      try with_reducible rfl
    go_frame
    refine wpAnyT_take 3 (v := ?_) rfl (by kernel_rfl) (fun _ _ _ h => h) hS0 rfl ?_ ?_
    rotate_left
    · intro w9 hSw
      obtain ⟨hS1, hS2, hS3, hS4⟩ := hSw
      go_simp
      try with_reducible rfl
    go_frame
    refine wpAnyT_take 4 (v := ?_) rfl (by kernel_rfl) (fun _ _ _ h => h) hS0 rfl ?_ ?_
    rotate_left
    · intro w9 hSw
      obtain ⟨hS1, hS2, hS3, hS4⟩ := hSw
      go_simp
      try with_reducible rfl
    go_frame
    refine wpAnyT_take 5 (v := ?_) rfl (by kernel_rfl) (fun _ _ _ h => h) hS0 rfl ?_ ?_
    rotate_left
    · intro w9 hSw
      obtain ⟨hS1, hS2, hS3, hS4⟩ := hSw
      go_simp
      try with_reducible rfl
    go_frame
    refine wpAnyT_take 6 (v := ?_) rfl (by kernel_rfl) (fun _ _ _ h => h) hS0 rfl ?_ ?_
    rotate_left
    · intro w9 hSw
      obtain ⟨hS1, hS2, hS3, hS4⟩ := hSw
      go_simp
      try with_reducible rfl
    go_frame
    refine wpAnyT_take 7 (v := ?_) rfl (by kernel_rfl) (fun _ _ _ h => h) hS0 rfl ?_ ?_
    rotate_left
    · intro w9 hSw
      obtain ⟨hS1, hS2, hS3, hS4⟩ := hSw
      go_simp
      try with_reducible rfl
    go_frame
    refine wpAnyT_take 8 (v := ?_) rfl (by kernel_rfl) (fun _ _ _ h => h) hS0 rfl ?_ ?_
    rotate_left
    · intro w9 hSw
      obtain ⟨hS1, hS2, hS3, hS4⟩ := hSw
      go_simp
      try with_reducible rfl
    go_frame
    refine wpAnyT_take 9 (v := ?_) rfl (by kernel_rfl) (fun _ _ _ h => h) hS0 rfl ?_ ?_
    rotate_left
    · intro w9 hSw
      obtain ⟨hS1, hS2, hS3, hS4⟩ := hSw
      go_simp
      try with_reducible rfl
    go_frame
    refine wpAnyT_take 10 (v := ?_) rfl (by kernel_rfl) (fun _ _ _ h => h) hS0 rfl ?_ ?_
    rotate_left
    · intro w9 hSw
      obtain ⟨hS1, hS2, hS3, hS4⟩ := hSw
      go_simp
      try with_reducible rfl
    go_frame
    refine wpAnyT_take 11 (v := ?_) rfl (by kernel_rfl) (fun _ _ _ h => h) hS0 rfl ?_ ?_
    rotate_left
    · intro w9 hSw
      obtain ⟨hS1, hS2, hS3, hS4⟩ := hSw
      go_simp
      try with_reducible rfl
    go_frame
    refine wpAnyT_take 12 (v := ?_) rfl (by kernel_rfl) (fun _ _ _ h => h) hS0 rfl ?_ ?_
    rotate_left
    · intro w9 hSw
      obtain ⟨hS1, hS2, hS3, hS4⟩ := hSw
      go_simp
      try with_reducible rfl
    go_frame
    refine wpAnyT_take 13 (v := ?_) rfl (by kernel_rfl) (fun _ _ _ h => h) hS0 rfl ?_ ?_
    rotate_left
    · intro w9 hSw
      obtain ⟨hS1, hS2, hS3, hS4⟩ := hSw
      go_simp
      try with_reducible rfl
    go_frame
    refine wpAnyT_take 14 (v := ?_) rfl (by kernel_rfl) (fun _ _ _ h => h) hS0 rfl ?_ ?_
    rotate_left
    · intro w9 hSw
      obtain ⟨hS1, hS2, hS3, hS4⟩ := hSw
      go_simp
      try with_reducible rfl
    go_frame
    refine wpAnyT_take 15 (v := ?_) rfl (by kernel_rfl) (fun _ _ _ h => h) hS0 rfl ?_ ?_
    rotate_left
    · intro w9 hSw
      obtain ⟨hS1, hS2, hS3, hS4⟩ := hSw
      go_simp
      try with_reducible rfl
    go_frame
    refine wpAnyT_one 16 (by kernel_rfl) rfl (fun K9 hK => ?_)
    go_simp
    refine hK.out _ _ (fun _ => ?_) ?_
    · obtain ⟨hS1, hS2, hS3, hS4⟩ := hS0
      exact ⟨(Ext.refl w2.drew).alloc _ |>.cell hS1, (Ext.refl w2.drew).alloc _ |>.cell hS2, (Ext.refl w2.drew).alloc _ |>.cell hS3, (Ext.refl w2.drew).alloc _ |>.cell hS4⟩
    clear hK K9
    refine wpAnyT_one 17 (by kernel_rfl) rfl (fun K9 hK => ?_)
    refine step_inst Tryz.underlying60 info_left rfl (by decide) (by decide) (keeps_w []) (by simp) rfl _ _ (by rfl) w.heap.size _ WL (.back X nv) [.bool true, .int .i64 (X : Int), .int .i64 nv] 93 (w := w2.drew) HOW.out rfl rfl (by simp [Value.oneCell']) (by rfl) w2.drew.heap.size (by rfl) rfl hwl hB ?_
    intro gg cap w5 h1 h2
    have HT5 := Lib.hid (HT2.out.ext_ (((Ext.refl w2).drew).alloc (.cells #[.bool true, .int .i64 (X : Int), .int .i64 nv] 93)))
    have HG := Lib.hid h2
    have HO5 := Lib.hid h1
    have hb := HT5.out.boxA h2
    have b3 := cell_of_row w5 tb 3 _ _ _ hb
    have ft3 := frozen_of_row w5 tb 3 _ _ hb
    have hx5 := HT5.out.other h2 ((((Ext.refl w2).drew).alloc (.cells #[.bool true, .int .i64 (X : Int), .int .i64 nv] 93)).heap HN0.out) (by decide)
    have HX5 := Lib.hid hx5
    have hS5 : w5.cell? ⟨tb, 3, none⟩ = some (.slice Aw WL.length cw) ∧ w5.cell? ⟨xb, 1, none⟩ = some (.int .i64 (X : Int)) ∧ w5.cell? ⟨tb, 4, none⟩ = some (.slice (some ⟨nb, 0, none⟩) NL NL) ∧ w5.cell? ⟨nb, X, none⟩ = some (.int .i64 nv) :=
      ⟨b3, HXC1.out.symm ▸ cell_of_row w5 xb 1 _ _ _ hx5, HNL.out ▸ cell_of_row w5 tb 4 _ _ _ hb, (cell_of_row w5 nb X _ _ _ (HT5.out.other h2 HT5.out.notes (by decide))).trans HYN.out⟩
    refine hK.out _ _ (fun _ => hS5) ?_
    clear hK K9 h1 h2 hb hx5 hS0
    go_frame
    refine wpAnyT_take 18 (v := ?_) rfl (by kernel_rfl) (fun _ _ _ h => h) hS5 rfl ?_ ?_
    rotate_left
    · intro w9 hSw
      obtain ⟨hS1, hS2, hS3, hS4⟩ := hSw
      go_simp
      try with_reducible rfl
    go_frame
    refine wpAnyT_take 19 (v := ?_) rfl (by kernel_rfl) (fun _ _ _ h => h) hS5 rfl ?_ ?_
    rotate_left
    · intro w9 hSw
      obtain ⟨hS1, hS2, hS3, hS4⟩ := hSw
      go_simp
      try with_reducible rfl
    go_frame
    refine wpAnyT_one 20 (by kernel_rfl) rfl (fun K9 hK => ?_)
    go_simp
    refine hK.out _ _ (fun h => absurd rfl h) ?_
    clear hK K9
    refine wpAnyT_done (by kernel_rfl) ?_
    have hown6 : OwnB 93 3 Cw w.heap.size w5 (.slice (some ⟨gg, 0, none⟩) (WL.length + 1) cap) (c.ways.reverse ++ [.back X nv]) := by rw [HWL.out]; exact HO5.out
    have HT6 := Lib.hid (HT5.out.push (x := .back X nv) hown6 HG.out)
    clear hown6
    have hx6 := (heap_off (o := 3) (u := Value.slice (some ⟨gg, 0, none⟩) (WL.length + 1) cap) hxt).trans HX5.out
    have x1 := cell_of_row _ xb 1 _ _ _ hx6
    have y4 : (w5.setCell ⟨tb, 3, none⟩ (.slice (some ⟨gg, 0, none⟩) (WL.length + 1) cap)).cell? ⟨tb, 4, none⟩ = some (.slice (some ⟨nb, 0, none⟩) NL NL) := by rw [← HNL.out]; exact HT6.out.b4
    have yn := HT6.out.nt (x := X) (by show X < c.notes.length; rw [HNL.out]; exact hXl)
    have fn := HT6.out.fn X
    rw [HXC1.out] at x1
    clear hS5 b3 ft3 b0 b1 y3 x0 x2 x3 x4 HT5 HG HO5 hx6 HX5
    generalize w5.setCell ⟨tb, 3, none⟩ (.slice (some ⟨gg, 0, none⟩) (WL.length + 1) cap) = w6 at HT6 x1 y4 yn fn ⊢
    go_wp2_with fail
    go_region
    all_goals
      go_wp2_with fail
      refine bodyPost_ret (v := .tuple #[.int .i64 ((pc : Int) + 1), .int .i64 (at_ : Int), .bool true, .bool false]) (by simp [results, Tryz.results46, go_sem]) rfl ?_
      exact ⟨_, _, _, _, _, rfl, by rw [← HF.out]; exact (HT6.out.note (x := X) (v := (at_ : Int))).ext_ (by first | exact Ext.refl _ | exact (Ext.refl _).drew | exact ((Ext.refl _).drew).drew), by rw [← HF.out]; exact ⟨rfl, rfl, rfl, rfl⟩⟩
  · -- a split
    rw [h] at x0
    have hin := HINL.out.split h
    obtain ⟨X, hX⟩ : ∃ X, x.x.toNat = X := ⟨_, rfl⟩
    obtain ⟨Y, hY⟩ : ∃ Y, x.y.toNat = Y := ⟨_, rfl⟩
    have hxX : x.x = (X : Int) := by omega
    have hxY : x.y = (Y : Int) := by omega
    rw [hxX] at x1
    rw [hxY] at x2
    have y3 := HT2.out.b3
    have HF := Lib.hid (show (⟨MX.mark c.seen pc at_, .fwd Y at_ :: c.ways, c.notes⟩, MX.Go.to X at_) = R from by
      rw [← HRR.out]
      exact (MX.step_split HSN.out (by rw [HACT2.out, if_neg (by omega), if_neg (by omega), if_neg (by omega), if_neg (by omega), if_pos h, hX, hY])).symm)
    obtain ⟨WL, hWL⟩ : ∃ WL, c.ways.reverse = WL := ⟨_, rfl⟩
    have hwl : WL.length ≤ 1000000000 := by rw [← hWL, List.length_reverse]; omega
    have hB : w.heap.size ≤ w2.heap.size := HT2.out.ext.size
    have hown : OwnB 93 3 Cw w.heap.size w2 vw WL := by rw [← hWL]; exact HT2.out.ways
    obtain ⟨Aw, cw, rfl, -⟩ := hown.form
    have HOW := Lib.hid hown
    have HWL := Lib.hid hWL
    have ft3 := HT2.out.ft 3
    have HXC1 := Lib.hid hxX
    have HXC2 := Lib.hid hxY
    have htl : tb < w2.heap.size := heap_lt HT2.out.box
    have hxl : xb < w2.heap.size := heap_lt HN0.out
    clear h hin hX hY hxX hxY hown hWL
    go_upto_region 19 with fail
    have hS0 : w2.drew.cell? ⟨tb, 3, none⟩ = some (.slice Aw WL.length cw) ∧ w2.drew.cell? ⟨xb, 2, none⟩ = some (.int .i64 (Y : Int)) := ⟨y3, x2⟩
    refine wp_region_T (fun w' => w'.cell? ⟨tb, 3, none⟩ = some (.slice Aw WL.length cw) ∧ w'.cell? ⟨xb, 2, none⟩ = some (.int .i64 (Y : Int))) 13 (by kernel_rfl) ?_
    refine wpAnyT_take 0 (v := ?_) rfl (by kernel_rfl) (fun _ _ _ h => h) hS0 rfl ?_ ?_
    rotate_left
    · intro w9 hSw
      obtain ⟨hS1, hS2⟩ := hSw
      go_simp
      try with_reducible rfl
    go_frame
    refine wpAnyT_take 1 (v := ?_) rfl (by kernel_rfl) (fun _ _ _ h => h) hS0 rfl ?_ ?_
    rotate_left
    · intro w9 hSw
      obtain ⟨hS1, hS2⟩ := hSw
      go_simp
      try with_reducible rfl
    go_frame
    refine wpAnyT_take 2 (v := ?_) rfl (by kernel_rfl) (fun _ _ _ h => h) hS0 rfl ?_ ?_
    rotate_left
    · intro w9 hSw
      obtain ⟨hS1, hS2⟩ := hSw
      go_simp
      try with_reducible rfl
    go_frame
    refine wpAnyT_take 3 (v := ?_) rfl (by kernel_rfl) (fun _ _ _ h => h) hS0 rfl ?_ ?_
    rotate_left
    · intro w9 hSw
      obtain ⟨hS1, hS2⟩ := hSw
      go_simp
      try with_reducible rfl
    go_frame
    refine wpAnyT_take 4 (v := ?_) rfl (by kernel_rfl) (fun _ _ _ h => h) hS0 rfl ?_ ?_
    rotate_left
    · intro w9 hSw
      obtain ⟨hS1, hS2⟩ := hSw
      go_simp
      try with_reducible rfl
    go_frame
    refine wpAnyT_take 5 (v := ?_) rfl (by kernel_rfl) (fun _ _ _ h => h) hS0 rfl ?_ ?_
    rotate_left
    · intro w9 hSw
      obtain ⟨hS1, hS2⟩ := hSw
      go_simp
      try with_reducible rfl
    go_frame
    refine wpAnyT_take 6 (v := ?_) rfl (by kernel_rfl) (fun _ _ _ h => h) hS0 rfl ?_ ?_
    rotate_left
    · intro w9 hSw
      obtain ⟨hS1, hS2⟩ := hSw
      go_simp
      try with_reducible rfl
    go_frame
    refine wpAnyT_take 7 (v := ?_) rfl (by kernel_rfl) (fun _ _ _ h => h) hS0 rfl ?_ ?_
    rotate_left
    · intro w9 hSw
      obtain ⟨hS1, hS2⟩ := hSw
      go_simp
      try with_reducible rfl
    go_frame
    refine wpAnyT_take 8 (v := ?_) rfl (by kernel_rfl) (fun _ _ _ h => h) hS0 rfl ?_ ?_
    rotate_left
    · intro w9 hSw
      obtain ⟨hS1, hS2⟩ := hSw
      go_simp
      try with_reducible rfl
    go_frame
    refine wpAnyT_one 9 (by kernel_rfl) rfl (fun K9 hK => ?_)
    go_simp
    refine hK.out _ _ (fun _ => ?_) ?_
    · obtain ⟨hS1, hS2⟩ := hS0
      exact ⟨(Ext.refl w2.drew).alloc _ |>.cell hS1, (Ext.refl w2.drew).alloc _ |>.cell hS2⟩
    clear hK K9
    refine wpAnyT_one 10 (by kernel_rfl) rfl (fun K9 hK => ?_)
    refine step_inst Tryz.underlying60 info_left rfl (by decide) (by decide) (keeps_w []) (by simp) rfl _ _ (by rfl) w.heap.size _ WL (.fwd Y at_) [.bool false, .int .i64 (Y : Int), .int .i64 (at_ : Int)] 93 (w := w2.drew) HOW.out rfl rfl (by simp [Value.oneCell']) (by rfl) w2.drew.heap.size (by rfl) rfl hwl hB ?_
    intro gg cap w5 h1 h2
    have HT5 := Lib.hid (HT2.out.ext_ (((Ext.refl w2).drew).alloc (.cells #[.bool false, .int .i64 (Y : Int), .int .i64 (at_ : Int)] 93)))
    have HG := Lib.hid h2
    have HO5 := Lib.hid h1
    have hb := HT5.out.boxA h2
    have b3 := cell_of_row w5 tb 3 _ _ _ hb
    have ft3 := frozen_of_row w5 tb 3 _ _ hb
    have hx5 := HT5.out.other h2 ((((Ext.refl w2).drew).alloc (.cells #[.bool false, .int .i64 (Y : Int), .int .i64 (at_ : Int)] 93)).heap HN0.out) (by decide)
    have HX5 := Lib.hid hx5
    have hS5 : w5.cell? ⟨tb, 3, none⟩ = some (.slice Aw WL.length cw) ∧ w5.cell? ⟨xb, 2, none⟩ = some (.int .i64 (Y : Int)) := ⟨b3, HXC2.out.symm ▸ cell_of_row w5 xb 2 _ _ _ hx5⟩
    refine hK.out _ _ (fun _ => hS5) ?_
    clear hK K9 h1 h2 hb hx5 hS0
    go_frame
    refine wpAnyT_take 11 (v := ?_) rfl (by kernel_rfl) (fun _ _ _ h => h) hS5 rfl ?_ ?_
    rotate_left
    · intro w9 hSw
      obtain ⟨hS1, hS2⟩ := hSw
      go_simp
      try with_reducible rfl
    go_frame
    refine wpAnyT_take 12 (v := ?_) rfl (by kernel_rfl) (fun _ _ _ h => h) hS5 rfl ?_ ?_
    rotate_left
    · intro w9 hSw
      obtain ⟨hS1, hS2⟩ := hSw
      go_simp
      try with_reducible rfl
    go_frame
    refine wpAnyT_one 13 (by kernel_rfl) rfl (fun K9 hK => ?_)
    go_simp
    refine hK.out _ _ (fun h => absurd rfl h) ?_
    clear hK K9
    refine wpAnyT_done (by kernel_rfl) ?_
    have hown6 : OwnB 93 3 Cw w.heap.size w5 (.slice (some ⟨gg, 0, none⟩) (WL.length + 1) cap) (c.ways.reverse ++ [.fwd Y at_]) := by rw [HWL.out]; exact HO5.out
    have HT6 := Lib.hid (HT5.out.push (x := .fwd Y at_) hown6 HG.out)
    clear hown6
    have hx6 := (heap_off (o := 3) (u := Value.slice (some ⟨gg, 0, none⟩) (WL.length + 1) cap) hxt).trans HX5.out
    have x1 := cell_of_row _ xb 1 _ _ _ hx6
    have x1 : (w5.setCell ⟨tb, 3, none⟩ (.slice (some ⟨gg, 0, none⟩) (WL.length + 1) cap)).cell? ⟨xb, 1, none⟩ = some (.int .i64 (X : Int)) := by rw [← HXC1.out]; exact x1
    clear hS5 b3 ft3 b0 b1 y3 x0 x2 x3 x4 HT5 HG HO5 hx6 HX5
    generalize w5.setCell ⟨tb, 3, none⟩ (.slice (some ⟨gg, 0, none⟩) (WL.length + 1) cap) = w6 at HT6 x1 ⊢
    go_wp2_with fail
    refine bodyPost_ret (v := .tuple #[.int .i64 (X : Int), .int .i64 (at_ : Int), .bool true, .bool false]) (by simp [results, Tryz.results46, go_sem]) rfl ?_
    exact ⟨_, _, _, _, _, rfl, by rw [← HF.out]; exact HT6.out, by rw [← HF.out]; exact ⟨rfl, rfl, rfl, rfl⟩⟩
  · -- a jump
    rw [h] at x0
    have hin := HINL.out.jump h
    have HF := Lib.hid (show (⟨MX.mark c.seen pc at_, c.ways, c.notes⟩, MX.Go.to x.x.toNat at_) = R from by
      rw [← HRR.out]
      exact (MX.step_to HSN.out (by rw [HACT2.out, if_neg (by omega), if_neg (by omega), if_neg (by omega), if_neg (by omega), if_neg (by omega), if_pos h])).symm)
    have HX9 := Lib.hid (show x.x = ((x.x.toNat : Nat) : Int) by omega)
    clear h hin
    go_wp2_with fail
    refine bodyPost_ret (v := .tuple #[.int .i64 x.x, .int .i64 (at_ : Int), .bool true, .bool false]) (by simp [results, Tryz.results46, go_sem]) rfl ?_
    exact ⟨vw, _, _, _, _, rfl, by rw [← HF.out]; exact HT2.out, by rw [← HF.out]; exact ⟨rfl, rfl, HX9.out, rfl⟩⟩
  · -- done
    rw [h] at x0
    have HF := Lib.hid (show (⟨MX.mark c.seen pc at_, c.ways, c.notes⟩, MX.Go.done) = R from by
      rw [← HRR.out]
      exact (MX.step_done HSN.out (by rw [HACT2.out, if_neg (by omega), if_neg (by omega), if_neg (by omega), if_neg (by omega), if_neg (by omega), if_neg (by omega)])).symm)
    clear h
    go_wp2_with fail
    refine bodyPost_ret (v := .tuple #[.int .i64 0, .int .i64 0, .bool false, .bool true]) (by simp [results, Tryz.results46, go_sem]) rfl ?_
    exact ⟨vw, _, _, _, _, rfl, by rw [← HF.out]; exact HT2.out, by rw [← HF.out]; exact ⟨rfl, rfl⟩⟩
end Go.Proofs.YtfblkahjefdmaaaGreat
