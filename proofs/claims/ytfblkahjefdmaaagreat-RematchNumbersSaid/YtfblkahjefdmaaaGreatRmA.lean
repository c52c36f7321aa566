/- Walks: lies, of of the document's own matcher. -/
import Derived.Test.YtfblkahjefdmaaaGreatMa
import Derived.Test.YtfblkahjefdmaaaGreatQh
import Derived.BigQuiet
namespace Go.Proofs.YtfblkahjefdmaaaGreat
open Go.RowKit

set_option maxHeartbeats 1000000 in
theorem rlies_any (r : Int) (set : List Int) (v : Value) (w : World) (hv : SlC w v set) (hl : set.length ≤ 1000000) : Calls Tryz.prog 68 #[v, .int .i32 r] w (RetD (.bool (MX.lies r set)) w) := by
  obtain ⟨A, c, rfl, hlc, hcm, _⟩ := id hv
  have HV := Lib.hid hv
  obtain ⟨L, hL⟩ : ∃ L, MX.lies r set = L := ⟨_, rfl⟩
  rw [hL]
  have HL := Lib.hid hL
  clear hv hL
  go_enter Tryz.func68, Tryz.ntmps68
  go_upto_region 2 with fail
  go_loopw [5] (fun x wr => ∃ k n : Nat, k ≤ set.length + 1 ∧ x = .int .i64 (k : Int) ∧ wr = w.drewN n ∧ MX.lies r (set.drop k) = L) (fun x _ => set.length + 2 - (intOf x).toNat)
  case atStart => exact ⟨0, 0, Nat.zero_le _, rfl, rfl, HL.out⟩
  case round =>
    obtain ⟨k, n, hk, rfl, rfl, hT⟩ := hrel
    have s1 : IntKind.i64.wrap ((k : Int) + 1) = ((k + 1 : Nat) : Int) := by rw [IntWalk.i64_in _ (by omega)]; omega
    have s2 : IntKind.i64.wrap ((k : Int) + 2) = ((k + 2 : Nat) : Int) := by rw [IntWalk.i64_in _ (by omega)]; omega
    by_cases hlt : k + 1 < set.length
    rotate_left
    · have HN := Lib.hid (show L = false by rw [← hT]; exact MX.lies_end hlt)
      have hd : decide (((k + 1 : Nat) : Int) < (set.length : Int)) = false := by simp; omega
      clear hT
      go_wp2_with fail
      go_ret
      exact ⟨ret_congr (by rw [HN.out]; rfl), _, rfl⟩
    have hd : decide (((k + 1 : Nat) : Int) < (set.length : Int)) = true := by simp; omega
    rw [MX.lies_drop hlt] at hT
    obtain ⟨b, o, rfl, hc⟩ := HV.out.at_ (k := k) (by omega)
    obtain ⟨b2, o2, he, hc2⟩ := HV.out.at_ (k := k + 1) hlt
    injection he with he
    injection he with e1 e2
    subst e1 e2
    generalize set[k] = x at hc hT
    generalize set[k + 1] = y at hc2 hT
    have t1 : ((k : Int)).toNat = k := by omega
    have t2 : (((k + 1 : Nat) : Int)).toNat = k + 1 := by omega
    have t3 : k < set.length := by omega
    rcases h1 : decide (x ≤ r) with _ | _
    · have HT := Lib.hid (show MX.lies r (set.drop (k + 2)) = L by rw [← hT, h1]; rfl)
      clear hT
      go_wp2_with fail
      go_roundw
      case rel => exact ⟨k + 2, _, by omega, by go_num, rfl, HT.out⟩
      case measure => simp [intOf]; omega
    · rcases h2 : decide (r ≤ y) with _ | _
      · have HT := Lib.hid (show MX.lies r (set.drop (k + 2)) = L by rw [← hT, h1, h2]; rfl)
        clear hT
        go_wp2_with fail
        go_roundw
        case rel => exact ⟨k + 2, _, by omega, by go_num, rfl, HT.out⟩
        case measure => simp [intOf]; omega
      · have HT := Lib.hid (show L = true by rw [← hT, h1, h2]; rfl)
        clear hT
        go_wp2_with fail
        go_ret
        exact ⟨ret_congr (by rw [HT.out]; rfl), _, rfl⟩

/-- The document's matcher's cells. -/
structure Rmt (w : World) (mb : Nat) (vp : Value) (prog : List PG.Inst) (g : Nat) (fold : Bool) : Prop where
  box : w.heap[mb]? = some (.cells #[vp, .int .i64 (g : Int), .bool fold] 47 (0, 0))
  ins : InsS (fun _ => True) w vp prog
section
variable {w w' : World} {mb : Nat} {vp : Value} {prog : List PG.Inst} {g : Nat} {fold : Bool}
theorem Rmt.ext (h : Rmt w mb vp prog g fold) (hx : Ext w w') : Rmt w' mb vp prog g fold := ⟨hx.heap h.box, h.ins.keep hx.keepS⟩
theorem Rmt.c0 (h : Rmt w mb vp prog g fold) : w.cell? ⟨mb, 0, none⟩ = some vp := cell_of_row w mb 0 _ _ _ h.box
theorem Rmt.c1 (h : Rmt w mb vp prog g fold) : w.cell? ⟨mb, 1, none⟩ = some (.int .i64 (g : Int)) := cell_of_row w mb 1 _ _ _ h.box
theorem Rmt.c2 (h : Rmt w mb vp prog g fold) : w.cell? ⟨mb, 2, none⟩ = some (.bool fold) := cell_of_row w mb 2 _ _ _ h.box
end
set_option maxRecDepth 100000 in
set_option maxHeartbeats 2000000 in
theorem rof_any (x : PG.Inst) (r : Int) (vs : Value) (mb : Nat) (g : Nat) (fold : Bool) (vp : Value) (w : World) (hm : w.heap[mb]? = some (.cells #[vp, .int .i64 (g : Int), .bool fold] 47 (0, 0))) (hs : SlC w vs x.set) (hl : x.set.length ≤ 1000000) :
    Calls Tryz.prog 47 #[.pointer (some ⟨mb, 0, none⟩), .agg #[.int .i64 x.op, .int .i64 x.x, .int .i64 x.y, .bool x.neg, vs], .int .i32 r] w (Ret (.bool (MX.isIn fold r x)) w) := by
  obtain ⟨A, c, rfl, -⟩ := id hs
  have m2 : w.cell? ⟨mb, 2, none⟩ = some (.bool fold) := cell_of_row w mb 2 _ _ _ hm
  have HA := Lib.hid (fun w' (h : Ext w w') => rlies_any r x.set _ w' (hs.ext h) hl)
  have HB := Lib.hid (fun w' (h : Ext w w') => rlies_any (RX.upper r) x.set _ w' (hs.ext h) hl)
  have HC := Lib.hid (fun w' (h : Ext w w') => rlies_any (RX.lower r) x.set _ w' (hs.ext h) hl)
  have HU := Lib.hid (rupper_any r)
  have HW := Lib.hid (rlower_any r)
  obtain ⟨I, hI⟩ : ∃ I, MX.isIn fold r x = I := ⟨_, rfl⟩
  have HI := Lib.hid hI
  unfold MX.isIn at hI
  rw [HI.out]
  have hmb : mb < w.heap.size := heap_lt hm
  generalize x.set = set at *
  generalize x.neg = neg at *
  generalize x.op = op at *
  generalize x.x = xx at *
  generalize x.y = xy at *
  generalize RX.upper r = ru at *
  generalize RX.lower r = rl at *
  generalize MX.lies r set = a at *
  generalize MX.lies ru set = b at *
  generalize MX.lies rl set = d at *
  have hnb : mb ≠ w.heap.size := Nat.ne_of_lt hmb
  clear hm hs HI x
  have hX := (Ext.refl w).alloc (.cells #[.int .i64 op, .int .i64 xx, .int .i64 xy, .bool neg, .slice A set.length c] 72)
  have m2 := hX.cell m2
  have n3 : (w.alloc (.cells #[.int .i64 op, .int .i64 xx, .int .i64 xy, .bool neg, .slice A set.length c] 72)).cell? ⟨w.heap.size, 3, none⟩ = some (.bool neg) := by rw [World.cell?_alloc_new]; rfl
  have n4 : (w.alloc (.cells #[.int .i64 op, .int .i64 xx, .int .i64 xy, .bool neg, .slice A set.length c] 72)).cell? ⟨w.heap.size, 4, none⟩ = some (.slice A set.length c) := by rw [World.cell?_alloc_new]; rfl
  have HX2 := Lib.hid hX
  clear hX
  go_enter Tryz.func47, Tryz.ntmps47
  go_upto_region 1 with fail
  generalize w.alloc _ = w9 at m2 n3 n4 HX2 ⊢
  generalize w.heap.size = nb at n3 n4 hnb ⊢
  have HA9 := Lib.hid (fun n => (Calls.quiet_of (HA.out _ (HX2.out.drewN n)) : Calls Tryz.prog 68 #[.slice A set.length c, .int .i32 r] (w9.drewN n) fun e w'' => e = .returned (.bool a) ∧ ∃ m, w'' = w9.drewN m))
  have HB9 := Lib.hid (fun n => (Calls.quiet_of (HB.out _ (HX2.out.drewN n)) : Calls Tryz.prog 68 #[.slice A set.length c, .int .i32 ru] (w9.drewN n) fun e w'' => e = .returned (.bool b) ∧ ∃ m, w'' = w9.drewN m))
  have HC9 := Lib.hid (fun n => (Calls.quiet_of (HC.out _ (HX2.out.drewN n)) : Calls Tryz.prog 68 #[.slice A set.length c, .int .i32 rl] (w9.drewN n) fun e w'' => e = .returned (.bool d) ∧ ∃ m, w'' = w9.drewN m))
  clear HA HB HC
  cases a with
  | true =>
    go_quiet (first
      | (go_at_call 68; with_reducible exact HA9.out _))
    go_wp2_with fail
    go_ret
    exact ⟨ret_congr (by rw [← hI]; cases neg <;> cases fold <;> rfl), HX2.out.drewN _⟩
  | false =>
  cases fold with
  | false =>
    go_quiet (first
      | (go_at_call 68; with_reducible exact HA9.out _))
    go_wp2_with fail
    go_ret
    exact ⟨ret_congr (by rw [← hI]; cases neg <;> rfl), HX2.out.drewN _⟩
  | true =>
  cases b with
  | true =>
    go_quiet (first
      | (go_at_call 69; exact Calls.quiet_of (HU.out _))
      | (go_at_call 68; with_reducible exact HB9.out _)
      | (go_at_call 68; with_reducible exact HA9.out _))
    go_wp2_with fail
    go_ret
    exact ⟨ret_congr (by rw [← hI]; cases neg <;> rfl), HX2.out.drewN _⟩
  | false =>
    go_quiet (first
      | (go_at_call 69; exact Calls.quiet_of (HU.out _))
      | (go_at_call 70; exact Calls.quiet_of (HW.out _))
      | (go_at_call 68; with_reducible exact HA9.out _)
      | (go_at_call 68; with_reducible exact HB9.out _)
      | (go_at_call 68; with_reducible exact HC9.out _))
    go_wp2_with fail
    go_ret
    exact ⟨ret_congr (by rw [← hI]; cases d <;> cases neg <;> rfl), HX2.out.drewN _⟩
end Go.Proofs.YtfblkahjefdmaaaGreat
