/- Walks: a text that is made of a row of numbers; a number held below another one. -/
import Derived.Test.YtfblkahjefdmaaaPat
import Derived.Deep.RegionHeld3
import Derived.Test.YtfblkahjefdmaaaMc
import Derived.BigQuiet
namespace Go.Proofs.Ytfblkahjefdmaaa
open Go.RowKit

section
variable {w0 : World} {tb : Nat} {sv : Value} {ts : List Int} {w wr w' : World} {i j : Nat}
/-- Behind a call on the tape: something that fits, its place. -/
def PostX (R : World → Value → Prop) (tb : Nat) (sv : Value) (n : Nat) (w : World) (e : Ending) (w' : World) : Prop := ∃ v j, e = .returned v ∧ R w' v ∧ TS tb sv w' j ∧ Only w w' tb ∧ j ≤ n
set_option maxRecDepth 100000 in
set_option maxHeartbeats 2000000 in
theorem tsign_any (w : World) (i : Nat) (he : Ten w0 tb sv ts w i) : Calls Try.prog 70 #[.pointer (some ⟨tb, 0, none⟩)] w (PostX (fun _ v => ∃ x : Int, v = .int .i32 x) tb sv ts.length w) := by
  have HT := Lib.hid (tnext_any 25 w i he (by decide))
  have hlt := TP.next_lt ts i (n := 25) (by decide)
  have hle := TP.next_le 25 he.le
  have HL := Lib.hid hle
  rw [show (25 : Int).toNat = 25 from rfl] at HT
  generalize TP.next ts i 25 = nx at HT hlt HL
  obtain ⟨q, j⟩ := nx
  dsimp only at HT hlt HL
  clear he hle
  go_enter Try.func70, Try.ntmps70
  by_cases h22 : q < 22
  · have hd : decide ((q : Int) < 22) = true := by simp; omega
    have hq1 : (q : Int) < 22 := by omega
    go_wp2_with (go_at_call 53; go_loud (refine HT.out.mono ?_; rintro e2 w2 ⟨rfl, hr, ho⟩; have HR := Lib.hid hr; have HO := Lib.hid ho; clear hr ho))
    go_ret
    exact ⟨_, j, rfl, ⟨_, rfl⟩, HR.out, HO.out, HL.out⟩
  · have hd : decide ((q : Int) < 22) = false := by simp; omega
    obtain rfl | rfl | rfl : q = 22 ∨ q = 23 ∨ q = 24 := by omega
    · have E : ∀ w, Sem.run Try.prog (Instr.index 144 (.agg #[.int .i32 233, .int .i32 215, .int .i32 128512]) (.int .i64 0)) w = .ok (.int .i32 233) w := fun w => rfl
      go_wp2_with (go_at_call 53; go_loud (refine HT.out.mono ?_; rintro e2 w2 ⟨rfl, hr, ho⟩; have HR := Lib.hid hr; have HO := Lib.hid ho; clear hr ho))
      go_ret
      exact ⟨_, j, rfl, ⟨_, rfl⟩, HR.out, HO.out, HL.out⟩
    · have E : ∀ w, Sem.run Try.prog (Instr.index 144 (.agg #[.int .i32 233, .int .i32 215, .int .i32 128512]) (.int .i64 1)) w = .ok (.int .i32 215) w := fun w => rfl
      go_wp2_with (go_at_call 53; go_loud (refine HT.out.mono ?_; rintro e2 w2 ⟨rfl, hr, ho⟩; have HR := Lib.hid hr; have HO := Lib.hid ho; clear hr ho))
      go_ret
      exact ⟨_, j, rfl, ⟨_, rfl⟩, HR.out, HO.out, HL.out⟩
    · have E : ∀ w, Sem.run Try.prog (Instr.index 144 (.agg #[.int .i32 233, .int .i32 215, .int .i32 128512]) (.int .i64 2)) w = .ok (.int .i32 128512) w := fun w => rfl
      go_wp2_with (go_at_call 53; go_loud (refine HT.out.mono ?_; rintro e2 w2 ⟨rfl, hr, ho⟩; have HR := Lib.hid hr; have HO := Lib.hid ho; clear hr ho))
      go_ret
      exact ⟨_, j, rfl, ⟨_, rfl⟩, HR.out, HO.out, HL.out⟩

set_option maxRecDepth 100000 in
set_option maxHeartbeats 2000000 in
theorem ttext_any (m : Nat) (hm : m ≤ 1000) (w : World) (i : Nat) (he : Ten w0 tb sv ts w i) : Calls Try.prog 32 #[.pointer (some ⟨tb, 0, none⟩), .int .i64 m] w (PostX (fun w' v => ∃ s : List Int, s.length ≤ m ∧ SlB 21 1 Cc (tb + 1) w' v s) tb sv ts.length w) := by
  have HC := Lib.hid (Tps.start he)
  have HT := Lib.hid (tnext_any (m + 1 : Nat) w i he (by omega))
  have hlt := TP.next_lt ts i (n := m + 1) (by omega)
  have hle := TP.next_le (m + 1) he.le
  have HS := Lib.hid (fun w i he => tsign_any (w0 := w0) (tb := tb) (sv := sv) (ts := ts) w i he)
  rw [Int.toNat_natCast] at HT
  generalize TP.next ts i (m + 1) = nx at HT hlt hle
  obtain ⟨q, j⟩ := nx
  dsimp only at HT hlt hle
  clear he
  go_enter Try.func32, Try.ntmps32
  go_wp2_with (go_at_call 53; go_loud (refine HT.out.mono ?_; rintro e2 w2 ⟨rfl, hr, ho⟩; have HC := Lib.hid (Tps.call HC.out hr ho hle); clear hr ho))
  go_loopg [5, 6] q (fun k v n wr => ∃ (i' : Nat) (out : List Int), n = .int .i64 k ∧ Tps w0 tb sv ts w i' v out wr ∧ out.length + k ≤ m)
  case atStart =>
    exact ⟨j, [], rfl, HC.out, by simp; omega⟩
  case round =>
    obtain ⟨i', out, rfl, hcs, hlen⟩ := hrel
    have HC := Lib.hid hcs
    have hol : out.length ≤ 1000 := by omega
    obtain ⟨Ao, co, rfl, hco, hcm⟩ := hcs.own.form
    clear hcs
    by_cases hk0 : gk = 0
    · subst hk0
      go_wp2_with fail
      go_ret
      exact ⟨_, _, rfl, ⟨out, by omega, SlB.weaken HC.out.own.sl HC.out.le⟩, HC.out.ten.st, HC.out.only, HC.out.ten.le⟩
    · obtain ⟨k, rfl⟩ : ∃ k, gk = k + 1 := ⟨gk - 1, by omega⟩
      go_wp2_with fail
      refine (HS.out wr i' (Tps.ten (HC.out))).mono ?_
      rintro e w' ⟨v, j', rfl, ⟨x, rfl⟩, hr, ho, hj⟩
      have HC := Lib.hid (Tps.call HC.out hr ho hj)
      clear hr ho
      go_wp2_with (at_builtin; go_loud (refine app_i32 rfl _ _ rfl w.heap.size _ _ [x] (Tps.own (Tps.alloc HC.out)) rfl ⟨_, 0, none⟩ 1 1 rfl rfl (one_cells rfl) ?hn ?hll ?hB ?_; (case hn => omega); (case hll => (show 1 ≤ 1000; decide)); (case hB => exact Nat.le_trans (World.grownBy.size HC.out.only) (by simp)); intro v' w' h1 h2; generalize hl : ((_ : List Int) ++ (_ : List Int)) = out3 at h1; have out3L := Nat.le_of_eq ((congrArg List.length hl.symm).trans List.length_append); simp only [List.length_cons, List.length_nil] at out3L; have hz := Tps.app (Tps.alloc HC.out) h1 h2; obtain ⟨Ax, cx, rfl, hcx, hcy⟩ := h1.form; have HC := Lib.hid hz; clear h1 h2 hz hl))
      go_roundg k
      case measure => omega
      case rel => exact ⟨_, out3, by go_num, HC.out, by omega⟩

/-- A number below another one. -/
theorem kindex_any (k n : Int) (h0 : 1 ≤ n) (h1 : n ≤ 1000000) (w : World) : Calls Try.prog 18 #[.int .i64 k, .int .i64 n] w (fun en w' => (∃ x : Nat, (x : Int) < n ∧ en = .returned (.int .i64 x)) ∧ w' = w) := by
  have ha : bits .and .i64 k 4294967295 = k % 4294967296 := by
    have h127 : (BitVec.ofInt 64 4294967295).toNat = 2 ^ 32 - 1 := by decide
    have key : (BitVec.ofInt 64 k &&& BitVec.ofInt 64 4294967295).toNat = (k % ((2 ^ 64 : Nat) : Int)).toNat % 2 ^ 32 := by
      rw [BitVec.toNat_and, BitVec.toNat_ofInt, h127, Nat.and_two_pow_sub_one_eq_mod]
    show IntKind.i64.wrap ((BitVec.ofInt 64 k &&& BitVec.ofInt 64 4294967295).toNat : Nat) = k % 4294967296
    rw [key, IntKind.wrap_i64]
    omega
  go_enter Try.func18, Try.ntmps18
  go_wp2_with fail
  go_ret
  have h2 : 0 ≤ k % 4294967296 % n := Int.emod_nonneg _ (by omega)
  have h3 : k % 4294967296 % n < n := Int.emod_lt_of_pos _ (by omega)
  exact ⟨⟨(k % 4294967296 % n).toNat, by omega, congrArg (fun x => Ending.returned (Value.int .i64 x)) (Int.toNat_of_nonneg h2).symm⟩, rfl⟩
end
end Go.Proofs.Ytfblkahjefdmaaa

/- Walk: the law RematchLeast. -/
namespace Go.Proofs.Ytfblkahjefdmaaa
open Go.RowKit

/-- A matcher lies elsewhere than the tape. -/
theorem Mtc.only {w w' : World} {mb tb B : Nat} {vp : Value} {prog : List PG.Inst} {g : Nat} {fold : Bool} (h : Mtc w mb vp prog g fold) (hb : B ≤ mb) (hi : InsS (B ≤ ·) w vp prog) (ho : Only w w' tb) (ht : tb < B) : Mtc w' mb vp prog g fold :=
  ⟨(ho.block mb (heap_lt h.box) (by intro e; injection e with e; omega)).trans h.box, hi.keep fun b o u hb hc => ⟨trivial, World.grownBy.cell ho hc (by intro e; injection e with e; simp only at e; omega)⟩⟩
theorem Ten.extT {w0 w w' : World} {tb i : Nat} {sv : Value} {ts : List Int} (h : Ten w0 tb sv ts w i) (hx : Ext w w') : Ten w0 tb sv ts w' i := ⟨h.sl, h.lo, h.ext.trans hx, hx.heap h.st, h.le⟩

theorem mgroups_q (w : World) (mb : Nat) (vp : Value) (prog : List PG.Inst) (g : Nat) (fold : Bool) (hm : Mtc w mb vp prog g fold) : Calls Try.prog 35 #[.pointer (some ⟨mb, 0, none⟩)] w (fun e w' => e = .returned (.int .i64 (g : Int)) ∧ ∃ m, w' = w.drewN m) := by
  have c1 := hm.c1
  go_enter Try.func35, Try.ntmps35
  go_wp2_with fail
  go_ret
  exact ⟨rfl, 0, rfl⟩
set_option maxRecDepth 100000 in
set_option maxHeartbeats 4000000 in
theorem rematchLeast_any (ts : List Int) (v : Value) (from_ : Int) (fold : Bool) (w : World) (hv : SlI w v ts) : Calls Try.prog 9 #[v, .int .i64 from_, .bool fold] w (Ret (.bool true) w) := by
  obtain ⟨A, c, rfl, hlc, hcm, _⟩ := id hv
  have he0 : Ten w w.heap.size (.slice A ts.length c) ts (w.alloc (.cells #[.slice A ts.length c, .int .i64 0] 26)) 0 :=
    ⟨hv, Nat.le_refl _, (Ext.refl w).alloc _, heap_alloc_new w _, Nat.zero_le _⟩
  have HP := Lib.hid (pat_c2 _ _ he0)
  have HE0 := Lib.hid he0
  have hpl := (TP.pat2_ok ts 0 (Nat.zero_le _)).1
  clear he0 hv
  go_enter Try.func9, Try.ntmps9
  go_wp2_with fail
  refine HP.out.mono ?_
  rintro e w1 ⟨v1, rfl, hv1, hr1, ho1⟩
  have hT1 := HE0.out.step ho1 hr1 hpl
  have HT1 := Lib.hid hT1
  have htb1 : w.heap.size < w1.heap.size := hT1.tbl
  generalize (TP.pat ts 2 0).2 = j1 at HT1 hT1
  generalize (TP.pat ts 2 0).1 = p at hv1
  obtain ⟨A1, c1, rfl, _⟩ := hv1.form
  have HV1 := Lib.hid hv1.slc
  have HE1 := Lib.hid hT1.ext
  clear hv1 ho1 hr1 hT1 hpl HP HE0
  generalize hgt : w.heap.size = tb at HT1 htb1 ⊢
  have HGT := Lib.hid hgt
  clear hgt
  go_wp2_with fail
  refine (mnew_any p fold _ _ HV1.out).mono ?_
  rintro e w2 ⟨hE2, hnew⟩
  have HK := Lib.hid known10_any
  rcases hnew with ⟨hc0, rfl⟩ | ⟨l, t, k, mb, vp, -, -, hmd, hst, hgl, rfl, hmt, hmb, hin⟩
  · obtain ⟨R, hR⟩ : ∃ R, PG.compile p = R := ⟨_, rfl⟩
    rw [hR] at hc0 ⊢
    obtain ⟨l, code, bat⟩ := R
    dsimp only at hc0 ⊢
    have hb : (code != 0) = true := by simpa using hc0
    have hx2 := hE2.trans ((Ext.refl w2).alloc (.cells #[.int .i64 code, .int .i64 bat] 36))
    have HT2 := Lib.hid (HT1.out.extT hx2)
    have f0 : (w2.alloc (.cells #[.int .i64 code, .int .i64 bat] 36)).cell? ⟨w2.heap.size, 0, none⟩ = some (.int .i64 code) := by rw [World.cell?_alloc_new]; rfl
    have hne : tb ≠ w2.heap.size := by have := hE2.size; omega
    clear hx2 hR HT1
    go_upto_region 3 with fail
    generalize w2.alloc _ = w3 at f0 HT2 ⊢
    generalize w2.heap.size = fb at f0 hne ⊢
    go_wp2_with fail
    refine (ttext_any 20 (by omega) w3 j1 HT2.out).mono ?_
    rintro e w4 ⟨v4, j4, rfl, ⟨s, hsl, hsv⟩, hr4, ho4, hj4⟩
    replace f0 := World.grownBy.cell ho4 f0 (by intro e; injection e with e; exact hne e.symm)
    have HE4 := Lib.hid (HT2.out.step ho4 hr4 hj4).ext
    clear hsv hr4 ho4 hj4 HT2
    go_wp2_with (go_at_call 33; go_loud (refine (HK.out _).mono ?_; rintro e w7 ⟨rfl, hE7⟩))
    go_ret
    exact ⟨rfl, HE4.out.trans hE7⟩
  have hx2 := hE2.trans ((Ext.refl w2).alloc (.cells #[.int .i64 0, .int .i64 0] 36))
  have HT2 := Lib.hid (HT1.out.extT hx2)
  have f0 : (w2.alloc (.cells #[.int .i64 0, .int .i64 0] 36)).cell? ⟨w2.heap.size, 0, none⟩ = some (.int .i64 0) := by rw [World.cell?_alloc_new]; rfl
  have hne : tb ≠ w2.heap.size := by have := hE2.size; omega
  have HM2 := Lib.hid (hmt.ext ((Ext.refl w2).alloc (.cells #[.int .i64 0, .int .i64 0] 36)))
  have HI2 := Lib.hid (hin.keep (Ext.keepS ((Ext.refl w2).alloc (.cells #[.int .i64 0, .int .i64 0] 36))))
  have HMD := Lib.hid hmd
  have HST := Lib.hid hst
  have HB := Lib.hid (And.intro htb1 hmb)
  generalize RX.groups t = g at HM2 HMD hgl
  clear hx2 HT1 hmt hin hmd hst hmb htb1
  go_upto_region 3 with fail
  generalize w2.alloc _ = w3 at f0 HT2 HM2 HI2 ⊢
  generalize w2.heap.size = fb at f0 hne ⊢
  go_wp2_with fail
  refine (ttext_any 20 (by omega) w3 j1 HT2.out).mono ?_
  rintro e w4 ⟨v4, j4, rfl, ⟨s, hsl, hsv⟩, hr4, ho4, hj4⟩
  replace f0 := World.grownBy.cell ho4 f0 (by intro e; injection e with e; exact hne e.symm)
  have HE4 := Lib.hid (HT2.out.step ho4 hr4 hj4).ext
  have HM4 := Lib.hid (HM2.out.only HB.out.2 HI2.out ho4 HB.out.1)
  obtain ⟨As, cs, rfl, -, -⟩ := hsv.form
  have HS4 := Lib.hid hsv.slc
  have hs1 : IntKind.i64.wrap ((s.length : Int) + 1) = (s.length : Int) + 1 := IntWalk.i64_in _ (by omega)
  clear hsv hr4 ho4 hj4 HT2 HM2 HI2 HB hE2 HV1
  go_upto_region 6 with fail
  go_upto_region 7 with (go_at_call 18; go_loud (refine (kindex_any _ _ (by omega) (by omega) _).mono ?_; rintro e w5 ⟨⟨x, hx, rfl⟩, rfl⟩))
  have hxn : x ≤ s.length := by omega
  go_wp2_with fail
  refine (mfind_any HMD.out HST.out hgl HM4.out HS4.out (by omega) x hxn).mono ?_
  rintro e w6 ⟨hE6, r, hf, hre⟩
  have HE6 := Lib.hid (HE4.out.trans hE6)
  have HM6 := Lib.hid (HM4.out.ext hE6)
  have HS6 := Lib.hid (HS4.out.ext hE6)
  clear HE4 HM4 HS4 HE1 hE6 f0 hx hs1
  cases r with
  | none =>
    obtain rfl := hre
    go_wp2_with fail
    refine (mall_any HMD.out HST.out hgl HM6.out HS6.out (by omega)).mono ?_
    rintro e w7 ⟨hE7, L, v7, hal, rfl, hl7⟩
    obtain ⟨A7, c7, rfl, hlc7, hcm7⟩ := hl7.form
    have HE7 := Lib.hid (HE6.out.trans hE7)
    have HL7 := Lib.hid hl7
    have HAL := Lib.hid hal
    clear hl7 hal hE7
    go_wp2_with fail
    go_loopw [17, 177] (fun x17 x177 wr => ∃ (k at0 : Nat) (z : Int), k ≤ L.length ∧ x177 = .int .i64 (k : Int) ∧ x17 = .int .i64 z ∧ z ≤ at0 ∧ -1 ≤ z ∧ z ≤ 100 ∧ Ext w7 wr ∧ MX.Alls (MX.act l fold s) s.length (MX.blank g) at0 (L.drop k)) (fun _ x177 _ => L.length - (intOf x177).toNat)
    case atStart => exact ⟨0, 0, -1, Nat.zero_le _, rfl, rfl, by omega, by omega, by omega, Ext.refl _, HAL.out⟩
    case round =>
      obtain ⟨k, at0, z, hk, rfl, rfl, hz1, hz2, hz3, hx, hal⟩ := hrel
      have HX := Lib.hid hx
      by_cases hlt : k < L.length
      rotate_left
      · have hd : decide ((k : Int) < (L.length : Int)) = false := by simp; omega
        clear hx hal
        go_wp2_with (go_at_call 33; go_loud (refine (HK.out _).mono ?_; rintro e w9 ⟨rfl, hE9⟩))
        go_ret
        exact ⟨rfl, (HE7.out.trans HX.out).trans hE9⟩
      have hd : decide ((k : Int) < (L.length : Int)) = true := by simp; omega
      have hki : (k : Int) < (L.length : Int) := by omega
      obtain ⟨g3, o3, cs3, rfl, ⟨u3, rfl, nb3, rfl, -, hh3⟩, hcell3⟩ := HL7.out.at_ (k := k) hlt
      rw [List.drop_eq_getElem_cons hlt] at hal
      have q3 := hx.cell (hcell3 0 _ rfl)
      simp only [Nat.mul_one, Nat.add_zero] at q3
      have hh3 := hx.heap hh3
      generalize L[k] = r at hal q3 hh3
      obtain ⟨a, b, hle, hf, ha, hb, hnx⟩ : ∃ a b : Nat, at0 ≤ s.length ∧ MX.First (MX.act l fold s) s.length (MX.blank g) at0 (some r) ∧ r[0]? = some (a : Int) ∧ r[1]? = some (b : Int) ∧ MX.Alls (MX.act l fold s) s.length (MX.blank g) (if a = b then b + 1 else b) (L.drop (k + 1)) := by
        cases hal with
        | more _ a b _ _ h1 h2 h3 h4 h5 => exact ⟨a, b, h1, h2, h3, h4, h5⟩
      have hab : at0 ≤ a ∧ a ≤ b ∧ b ≤ s.length := by
        obtain ⟨p, h1, h2, h3, -⟩ := MX.first_match HMD.out hf
        have e1 := h3.first
        rw [ha] at e1
        obtain ⟨b', h4, h5, h6, -⟩ := h3.last
        rw [hb] at h4
        have e1 := Option.some.inj e1
        have e2 := Option.some.inj h4
        omega
      have hrl : 2 ≤ r.length := by
        obtain ⟨h1, -⟩ := List.getElem?_eq_some_iff.1 hb
        omega
      have e0 := cell_note hh3 ha
      have e1 := cell_note hh3 hb
      have HNX := Lib.hid hnx
      obtain ⟨hab1, hab2, hab3⟩ := hab
      have d1 : decide ((r.length : Int) < 2) = false := by simp; omega
      have d2 : decide ((a : Int) < z) = false := by simp; omega
      have d3 : decide ((b : Int) < (a : Int)) = false := by simp; omega
      have r0 : (0 : Int) < (r.length : Int) := by omega
      have r1 : (1 : Int) < (r.length : Int) := by omega
      have s1 : IntKind.i64.wrap ((a : Int) + 1) = (a : Int) + 1 := IntWalk.i64_in _ (by omega)
      clear hx hal hf ha hb hnx hh3 hcell3
      go_wp2_with fail
      go_quiet (fail)
      go_wp2_with fail
      go_region
      go_wp2_with fail
      go_roundw
      case rel => refine ⟨k + 1, _, _, by omega, by go_num, rfl, by split <;> split <;> omega, by split <;> omega, by split <;> omega, HX.out.drewN _, HNX.out⟩
      case measure => simp [intOf]; omega
  | some r =>
    obtain ⟨v6, rfl, nb, rfl, hnb, hh6⟩ := hre
    have HNB := Lib.hid hnb
    clear hnb
    obtain ⟨p0, hp1, hp2, hmt, hall⟩ := MX.first_match HMD.out hf
    obtain ⟨b0, hb0, hb1, hb2, hin⟩ := hmt.last
    have hlen := hmt.len
    have hrl : 2 ≤ r.length := by omega
    have HH6 := Lib.hid hh6
    have HALL := Lib.hid hall
    have HIN := Lib.hid hin
    have q0 := cell_note hh6 hmt.first
    have q1 := cell_note hh6 hb0
    have r0 : (0 : Int) < (r.length : Int) := by omega
    have r1 : (1 : Int) < (r.length : Int) := by omega
    have s1 : IntKind.i64.wrap (2 * (g : Int)) = 2 * (g : Int) := IntWalk.i64_in _ (by omega)
    have s2 : IntKind.i64.wrap (2 * (g : Int) + 2) = (r.length : Int) := by rw [IntWalk.i64_in _ (by omega)]; omega
    have d1 : decide ((p0 : Int) < (x : Int)) = false := by simp; omega
    have d2 : decide ((b0 : Int) < (p0 : Int)) = false := by simp; omega
    have d3 : decide ((s.length : Int) < (b0 : Int)) = false := by simp; omega
    have d4 : decide (p0 < x) = false := by simp; omega
    have d5 : decide (b0 < p0) = false := by simp; omega
    have d6 : decide (s.length < b0) = false := by simp; omega
    have HFI := Lib.hid (fun (w' : World) (h : Ext w6 w') (k : Nat) (hk1 : x ≤ k) (hk2 : k ≤ p0) => mfind_hit HMD.out HST.out hgl (HM6.out.ext h) (HS6.out.ext h) (by omega) k (by omega) (hall k hk1 hk2))
    have HSI := Lib.hid sameInts_any
    have HLEN := Lib.hid hlen
    clear hh6 hf hmt hin hall hb0 hlen
    go_upto_region 9 with fail
    have HG := Lib.hid (fun n => Calls.quiet_of (mgroups_q (w6.drewN n) mb vp l g fold (HM6.out.ext ((Ext.refl w6).drewN n))))
    go_quiet (first | (go_at_call 35; exact HG.out _))
    go_wp2_with fail
    go_loopw [13] (fun x13 wr => ∃ i : Nat, x13 = .int .i64 (i : Int) ∧ i ≤ r.length + 1 ∧ Ext w6 wr) (fun x13 _ => r.length + 2 - (intOf x13).toNat)
    case atStart => exact ⟨2, rfl, by omega, (Ext.refl _).drewN _⟩
    case round =>
      obtain ⟨i, rfl, hi, hx⟩ := hrel
      have HX := Lib.hid hx
      have t1 : IntKind.i64.wrap ((i : Int) + 1) = ((i + 1 : Nat) : Int) := by rw [IntWalk.i64_in _ (by have := HLEN.out; omega)]; omega
      have t2 : IntKind.i64.wrap ((i : Int) + 2) = ((i + 2 : Nat) : Int) := by rw [IntWalk.i64_in _ (by have := HLEN.out; omega)]; omega
      by_cases hlt : i + 1 < r.length
      · obtain ⟨i1, hi1⟩ : ∃ i1, i + 1 = i1 := ⟨_, rfl⟩
        rw [hi1] at t1 hlt
        have hd : decide ((i1 : Int) < (r.length : Int)) = true := by simp; omega
        have hn0 : (i : Int) < (r.length : Int) := by omega
        have hn1 : (i1 : Int) < (r.length : Int) := by omega
        obtain ⟨u, hu⟩ : ∃ u, r[i]? = some u := ⟨_, List.getElem?_eq_getElem (by omega)⟩
        obtain ⟨v, hv⟩ : ∃ v, r[i1]? = some v := ⟨_, List.getElem?_eq_getElem (by omega)⟩
        have e0 := hx.cell q0
        have e1 := hx.cell q1
        have e2 := cell_note (hx.heap HH6.out) hu
        have e3 := cell_note (hx.heap HH6.out) hv
        have hu := HIN.out i u hu
        have hv := HIN.out i1 v hv
        clear hx q0 q1
        rcases hu with rfl | ⟨hu1, hu2⟩
        · rcases hv with rfl | ⟨hv1, hv2⟩
          · go_wp2_with fail
            go_quiet (fail)
            go_wp2_with fail
            go_roundw
            case rel => exact ⟨i + 2, rfl, by omega, HX.out.drewN _⟩
            case measure => simp [intOf]; omega
          · have b2 : (v != -1) = true := by simp; omega
            have b3 : decide (v < (p0 : Int)) = false := by simp; omega
            have b4 : decide ((b0 : Int) < v) = false := by simp; omega
            go_wp2_with fail
            go_quiet (fail)
            go_wp2_with fail
            go_roundw
            case rel => exact ⟨i + 2, rfl, by omega, HX.out.drewN _⟩
            case measure => simp [intOf]; omega
        · have a2 : (u != -1) = true := by simp; omega
          have a3 : decide (u < (p0 : Int)) = false := by simp; omega
          have a4 : decide ((b0 : Int) < u) = false := by simp; omega
          rcases hv with rfl | ⟨hv1, hv2⟩
          · go_wp2_with fail
            go_quiet (fail)
            go_wp2_with fail
            go_roundw
            case rel => exact ⟨i + 2, rfl, by omega, HX.out.drewN _⟩
            case measure => simp [intOf]; omega
          · have b2 : (v != -1) = true := by simp; omega
            have b3 : decide (v < (p0 : Int)) = false := by simp; omega
            have b4 : decide ((b0 : Int) < v) = false := by simp; omega
            go_wp2_with fail
            go_quiet (fail)
            go_wp2_with fail
            go_roundw
            case rel => exact ⟨i + 2, rfl, by omega, HX.out.drewN _⟩
            case measure => simp [intOf]; omega
      have hd : decide (((i + 1 : Nat) : Int) < (r.length : Int)) = false := by simp; omega
      clear hx t2
      go_wp2_with fail
      go_loopw [14] (fun x14 wr2 => ∃ k : Nat, x14 = .int .i64 (k : Int) ∧ x ≤ k ∧ k ≤ p0 + 1 ∧ Ext w6 wr2) (fun x14 _ => p0 + 2 - (intOf x14).toNat)
      case atStart => exact ⟨x, rfl, by omega, by omega, HX.out⟩
      case round =>
        obtain ⟨k, rfl, hk1, hk2, hx⟩ := hrel
        have HX2 := Lib.hid hx
        have e0 := hx.cell q0
        by_cases hlt : k ≤ p0
        · have hd : decide ((k : Int) ≤ (p0 : Int)) = true := by simp; omega
          have hd' : decide (k ≤ p0) = true := by simp; omega
          have HC := Lib.hid (HFI.out _ hx k hk1 hlt)
          have t9 : IntKind.i64.wrap ((k : Int) + 1) = ((k + 1 : Nat) : Int) := by rw [IntWalk.i64_in _ (by omega)]; omega
          clear hx q0 q1
          go_wp2_with (first
            | (go_at_call 34; go_loud (refine HC.out.mono ?_; rintro e w8 ⟨hE8, v8, rfl, hn8⟩; have HN8 := Lib.hid (hn8.sli (by have := HLEN.out; omega)); obtain ⟨nb8, rfl, -, -⟩ := hn8; have HE8 := Lib.hid (HX2.out.trans hE8); clear hE8))
            | (go_at_call 36; go_loud (refine (HSI.out _ _ r r _ HN8.out (NtS.sli ⟨nb, rfl, HNB.out, HE8.out.heap HH6.out⟩ (by have := HLEN.out; omega))).mono ?_; rintro e w9 ⟨rfl, hE9⟩; rw [show eqB r r = true from by simp [eqB]]; have HE9 := Lib.hid (HE8.out.trans hE9); clear hE9)))
          go_roundw
          case rel => exact ⟨k + 1, rfl, by omega, by omega, HE9.out⟩
          case measure => simp [intOf]; omega
        have hd : decide ((k : Int) ≤ (p0 : Int)) = false := by simp; omega
        have hd' : decide (k ≤ p0) = false := by simp; omega
        have HEY := Lib.hid (HE6.out.trans hx)
        have HMY := Lib.hid (HM6.out.ext hx)
        have HSY := Lib.hid (HS6.out.ext hx)
        clear hx q0 q1
        go_wp2_with fail
        refine (mall_any HMD.out HST.out hgl HMY.out HSY.out (by omega)).mono ?_
        rintro e w7 ⟨hE7, L, v7, hal, rfl, hl7⟩
        obtain ⟨A7, c7, rfl, hlc7, hcm7⟩ := hl7.form
        have HE7 := Lib.hid (HEY.out.trans hE7)
        have HL7 := Lib.hid hl7
        have HAL := Lib.hid hal
        clear hl7 hal hE7
        go_wp2_with fail
        go_loopw [17, 177] (fun x17 x177 wr => ∃ (k at0 : Nat) (z : Int), k ≤ L.length ∧ x177 = .int .i64 (k : Int) ∧ x17 = .int .i64 z ∧ z ≤ at0 ∧ -1 ≤ z ∧ z ≤ 100 ∧ Ext w7 wr ∧ MX.Alls (MX.act l fold s) s.length (MX.blank g) at0 (L.drop k)) (fun _ x177 _ => L.length - (intOf x177).toNat)
        case atStart => exact ⟨0, 0, -1, Nat.zero_le _, rfl, rfl, by omega, by omega, by omega, Ext.refl _, HAL.out⟩
        case round =>
          obtain ⟨k, at0, z, hk, rfl, rfl, hz1, hz2, hz3, hx, hal⟩ := hrel
          have HX := Lib.hid hx
          by_cases hlt : k < L.length
          rotate_left
          · have hd : decide ((k : Int) < (L.length : Int)) = false := by simp; omega
            clear hx hal
            go_wp2_with (go_at_call 33; go_loud (refine (HK.out _).mono ?_; rintro e w9 ⟨rfl, hE9⟩))
            go_ret
            exact ⟨rfl, (HE7.out.trans HX.out).trans hE9⟩
          have hd : decide ((k : Int) < (L.length : Int)) = true := by simp; omega
          have hki : (k : Int) < (L.length : Int) := by omega
          obtain ⟨g3, o3, cs3, rfl, ⟨u3, rfl, nb3, rfl, -, hh3⟩, hcell3⟩ := HL7.out.at_ (k := k) hlt
          rw [List.drop_eq_getElem_cons hlt] at hal
          have q3 := hx.cell (hcell3 0 _ rfl)
          simp only [Nat.mul_one, Nat.add_zero] at q3
          have hh3 := hx.heap hh3
          generalize L[k] = r at hal q3 hh3
          obtain ⟨a, b, hle, hf, ha, hb, hnx⟩ : ∃ a b : Nat, at0 ≤ s.length ∧ MX.First (MX.act l fold s) s.length (MX.blank g) at0 (some r) ∧ r[0]? = some (a : Int) ∧ r[1]? = some (b : Int) ∧ MX.Alls (MX.act l fold s) s.length (MX.blank g) (if a = b then b + 1 else b) (L.drop (k + 1)) := by
            cases hal with
            | more _ a b _ _ h1 h2 h3 h4 h5 => exact ⟨a, b, h1, h2, h3, h4, h5⟩
          have hab : at0 ≤ a ∧ a ≤ b ∧ b ≤ s.length := by
            obtain ⟨p, h1, h2, h3, -⟩ := MX.first_match HMD.out hf
            have e1 := h3.first
            rw [ha] at e1
            obtain ⟨b', h4, h5, h6, -⟩ := h3.last
            rw [hb] at h4
            have e1 := Option.some.inj e1
            have e2 := Option.some.inj h4
            omega
          have hrl : 2 ≤ r.length := by
            obtain ⟨h1, -⟩ := List.getElem?_eq_some_iff.1 hb
            omega
          have e0 := cell_note hh3 ha
          have e1 := cell_note hh3 hb
          have HNX := Lib.hid hnx
          obtain ⟨hab1, hab2, hab3⟩ := hab
          have d1 : decide ((r.length : Int) < 2) = false := by simp; omega
          have d2 : decide ((a : Int) < z) = false := by simp; omega
          have d3 : decide ((b : Int) < (a : Int)) = false := by simp; omega
          have r0 : (0 : Int) < (r.length : Int) := by omega
          have r1 : (1 : Int) < (r.length : Int) := by omega
          have s1 : IntKind.i64.wrap ((a : Int) + 1) = (a : Int) + 1 := IntWalk.i64_in _ (by omega)
          clear hx hal hf ha hb hnx hh3 hcell3
          go_wp2_with fail
          go_quiet (fail)
          go_wp2_with fail
          go_region
          go_wp2_with fail
          go_roundw
          case rel => refine ⟨k + 1, _, _, by omega, by go_num, rfl, by split <;> split <;> omega, by split <;> omega, by split <;> omega, HX.out.drewN _, HNX.out⟩
          case measure => simp [intOf]; omega
end Go.Proofs.Ytfblkahjefdmaaa
