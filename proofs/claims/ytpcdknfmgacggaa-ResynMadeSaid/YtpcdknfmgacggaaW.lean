/- For ResynMadeS: what the texts XPat of wip/tpl say. -/
import Derived.Test.YtpcdknfmgacggaaM
set_option maxRecDepth 100000
set_option maxHeartbeats 4000000
namespace Go.Proofs.Ytpcdknfmgacggaa
open Go.RowKit
section
variable {w0 : World} {tb : Nat} {sv : Value} {ts : List Int} {w wr w' : World} {i j : Nat}
theorem strs_cell {bs : List ByteArray} {t : TypeId} {k : Nat} (hk : k < bs.length) : (w.alloc (.cells (bs.map Value.string).toArray t)).cell? ⟨w.heap.size, k, none⟩ = some (.string bs[k]) := by
  rw [World.cell?_alloc_new]; simp [hk]
theorem one_any (bs : List ByteArray) (g : Nat) (w : World) (i : Nat) (he : Ten w0 tb sv ts w i) (hg : tb < g) (hb1 : 1 ≤ bs.length) (hb2 : bs.length ≤ 100) (hsz : ∀ b ∈ bs, b.size ≤ 100) (hgl : g < w.heap.size)
    (hc : ∀ k (hk : k < bs.length), w.cell? ⟨g, k, none⟩ = some (.string bs[k])) :
    Calls Try.prog 10 #[.pointer (some ⟨tb, 0, none⟩), .slice (some ⟨g, 0, none⟩) bs.length bs.length] w (PostTV (fun w' v => SlB 21 1 Cc (tb + 1) w' v (TP.one ts i (bs.map signs)).1) tb sv w (TP.one ts i (bs.map signs)).2) := by
  have hlt := TP.next_lt ts i hb1
  have HN := Lib.hid (show TP.one ts i (bs.map signs) = (signs bs[(TP.next ts i bs.length).1], (TP.next ts i bs.length).2) by
    unfold TP.one; rw [List.length_map, List.getD_eq_getElem?_getD, List.getElem?_eq_getElem (by simpa using hlt)]; simp)
  have hx : bs[(TP.next ts i bs.length).1].size ≤ 1000000 := by have := hsz _ (List.getElem_mem hlt); omega
  have HT := Lib.hid (tnext_any (bs.length : Int) w i he (by omega))
  have HC := Lib.hid (hc _ hlt)
  have htb := he.tbl
  clear he hsz hc
  go_enter Try.func10, Try.ntmps10
  go_wp2_with fail
  have HT2 := HT.out
  rw [Int.toNat_natCast] at HT2
  generalize TP.next ts i bs.length = nx at *
  obtain ⟨q, j⟩ := nx
  dsimp only at *
  refine HT2.mono ?_
  rintro e w' ⟨rfl, hr, ho⟩
  have hcell : w'.cell? ⟨g, q, none⟩ = some (.string bs[q]) := by
    have h0 := HC.out
    rw [← h0]
    unfold World.cell?
    rw [ho.block g hgl (by intro e; injection e with e; omega)]
  have HO := Lib.hid ho
  have HR := Lib.hid hr
  clear hr ho HT2
  generalize bs[q] = x at hcell hx HN ⊢
  go_wp2_with (go_at_call 19; refine (plain_any x _ hx).mono ?_; rintro e w2 ⟨v, rfl, hv, hE⟩)
  go_ret
  rw [HN.out]
  exact ⟨_, rfl, SlB.weaken hv.sl (Nat.le_trans htb (World.grownBy.size HO.out)), hE.heap HR.out, HO.out.trans (Only.of_ext hE tb)⟩
theorem one_lit (bs : List ByteArray) (n : Nat) (l : List (List Int)) (a : List Int × Nat) (w : World) (i : Nat) (he : Ten w0 tb sv ts w i) (hb1 : 1 ≤ bs.length) (hb2 : bs.length ≤ 100) (hsz : ∀ b ∈ bs, b.size ≤ 100) (hn : n = bs.length) (hl : l = bs.map signs) (ha : TP.one ts i l = a) :
    Calls Try.prog 10 #[.pointer (some ⟨tb, 0, none⟩), .slice (some ⟨w.heap.size, 0, none⟩) n n] (w.alloc (.cells (bs.map Value.string).toArray 9)) (PostTV (fun w' v => SlB 21 1 Cc (tb + 1) w' v a.1) tb sv (w.alloc (.cells (bs.map Value.string).toArray 9)) a.2) := by
  subst hn hl ha
  exact one_any bs w.heap.size _ i he.alloc he.tbl hb1 hb2 hsz (by simp) fun k hk => strs_cell hk
theorem next3 (a : Nat × Nat) (w : World) (i : Nat) (he : Ten w0 tb sv ts w i) (ha : TP.next ts i 3 = a) : Calls Try.prog 9 #[.pointer (some ⟨tb, 0, none⟩), .int .i64 3] w (PostT (.int .i64 (a.1 : Nat)) tb sv w a.2) := by
  subst ha; exact tnext_any 3 w i he (by decide)
theorem next10 (a : Nat × Nat) (w : World) (i : Nat) (he : Ten w0 tb sv ts w i) (ha : TP.next ts i 10 = a) : Calls Try.prog 9 #[.pointer (some ⟨tb, 0, none⟩), .int .i64 10] w (PostT (.int .i64 (a.1 : Nat)) tb sv w a.2) := by
  subst ha; exact tnext_any 10 w i he (by decide)
/-- Inside of Pattern: the tape; the signs so far. -/
structure Tps (w0 : World) (tb : Nat) (sv : Value) (ts : List Int) (w : World) (i : Nat) (v : Value) (out : List Int) (wr : World) : Prop where
  ten : Ten w0 tb sv ts wr i
  only : Only w wr tb
  own : OwnB 21 1 Cc w.heap.size wr v out
  le : tb + 1 ≤ w.heap.size
variable {v v' : Value} {out out' : List Int}
theorem Tps.drewN {n : Nat} (h : Tps w0 tb sv ts w i v out wr) : Tps w0 tb sv ts w i v out (wr.drewN n) := ⟨h.ten.drewN, h.only.drewN n, h.own.drewN, h.le⟩
theorem Tps.alloc {o : Obj} (h : Tps w0 tb sv ts w i v out wr) : Tps w0 tb sv ts w i v out (wr.alloc o) := ⟨h.ten.alloc, h.only.alloc o, h.own.allocs, h.le⟩
theorem Tps.call (h : Tps w0 tb sv ts w i v out wr) (hr : TS tb sv w' j) (ho : Only wr w' tb) (hj : j ≤ ts.length) : Tps w0 tb sv ts w j v out w' :=
  ⟨h.ten.step ho hr hj, h.only.trans ho, h.own.low ho (by have := h.le; omega), h.le⟩
theorem Tps.app (h : Tps w0 tb sv ts w i v out wr) (h1 : OwnB 21 1 Cc w.heap.size w' v' out') (h2 : wr.grownBy w' v.ownBlock) : Tps w0 tb sv ts w i v' out' w' :=
  ⟨⟨h.ten.sl, h.ten.lo, h.ten.ext.grown h2 (fun k hk => Nat.le_trans h.ten.lo (Nat.le_trans (Nat.le_of_lt h.le) (h.own.lt k hk).1)), (h2.block tb h.ten.tbl (by intro e; have := (h.own.lt tb e.symm).1; have := h.le; omega)).trans h.ten.st, h.ten.le⟩,
    Only.own (nb := w.heap.size) h.only h2 (fun k hk => (h.own.lt k hk).1) (Nat.le_refl _), h1, h.le⟩
theorem Tps.start (he : Ten w0 tb sv ts w i) : Tps w0 tb sv ts w i (.slice none 0 0) [] w := ⟨he, Only.refl w tb, OwnB.nil_, he.tbl⟩
/-- What Pattern of a depth makes. -/
def PatC (w0 : World) (tb : Nat) (sv : Value) (ts : List Int) (d : Int) (sub : Nat → List Int × Nat) : Prop :=
  ∀ (w : World) (i : Nat), Ten w0 tb sv ts w i → Calls Try.prog 4 #[.pointer (some ⟨tb, 0, none⟩), .int .i64 d] w (PostTV (fun w' v => SlB 21 1 Cc (tb + 1) w' v (sub i).1) tb sv w (sub i).2)
def bs1 : List ByteArray := [⟨#[97]⟩, ⟨#[98]⟩, ⟨#[99]⟩, ⟨#[46]⟩, ⟨#[95]⟩, ⟨#[65]⟩, ⟨#[32]⟩]
def bs2 : List ByteArray := [⟨#[92, 119]⟩, ⟨#[92, 100]⟩, ⟨#[92, 115]⟩, ⟨#[91, 97, 98, 99, 93]⟩, ⟨#[91, 94, 97, 45, 98, 93]⟩, ⟨#[91, 92, 119, 45, 93]⟩, ⟨#[92, 46]⟩, ⟨#[92, 87]⟩, ⟨#[91, 97, 45, 93]⟩]
def bs3 : List ByteArray := [⟨#[40]⟩, ⟨#[40, 63, 58]⟩]
def bs4 : List ByteArray := [⟨#[94]⟩, ⟨#[36]⟩, ⟨#[]⟩, ⟨#[]⟩]
def bs5 : List ByteArray := [⟨#[97]⟩, ⟨#[98]⟩, ⟨#[40, 99, 41]⟩, ⟨#[40, 97, 41]⟩]
def bsr : List ByteArray := [⟨#[]⟩, ⟨#[]⟩, ⟨#[42]⟩, ⟨#[43]⟩, ⟨#[63]⟩, ⟨#[42, 63]⟩, ⟨#[123, 49, 44, 50, 125]⟩, ⟨#[123, 50, 125]⟩, ⟨#[123, 48, 44, 125, 63]⟩]
namespace TP
variable {deep : Bool} {sub : Nat → List Int × Nat} {b : Nat} {n : Nat}
/-- An element and its repeat. -/
def rep (ts : List Int) (a : List Int × Nat) : List Int × Nat := (a.1 ++ (one ts a.2 lr).1, (one ts a.2 lr).2)
theorem item1 (h : (next ts i 10).1 < 3) : item ts deep sub i = rep ts (one ts (next ts i 10).2 l1) := by unfold item; simp only [if_pos h]; rfl
theorem item2 (h1 : ¬ (next ts i 10).1 < 3) (h : (next ts i 10).1 < 5) : item ts deep sub i = rep ts (one ts (next ts i 10).2 l2) := by unfold item; simp only [if_neg h1, if_pos h]; rfl
theorem item3 (h1 : ¬ (next ts i 10).1 < 3) (h2 : ¬ (next ts i 10).1 < 5) (h : (next ts i 10).1 < 7 ∧ deep = true) : item ts deep sub i = rep ts (inner ts sub (next ts i 10).2) := by unfold item; simp only [if_neg h1, if_neg h2, if_pos h]; rfl
theorem item4 (h1 : ¬ (next ts i 10).1 < 3) (h2 : ¬ (next ts i 10).1 < 5) (h3 : ¬ ((next ts i 10).1 < 7 ∧ deep = true)) (h : (next ts i 10).1 < 8) : item ts deep sub i = one ts (next ts i 10).2 l4 := by unfold item; simp only [if_neg h1, if_neg h2, if_neg h3, if_pos h]
theorem item5 (h1 : ¬ (next ts i 10).1 < 3) (h2 : ¬ (next ts i 10).1 < 5) (h3 : ¬ ((next ts i 10).1 < 7 ∧ deep = true)) (h : ¬ (next ts i 10).1 < 8) : item ts deep sub i = rep ts (one ts (next ts i 10).2 l5) := by unfold item; simp only [if_neg h1, if_neg h2, if_neg h3, if_neg h]; rfl
end TP
theorem pattern_own (d : Int) (deep : Bool) (sub : Nat → List Int × Nat) (b : Nat) (w : World) (i : Nat) (he : Ten w0 tb sv ts w i) (hd0 : 0 ≤ d) (hd1 : d ≤ 100) (hdp : decide (0 < d) = deep) (hs : TP.SubOk ts b sub) (hb : b ≤ 2000) (hsub : deep = true → PatC w0 tb sv ts (d - 1) sub) :
    Calls Try.prog 4 #[.pointer (some ⟨tb, 0, none⟩), .int .i64 d] w (PostTV (fun w' v => OwnB 21 1 Cc w.heap.size w' v (TP.made ts deep sub i).1) tb sv w (TP.made ts deep sub i).2) := by
  have HC := Lib.hid (Tps.start he)
  have hN := TP.next_lt ts i (n := 3) (by decide)
  have hNl := TP.next_le 3 he.le
  obtain ⟨R, hR⟩ : ∃ R, TP.made ts deep sub i = R := ⟨_, rfl⟩
  have HR := Lib.hid (show TP.loop ts deep sub (1 + (TP.next ts i 3).1) (TP.next ts i 3).2 [] = R from hR)
  rw [hR]
  obtain ⟨nx, hnx⟩ : ∃ nx, TP.next ts i 3 = nx := ⟨_, rfl⟩
  have HK := Lib.hid (fun w he => next3 (w0 := w0) (tb := tb) (sv := sv) nx w i he hnx)
  have HDP := Lib.hid hdp
  have HS := Lib.hid (And.intro hs hsub)
  rw [hnx] at HR hN hNl
  obtain ⟨n0, i0⟩ := nx
  dsimp only at HR HK hN hNl
  clear he hR hnx hdp hs hsub
  go_enter Try.func4, Try.ntmps4
  go_wp2_with (first | (go_at_call 9; refine (HK.out _ ?hen).mono ?_; (case hen => (apply Tps.ten; (focus (repeat (first | exact HC.out | apply Tps.drewN | apply Tps.alloc))))); rintro e w' ⟨rfl, hr, ho⟩; have HC := Lib.hid (Tps.call (by (focus (repeat (first | exact HC.out | apply Tps.drewN | apply Tps.alloc)))) hr ho (by omega)); clear hr ho))
  go_loopg [5, 6] (1 + n0) (fun k v n wr => ∃ (i' : Nat) (out : List Int), n = .int .i64 k ∧ Tps w0 tb sv ts w i' v out wr ∧ TP.loop ts deep sub k i' out = R ∧ k ≤ 3 ∧ out.length + k * (2 * b + 15) ≤ 20000)
  case atStart =>
    refine ⟨i0, [], ?_, HC.out, HR.out, by omega, ?_⟩
    · congr 1
    · have h5 : (1 + n0) * (2 * b + 15) ≤ 3 * (2 * b + 15) := Nat.mul_le_mul_right _ (by omega)
      simp only [List.length_nil]; omega
  case round =>
    obtain ⟨i', out, rfl, hcs, hlo, hk3, hlen⟩ := hrel
    have HC := Lib.hid hcs
    have HL := Lib.hid hlo
    have HLEN := Lib.hid hlen
    have hol : out.length ≤ 20000 := by omega
    have hil := hcs.ten.le
    obtain ⟨Ao, co, rfl, hco, hcm⟩ := hcs.own.form
    clear hcs hlo hlen
    by_cases hk0 : gk = 0
    · subst hk0
      go_wp2_with fail
      go_ret
      rw [← HL.out]
      exact ⟨_, rfl, HC.out.own, HC.out.ten.st, HC.out.only⟩
    · obtain ⟨k, rfl⟩ : ∃ k, gk = k + 1 := ⟨gk - 1, by omega⟩
      have HZ := Lib.hid (show TP.loop ts deep sub k (TP.item ts deep sub i').2 (out ++ (TP.item ts deep sub i').1) = R from HL.out)
      have hit := TP.item_ok (deep := deep) HS.out.1 hil
      have hmul : (k + 1) * (2 * b + 15) = k * (2 * b + 15) + (2 * b + 15) := Nat.succ_mul _ _
      have HIT := Lib.hid (show (TP.item ts deep sub i').2 ≤ ts.length ∧ out.length + (TP.item ts deep sub i').1.length + k * (2 * b + 15) ≤ 20000 from ⟨hit.1, by have := hit.2; have := HLEN.out; omega⟩)
      have hkl := TP.next_le 10 hil
      clear hmul hk0 hit
      by_cases h3 : (TP.next ts i' 10).1 < 3
      · rw [TP.item1 h3] at HZ HIT
        obtain ⟨nx, hnx⟩ : ∃ nx, TP.next ts i' 10 = nx := ⟨_, rfl⟩
        have HK := Lib.hid (fun w he => next10 (w0 := w0) (tb := tb) (sv := sv) nx w i' he hnx)
        rw [hnx] at HZ HIT hkl h3
        obtain ⟨q, iq⟩ := nx
        clear hnx
        dsimp only at HZ HIT hkl HK h3
        obtain ⟨a1, ha1⟩ : ∃ a, TP.one ts iq TP.l1 = a := ⟨_, rfl⟩
        have HO1 := Lib.hid (fun w he => one_lit (w0 := w0) (tb := tb) (sv := sv) bs1 7 TP.l1 a1 w iq he (by decide) (by decide) (by decide) rfl rfl ha1)
        have ha1l := TP.one_le TP.l1 hkl
        have ha1n := TP.one_len (ts := ts) (i := iq) (l := TP.l1) (n := 6) (by decide)
        rw [ha1] at HZ HIT ha1l ha1n
        unfold TP.rep at HZ HIT
        obtain ⟨a2, ha2⟩ : ∃ a, TP.one ts a1.2 TP.lr = a := ⟨_, rfl⟩
        have HOR := Lib.hid (fun w he => one_lit (w0 := w0) (tb := tb) (sv := sv) bsr 9 TP.lr a2 w a1.2 he (by decide) (by decide) (by decide) rfl rfl ha2)
        have ha2l := TP.one_le TP.lr ha1l
        have ha2n := TP.one_len (ts := ts) (i := a1.2) (l := TP.lr) (n := 6) (by decide)
        rw [ha2] at HZ HIT ha2l ha2n
        have hd3 : decide ((q : Int) < 3) = true := by simp; omega
        clear ha1 ha2 h3
        go_upto_region 19 with (first | (go_at_call 9; refine (HK.out _ ?hen).mono ?_; (case hen => (apply Tps.ten; (focus (repeat (first | exact HC.out | apply Tps.drewN | apply Tps.alloc))))); rintro e w' ⟨rfl, hr, ho⟩; have HC := Lib.hid (Tps.call (by (focus (repeat (first | exact HC.out | apply Tps.drewN | apply Tps.alloc)))) hr ho (by omega)); clear hr ho) | (go_at_call 10; refine (HO1.out _ ?hen).mono ?_; (case hen => (apply Tps.ten; (focus (repeat (first | exact HC.out | apply Tps.drewN | apply Tps.alloc))))); rintro e w' ⟨v, rfl, hv, hr, ho⟩; have HC := Lib.hid (Tps.call (by (focus (repeat (first | exact HC.out | apply Tps.drewN | apply Tps.alloc)))) hr ho (by omega)); clear hr ho; obtain ⟨Aa, ca, rfl, _⟩ := hv.form; have HV := Lib.hid hv; clear hv) | (at_builtin; go_loud (refine app_src rfl _ _ rfl w.heap.size (tb + 1) _ _ _ _ HC.out.own rfl rfl HV.out ?hn ?hn2 ?hB ?_; (case hn => omega); (case hn2 => omega); (case hB => exact World.grownBy.size HC.out.only); intro v' w' h1 h2; generalize hl : ((_ : List Int) ++ (_ : List Int)) = out1 at h1; have HX1 := Lib.hid hl; have out1L := Nat.le_of_eq ((congrArg List.length hl.symm).trans List.length_append); have hz := Tps.app HC.out h1 h2; obtain ⟨Ax, cx, rfl, hcx, hcy⟩ := h1.form; have HC := Lib.hid hz; clear h1 h2 hz hl)))
        go_wp2_with (first | (go_at_call 10; refine (HOR.out _ ?hen).mono ?_; (case hen => (apply Tps.ten; (focus (repeat (first | exact HC.out | apply Tps.drewN | apply Tps.alloc))))); rintro e w' ⟨v, rfl, hv, hr, ho⟩; have HC := Lib.hid (Tps.call (by (focus (repeat (first | exact HC.out | apply Tps.drewN | apply Tps.alloc)))) hr ho (by omega)); clear hr ho; obtain ⟨Aa, ca, rfl, _⟩ := hv.form; have HV := Lib.hid hv; clear hv) | (at_builtin; go_loud (refine app_src rfl _ _ rfl w.heap.size (tb + 1) _ _ _ _ HC.out.own rfl rfl HV.out ?hn ?hn2 ?hB ?_; (case hn => omega); (case hn2 => omega); (case hB => exact World.grownBy.size HC.out.only); intro v' w' h1 h2; generalize hl : ((_ : List Int) ++ (_ : List Int)) = outR at h1; have HXR := Lib.hid hl; have outRL := Nat.le_of_eq ((congrArg List.length hl.symm).trans List.length_append); have hz := Tps.app HC.out h1 h2; obtain ⟨Ax, cx, rfl, hcx, hcy⟩ := h1.form; have HC := Lib.hid hz; clear h1 h2 hz hl)))
        go_roundg k
        case measure => omega
        case rel =>
          have hit := HIT.out
          refine ⟨a2.2, outR, by go_num, HC.out, ?_, by omega, ?_⟩
          · rw [← HXR.out, ← HX1.out, List.append_assoc]; exact HZ.out
          · rw [← HXR.out, ← HX1.out, List.append_assoc, List.length_append]; exact hit.2
      by_cases h5 : (TP.next ts i' 10).1 < 5
      · rw [TP.item2 h3 h5] at HZ HIT
        obtain ⟨nx, hnx⟩ : ∃ nx, TP.next ts i' 10 = nx := ⟨_, rfl⟩
        have HK := Lib.hid (fun w he => next10 (w0 := w0) (tb := tb) (sv := sv) nx w i' he hnx)
        rw [hnx] at HZ HIT hkl h3 h5
        obtain ⟨q, iq⟩ := nx
        clear hnx
        dsimp only at HZ HIT hkl HK h3 h5
        obtain ⟨a1, ha1⟩ : ∃ a, TP.one ts iq TP.l2 = a := ⟨_, rfl⟩
        have HO1 := Lib.hid (fun w he => one_lit (w0 := w0) (tb := tb) (sv := sv) bs2 9 TP.l2 a1 w iq he (by decide) (by decide) (by decide) rfl rfl ha1)
        have ha1l := TP.one_le TP.l2 hkl
        have ha1n := TP.one_len (ts := ts) (i := iq) (l := TP.l2) (n := 6) (by decide)
        rw [ha1] at HZ HIT ha1l ha1n
        unfold TP.rep at HZ HIT
        obtain ⟨a2, ha2⟩ : ∃ a, TP.one ts a1.2 TP.lr = a := ⟨_, rfl⟩
        have HOR := Lib.hid (fun w he => one_lit (w0 := w0) (tb := tb) (sv := sv) bsr 9 TP.lr a2 w a1.2 he (by decide) (by decide) (by decide) rfl rfl ha2)
        have ha2l := TP.one_le TP.lr ha1l
        have ha2n := TP.one_len (ts := ts) (i := a1.2) (l := TP.lr) (n := 6) (by decide)
        rw [ha2] at HZ HIT ha2l ha2n
        have hd3 : decide ((q : Int) < 3) = false := by simp; omega
        have hd5 : decide ((q : Int) < 5) = true := by simp; omega
        clear ha1 ha2 h3 h5
        go_upto_region 19 with (first | (go_at_call 9; refine (HK.out _ ?hen).mono ?_; (case hen => (apply Tps.ten; (focus (repeat (first | exact HC.out | apply Tps.drewN | apply Tps.alloc))))); rintro e w' ⟨rfl, hr, ho⟩; have HC := Lib.hid (Tps.call (by (focus (repeat (first | exact HC.out | apply Tps.drewN | apply Tps.alloc)))) hr ho (by omega)); clear hr ho) | (go_at_call 10; refine (HO1.out _ ?hen).mono ?_; (case hen => (apply Tps.ten; (focus (repeat (first | exact HC.out | apply Tps.drewN | apply Tps.alloc))))); rintro e w' ⟨v, rfl, hv, hr, ho⟩; have HC := Lib.hid (Tps.call (by (focus (repeat (first | exact HC.out | apply Tps.drewN | apply Tps.alloc)))) hr ho (by omega)); clear hr ho; obtain ⟨Aa, ca, rfl, _⟩ := hv.form; have HV := Lib.hid hv; clear hv) | (at_builtin; go_loud (refine app_src rfl _ _ rfl w.heap.size (tb + 1) _ _ _ _ HC.out.own rfl rfl HV.out ?hn ?hn2 ?hB ?_; (case hn => omega); (case hn2 => omega); (case hB => exact World.grownBy.size HC.out.only); intro v' w' h1 h2; generalize hl : ((_ : List Int) ++ (_ : List Int)) = out1 at h1; have HX1 := Lib.hid hl; have out1L := Nat.le_of_eq ((congrArg List.length hl.symm).trans List.length_append); have hz := Tps.app HC.out h1 h2; obtain ⟨Ax, cx, rfl, hcx, hcy⟩ := h1.form; have HC := Lib.hid hz; clear h1 h2 hz hl)))
        go_wp2_with (first | (go_at_call 10; refine (HOR.out _ ?hen).mono ?_; (case hen => (apply Tps.ten; (focus (repeat (first | exact HC.out | apply Tps.drewN | apply Tps.alloc))))); rintro e w' ⟨v, rfl, hv, hr, ho⟩; have HC := Lib.hid (Tps.call (by (focus (repeat (first | exact HC.out | apply Tps.drewN | apply Tps.alloc)))) hr ho (by omega)); clear hr ho; obtain ⟨Aa, ca, rfl, _⟩ := hv.form; have HV := Lib.hid hv; clear hv) | (at_builtin; go_loud (refine app_src rfl _ _ rfl w.heap.size (tb + 1) _ _ _ _ HC.out.own rfl rfl HV.out ?hn ?hn2 ?hB ?_; (case hn => omega); (case hn2 => omega); (case hB => exact World.grownBy.size HC.out.only); intro v' w' h1 h2; generalize hl : ((_ : List Int) ++ (_ : List Int)) = outR at h1; have HXR := Lib.hid hl; have outRL := Nat.le_of_eq ((congrArg List.length hl.symm).trans List.length_append); have hz := Tps.app HC.out h1 h2; obtain ⟨Ax, cx, rfl, hcx, hcy⟩ := h1.form; have HC := Lib.hid hz; clear h1 h2 hz hl)))
        go_roundg k
        case measure => omega
        case rel =>
          have hit := HIT.out
          refine ⟨a2.2, outR, by go_num, HC.out, ?_, by omega, ?_⟩
          · rw [← HXR.out, ← HX1.out, List.append_assoc]; exact HZ.out
          · rw [← HXR.out, ← HX1.out, List.append_assoc, List.length_append]; exact hit.2
      by_cases h7 : (TP.next ts i' 10).1 < 7 ∧ deep = true
      · rw [TP.item3 h3 h5 h7] at HZ HIT
        obtain ⟨nx, hnx⟩ : ∃ nx, TP.next ts i' 10 = nx := ⟨_, rfl⟩
        have HK := Lib.hid (fun w he => next10 (w0 := w0) (tb := tb) (sv := sv) nx w i' he hnx)
        rw [hnx] at HZ HIT hkl h3 h5 h7
        obtain ⟨q, iq⟩ := nx
        clear hnx
        dsimp only at HZ HIT hkl HK h3 h5 h7
        obtain ⟨a1, ha1⟩ : ∃ a, TP.one ts iq TP.l3 = a := ⟨_, rfl⟩
        have HO1 := Lib.hid (fun w he => one_lit (w0 := w0) (tb := tb) (sv := sv) bs3 2 TP.l3 a1 w iq he (by decide) (by decide) (by decide) rfl rfl ha1)
        have ha1l := TP.one_le TP.l3 hkl
        have ha1n := TP.one_len (ts := ts) (i := iq) (l := TP.l3) (n := 6) (by decide)
        unfold TP.rep TP.inner at HZ HIT
        simp only at HZ HIT
        rw [ha1] at HZ HIT ha1l ha1n
        obtain ⟨p1, hp1⟩ : ∃ a, sub a1.2 = a := ⟨_, rfl⟩
        have HPC := HS.out.2 h7.2
        have HS1 := Lib.hid (fun w he => (hp1 ▸ HPC w a1.2 he : Calls Try.prog 4 #[.pointer (some ⟨tb, 0, none⟩), .int .i64 (d - 1)] w (PostTV (fun w' v => SlB 21 1 Cc (tb + 1) w' v p1.1) tb sv w p1.2)))
        have hp1l := HS.out.1 a1.2 ha1l
        rw [hp1] at HZ HIT hp1l
        obtain ⟨m, hm⟩ : ∃ a, TP.next ts p1.2 3 = a := ⟨_, rfl⟩
        have HM := Lib.hid (fun w he => next3 (w0 := w0) (tb := tb) (sv := sv) m w p1.2 he hm)
        have hml := TP.next_le 3 hp1l.1
        rw [hm] at HZ HIT hml
        have hd : decide (0 < d) = true := HDP.out.trans h7.2
        have hdl : 1 ≤ d := by have := of_decide_eq_true hd; omega
        have hd3 : decide ((q : Int) < 3) = false := by simp; omega
        have hd5 : decide ((q : Int) < 5) = false := by simp; omega
        have hd7 : decide ((q : Int) < 7) = true := by simp; omega
        obtain ⟨hp1a, hp1b⟩ := hp1l
        by_cases hm0 : m.1 = 0
        · rw [if_pos hm0] at HZ HIT
          obtain ⟨p2, hp2⟩ : ∃ a, sub m.2 = a := ⟨_, rfl⟩
          have HS2 := Lib.hid (fun w he => (hp2 ▸ HPC w m.2 he : Calls Try.prog 4 #[.pointer (some ⟨tb, 0, none⟩), .int .i64 (d - 1)] w (PostTV (fun w' v => SlB 21 1 Cc (tb + 1) w' v p2.1) tb sv w p2.2)))
          have hp2l := HS.out.1 m.2 hml
          rw [hp2] at HZ HIT hp2l
          obtain ⟨hp2a, hp2b⟩ := hp2l
          dsimp only at HZ HIT
          obtain ⟨a2, ha2⟩ : ∃ a, TP.one ts p2.2 TP.lr = a := ⟨_, rfl⟩
          have HOR := Lib.hid (fun w he => one_lit (w0 := w0) (tb := tb) (sv := sv) bsr 9 TP.lr a2 w p2.2 he (by decide) (by decide) (by decide) rfl rfl ha2)
          have ha2l := TP.one_le TP.lr hp2a
          have ha2n := TP.one_len (ts := ts) (i := p2.2) (l := TP.lr) (n := 6) (by decide)
          rw [ha2] at HZ HIT ha2l ha2n
          have hmb : (((m.1 : Nat) : Int) == 0) = true := by simp [hm0]
          clear ha1 ha2 h3 h5 h7 hp1 hp2 hm hm0 HPC
          go_upto_region 13 with (first | (go_at_call 9; refine (HK.out _ ?hen).mono ?_; (case hen => (apply Tps.ten; (focus (repeat (first | exact HC.out | apply Tps.drewN | apply Tps.alloc))))); rintro e w' ⟨rfl, hr, ho⟩; have HC := Lib.hid (Tps.call (by (focus (repeat (first | exact HC.out | apply Tps.drewN | apply Tps.alloc)))) hr ho (by omega)); clear hr ho) | (go_at_call 10; refine (HO1.out _ ?hen).mono ?_; (case hen => (apply Tps.ten; (focus (repeat (first | exact HC.out | apply Tps.drewN | apply Tps.alloc))))); rintro e w' ⟨v, rfl, hv, hr, ho⟩; have HC := Lib.hid (Tps.call (by (focus (repeat (first | exact HC.out | apply Tps.drewN | apply Tps.alloc)))) hr ho (by omega)); clear hr ho; obtain ⟨Aa, ca, rfl, _⟩ := hv.form; have HV := Lib.hid hv; clear hv) | (at_builtin; go_loud (refine app_src rfl _ _ rfl w.heap.size (tb + 1) _ _ _ _ HC.out.own rfl rfl HV.out ?hn ?hn2 ?hB ?_; (case hn => omega); (case hn2 => omega); (case hB => exact World.grownBy.size HC.out.only); intro v' w' h1 h2; generalize hl : ((_ : List Int) ++ (_ : List Int)) = out1 at h1; have HX1 := Lib.hid hl; have out1L := Nat.le_of_eq ((congrArg List.length hl.symm).trans List.length_append); have hz := Tps.app HC.out h1 h2; obtain ⟨Ax, cx, rfl, hcx, hcy⟩ := h1.form; have HC := Lib.hid hz; clear h1 h2 hz hl)))
          go_upto_region 14 with (first | (go_at_call 4; refine (HS1.out _ ?hen).mono ?_; (case hen => (apply Tps.ten; (focus (repeat (first | exact HC.out | apply Tps.drewN | apply Tps.alloc))))); rintro e w' ⟨v, rfl, hv, hr, ho⟩; have HC := Lib.hid (Tps.call (by (focus (repeat (first | exact HC.out | apply Tps.drewN | apply Tps.alloc)))) hr ho (by omega)); clear hr ho; obtain ⟨Aa, ca, rfl, _⟩ := hv.form; have HV := Lib.hid hv; clear hv) | (at_builtin; go_loud (refine app_src rfl _ _ rfl w.heap.size (tb + 1) _ _ _ _ HC.out.own rfl rfl HV.out ?hn ?hn2 ?hB ?_; (case hn => omega); (case hn2 => omega); (case hB => exact World.grownBy.size HC.out.only); intro v' w' h1 h2; generalize hl : ((_ : List Int) ++ (_ : List Int)) = out2 at h1; have HX2 := Lib.hid hl; have out2L := Nat.le_of_eq ((congrArg List.length hl.symm).trans List.length_append); have hz := Tps.app HC.out h1 h2; obtain ⟨Ax, cx, rfl, hcx, hcy⟩ := h1.form; have HC := Lib.hid hz; clear h1 h2 hz hl)))
          go_upto_region 16 with (first | (go_at_call 9; refine (HM.out _ ?hen).mono ?_; (case hen => (apply Tps.ten; (focus (repeat (first | exact HC.out | apply Tps.drewN | apply Tps.alloc))))); rintro e w' ⟨rfl, hr, ho⟩; have HC := Lib.hid (Tps.call (by (focus (repeat (first | exact HC.out | apply Tps.drewN | apply Tps.alloc)))) hr ho (by omega)); clear hr ho) | (at_builtin; go_loud (refine app_i32 rfl _ _ rfl w.heap.size _ _ [124] (Tps.own (Tps.alloc HC.out)) rfl ⟨_, 0, none⟩ 1 1 rfl rfl (one_cells rfl) ?hn ?hll ?hB ?_; (case hn => omega); (case hll => (show 1 ≤ 1000; decide)); (case hB => exact Nat.le_trans (World.grownBy.size HC.out.only) (by simp)); intro v' w' h1 h2; generalize hl : ((_ : List Int) ++ (_ : List Int)) = out3 at h1; have HX3 := Lib.hid hl; have out3L := Nat.le_of_eq ((congrArg List.length hl.symm).trans List.length_append); simp only [List.length_cons, List.length_nil] at out3L; have hz := Tps.app (Tps.alloc HC.out) h1 h2; obtain ⟨Ax, cx, rfl, hcx, hcy⟩ := h1.form; have HC := Lib.hid hz; clear h1 h2 hz hl)) | (go_at_call 4; refine (HS2.out _ ?hen).mono ?_; (case hen => (apply Tps.ten; (focus (repeat (first | exact HC.out | apply Tps.drewN | apply Tps.alloc))))); rintro e w' ⟨v, rfl, hv, hr, ho⟩; have HC := Lib.hid (Tps.call (by (focus (repeat (first | exact HC.out | apply Tps.drewN | apply Tps.alloc)))) hr ho (by omega)); clear hr ho; obtain ⟨Aa, ca, rfl, _⟩ := hv.form; have HV := Lib.hid hv; clear hv) | (at_builtin; go_loud (refine app_src rfl _ _ rfl w.heap.size (tb + 1) _ _ _ _ HC.out.own rfl rfl HV.out ?hn ?hn2 ?hB ?_; (case hn => omega); (case hn2 => omega); (case hB => exact World.grownBy.size HC.out.only); intro v' w' h1 h2; generalize hl : ((_ : List Int) ++ (_ : List Int)) = out4 at h1; have HX4 := Lib.hid hl; have out4L := Nat.le_of_eq ((congrArg List.length hl.symm).trans List.length_append); have hz := Tps.app HC.out h1 h2; obtain ⟨Ax, cx, rfl, hcx, hcy⟩ := h1.form; have HC := Lib.hid hz; clear h1 h2 hz hl)))
          go_upto_region 19 with (first | (at_builtin; go_loud (refine app_i32 rfl _ _ rfl w.heap.size _ _ [41] (Tps.own (Tps.alloc HC.out)) rfl ⟨_, 0, none⟩ 1 1 rfl rfl (one_cells rfl) ?hn ?hll ?hB ?_; (case hn => omega); (case hll => (show 1 ≤ 1000; decide)); (case hB => exact Nat.le_trans (World.grownBy.size HC.out.only) (by simp)); intro v' w' h1 h2; generalize hl : ((_ : List Int) ++ (_ : List Int)) = out5 at h1; have HX5 := Lib.hid hl; have out5L := Nat.le_of_eq ((congrArg List.length hl.symm).trans List.length_append); simp only [List.length_cons, List.length_nil] at out5L; have hz := Tps.app (Tps.alloc HC.out) h1 h2; obtain ⟨Ax, cx, rfl, hcx, hcy⟩ := h1.form; have HC := Lib.hid hz; clear h1 h2 hz hl)))
          go_wp2_with (first | (go_at_call 10; refine (HOR.out _ ?hen).mono ?_; (case hen => (apply Tps.ten; (focus (repeat (first | exact HC.out | apply Tps.drewN | apply Tps.alloc))))); rintro e w' ⟨v, rfl, hv, hr, ho⟩; have HC := Lib.hid (Tps.call (by (focus (repeat (first | exact HC.out | apply Tps.drewN | apply Tps.alloc)))) hr ho (by omega)); clear hr ho; obtain ⟨Aa, ca, rfl, _⟩ := hv.form; have HV := Lib.hid hv; clear hv) | (at_builtin; go_loud (refine app_src rfl _ _ rfl w.heap.size (tb + 1) _ _ _ _ HC.out.own rfl rfl HV.out ?hn ?hn2 ?hB ?_; (case hn => omega); (case hn2 => omega); (case hB => exact World.grownBy.size HC.out.only); intro v' w' h1 h2; generalize hl : ((_ : List Int) ++ (_ : List Int)) = outR at h1; have HXR := Lib.hid hl; have outRL := Nat.le_of_eq ((congrArg List.length hl.symm).trans List.length_append); have hz := Tps.app HC.out h1 h2; obtain ⟨Ax, cx, rfl, hcx, hcy⟩ := h1.form; have HC := Lib.hid hz; clear h1 h2 hz hl)))
          go_roundg k
          case measure => omega
          case rel =>
            have hit := HIT.out
            refine ⟨a2.2, outR, by go_num, HC.out, ?_, by omega, ?_⟩
            · have h7 := HZ.out; rw [← HXR.out, ← HX5.out, ← HX4.out, ← HX3.out, ← HX2.out, ← HX1.out]; simpa only [List.append_assoc] using h7
            · have h7 := hit.2; rw [← HXR.out, ← HX5.out, ← HX4.out, ← HX3.out, ← HX2.out, ← HX1.out]; simp only [List.length_append, List.length_cons, List.length_nil] at h7 ⊢; omega
        · rw [if_neg hm0] at HZ HIT
          dsimp only at HZ HIT
          obtain ⟨a2, ha2⟩ : ∃ a, TP.one ts m.2 TP.lr = a := ⟨_, rfl⟩
          have HOR := Lib.hid (fun w he => one_lit (w0 := w0) (tb := tb) (sv := sv) bsr 9 TP.lr a2 w m.2 he (by decide) (by decide) (by decide) rfl rfl ha2)
          have ha2l := TP.one_le TP.lr hml
          have ha2n := TP.one_len (ts := ts) (i := m.2) (l := TP.lr) (n := 6) (by decide)
          rw [ha2] at HZ HIT ha2l ha2n
          have hmb : (((m.1 : Nat) : Int) == 0) = false := by simpa using hm0
          clear ha1 ha2 h3 h5 h7 hp1 hm hm0 HPC
          go_upto_region 13 with (first | (go_at_call 9; refine (HK.out _ ?hen).mono ?_; (case hen => (apply Tps.ten; (focus (repeat (first | exact HC.out | apply Tps.drewN | apply Tps.alloc))))); rintro e w' ⟨rfl, hr, ho⟩; have HC := Lib.hid (Tps.call (by (focus (repeat (first | exact HC.out | apply Tps.drewN | apply Tps.alloc)))) hr ho (by omega)); clear hr ho) | (go_at_call 10; refine (HO1.out _ ?hen).mono ?_; (case hen => (apply Tps.ten; (focus (repeat (first | exact HC.out | apply Tps.drewN | apply Tps.alloc))))); rintro e w' ⟨v, rfl, hv, hr, ho⟩; have HC := Lib.hid (Tps.call (by (focus (repeat (first | exact HC.out | apply Tps.drewN | apply Tps.alloc)))) hr ho (by omega)); clear hr ho; obtain ⟨Aa, ca, rfl, _⟩ := hv.form; have HV := Lib.hid hv; clear hv) | (at_builtin; go_loud (refine app_src rfl _ _ rfl w.heap.size (tb + 1) _ _ _ _ HC.out.own rfl rfl HV.out ?hn ?hn2 ?hB ?_; (case hn => omega); (case hn2 => omega); (case hB => exact World.grownBy.size HC.out.only); intro v' w' h1 h2; generalize hl : ((_ : List Int) ++ (_ : List Int)) = out1 at h1; have HX1 := Lib.hid hl; have out1L := Nat.le_of_eq ((congrArg List.length hl.symm).trans List.length_append); have hz := Tps.app HC.out h1 h2; obtain ⟨Ax, cx, rfl, hcx, hcy⟩ := h1.form; have HC := Lib.hid hz; clear h1 h2 hz hl)))
          go_upto_region 14 with (first | (go_at_call 4; refine (HS1.out _ ?hen).mono ?_; (case hen => (apply Tps.ten; (focus (repeat (first | exact HC.out | apply Tps.drewN | apply Tps.alloc))))); rintro e w' ⟨v, rfl, hv, hr, ho⟩; have HC := Lib.hid (Tps.call (by (focus (repeat (first | exact HC.out | apply Tps.drewN | apply Tps.alloc)))) hr ho (by omega)); clear hr ho; obtain ⟨Aa, ca, rfl, _⟩ := hv.form; have HV := Lib.hid hv; clear hv) | (at_builtin; go_loud (refine app_src rfl _ _ rfl w.heap.size (tb + 1) _ _ _ _ HC.out.own rfl rfl HV.out ?hn ?hn2 ?hB ?_; (case hn => omega); (case hn2 => omega); (case hB => exact World.grownBy.size HC.out.only); intro v' w' h1 h2; generalize hl : ((_ : List Int) ++ (_ : List Int)) = out2 at h1; have HX2 := Lib.hid hl; have out2L := Nat.le_of_eq ((congrArg List.length hl.symm).trans List.length_append); have hz := Tps.app HC.out h1 h2; obtain ⟨Ax, cx, rfl, hcx, hcy⟩ := h1.form; have HC := Lib.hid hz; clear h1 h2 hz hl)))
          go_upto_region 19 with (first | (go_at_call 9; refine (HM.out _ ?hen).mono ?_; (case hen => (apply Tps.ten; (focus (repeat (first | exact HC.out | apply Tps.drewN | apply Tps.alloc))))); rintro e w' ⟨rfl, hr, ho⟩; have HC := Lib.hid (Tps.call (by (focus (repeat (first | exact HC.out | apply Tps.drewN | apply Tps.alloc)))) hr ho (by omega)); clear hr ho) | (at_builtin; go_loud (refine app_i32 rfl _ _ rfl w.heap.size _ _ [41] (Tps.own (Tps.alloc HC.out)) rfl ⟨_, 0, none⟩ 1 1 rfl rfl (one_cells rfl) ?hn ?hll ?hB ?_; (case hn => omega); (case hll => (show 1 ≤ 1000; decide)); (case hB => exact Nat.le_trans (World.grownBy.size HC.out.only) (by simp)); intro v' w' h1 h2; generalize hl : ((_ : List Int) ++ (_ : List Int)) = out5 at h1; have HX5 := Lib.hid hl; have out5L := Nat.le_of_eq ((congrArg List.length hl.symm).trans List.length_append); simp only [List.length_cons, List.length_nil] at out5L; have hz := Tps.app (Tps.alloc HC.out) h1 h2; obtain ⟨Ax, cx, rfl, hcx, hcy⟩ := h1.form; have HC := Lib.hid hz; clear h1 h2 hz hl)))
          go_wp2_with (first | (go_at_call 10; refine (HOR.out _ ?hen).mono ?_; (case hen => (apply Tps.ten; (focus (repeat (first | exact HC.out | apply Tps.drewN | apply Tps.alloc))))); rintro e w' ⟨v, rfl, hv, hr, ho⟩; have HC := Lib.hid (Tps.call (by (focus (repeat (first | exact HC.out | apply Tps.drewN | apply Tps.alloc)))) hr ho (by omega)); clear hr ho; obtain ⟨Aa, ca, rfl, _⟩ := hv.form; have HV := Lib.hid hv; clear hv) | (at_builtin; go_loud (refine app_src rfl _ _ rfl w.heap.size (tb + 1) _ _ _ _ HC.out.own rfl rfl HV.out ?hn ?hn2 ?hB ?_; (case hn => omega); (case hn2 => omega); (case hB => exact World.grownBy.size HC.out.only); intro v' w' h1 h2; generalize hl : ((_ : List Int) ++ (_ : List Int)) = outR at h1; have HXR := Lib.hid hl; have outRL := Nat.le_of_eq ((congrArg List.length hl.symm).trans List.length_append); have hz := Tps.app HC.out h1 h2; obtain ⟨Ax, cx, rfl, hcx, hcy⟩ := h1.form; have HC := Lib.hid hz; clear h1 h2 hz hl)))
          go_roundg k
          case measure => omega
          case rel =>
            have hit := HIT.out
            refine ⟨a2.2, outR, by go_num, HC.out, ?_, by omega, ?_⟩
            · have h7 := HZ.out; rw [← HXR.out, ← HX5.out, ← HX2.out, ← HX1.out]; simpa only [List.append_assoc] using h7
            · have h7 := hit.2; rw [← HXR.out, ← HX5.out, ← HX2.out, ← HX1.out]; simp only [List.length_append, List.length_cons, List.length_nil] at h7 ⊢; omega
      by_cases h8 : (TP.next ts i' 10).1 < 8
      · rw [TP.item4 h3 h5 h7 h8] at HZ HIT
        obtain ⟨nx, hnx⟩ : ∃ nx, TP.next ts i' 10 = nx := ⟨_, rfl⟩
        have HK := Lib.hid (fun w he => next10 (w0 := w0) (tb := tb) (sv := sv) nx w i' he hnx)
        rw [hnx] at HZ HIT hkl h3 h5 h7 h8
        obtain ⟨q, iq⟩ := nx
        clear hnx
        dsimp only at HZ HIT hkl HK h3 h5 h7 h8
        obtain ⟨a1, ha1⟩ : ∃ a, TP.one ts iq TP.l4 = a := ⟨_, rfl⟩
        have HO1 := Lib.hid (fun w he => one_lit (w0 := w0) (tb := tb) (sv := sv) bs4 4 TP.l4 a1 w iq he (by decide) (by decide) (by decide) rfl rfl ha1)
        have ha1l := TP.one_le TP.l4 hkl
        have ha1n := TP.one_len (ts := ts) (i := iq) (l := TP.l4) (n := 6) (by decide)
        rw [ha1] at HZ HIT ha1l ha1n
        have hd3 : decide ((q : Int) < 3) = false := by simp; omega
        have hd5 : decide ((q : Int) < 5) = false := by simp; omega
        have hd8 : decide ((q : Int) < 8) = true := by simp; omega
        by_cases hq7 : q < 7
        · have hdp : deep = false := by
            rcases hb : deep with _ | _
            · rfl
            · exact absurd ⟨hq7, hb⟩ h7
          have hd : decide (0 < d) = false := HDP.out.trans hdp
          have hd7 : decide ((q : Int) < 7) = true := by simp; omega
          clear ha1 h3 h5 h7 h8 hdp
          go_wp2_with (first | (go_at_call 9; refine (HK.out _ ?hen).mono ?_; (case hen => (apply Tps.ten; (focus (repeat (first | exact HC.out | apply Tps.drewN | apply Tps.alloc))))); rintro e w' ⟨rfl, hr, ho⟩; have HC := Lib.hid (Tps.call (by (focus (repeat (first | exact HC.out | apply Tps.drewN | apply Tps.alloc)))) hr ho (by omega)); clear hr ho) | (go_at_call 10; refine (HO1.out _ ?hen).mono ?_; (case hen => (apply Tps.ten; (focus (repeat (first | exact HC.out | apply Tps.drewN | apply Tps.alloc))))); rintro e w' ⟨v, rfl, hv, hr, ho⟩; have HC := Lib.hid (Tps.call (by (focus (repeat (first | exact HC.out | apply Tps.drewN | apply Tps.alloc)))) hr ho (by omega)); clear hr ho; obtain ⟨Aa, ca, rfl, _⟩ := hv.form; have HV := Lib.hid hv; clear hv) | (at_builtin; go_loud (refine app_src rfl _ _ rfl w.heap.size (tb + 1) _ _ _ _ HC.out.own rfl rfl HV.out ?hn ?hn2 ?hB ?_; (case hn => omega); (case hn2 => omega); (case hB => exact World.grownBy.size HC.out.only); intro v' w' h1 h2; generalize hl : ((_ : List Int) ++ (_ : List Int)) = outR at h1; have HXR := Lib.hid hl; have outRL := Nat.le_of_eq ((congrArg List.length hl.symm).trans List.length_append); have hz := Tps.app HC.out h1 h2; obtain ⟨Ax, cx, rfl, hcx, hcy⟩ := h1.form; have HC := Lib.hid hz; clear h1 h2 hz hl)))
          go_roundg k
          case measure => omega
          case rel => exact ⟨a1.2, outR, by go_num, HC.out, by rw [← HXR.out]; exact HZ.out, by omega, by rw [← HXR.out, List.length_append]; exact HIT.out.2⟩
        · have hd7 : decide ((q : Int) < 7) = false := by simp; omega
          clear ha1 h3 h5 h7 h8
          go_wp2_with (first | (go_at_call 9; refine (HK.out _ ?hen).mono ?_; (case hen => (apply Tps.ten; (focus (repeat (first | exact HC.out | apply Tps.drewN | apply Tps.alloc))))); rintro e w' ⟨rfl, hr, ho⟩; have HC := Lib.hid (Tps.call (by (focus (repeat (first | exact HC.out | apply Tps.drewN | apply Tps.alloc)))) hr ho (by omega)); clear hr ho) | (go_at_call 10; refine (HO1.out _ ?hen).mono ?_; (case hen => (apply Tps.ten; (focus (repeat (first | exact HC.out | apply Tps.drewN | apply Tps.alloc))))); rintro e w' ⟨v, rfl, hv, hr, ho⟩; have HC := Lib.hid (Tps.call (by (focus (repeat (first | exact HC.out | apply Tps.drewN | apply Tps.alloc)))) hr ho (by omega)); clear hr ho; obtain ⟨Aa, ca, rfl, _⟩ := hv.form; have HV := Lib.hid hv; clear hv) | (at_builtin; go_loud (refine app_src rfl _ _ rfl w.heap.size (tb + 1) _ _ _ _ HC.out.own rfl rfl HV.out ?hn ?hn2 ?hB ?_; (case hn => omega); (case hn2 => omega); (case hB => exact World.grownBy.size HC.out.only); intro v' w' h1 h2; generalize hl : ((_ : List Int) ++ (_ : List Int)) = outR at h1; have HXR := Lib.hid hl; have outRL := Nat.le_of_eq ((congrArg List.length hl.symm).trans List.length_append); have hz := Tps.app HC.out h1 h2; obtain ⟨Ax, cx, rfl, hcx, hcy⟩ := h1.form; have HC := Lib.hid hz; clear h1 h2 hz hl)))
          go_roundg k
          case measure => omega
          case rel => exact ⟨a1.2, outR, by go_num, HC.out, by rw [← HXR.out]; exact HZ.out, by omega, by rw [← HXR.out, List.length_append]; exact HIT.out.2⟩
      · rw [TP.item5 h3 h5 h7 h8] at HZ HIT
        obtain ⟨nx, hnx⟩ : ∃ nx, TP.next ts i' 10 = nx := ⟨_, rfl⟩
        have HK := Lib.hid (fun w he => next10 (w0 := w0) (tb := tb) (sv := sv) nx w i' he hnx)
        rw [hnx] at HZ HIT hkl h3 h5 h7 h8
        obtain ⟨q, iq⟩ := nx
        clear hnx
        dsimp only at HZ HIT hkl HK h3 h5 h7 h8
        obtain ⟨a1, ha1⟩ : ∃ a, TP.one ts iq TP.l5 = a := ⟨_, rfl⟩
        have HO1 := Lib.hid (fun w he => one_lit (w0 := w0) (tb := tb) (sv := sv) bs5 4 TP.l5 a1 w iq he (by decide) (by decide) (by decide) rfl rfl ha1)
        have ha1l := TP.one_le TP.l5 hkl
        have ha1n := TP.one_len (ts := ts) (i := iq) (l := TP.l5) (n := 6) (by decide)
        rw [ha1] at HZ HIT ha1l ha1n
        unfold TP.rep at HZ HIT
        obtain ⟨a2, ha2⟩ : ∃ a, TP.one ts a1.2 TP.lr = a := ⟨_, rfl⟩
        have HOR := Lib.hid (fun w he => one_lit (w0 := w0) (tb := tb) (sv := sv) bsr 9 TP.lr a2 w a1.2 he (by decide) (by decide) (by decide) rfl rfl ha2)
        have ha2l := TP.one_le TP.lr ha1l
        have ha2n := TP.one_len (ts := ts) (i := a1.2) (l := TP.lr) (n := 6) (by decide)
        rw [ha2] at HZ HIT ha2l ha2n
        have hd3 : decide ((q : Int) < 3) = false := by simp; omega
        have hd5 : decide ((q : Int) < 5) = false := by simp; omega
        have hd7 : decide ((q : Int) < 7) = false := by simp; omega
        have hd8 : decide ((q : Int) < 8) = false := by simp; omega
        clear ha1 ha2 h3 h5 h7 h8
        go_upto_region 19 with (first | (go_at_call 9; refine (HK.out _ ?hen).mono ?_; (case hen => (apply Tps.ten; (focus (repeat (first | exact HC.out | apply Tps.drewN | apply Tps.alloc))))); rintro e w' ⟨rfl, hr, ho⟩; have HC := Lib.hid (Tps.call (by (focus (repeat (first | exact HC.out | apply Tps.drewN | apply Tps.alloc)))) hr ho (by omega)); clear hr ho) | (go_at_call 10; refine (HO1.out _ ?hen).mono ?_; (case hen => (apply Tps.ten; (focus (repeat (first | exact HC.out | apply Tps.drewN | apply Tps.alloc))))); rintro e w' ⟨v, rfl, hv, hr, ho⟩; have HC := Lib.hid (Tps.call (by (focus (repeat (first | exact HC.out | apply Tps.drewN | apply Tps.alloc)))) hr ho (by omega)); clear hr ho; obtain ⟨Aa, ca, rfl, _⟩ := hv.form; have HV := Lib.hid hv; clear hv) | (at_builtin; go_loud (refine app_src rfl _ _ rfl w.heap.size (tb + 1) _ _ _ _ HC.out.own rfl rfl HV.out ?hn ?hn2 ?hB ?_; (case hn => omega); (case hn2 => omega); (case hB => exact World.grownBy.size HC.out.only); intro v' w' h1 h2; generalize hl : ((_ : List Int) ++ (_ : List Int)) = out1 at h1; have HX1 := Lib.hid hl; have out1L := Nat.le_of_eq ((congrArg List.length hl.symm).trans List.length_append); have hz := Tps.app HC.out h1 h2; obtain ⟨Ax, cx, rfl, hcx, hcy⟩ := h1.form; have HC := Lib.hid hz; clear h1 h2 hz hl)))
        go_wp2_with (first | (go_at_call 10; refine (HOR.out _ ?hen).mono ?_; (case hen => (apply Tps.ten; (focus (repeat (first | exact HC.out | apply Tps.drewN | apply Tps.alloc))))); rintro e w' ⟨v, rfl, hv, hr, ho⟩; have HC := Lib.hid (Tps.call (by (focus (repeat (first | exact HC.out | apply Tps.drewN | apply Tps.alloc)))) hr ho (by omega)); clear hr ho; obtain ⟨Aa, ca, rfl, _⟩ := hv.form; have HV := Lib.hid hv; clear hv) | (at_builtin; go_loud (refine app_src rfl _ _ rfl w.heap.size (tb + 1) _ _ _ _ HC.out.own rfl rfl HV.out ?hn ?hn2 ?hB ?_; (case hn => omega); (case hn2 => omega); (case hB => exact World.grownBy.size HC.out.only); intro v' w' h1 h2; generalize hl : ((_ : List Int) ++ (_ : List Int)) = outR at h1; have HXR := Lib.hid hl; have outRL := Nat.le_of_eq ((congrArg List.length hl.symm).trans List.length_append); have hz := Tps.app HC.out h1 h2; obtain ⟨Ax, cx, rfl, hcx, hcy⟩ := h1.form; have HC := Lib.hid hz; clear h1 h2 hz hl)))
        go_roundg k
        case measure => omega
        case rel =>
          have hit := HIT.out
          refine ⟨a2.2, outR, by go_num, HC.out, ?_, by omega, ?_⟩
          · rw [← HXR.out, ← HX1.out, List.append_assoc]; exact HZ.out
          · rw [← HXR.out, ← HX1.out, List.append_assoc, List.length_append]; exact hit.2
theorem pattern_any (d : Int) (deep : Bool) (sub : Nat → List Int × Nat) (b : Nat) (w : World) (i : Nat) (he : Ten w0 tb sv ts w i) (hd0 : 0 ≤ d) (hd1 : d ≤ 100) (hdp : decide (0 < d) = deep) (hs : TP.SubOk ts b sub) (hb : b ≤ 2000) (hsub : deep = true → PatC w0 tb sv ts (d - 1) sub) :
    Calls Try.prog 4 #[.pointer (some ⟨tb, 0, none⟩), .int .i64 d] w (PostTV (fun w' v => SlB 21 1 Cc (tb + 1) w' v (TP.made ts deep sub i).1) tb sv w (TP.made ts deep sub i).2) := by
  refine (pattern_own d deep sub b w i he hd0 hd1 hdp hs hb hsub).mono ?_
  rintro e w' ⟨v, rfl, hv, hr, ho⟩
  exact ⟨v, rfl, SlB.weaken hv.sl he.tbl, hr, ho⟩
theorem pat_c0 : PatC w0 tb sv ts 0 (TP.pat ts 0) := fun w i he => pattern_any 0 false (fun i => ([], i)) 0 w i he (by omega) (by omega) (by decide) (fun _ h => ⟨h, Nat.le_refl _⟩) (by omega) (fun h => by cases h)
theorem pat_c1 : PatC w0 tb sv ts 1 (TP.pat ts 1) := fun w i he => pattern_any 1 true (TP.pat ts 0) 45 w i he (by omega) (by omega) (by decide) (TP.pat0_ok ts) (by omega) (fun _ => pat_c0)
/-- As pat_c1: the row is new. -/
theorem pat_o1 (w : World) (i : Nat) (he : Ten w0 tb sv ts w i) : Calls Try.prog 4 #[.pointer (some ⟨tb, 0, none⟩), .int .i64 1] w (PostTV (fun w' v => OwnB 21 1 Cc w.heap.size w' v (TP.pat ts 1 i).1) tb sv w (TP.pat ts 1 i).2) := pattern_own 1 true (TP.pat ts 0) 45 w i he (by omega) (by omega) (by decide) (TP.pat0_ok ts) (by omega) (fun _ => pat_c0)
theorem pat_c2 : PatC w0 tb sv ts 2 (TP.pat ts 2) := fun w i he => pattern_any 2 true (TP.pat ts 1) 315 w i he (by omega) (by omega) (by decide) (TP.pat1_ok ts) (by omega) (fun _ => pat_c1)
theorem pat_c3 : PatC w0 tb sv ts 3 (TP.pat ts 3) := fun w i he => pattern_any 3 true (TP.pat ts 2) 1935 w i he (by omega) (by omega) (by decide) (TP.pat2_ok ts) (by omega) (fun _ => pat_c2)
end
end Go.Proofs.Ytpcdknfmgacggaa
