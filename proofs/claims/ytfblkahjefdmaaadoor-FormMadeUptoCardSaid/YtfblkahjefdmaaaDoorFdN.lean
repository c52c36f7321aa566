/- Walks: signs in the place of what is none; formats that are made of the tape. -/
import Derived.Test.YtfblkahjefdmaaaDoorFdM
namespace Go.Proofs.YtfblkahjefdmaaaDoor
open Go.RowKit

set_option maxHeartbeats 400000 in
theorem sign_any (r : Int) (w : World) : Calls Tryd.prog 39 #[.int .i32 r] w (BoolP (RX.isSign r) w) := by
  by_cases h1 : 0 ≤ r <;> by_cases h2 : r ≤ 1114111 <;> by_cases h3 : r < 55296 <;> by_cases h4 : 57343 < r
  all_goals first | (exfalso; omega) | skip
  all_goals
    go_enter Tryd.func39, Tryd.ntmps39
    go_wp2_with fail
    go_ret
    exact ⟨ret_congr (by simp [RX.isSign]; omega), rfl⟩

/-- An element of an own row, and its place. -/
theorem OwnB.get {B : Nat} {w : World} {A : Option Addr} {n c : Nat} {xs : List Int} (h : OwnB 21 1 Cc B w (.slice A n c) xs) {k : Nat} (hk : k < xs.length) :
    ∃ g, A = some ⟨g, 0, none⟩ ∧ B ≤ g ∧ w.cell? ⟨g, k, none⟩ = some (.int .i32 xs[k]) ∧ w.frozen? ⟨g, k, none⟩ = false ∧ ∀ y, OwnB 21 1 Cc B (w.setCell ⟨g, k, none⟩ (.int .i32 y)) (.slice A n c) (xs.set k y) := by
  have hf := h.flat_i32
  obtain ⟨hl, hf⟩ := hf
  rcases hf with ⟨hv, h0⟩ | ⟨g, cap, cur, hv, hb, hg, hnc, hcm, hcs, htk⟩
  · omega
  · injection hv with e1 e2 e3
    subst e1 e2 e3
    refine ⟨g, rfl, hb, ?_, frozen_of_row w g k _ _ hg, fun y => OwnB.of_flat_i32 ?_⟩
    · rw [cell_of_row w g k _ _ _ hg]
      have h1 : (cur.toList.take (xs.length * 1))[k]? = some (.int .i32 xs[k]) := by rw [htk]; simp [hk]
      rw [List.getElem?_take, if_pos (by omega)] at h1
      simpa using h1
    · rw [List.length_set]
      refine ⟨by simp, .inr ⟨g, c, cur.setIfInBounds k (.int .i32 y), rfl, hb, heap_set hg, hnc, hcm, by simpa using hcs, ?_⟩⟩
      rw [Array.toList_setIfInBounds, List.take_set, htk, List.map_set]

def cleanL (s : List Int) : List Int := s.map fun c => if RX.isSign c = true then c else 110
theorem clean_sign (s : List Int) : (cleanL s).all RX.isSign = true := by
  rw [List.all_eq_true]
  intro x hx
  obtain ⟨c, _, rfl⟩ := List.mem_map.1 hx
  split
  · assumption
  · decide
theorem clean_len (s : List Int) : (cleanL s).length = s.length := by simp [cleanL]
theorem clean_step {s : List Int} {k : Nat} (h : k < s.length) : ((cleanL s).take k ++ s.drop k).set k (if RX.isSign s[k] = true then s[k] else 110) = (cleanL s).take (k + 1) ++ s.drop (k + 1) := by
  have hl : ((cleanL s).take k).length = k := by rw [List.length_take, clean_len]; omega
  have e : (cleanL s)[k]'(by rw [clean_len]; exact h) = (if RX.isSign s[k] = true then s[k] else 110) := by simp [cleanL]
  rw [List.set_append, if_neg (by omega), hl, Nat.sub_self, List.drop_eq_getElem_cons h, List.set_cons_zero, List.take_succ_eq_append_getElem (by rw [clean_len]; exact h), e]
  simp
theorem clean_keep {s : List Int} {k : Nat} (h : k < s.length) (h1 : RX.isSign s[k] = true) : (cleanL s).take k ++ s.drop k = (cleanL s).take (k + 1) ++ s.drop (k + 1) := by
  have e : (cleanL s)[k]'(by rw [clean_len]; exact h) = s[k] := by simp [cleanL, h1]
  rw [List.drop_eq_getElem_cons h, List.take_succ_eq_append_getElem (by rw [clean_len]; exact h), e]; simp
theorem clean_at {s : List Int} {k : Nat} (h : k < s.length) : ((cleanL s).take k ++ s.drop k)[k]'(by simp [clean_len]; omega) = s[k] := by
  have hl : ((cleanL s).take k).length = k := by rw [List.length_take, clean_len]; omega
  rw [List.getElem_append_right (by omega)]
  simp [hl]
/-- Append of a row that is read by its cells alone. -/
theorem app_srcC {w : World} {ops : Array Oper} {rest : List Oper} {o : Oper} {a : Act} {Q : Exit → Act → World → Prop} (hgd : o.guard = none) (s x : Operand) (ho : o.op = .call { callee := .builtin .append, args := #[s, x], argTypes := #[22, 22] })
    (B : Nat) (v src : Value) (xs ys : List Int) (hown : OwnB 21 1 Cc B w v xs) (hs : a.eval s = v) (hx : a.eval x = src) (hsrc : SlC w src ys)
    (hn : xs.length + ys.length ≤ 35184372088832) (hB : B ≤ w.heap.size)
    (h : ∀ v' w', OwnB 21 1 Cc B w' v' (xs ++ ys) → w.grownBy w' v.ownBlock → wpList Tryd.prog ops Q rest (a.put o.dst v') w') :
    wpList Tryd.prog ops Q (o :: rest) a w := by
  obtain ⟨i0, hi, hz0, hz1, hz2⟩ := info_parts info_c
  obtain ⟨A, c, rfl, hl, hc, hcell, hn0⟩ := hsrc
  cases A with
  | none =>
    obtain rfl := hn0 rfl
    obtain rfl : ys = [] := by
      cases ys with
      | nil => rfl
      | cons y r =>
        obtain ⟨b, o, hA, -⟩ := hcell 0 y rfl
        cases hA
    refine wpList_append_own_none hgd s x 22 ho B 21 i0 1 Tryd.underlying22 hi v xs.length (xs.map (Value.int .i32)) hs hown.flat_i32 hx ?_
    exact h v w (by rw [List.append_nil]; exact hown) (World.grownBy.refl _ _)
  | some ad =>
    refine wpList_append_own (P := Tryd.prog) (w := w) hgd s x _ ho B 21 i0 (.int .i32 0) 1 4 Tryd.underlying22 hi hz0 hz1 hz2 rfl (by decide) v xs.length _ hs hown.flat_i32 ad ys.length c (ys.map (Value.int .i32)) hx (by simp) ?_ ?_ (by unfold maxLen; omega) (by omega) hB ?_
    · refine cells_map (fun j y hy => ?_)
      obtain ⟨b, o, hA, hr⟩ := hcell j y hy
      rw [Option.some.inj hA, Go.WideShapes.add_plain]
      rw [Nat.mul_one] at hr
      exact hr
    · intro u hu
      simp at hu
      obtain ⟨y, _, rfl⟩ := hu
      rfl
    · intro v' w' h1 h2 _
      refine h v' w' (OwnB.of_flat_i32 ?_) h2
      rw [List.map_append, List.length_append]
      exact h1

set_option maxRecDepth 100000 in
set_option maxHeartbeats 2000000 in
theorem clean_any (s : List Int) (vs : Value) (w : World) (hs : SlC w vs s) (hsl : s.length ≤ 35184372088832) :
    Calls Tryd.prog 20 #[vs] w (RetP (fun w' v => OwnB 21 1 Cc w.heap.size w' v (cleanL s)) w) := by
  have H := Lib.hid hs
  obtain ⟨A, ca, rfl, hlx, hcx, -⟩ := id hs
  clear hs
  have HNIL := Lib.hid (show OwnB 21 1 Cc w.heap.size w (.slice none 0 0) ([] : List Int) from OwnB.nil_)
  go_enter Tryd.func20, Tryd.ntmps20
  go_wp2_with (at_builtin; go_loud (refine app_srcC rfl _ _ rfl w.heap.size (.slice none 0 0) _ [] s HNIL.out rfl rfl H.out ?hn ?hB ?_; (case hn => (simp only [List.length_nil]; omega)); (case hB => exact Nat.le_refl _); intro v6 w6 h1 h2; have hE6 : Ext w w6 := (Ext.refl w).grown h2 (fun k hk => (HNIL.out.lt k hk).1); rw [List.nil_append] at h1; obtain ⟨A6, c6, rfl, -⟩ := h1.form; have HO6 := Lib.hid h1; have HE6 := Lib.hid hE6; clear h1 h2 hE6))
  go_loopw [4] (fun i wr => ∃ k : Nat, k ≤ s.length ∧ i = .int .i64 (k : Int) ∧ OwnB 21 1 Cc w.heap.size wr (.slice A6 s.length c6) ((cleanL s).take k ++ s.drop k) ∧ Ext w wr) (fun i _ => s.length - (intOf i).toNat)
  case atStart => exact ⟨0, Nat.zero_le _, rfl, by simpa using HO6.out, HE6.out⟩
  case round =>
    obtain ⟨k, hk, rfl, hown, hE⟩ := hrel
    have HO := Lib.hid hown
    have HE := Lib.hid hE
    by_cases hlt : k < s.length
    · obtain ⟨g, hA, hb, hc, hf, hset⟩ := hown.get (k := k) (by simp [clean_len]; omega)
      subst hA
      rw [clean_at hlt] at hc
      have HSET := Lib.hid hset
      have HST := Lib.hid (clean_step hlt)
      have HKP := Lib.hid (clean_keep hlt)
      clear hown hE hset
      generalize s[k] = x at hc HST HKP
      rcases hx : RX.isSign x with _ | _
      · have HR := Lib.hid (show OwnB 21 1 Cc w.heap.size (wr.setCell ⟨g, k, none⟩ (.int .i32 110)) (.slice (some ⟨g, 0, none⟩) s.length c6) ((cleanL s).take (k + 1) ++ s.drop (k + 1)) by
          have h1 := HST.out
          rw [hx] at h1
          rw [← h1]; exact HSET.out 110)
        have HSG := Lib.hid (fun W => sign_any x W)
        go_wp2_with (go_at_call 39; refine (HSG.out _).mono ?_; rw [hx]; rintro e w' ⟨rfl, rfl⟩)
        go_roundw
        case rel => exact ⟨k + 1, by omega, by go_num, HR.out, HE.out.set hb _⟩
        case measure => simp [intOf]; omega
      · have HR := Lib.hid (HKP.out hx)
        have HSG := Lib.hid (fun W => sign_any x W)
        go_wp2_with (go_at_call 39; refine (HSG.out _).mono ?_; rw [hx]; rintro e w' ⟨rfl, rfl⟩)
        go_roundw
        case rel => exact ⟨k + 1, by omega, by go_num, by rw [← HR.out]; exact HO.out, HE.out⟩
        case measure => simp [intOf]; omega
    · have HT := Lib.hid (show (cleanL s).take k ++ s.drop k = cleanL s by rw [List.take_of_length_le (by rw [clean_len]; omega), List.drop_eq_nil_of_le (by omega), List.append_nil])
      clear hown hE
      go_wp2_with fail
      go_ret
      exact ⟨_, rfl, by rw [← HT.out]; exact HO.out, HE.out⟩

def bsf : List ByteArray := [⟨#[36, 49]⟩, ⟨#[36, 123, 49, 125]⟩, ⟨#[36, 123, 48, 58, 47, 117, 112, 99, 97, 115, 101, 125]⟩, ⟨#[36, 123, 49, 58, 47, 112, 97, 115, 99, 97, 108, 99, 97, 115, 101, 125]⟩, ⟨#[36, 123, 49, 58, 43, 120, 125]⟩, ⟨#[36, 123, 49, 58, 45, 121, 125]⟩, ⟨#[36, 123, 49, 58, 63, 120, 58, 121, 125]⟩, ⟨#[36, 123, 49, 58, 122, 125]⟩, ⟨#[97]⟩, ⟨#[45]⟩, ⟨#[36]⟩, ⟨#[92, 47]⟩, ⟨#[36, 123, 49, 58, 47, 110, 111, 125]⟩, ⟨#[36, 49, 50]⟩, ⟨#[92, 36, 49]⟩, ⟨#[36, 123, 50, 58, 47, 99, 97, 109, 101, 108, 99, 97, 115, 101, 125]⟩, ⟨#[36, 49, 50, 51]⟩]
section
variable {w0 : World} {tb : Nat} {sv : Value} {ts : List Int}
set_option maxRecDepth 100000 in
set_option maxHeartbeats 2000000 in
theorem format_any (w : World) (i : Nat) (he : Ten w0 tb sv ts w i) :
    Calls Tryd.prog 8 #[.pointer (some ⟨tb, 0, none⟩)] w (PostTV (fun w' v => OwnB 21 1 Cc (tb + 1) w' v (TP.fmt ts i).1) tb sv w (TP.fmt ts i).2) := by
  have HC := Lib.hid (Tps.start he)
  have hN := TP.next_lt ts i (n := 4) (by decide)
  have hNl := TP.next_le 4 he.le
  obtain ⟨R, hR⟩ : ∃ R, TP.fmt ts i = R := ⟨_, rfl⟩
  have HR := Lib.hid (show TP.fmtL ts (TP.next ts i 4).1 (TP.next ts i 4).2 [] = R from hR)
  rw [hR]
  obtain ⟨nx, hnx⟩ : ∃ nx, TP.next ts i 4 = nx := ⟨_, rfl⟩
  have HK := Lib.hid (fun w he => next4 (w0 := w0) (tb := tb) (sv := sv) nx w i he hnx)
  rw [hnx] at HR hN hNl
  obtain ⟨n0, i0⟩ := nx
  dsimp only at HR HK hN hNl
  clear he hR hnx
  go_enter Tryd.func8, Tryd.ntmps8
  go_wp2_with (go_at_call 24; refine (HK.out _ ?hen).mono ?_; (case hen => exact HC.out.ten); rintro e w' ⟨rfl, hr, ho⟩; have HC := Lib.hid (Tps.call HC.out hr ho (by omega)); clear hr ho)
  go_loopw [3, 4] (fun v n wr => ∃ (k i' : Nat) (out : List Int), n = .int .i64 (k : Int) ∧ Tps w0 tb sv ts w i' v out wr ∧ TP.fmtL ts k i' out = R ∧ k ≤ 3 ∧ out.length + k * 17 ≤ 51) (fun _ n _ => (intOf n).toNat)
  case atStart => exact ⟨n0, i0, [], rfl, HC.out, HR.out, by omega, by simp only [List.length_nil]; omega⟩
  case round =>
    obtain ⟨k, i', out, rfl, hcs, hlo, hk3, hlen⟩ := hrel
    have HC := Lib.hid hcs
    have HL := Lib.hid hlo
    have hil := hcs.ten.le
    obtain ⟨Ao, co, rfl, hco, hcm⟩ := hcs.own.form
    clear hcs hlo
    by_cases hk0 : k = 0
    · subst hk0
      go_wp2_with fail
      go_ret
      rw [← HL.out]
      exact ⟨_, rfl, OwnB.weak HC.out.own HC.out.le, HC.out.ten.st, HC.out.only⟩
    · obtain ⟨j, rfl⟩ : ∃ j, k = j + 1 := ⟨k - 1, by omega⟩
      obtain ⟨a, ha⟩ : ∃ a, TP.one ts i' FM.pieces = a := ⟨_, rfl⟩
      have HO1 := Lib.hid (fun w he => one_lit (w0 := w0) (tb := tb) (sv := sv) bsf 17 FM.pieces a w i' he (by decide) (by decide) (by decide) rfl rfl ha)
      have hal := TP.one_le FM.pieces hil
      have han := TP.one_len (ts := ts) (i := i') (l := FM.pieces) (n := 17) (by decide)
      have HZ := Lib.hid (show TP.fmtL ts j a.2 (out ++ a.1) = R by rw [← ha]; exact HL.out)
      rw [ha] at hal han
      clear ha hk0
      have hj1 : (0 : Int) < (j : Int) + 1 := by omega
      go_wp2_with (first
        | (go_at_call 25; refine (HO1.out _ ?hen).mono ?_; (case hen => exact HC.out.ten); rintro e w' ⟨v, rfl, hv, hr, ho⟩; have HC := Lib.hid (Tps.call (Tps.alloc HC.out) hr ho (by omega)); obtain ⟨Aa, ca, rfl, -⟩ := hv.form; have HV := Lib.hid hv; clear hv hr ho)
        | (at_builtin; go_loud (refine app_src rfl _ _ rfl w.heap.size (tb + 1) _ _ _ _ HC.out.own rfl rfl HV.out ?hn ?hB ?_; (case hn => omega); (case hB => exact World.grownBy.size HC.out.only); intro v' w2 h1 h2; generalize hl : ((_ : List Int) ++ (_ : List Int)) = out2 at h1; have HX := Lib.hid hl; have hl2 := Nat.le_of_eq ((congrArg List.length hl.symm).trans List.length_append); have hz := Tps.app HC.out h1 h2; obtain ⟨Ax, cx, rfl, -⟩ := h1.form; have HC := Lib.hid hz; clear h1 h2 hz hl)))
      go_roundw
      case rel => exact ⟨j, a.2, out2, by go_num, HC.out, by rw [← HX.out]; exact HZ.out, by omega, by omega⟩
      case measure => simp [intOf]
end
end Go.Proofs.YtfblkahjefdmaaaDoor
