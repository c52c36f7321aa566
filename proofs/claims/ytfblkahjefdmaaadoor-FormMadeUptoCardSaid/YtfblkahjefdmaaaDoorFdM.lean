/- Walks: May, Print of package format. -/
import Derived.Test.YtfblkahjefdmaaaDoorFdI
import Derived.Test.YtfblkahjefdmaaaDoorFdL
namespace Go.Proofs.YtfblkahjefdmaaaDoor
open Go.RowKit

namespace FM
theorem last0_take {l : List Form} {k : Nat} (h : k + 1 ≤ l.length) : last0 false (l.take (k + 1)) = (l[k].kind == 0) := by
  rw [List.take_succ_eq_append_getElem (by omega), last0_append]
theorem may_split (l : List Form) (k : Nat) : may l = (mayR false (l.take k) && mayR (last0 false (l.take k)) (l.drop k)) := by
  unfold may
  rw [← mayR_append, List.take_append_drop]
theorem mayR_take {l : List Form} {k : Nat} (h : k < l.length) (h1 : mayR false (l.take k) = true) (h2 : may1 l[k] = true) (h3 : (last0 false (l.take k) && l[k].kind == 0) = false) : mayR false (l.take (k + 1)) = true := by
  rw [List.take_succ_eq_append_getElem h, mayR_append, h1]
  simp [mayR, h2, h3]
theorem may_no {l : List Form} {k : Nat} (h : k < l.length) (h2 : may1 l[k] = false ∨ (last0 false (l.take k) && l[k].kind == 0) = true) : may l = false := by
  rw [may_split l k, List.drop_eq_getElem_cons h]
  rcases h2 with h2 | h2
  · simp [mayR, h2]
  · simp [mayR, h2]
end FM
theorem CF.slc {B : Nat} {w : World} {cs : List Value} {f : FM.Form} (h : CF B w cs f) : ∃ A c A' c', cs = [.int .i64 f.kind, .int .i64 f.group, .int .i64 f.cas, .slice A f.text.length c, .slice A' f.els.length c'] ∧ SlC w (.slice A f.text.length c) f.text ∧ SlC w (.slice A' f.els.length c') f.els := by
  obtain ⟨vt, ve, h1, h2, h3⟩ := h
  obtain ⟨A, c, rfl, -⟩ := h2.form
  obtain ⟨A', c', rfl, -⟩ := h3.form
  exact ⟨A, c, A', c', h1, h2.slc, h3.slc⟩
theorem keeps_cff (B : Nat) : Keeps [21] (CF B) := fun _ _ _ _ hk h => h.keepT hk

set_option maxRecDepth 100000 in
set_option maxHeartbeats 2000000 in
theorem may_any (l : List FM.Form) (B : Nat) (v : Value) (w : World) (hv : SlB 34 5 (CF B) B w v l) : Calls Tryd.prog 16 #[v] w (Ret (.bool (FM.may l)) w) := by
  obtain ⟨A, ca, rfl, hlc, hcm⟩ := hv.form
  have HV := Lib.hid hv
  clear hv
  go_enter Tryd.func16, Tryd.ntmps16
  go_wp2_with fail
  go_loopw [7] (fun i wr => ∃ k : Nat, k ≤ l.length ∧ i = .int .i64 (k : Int) ∧ Ext w wr ∧ FM.mayR false (l.take k) = true) (fun i _ => l.length - (intOf i).toNat)
  case atStart => exact ⟨0, Nat.zero_le _, rfl, Ext.refl w, rfl⟩
  case round =>
    obtain ⟨k, hk, rfl, hE, hm⟩ := hrel
    have HE := Lib.hid hE
    have HM := Lib.hid hm
    clear hm
    by_cases hlt : k < l.length
    · obtain ⟨g, o, cs, rfl, hcf, hcell⟩ := (HV.out.keep (keeps_cff B) (KeepT.of_ext hE) (KeepT.of_ext hE)).at_ hlt
      have HSTEP := Lib.hid (fun (h2 : FM.may1 l[k] = true) (h3 : (FM.last0 false (l.take k) && l[k].kind == 0) = false) => FM.mayR_take hlt HM.out h2 h3)
      have HNO := Lib.hid (fun (h2 : FM.may1 l[k] = false ∨ (FM.last0 false (l.take k) && l[k].kind == 0) = true) => FM.may_no hlt h2)
      have hprev : ∀ j, k = j + 1 → ∃ x : Int, (l[j]?).map FM.Form.kind = some x ∧ wr.cell? ⟨g, o + j * 5, none⟩ = some (.int .i64 x) ∧ FM.last0 false (l.take k) = (x == 0) := by
        intro j hj
        subst hj
        have hjl : j < l.length := by omega
        obtain ⟨g', o', cs', he, hcf', hcell'⟩ := (HV.out.keep (keeps_cff B) (KeepT.of_ext hE) (KeepT.of_ext hE)).at_ hjl
        injection he with he
        injection he with he1 he2
        subst he1 he2
        obtain ⟨A1, c1, A2, c2, rfl, -⟩ := hcf'.slc
        exact ⟨l[j].kind, by rw [List.getElem?_eq_getElem hjl]; rfl, by have := hcell' 0 _ rfl; rwa [Nat.add_zero] at this, FM.last0_take (by omega)⟩
      generalize l[k] = f at hcf HSTEP HNO
      obtain ⟨A1, c1, A2, c2, rfl, ht, he⟩ := hcf.slc
      have d0 := hcell 0 _ rfl
      have d1 := hcell 1 _ rfl
      have d2 := hcell 2 _ rfl
      have d3 := hcell 3 _ rfl
      have d4 := hcell 4 _ rfl
      rw [Nat.add_zero] at d0
      have H1 := Lib.hid (fun W (hW : Ext wr W) => may1_any f.kind f.group f.cas f.text f.els _ _ W (ht.ext hW) (he.ext hW))
      have hbl := World.block_lt_of_cell? _ _ d0
      clear hcell hcf ht he hE
      rcases h1 : FM.may1 f with _ | _
      · have HF := Lib.hid (show FM.may l = false from HNO.out (.inl h1))
        have H1' := Lib.hid (show FM.may1 ⟨f.kind, f.group, f.cas, f.text, f.els⟩ = false from h1)
        clear h1 hprev
        go_wp2_with (go_at_call 38; go_loud (refine (H1.out _ ((Ext.refl wr).alloc _)).mono ?_; rw [H1'.out]; rintro e w2 ⟨rfl, hx⟩))
        go_ret
        exact ⟨by rw [HF.out]; rfl, (HE.out.alloc _).trans hx⟩
      · have H1' := Lib.hid (show FM.may1 ⟨f.kind, f.group, f.cas, f.text, f.els⟩ = true from h1)
        have H1T := Lib.hid h1
        clear h1
        by_cases hk0 : k = 0
        · subst hk0
          simp only [Nat.zero_mul, Nat.add_zero] at d0 d1 d2 d3 d4
          have HS := Lib.hid (show FM.mayR false (l.take (0 + 1)) = true from HSTEP.out H1T.out rfl)
          clear hprev
          go_wp2_with (go_at_call 38; go_loud (refine (H1.out _ ((Ext.refl wr).alloc _)).mono ?_; rw [H1'.out]; rintro e w2 ⟨rfl, hx⟩))
          go_roundw
          case rel => exact ⟨1, by omega, by go_num, (HE.out.alloc _).trans hx, HS.out⟩
          case measure => simp [intOf]; omega
        · obtain ⟨j, rfl⟩ : ∃ j, k = j + 1 := ⟨k - 1, by omega⟩
          obtain ⟨x, -, hcx, hl0⟩ := hprev j rfl
          have HL0 := Lib.hid hl0
          clear hprev hk0 hl0
          have hj1 : (0 : Int) < (j : Int) + 1 := by omega
          rcases hfk : (f.kind == 0) with _ | _
          · have HS := Lib.hid (HSTEP.out H1T.out (by rw [hfk, Bool.and_false]))
            go_wp2_with (go_at_call 38; go_loud (refine (H1.out _ ((Ext.refl wr).alloc _)).mono ?_; rw [H1'.out]; rintro e w2 ⟨rfl, hx⟩; have hbx := hx.heap (heap_alloc_new wr _); have p0 := cell_of_row w2 wr.heap.size 0 _ _ _ hbx; clear hbx))
            go_roundw
            case rel => exact ⟨j + 1 + 1, by omega, by go_num, (HE.out.alloc _).trans hx, HS.out⟩
            case measure => simp [intOf]; omega
          · rcases hxk : (x == 0) with _ | _
            · have HS := Lib.hid (HSTEP.out H1T.out (by rw [HL0.out, hxk]; rfl))
              go_wp2_with (go_at_call 38; go_loud (refine (H1.out _ ((Ext.refl wr).alloc _)).mono ?_; rw [H1'.out]; rintro e w2 ⟨rfl, hx⟩; have hbx := hx.heap (heap_alloc_new wr _); have p0 := cell_of_row w2 wr.heap.size 0 _ _ _ hbx; have hcx := (((Ext.refl wr).alloc _).trans hx).cell hcx; clear hbx))
              go_roundw
              case rel => exact ⟨j + 1 + 1, by omega, by go_num, (HE.out.alloc _).trans hx, HS.out⟩
              case measure => simp [intOf]; omega
            · have HF := Lib.hid (show FM.may l = false from HNO.out (.inr (by rw [HL0.out, hxk, hfk]; rfl)))
              go_wp2_with (go_at_call 38; go_loud (refine (H1.out _ ((Ext.refl wr).alloc _)).mono ?_; rw [H1'.out]; rintro e w2 ⟨rfl, hx⟩; have hbx := hx.heap (heap_alloc_new wr _); have p0 := cell_of_row w2 wr.heap.size 0 _ _ _ hbx; have hcx := (((Ext.refl wr).alloc _).trans hx).cell hcx; clear hbx))
              go_ret
              exact ⟨by rw [HF.out]; rfl, (HE.out.alloc _).trans hx⟩
    · have HF := Lib.hid (show FM.may l = true by rw [FM.may_split l k, HM.out, List.drop_eq_nil_of_le (by omega)]; rfl)
      clear hE
      go_wp2_with fail
      go_ret
      exact ⟨by rw [HF.out]; rfl, HE.out⟩

theorem put_any (w0 wr : World) (v vt ve : Value) (out : List Int) (f : FM.Form) (h : Acs w0 v out wr) (ht : SlC w0 vt f.text) (he : SlC w0 ve f.els) (hm : FM.may1 f = true) (hb : out.length + 2 * f.text.length + 2 * f.els.length ≤ 35184372080000) :
    Calls Tryd.prog 33 #[v, .agg #[.int .i64 f.kind, .int .i64 f.group, .int .i64 f.cas, vt, ve]] wr (GrP w0 (out ++ FM.put f) wr) := by
  by_cases hk : f.kind = 0
  · exact put_text w0 wr v vt ve out f h ht he hk (by omega)
  · exact put_other w0 wr v vt ve out f h ht he hm hk hb
namespace FM
def sz (f : Form) : Nat := 2 * f.text.length + 2 * f.els.length + 30
def szs : List Form → Nat
  | [] => 0
  | f :: r => sz f + szs r
theorem names_le : ∀ k, (names.getD k []).length ≤ 10 := by
  intro k
  rcases Nat.lt_or_ge k 5 with h | h
  · exact (name_len k h).2
  · rw [List.getD_eq_getElem?_getD, List.getElem?_eq_none (by simpa [names] using h)]; simp
theorem put_len (f : Form) : (put f).length ≤ sz f := by
  have h1 := guard_bound outer f.text
  have h2 := guard_bound marks f.text
  have h3 := guard_bound marks f.els
  have h4 := dec_len f.group
  have h5 := names_le (f.cas.toNat - 1)
  unfold put sz body
  split
  · omega
  · simp only [List.length_cons, List.length_append, List.length_nil]
    split
    · split
      · simp; omega
      · simp only [List.length_cons]; omega
    split
    · simp only [List.length_cons]; omega
    split
    · simp only [List.length_cons]; omega
    split
    · simp only [List.length_cons, List.length_append]; omega
    · simp; omega
theorem print_take {l : List Form} {k : Nat} (h : k < l.length) : print (l.take (k + 1)) = print (l.take k) ++ put l[k] := by
  unfold print
  rw [List.take_succ_eq_append_getElem h, List.map_append, List.flatten_append]; simp
theorem szs_take : ∀ {l : List Form} {k : Nat} (h : k < l.length), (print (l.take k)).length + sz l[k] ≤ szs l
  | [], k, h => by simp at h
  | f :: r, 0, _ => by simp [print, szs]
  | f :: r, k + 1, h => by
    have ih := szs_take (l := r) (k := k) (by simpa using h)
    have hp := put_len f
    have e : print ((f :: r).take (k + 1)) = put f ++ print (r.take k) := rfl
    rw [e, List.length_append]
    simp only [List.getElem_cons_succ, szs]
    omega
theorem all_may1 : ∀ {l : List Form} {p : Bool}, mayR p l = true → ∀ f ∈ l, may1 f = true
  | [], _, _, _, h => by simp at h
  | x :: r, p, hm, f, hf => by
    unfold mayR at hm
    simp only [Bool.and_eq_true] at hm
    rcases List.mem_cons.1 hf with rfl | hf
    · exact hm.1.1
    · exact all_may1 hm.2 f hf
end FM
/-- What is printed, or nothing. -/
def PrintP (l : List FM.Form) (w : World) (e : Ending) (w' : World) : Prop :=
  Ext w w' ∧ ((FM.may l = true ∧ ∃ A c, e = .returned (.tuple #[.slice A (FM.print l).length c, .bool true]) ∧ OwnB 21 1 Cc w.heap.size w' (.slice A (FM.print l).length c) (FM.print l)) ∨ (FM.may l = false ∧ e = .returned (.tuple #[.slice none 0 0, .bool false])))
set_option maxRecDepth 100000 in
set_option maxHeartbeats 2000000 in
theorem print_any (l : List FM.Form) (B : Nat) (v : Value) (w : World) (hv : SlB 34 5 (CF B) B w v l) (hb : FM.szs l ≤ 35184372080000) : Calls Tryd.prog 14 #[v] w (PrintP l w) := by
  have HM := Lib.hid (may_any l B v w hv)
  obtain ⟨A, ca, rfl, hlc, hcm⟩ := hv.form
  have HV := Lib.hid hv
  clear hv
  rcases hmay : FM.may l with _ | _
  · have HF := Lib.hid hmay
    rw [hmay] at HM
    clear hmay
    go_enter Tryd.func14, Tryd.ntmps14
    go_wp2_with (go_at_call 16; go_loud (refine HM.out.mono ?_; rintro e w2 ⟨rfl, hx⟩))
    go_ret2
    exact ⟨hx, .inr ⟨HF.out, rfl⟩⟩
  · have HF := Lib.hid hmay
    rw [hmay] at HM
    clear hmay
    go_enter Tryd.func14, Tryd.ntmps14
    go_wp2_with (go_at_call 16; go_loud (refine HM.out.mono ?_; rintro e w2 ⟨rfl, hx⟩; have HX := Lib.hid hx; clear hx))
    go_loopw [4, 12] (fun v i wr => ∃ k : Nat, k ≤ l.length ∧ i = .int .i64 (k : Int) ∧ Acs w v (FM.print (l.take k)) wr) (fun _ i _ => l.length - (intOf i).toNat)
    case atStart => exact ⟨0, Nat.zero_le _, rfl, OwnB.nil_, HX.out⟩
    case round =>
      obtain ⟨k, hk, rfl, hac⟩ := hrel
      have HA := Lib.hid hac
      have hE := hac.ext
      obtain ⟨Ao, co, rfl, -⟩ := hac.own.form
      clear hac
      by_cases hlt : k < l.length
      · obtain ⟨g, o, cs, rfl, hcf, hcell⟩ := (HV.out.keep (keeps_cff B) (KeepT.of_ext hE) (KeepT.of_ext hE)).at_ hlt
        have hcf0 : ∃ cs0, CF B w cs0 l[k] ∧ ∀ i u, cs0[i]? = some u → w.cell? ⟨g, o + k * 5 + i, none⟩ = some u := by
          obtain ⟨g', o', cs', he, hcf', hcell'⟩ := HV.out.at_ hlt
          injection he with he
          injection he with he1 he2
          subst he1 he2
          exact ⟨cs', hcf', hcell'⟩
        clear hcf hcell cs
        obtain ⟨cs, hcf, hcell⟩ := hcf0
        have HPT := Lib.hid (FM.print_take hlt)
        have hszk := FM.szs_take hlt
        have HM1 := Lib.hid (FM.all_may1 HF.out l[k] (List.getElem_mem hlt))
        generalize l[k] = f at hcf HPT hszk HM1
        unfold FM.sz at hszk
        obtain ⟨A1, c1, A2, c2, rfl, ht, he⟩ := hcf.slc
        have d0 := hE.cell (hcell 0 _ rfl)
        have d1 := hE.cell (hcell 1 _ rfl)
        have d2 := hE.cell (hcell 2 _ rfl)
        have d3 := hE.cell (hcell 3 _ rfl)
        have d4 := hE.cell (hcell 4 _ rfl)
        rw [Nat.add_zero] at d0
        have HP := Lib.hid (fun W (hW : Acs w (.slice Ao (FM.print (l.take k)).length co) (FM.print (l.take k)) W) => put_any w W _ _ _ (FM.print (l.take k)) f hW ht he HM1.out (by omega))
        have hbl := World.block_lt_of_cell? _ _ d0
        clear hcell hcf ht he hE
        generalize FM.print (l.take k) = acc at HA HPT HP hszk ⊢
        go_wp2_with (go_at_call 33; go_loud (refine (HP.out _ (Acs.alloc HA.out)).mono ?_; rintro e w3 ⟨A3, c3, he, h1, -⟩; generalize hl : acc ++ FM.put f = acc2 at he h1; subst he; have HL := Lib.hid hl; have HA3 := Lib.hid h1; clear hl h1))
        go_roundw
        case rel => exact ⟨k + 1, by omega, by go_num, by rw [HPT.out, HL.out]; exact HA3.out⟩
        case measure => simp [intOf]; omega
      · have HT := Lib.hid (show FM.print (l.take k) = FM.print l by rw [List.take_of_length_le (by omega)])
        clear hE
        generalize FM.print (l.take k) = acc at HA HT ⊢
        go_wp2_with fail
        go_ret2
        refine ⟨HA.out.ext, .inl ⟨HF.out, ?_⟩⟩
        rw [← HT.out]
        exact ⟨_, _, rfl, HA.out.own⟩
end Go.Proofs.YtfblkahjefdmaaaDoor
