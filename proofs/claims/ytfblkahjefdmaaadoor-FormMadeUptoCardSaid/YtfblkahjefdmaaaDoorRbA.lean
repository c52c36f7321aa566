/- Walks: May, Print of package format, of parts that are read by their cells alone. -/
import Derived.Test.YtfblkahjefdmaaaDoorRaG
namespace Go.Proofs.YtfblkahjefdmaaaDoor
open Go.RowKit

/-- The cells of a part whose texts are read by their cells alone. -/
def CFC (w : World) (cs : List Value) (f : FM.Form) : Prop :=
  ∃ vt ve, cs = [.int .i64 f.kind, .int .i64 f.group, .int .i64 f.cas, vt, ve] ∧ SlC w vt f.text ∧ SlC w ve f.els
theorem CFC.ext {w w' : World} {cs : List Value} {f : FM.Form} (h : CFC w cs f) (hx : Ext w w') : CFC w' cs f := by
  obtain ⟨vt, ve, h1, h2, h3⟩ := h
  exact ⟨vt, ve, h1, h2.ext hx, h3.ext hx⟩
theorem CF.cfc {B : Nat} {w : World} {cs : List Value} {f : FM.Form} (h : CF B w cs f) : CFC w cs f := by
  obtain ⟨vt, ve, h1, h2, h3⟩ := h
  exact ⟨vt, ve, h1, h2.slc, h3.slc⟩
theorem CFC.slc2 {w : World} {cs : List Value} {f : FM.Form} (h : CFC w cs f) : ∃ A c A' c', cs = [.int .i64 f.kind, .int .i64 f.group, .int .i64 f.cas, .slice A f.text.length c, .slice A' f.els.length c'] ∧ SlC w (.slice A f.text.length c) f.text ∧ SlC w (.slice A' f.els.length c') f.els := by
  obtain ⟨vt, ve, h1, h2, h3⟩ := h
  obtain ⟨A, c, rfl, -⟩ := id h2
  obtain ⟨A', c', rfl, -⟩ := id h3
  exact ⟨A, c, A', c', h1, h2, h3⟩
/-- Parts, read by their cells alone. -/
def SlF (w : World) (v : Value) (l : List FM.Form) : Prop :=
  SlR 5 (fun w b o f => ∃ cs, CFC w cs f ∧ ∀ (i : Nat) (u : Value), cs[i]? = some u → w.cell? ⟨b, o + i, none⟩ = some u) w v l
theorem SlF.ext {w w' : World} {v : Value} {l : List FM.Form} (h : SlF w v l) (hx : Ext w w') : SlF w' v l :=
  h.mono fun _ _ _ ⟨cs, h1, h2⟩ => ⟨cs, h1.ext hx, fun i u hu => hx.cell (h2 i u hu)⟩
theorem SlF.form2 {w : World} {v : Value} {l : List FM.Form} (h : SlF w v l) : ∃ A c, v = .slice A l.length c ∧ l.length ≤ c ∧ c ≤ 9223372036854775807 := by
  obtain ⟨A, c, hv, h1, h2, -⟩ := h
  exact ⟨A, c, hv, h1, h2⟩
theorem SlF.atF {w : World} {A : Option Addr} {n c : Nat} {l : List FM.Form} (h : SlF w (.slice A n c) l) {k : Nat} (hk : k < l.length) :
    ∃ g o cs, A = some ⟨g, o, none⟩ ∧ CFC w cs l[k] ∧ ∀ (i : Nat) (u : Value), cs[i]? = some u → w.cell? ⟨g, o + k * 5 + i, none⟩ = some u := by
  obtain ⟨b, o, hA, cs, h1, h2⟩ := SlR.at_ h (List.getElem?_eq_getElem hk)
  exact ⟨b, o, cs, hA, h1, h2⟩
theorem SlB.slf {B B' : Nat} {w : World} {v : Value} {l : List FM.Form} (h : SlB 34 5 (CF B) B' w v l) : SlF w v l := by
  obtain ⟨A, c, rfl, hl, hc, hn, ha⟩ := h
  refine ⟨A, c, rfl, hl, hc, fun k x hx => ?_, hn⟩
  cases A with
  | none =>
    have := hn rfl
    rw [List.getElem?_eq_none (by omega)] at hx; cases hx
  | some ad =>
    obtain ⟨g, o, cur, rfl, _, h3, _, h5⟩ := ha ad rfl
    obtain ⟨cs, h6, h7⟩ := h5 k x hx
    exact ⟨g, o, rfl, cs, h6.cfc, fun i u hu => (cell_of_row w g _ cur 34 (0, 0) h3).trans (h7 i u hu)⟩
set_option maxRecDepth 100000 in
set_option maxHeartbeats 2000000 in
theorem may2_any (l : List FM.Form) (v : Value) (w : World) (hv : SlF w v l) : Calls Tryd.prog 16 #[v] w (Ret (.bool (FM.may l)) w) := by
  obtain ⟨A, ca, rfl, hlc, hcm⟩ := hv.form2
  have HV := Lib.hid hv
  clear hv
  go_enter Tryd.func16, Tryd.ntmps16
  go_wp2_with fail
  go_loopw [7] (fun i wr => ∃ k : Nat, k ≤ l.length ∧ i = .int .i64 (k : Int) ∧ Ext w wr ∧ FM.mayR false (l.take k) = true) (fun i _ => l.length - (intOf i).toNat)
  case atStart => exact ⟨0, Nat.zero_le _, rfl, Ext.refl w, rfl⟩
  case round =>
    obtain ⟨k, hk, rfl, hE, hm⟩ := hrel
    have HE := Lib.hid hE
    have HM := Lib.hid hm
    clear hm
    by_cases hlt : k < l.length
    · obtain ⟨g, o, cs, rfl, hcf, hcell⟩ := (HV.out.ext hE).atF hlt
      have HSTEP := Lib.hid (fun (h2 : FM.may1 l[k] = true) (h3 : (FM.last0 false (l.take k) && l[k].kind == 0) = false) => FM.mayR_take hlt HM.out h2 h3)
      have HNO := Lib.hid (fun (h2 : FM.may1 l[k] = false ∨ (FM.last0 false (l.take k) && l[k].kind == 0) = true) => FM.may_no hlt h2)
      have hprev : ∀ j, k = j + 1 → ∃ x : Int, (l[j]?).map FM.Form.kind = some x ∧ wr.cell? ⟨g, o + j * 5, none⟩ = some (.int .i64 x) ∧ FM.last0 false (l.take k) = (x == 0) := by
        intro j hj
        subst hj
        have hjl : j < l.length := by omega
        obtain ⟨g', o', cs', he, hcf', hcell'⟩ := (HV.out.ext hE).atF hjl
        injection he with he
        injection he with he1 he2
        subst he1 he2
        obtain ⟨A1, c1, A2, c2, rfl, -⟩ := hcf'.slc2
        exact ⟨l[j].kind, by rw [List.getElem?_eq_getElem hjl]; rfl, by have := hcell' 0 _ rfl; rwa [Nat.add_zero] at this, FM.last0_take (by omega)⟩
      generalize l[k] = f at hcf HSTEP HNO
      obtain ⟨A1, c1, A2, c2, rfl, ht, he⟩ := hcf.slc2
      have d0 := hcell 0 _ rfl
      have d1 := hcell 1 _ rfl
      have d2 := hcell 2 _ rfl
      have d3 := hcell 3 _ rfl
      have d4 := hcell 4 _ rfl
      rw [Nat.add_zero] at d0
      have H1 := Lib.hid (fun W (hW : Ext wr W) => may1_any f.kind f.group f.cas f.text f.els _ _ W (ht.ext hW) (he.ext hW))
      have hbl := World.block_lt_of_cell? _ _ d0
      clear hcell hcf ht he hE
      rcases h1 : FM.may1 f with _ | _
      · have HF := Lib.hid (show FM.may l = false from HNO.out (.inl h1))
        have H1' := Lib.hid (show FM.may1 ⟨f.kind, f.group, f.cas, f.text, f.els⟩ = false from h1)
        clear h1 hprev
        go_wp2_with (go_at_call 38; go_loud (refine (H1.out _ ((Ext.refl wr).alloc _)).mono ?_; rw [H1'.out]; rintro e w2 ⟨rfl, hx⟩))
        go_ret
        exact ⟨by rw [HF.out]; rfl, (HE.out.alloc _).trans hx⟩
      · have H1' := Lib.hid (show FM.may1 ⟨f.kind, f.group, f.cas, f.text, f.els⟩ = true from h1)
        have H1T := Lib.hid h1
        clear h1
        by_cases hk0 : k = 0
        · subst hk0
          simp only [Nat.zero_mul, Nat.add_zero] at d0 d1 d2 d3 d4
          have HS := Lib.hid (show FM.mayR false (l.take (0 + 1)) = true from HSTEP.out H1T.out rfl)
          clear hprev
          go_wp2_with (go_at_call 38; go_loud (refine (H1.out _ ((Ext.refl wr).alloc _)).mono ?_; rw [H1'.out]; rintro e w2 ⟨rfl, hx⟩))
          go_roundw
          case rel => exact ⟨1, by omega, by go_num, (HE.out.alloc _).trans hx, HS.out⟩
          case measure => simp [intOf]; omega
        · obtain ⟨j, rfl⟩ : ∃ j, k = j + 1 := ⟨k - 1, by omega⟩
          obtain ⟨x, -, hcx, hl0⟩ := hprev j rfl
          have HL0 := Lib.hid hl0
          clear hprev hk0 hl0
          have hj1 : (0 : Int) < (j : Int) + 1 := by omega
          rcases hfk : (f.kind == 0) with _ | _
          · have HS := Lib.hid (HSTEP.out H1T.out (by rw [hfk, Bool.and_false]))
            go_wp2_with (go_at_call 38; go_loud (refine (H1.out _ ((Ext.refl wr).alloc _)).mono ?_; rw [H1'.out]; rintro e w2 ⟨rfl, hx⟩; have hbx := hx.heap (heap_alloc_new wr _); have p0 := cell_of_row w2 wr.heap.size 0 _ _ _ hbx; clear hbx))
            go_roundw
            case rel => exact ⟨j + 1 + 1, by omega, by go_num, (HE.out.alloc _).trans hx, HS.out⟩
            case measure => simp [intOf]; omega
          · rcases hxk : (x == 0) with _ | _
            · have HS := Lib.hid (HSTEP.out H1T.out (by rw [HL0.out, hxk]; rfl))
              go_wp2_with (go_at_call 38; go_loud (refine (H1.out _ ((Ext.refl wr).alloc _)).mono ?_; rw [H1'.out]; rintro e w2 ⟨rfl, hx⟩; have hbx := hx.heap (heap_alloc_new wr _); have p0 := cell_of_row w2 wr.heap.size 0 _ _ _ hbx; have hcx := (((Ext.refl wr).alloc _).trans hx).cell hcx; clear hbx))
              go_roundw
              case rel => exact ⟨j + 1 + 1, by omega, by go_num, (HE.out.alloc _).trans hx, HS.out⟩
              case measure => simp [intOf]; omega
            · have HF := Lib.hid (show FM.may l = false from HNO.out (.inr (by rw [HL0.out, hxk, hfk]; rfl)))
              go_wp2_with (go_at_call 38; go_loud (refine (H1.out _ ((Ext.refl wr).alloc _)).mono ?_; rw [H1'.out]; rintro e w2 ⟨rfl, hx⟩; have hbx := hx.heap (heap_alloc_new wr _); have p0 := cell_of_row w2 wr.heap.size 0 _ _ _ hbx; have hcx := (((Ext.refl wr).alloc _).trans hx).cell hcx; clear hbx))
              go_ret
              exact ⟨by rw [HF.out]; rfl, (HE.out.alloc _).trans hx⟩
    · have HF := Lib.hid (show FM.may l = true by rw [FM.may_split l k, HM.out, List.drop_eq_nil_of_le (by omega)]; rfl)
      clear hE
      go_wp2_with fail
      go_ret
      exact ⟨by rw [HF.out]; rfl, HE.out⟩

set_option maxRecDepth 100000 in
set_option maxHeartbeats 2000000 in
theorem print2_any (l : List FM.Form) (v : Value) (w : World) (hv : SlF w v l) (hb : FM.szs l ≤ 35184372080000) : Calls Tryd.prog 14 #[v] w (PrintP l w) := by
  have HM := Lib.hid (may2_any l v w hv)
  obtain ⟨A, ca, rfl, hlc, hcm⟩ := hv.form2
  have HV := Lib.hid hv
  clear hv
  rcases hmay : FM.may l with _ | _
  · have HF := Lib.hid hmay
    rw [hmay] at HM
    clear hmay
    go_enter Tryd.func14, Tryd.ntmps14
    go_wp2_with (go_at_call 16; go_loud (refine HM.out.mono ?_; rintro e w2 ⟨rfl, hx⟩))
    go_ret2
    exact ⟨hx, .inr ⟨HF.out, rfl⟩⟩
  · have HF := Lib.hid hmay
    rw [hmay] at HM
    clear hmay
    go_enter Tryd.func14, Tryd.ntmps14
    go_wp2_with (go_at_call 16; go_loud (refine HM.out.mono ?_; rintro e w2 ⟨rfl, hx⟩; have HX := Lib.hid hx; clear hx))
    go_loopw [4, 12] (fun v i wr => ∃ k : Nat, k ≤ l.length ∧ i = .int .i64 (k : Int) ∧ Acs w v (FM.print (l.take k)) wr) (fun _ i _ => l.length - (intOf i).toNat)
    case atStart => exact ⟨0, Nat.zero_le _, rfl, OwnB.nil_, HX.out⟩
    case round =>
      obtain ⟨k, hk, rfl, hac⟩ := hrel
      have HA := Lib.hid hac
      have hE := hac.ext
      obtain ⟨Ao, co, rfl, -⟩ := hac.own.form
      clear hac
      by_cases hlt : k < l.length
      · obtain ⟨g, o, cs, rfl, hcf, hcell⟩ := (HV.out.ext hE).atF hlt
        have hcf0 : ∃ cs0, CFC w cs0 l[k] ∧ ∀ i u, cs0[i]? = some u → w.cell? ⟨g, o + k * 5 + i, none⟩ = some u := by
          obtain ⟨g', o', cs', he, hcf', hcell'⟩ := HV.out.atF hlt
          injection he with he
          injection he with he1 he2
          subst he1 he2
          exact ⟨cs', hcf', hcell'⟩
        clear hcf hcell cs
        obtain ⟨cs, hcf, hcell⟩ := hcf0
        have HPT := Lib.hid (FM.print_take hlt)
        have hszk := FM.szs_take hlt
        have HM1 := Lib.hid (FM.all_may1 HF.out l[k] (List.getElem_mem hlt))
        generalize l[k] = f at hcf HPT hszk HM1
        unfold FM.sz at hszk
        obtain ⟨A1, c1, A2, c2, rfl, ht, he⟩ := hcf.slc2
        have d0 := hE.cell (hcell 0 _ rfl)
        have d1 := hE.cell (hcell 1 _ rfl)
        have d2 := hE.cell (hcell 2 _ rfl)
        have d3 := hE.cell (hcell 3 _ rfl)
        have d4 := hE.cell (hcell 4 _ rfl)
        rw [Nat.add_zero] at d0
        have HP := Lib.hid (fun W (hW : Acs w (.slice Ao (FM.print (l.take k)).length co) (FM.print (l.take k)) W) => put_any w W _ _ _ (FM.print (l.take k)) f hW ht he HM1.out (by omega))
        have hbl := World.block_lt_of_cell? _ _ d0
        clear hcell hcf ht he hE
        generalize FM.print (l.take k) = acc at HA HPT HP hszk ⊢
        go_wp2_with (go_at_call 33; go_loud (refine (HP.out _ (Acs.alloc HA.out)).mono ?_; rintro e w3 ⟨A3, c3, he, h1, -⟩; generalize hl : acc ++ FM.put f = acc2 at he h1; subst he; have HL := Lib.hid hl; have HA3 := Lib.hid h1; clear hl h1))
        go_roundw
        case rel => exact ⟨k + 1, by omega, by go_num, by rw [HPT.out, HL.out]; exact HA3.out⟩
        case measure => simp [intOf]; omega
      · have HT := Lib.hid (show FM.print (l.take k) = FM.print l by rw [List.take_of_length_le (by omega)])
        clear hE
        generalize FM.print (l.take k) = acc at HA HT ⊢
        go_wp2_with fail
        go_ret2
        refine ⟨HA.out.ext, .inl ⟨HF.out, ?_⟩⟩
        rw [← HT.out]
        exact ⟨_, _, rfl, HA.out.own⟩
end Go.Proofs.YtfblkahjefdmaaaDoor
