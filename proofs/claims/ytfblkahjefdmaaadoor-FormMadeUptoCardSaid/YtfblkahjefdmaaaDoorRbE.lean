/- Walk: the document's own Print. -/
import Derived.Test.YtfblkahjefdmaaaDoorRbC
import Derived.Test.YtfblkahjefdmaaaDoorRbD
import Derived.Maps.AppendAt
namespace Go.Proofs.YtfblkahjefdmaaaDoor
open Go.RowKit

/-- A value's own block lies outside of T to S. -/
def OutAp (T S : Nat) (v : Value) : Prop := ∀ k, v.ownBlock = some k → k < T ∨ S ≤ k
theorem SlB.keepR {T S : Nat} {w w' : World} {v : Value} {xs : List Int} (h : SlB 21 1 Cc T w v xs) (hb : Blo S v) (hk : ∀ (g : Nat) (o : Obj), T ≤ g → g < S → w.heap[g]? = some o → w'.heap[g]? = some o) : SlB 21 1 Cc T w' v xs := by
  obtain ⟨A, c, hv, hl, hc, hn, ha⟩ := h
  refine ⟨A, c, hv, hl, hc, hn, fun ad had => ?_⟩
  obtain ⟨g, o, cur, h1, h2, h3, h4, h5⟩ := ha ad had
  have hg : g < S := by
    have := hb ad xs.length c (by rw [hv, had])
    rw [h1] at this; exact this
  exact ⟨g, o, cur, h1, h2, hk g _ h2 hg h3, h4, h5⟩
/-- Inside of Print's switch: the row so far, the part's box, both texts with their backslashes. -/
structure Pss (w wr : World) (nb : Nat) (cs : List Value) (T S : Nat) (vt ve : Value) (tt te : List Int) (v : Value) (out : List Int) (wx : World) : Prop where
  pts : Pts w wr nb cs v out wx
  ap : OutAp T S v
  st : S ≤ wx.heap.size
  tx : SlB 21 1 Cc T wx vt tt
  txb : Blo S vt
  ex : SlB 21 1 Cc T wx ve te
  exb : Blo S ve
section
variable {w wr wx w' : World} {nb T S : Nat} {cs : List Value} {vt ve v v' : Value} {tt te out out' : List Int}
theorem Pss.ext_ (h : Pss w wr nb cs T S vt ve tt te v out wx) (hx : Ext wx w') : Pss w wr nb cs T S vt ve tt te v out w' :=
  ⟨h.pts.ext_ hx, h.ap, Nat.le_trans h.st hx.size, h.tx.keepB (keepsB_c _) (fun _ _ _ ho => hx.heap ho), h.txb, h.ex.keepB (keepsB_c _) (fun _ _ _ ho => hx.heap ho), h.exb⟩
theorem Pss.app (h : Pss w wr nb cs T S vt ve tt te v out wx) (h1 : OwnB 21 1 Cc w.heap.size w' v' out') (h2 : wx.grownBy w' v.ownBlock) (h3 : OutAp T S v') : Pss w wr nb cs T S vt ve tt te v' out' w' := by
  have hk : ∀ (g : Nat) (o : Obj), T ≤ g → g < S → wx.heap[g]? = some o → w'.heap[g]? = some o := fun g o hT hS hg =>
    (h2.block g (heap_lt hg) (by intro e; have := h.ap g e.symm; omega)).trans hg
  exact ⟨h.pts.app h1 h2, h3, Nat.le_trans h.st h2.size, h.tx.keepR h.txb hk, h.txb, h.ex.keepR h.exb hk, h.exb⟩
/-- A part's body, of both texts with their backslashes. -/
def bodyG (kd cs : Int) (tt te : List Int) : List Int :=
  if kd = 1 then (if cs = 0 then [] else 58 :: 47 :: FM.names.getD (cs.toNat - 1) [])
  else if kd = 2 then 58 :: 43 :: tt
  else if kd = 3 then 58 :: 45 :: te
  else if kd = 4 then 58 :: 63 :: (tt ++ 58 :: te)
  else []
theorem app_row3 {ops : Array Oper} {rest : List Oper} {o : Oper} {a : Act} {Q : Exit → Act → World → Prop} (hgd : o.guard = none) (s x : Operand) (ho : o.op = .call { callee := .builtin .append, args := #[s, x], argTypes := #[22, 22] })
    (h : Pss w wr nb cs T S vt ve tt te v out wx) (src : Value) (ys : List Int) (hsrc : SlB 21 1 Cc T wx src ys) (hs : a.eval s = v) (hx : a.eval x = src) (hn : out.length + ys.length ≤ 35184372088832)
    (hk : ∀ v' w', Pss w wr nb cs T S vt ve tt te v' (out ++ ys) w' → wpList Tryd.prog ops Q rest (a.put o.dst v') w') : wpList Tryd.prog ops Q (o :: rest) a wx := by
  obtain ⟨i0, hi, hz0, hz1, hz2⟩ := info_parts info_c
  obtain ⟨A, c, rfl, hl, hc⟩ := hsrc.form
  have hown := h.pts.acs.own
  have hB := h.pts.acs.ext.size
  cases A with
  | none =>
    obtain ⟨h0, -, hc0⟩ := SlB.none_ hsrc
    subst h0 hc0
    refine wpList_append_own_none hgd s x 22 ho w.heap.size 21 i0 1 Tryd.underlying22 hi v out.length (out.map (Value.int .i32)) hs hown.flat_i32 hx ?_
    exact hk v wx (by rw [List.append_nil]; exact h)
  | some ad =>
    refine wpList_append_own_at wx hgd s x _ ho w.heap.size 21 i0 (.int .i32 0) 1 4 Tryd.underlying22 hi hz0 hz1 hz2 rfl (by decide) v out.length _ hs hown.flat_i32 ad ys.length c (ys.map (Value.int .i32)) hx (by simp) (cells_map (SlB.add hsrc)) (fun u hu => by simp at hu; obtain ⟨y, _, rfl⟩ := hu; rfl) (by unfold maxLen; omega) (by omega) hB ?_
    intro v' w' h3 h4 _ h5
    refine hk _ w' (h.app (OwnB.of_flat_i32 ?_) h4 ?_)
    · rw [List.map_append, List.length_append]; exact h3
    · intro k hkk
      rcases h5 with h5 | h5
      · exact h.ap k (h5.symm.trans hkk)
      · rw [h5] at hkk
        injection hkk with hkk
        right; rw [← hkk]; exact h.st
theorem app_lit3 {ops : Array Oper} {rest : List Oper} {o : Oper} {a : Act} {Q : Exit → Act → World → Prop} (hgd : o.guard = none) (s x : Operand) (ho : o.op = .call { callee := .builtin .append, args := #[s, x], argTypes := #[22, 22] })
    (h : Pss w wr nb cs T S vt ve tt te v out wx) (ys : List Int) (hs : a.eval s = v) (nl m : Nat) (hx : a.eval x = .slice (some ⟨nl, 0, none⟩) m m) (hnl : nl = wx.heap.size) (hm : m = ys.length) (hm0 : 0 < m) (hn : out.length + ys.length ≤ 35184372088832)
    (hk : ∀ v' w', Pss w wr nb cs T S vt ve tt te v' (out ++ ys) w' → wpList Tryd.prog ops Q rest (a.put o.dst v') w') : wpList Tryd.prog ops Q (o :: rest) a (wx.alloc (.cells (ys.map (Value.int .i32)).toArray 21)) := by
  subst hnl hm
  obtain ⟨i0, hi, hz0, hz1, hz2⟩ := info_parts info_c
  have h' := h.ext_ ((Ext.refl wx).alloc (.cells (ys.map (Value.int .i32)).toArray 21))
  refine wpList_append_lies _ hgd s x _ ho w.heap.size 21 i0 (.int .i32 0) 1 4 Tryd.underlying22 hi hz0 hz1 hz2 rfl (by decide) v out.length _ hs h'.pts.acs.own.flat_i32 ⟨wx.heap.size, 0, none⟩ ys.length _ (ys.map (Value.int .i32)) hx (by simp) (cells_map (lit_at (heap_alloc_new wx _))) (fun u hu => by simp at hu; obtain ⟨y, _, rfl⟩ := hu; rfl) hm0 (by unfold maxLen; omega) (by omega) h'.pts.acs.ext.size _ rfl ?_
  intro g cap w' h3 h4 h5 _
  refine hk _ w' (h'.app (OwnB.of_flat_i32 ?_) h4 ?_)
  · rw [List.map_append, List.length_append]; exact h3
  · intro k hkk
    simp [Value.ownBlock] at hkk
    subst hkk
    rcases h5 with h5 | h5
    · exact h.ap _ h5
    · right; rw [h5]; exact h'.st
end
set_option maxRecDepth 100000 in
set_option maxHeartbeats 4000000 in
theorem rprint_any (l : List FM.Form) (v : Value) (w : World) (hv : SlF w v l) (hb : FM.szs l ≤ 1000000000) : Calls Tryd.prog 15 #[v] w (PrintP l w) := by
  have HM := Lib.hid (rmayform_any l v w hv)
  obtain ⟨A, ca, rfl, hlc, hcm⟩ := hv.form2
  have HV := Lib.hid hv
  clear hv
  rcases hmay : FM.may l with _ | _
  · have HF := Lib.hid hmay
    rw [hmay] at HM
    clear hmay
    go_enter Tryd.func15, Tryd.ntmps15
    go_wp2_with (go_at_call 17; go_loud (refine HM.out.mono ?_; rintro e w2 ⟨rfl, hx⟩))
    go_ret2
    exact ⟨hx, .inr ⟨HF.out, rfl⟩⟩
  have HF := Lib.hid hmay
  rw [hmay] at HM
  clear hmay
  go_enter Tryd.func15, Tryd.ntmps15
  go_wp2_with (go_at_call 17; go_loud (refine HM.out.mono ?_; rintro e w2 ⟨rfl, hx⟩; have HX := Lib.hid hx; clear hx))
  go_loopw [4, 5] (fun v i wr => ∃ k : Nat, k ≤ l.length ∧ i = .int .i64 (k : Int) ∧ Acs w v (FM.print (l.take k)) wr) (fun _ i _ => l.length - (intOf i).toNat)
  case atStart => exact ⟨0, Nat.zero_le _, rfl, OwnB.nil_, HX.out⟩
  case round =>
    obtain ⟨k, hk, rfl, hac⟩ := hrel
    have HA := Lib.hid hac
    have hE := hac.ext
    obtain ⟨Ao, co, rfl, -⟩ := hac.own.form
    clear hac
    by_cases hlt : k < l.length
    rotate_left
    · have HT := Lib.hid (show FM.print (l.take k) = FM.print l by rw [List.take_of_length_le (by omega)])
      clear hE
      generalize FM.print (l.take k) = acc at HA HT ⊢
      go_wp2_with fail
      go_ret2
      refine ⟨HA.out.ext, .inl ⟨HF.out, ?_⟩⟩
      rw [← HT.out]
      exact ⟨_, _, rfl, HA.out.own⟩
    obtain ⟨g, o, cs, rfl, hcf, hcell⟩ := HV.out.atF hlt
    have HPT := Lib.hid (FM.print_take hlt)
    have hszk := FM.szs_take hlt
    have HM1 := Lib.hid (FM.all_may1 HF.out l[k] (List.getElem_mem hlt))
    generalize l[k] = f at hcf HPT hszk HM1
    unfold FM.sz at hszk
    obtain ⟨A1, c1, A2, c2, rfl, ht, he⟩ := hcf.slc2
    obtain ⟨kd, gp, cs, tx, es⟩ := f
    dsimp only at hcell hszk ht he
    have HTX := Lib.hid ht
    have HEX := Lib.hid he
    have d0 := hE.cell (hcell 0 _ rfl)
    have d1 := hE.cell (hcell 1 _ rfl)
    have d2 := hE.cell (hcell 2 _ rfl)
    have d3 := hE.cell (hcell 3 _ rfl)
    have d4 := hE.cell (hcell 4 _ rfl)
    rw [Nat.add_zero] at d0
    have hbl := World.block_lt_of_cell? _ _ d0
    clear hcell hcf ht he hE
    generalize FM.print (l.take k) = acc at HA HPT hszk ⊢
    go_upto_region 8 with fail
    obtain ⟨nb, hnb⟩ : ∃ nb, nb = wr.heap.size := ⟨_, rfl⟩
    have HC := Lib.hid (show Pts w wr wr.heap.size [.int .i64 kd, .int .i64 gp, .int .i64 cs, .slice A1 tx.length c1, .slice A2 es.length c2] (.slice Ao acc.length co) acc (wr.alloc (.cells #[.int .i64 kd, .int .i64 gp, .int .i64 cs, .slice A1 tx.length c1, .slice A2 es.length c2] 34)) from ⟨HA.out.alloc, heap_alloc_new wr _, KeepT.of_ext ((Ext.refl wr).alloc _)⟩)
    rw [← hnb] at HC ⊢
    clear d0 d1 d2 d3 d4 hbl hnb
    generalize wr.alloc (.cells #[.int .i64 kd, .int .i64 gp, .int .i64 cs, .slice A1 tx.length c1, .slice A2 es.length c2] 34) = w3 at HC ⊢
    have hbs := heap_lt HC.out.box
    have d0 := HC.out.c 0 _ rfl
    have d3 := HC.out.c 3 _ rfl
    by_cases hk0 : kd = 0
    · subst hk0
      have HPU := Lib.hid (show FM.put ⟨0, gp, cs, tx, es⟩ = FM.guard FM.outer tx from rfl)
      have HMK := Lib.hid (marked_any FM.outer _ has_outer tx _ w3 (HTX.out.ext HC.out.acs.ext) (by omega))
      have hgb := guard_bound FM.outer tx
      go_wp2_with (first
        | (go_at_call 34; go_loud (refine HMK.out.mono ?_; rintro e w4 ⟨v4, rfl, hv4, hE4⟩; generalize hmk : FM.guard FM.outer tx = mk at hv4 HPU hgb; have HC4 := Lib.hid (HC.out.ext_ hE4); obtain ⟨A4, c4, rfl, -⟩ := hv4.form; have HV4 := Lib.hid hv4.sl; clear hv4 hE4 hmk))
        | (at_builtin; go_loud (refine app_src rfl _ _ rfl w.heap.size _ _ (.slice A4 mk.length c4) acc mk HC4.out.acs.own rfl rfl HV4.out ?hn HC4.out.acs.ext.size ?_; (case hn => omega); intro v5 w5 h1 h2; generalize hl : acc ++ mk = out2 at h1; have HL := Lib.hid hl; have HC5 := Lib.hid (HC4.out.app h1 h2); obtain ⟨A5, c5, rfl, -⟩ := h1.form; clear h1 h2 hl)))
      go_roundw
      case rel => exact ⟨k + 1, by omega, by go_num, by rw [HPT.out, HPU.out, HL.out]; exact HC5.out.acs⟩
      case measure => simp [intOf]; omega
    have HP := Lib.hid (show FM.put ⟨kd, gp, cs, tx, es⟩ = PreP gp ++ (FM.body ⟨kd, gp, cs, tx, es⟩ ++ [125]) by unfold FM.put PreP; rw [if_neg hk0]; rfl)
    obtain ⟨-, -, hg0, hg9, hc0, hc5, hkk⟩ := FM.may1_of HM1.out
    have HKK := Lib.hid hkk
    dsimp only at hg0 hg9 hc0 hc5 HKK
    clear hkk
    obtain ⟨G, rfl⟩ : ∃ G : Nat, gp = G := ⟨gp.toNat, by omega⟩
    have b0 : (kd == 0) = false := by simpa using hk0
    have hdl := FM.dec_len (G : Int)
    have HDG0 := Lib.hid (fun W => digits_any G (by omega) W)
    go_upto_region 10 with fail
    go_cut [4] (fun s4 wx => ∃ A4 c4, s4 = .slice A4 (acc ++ PreP G).length c4 ∧ Pts w wr nb [.int .i64 kd, .int .i64 (G : Int), .int .i64 cs, .slice A1 tx.length c1, .slice A2 es.length c2] (.slice A4 (acc ++ PreP G).length c4) (acc ++ PreP G) wx)
    case first =>
      have d1 := HC.out.c 1 _ rfl
      have tok1 : True := trivial
      go_region_law (first
        | (have _t := tok1; refine step_i32 rfl _ _ (by rfl) w.heap.size _ acc [36, 123] ?hown (by rfl) ⟨w3.heap.size, 0, none⟩ 2 2 (by rfl) rfl (by decide) ?hc ?hn ?hB ?_; (case hown => exact (HC.out.ext_ (by (focus (repeat (first | exact Ext.refl _ | apply Ext.drew | apply Ext.alloc))))).acs.own); (case hc => exact lit_at (ys := [36, 123]) (heap_alloc_new w3 _)); (case hn => (simp only [List.length_cons, List.length_nil]; omega)); (case hB => exact (HC.out.ext_ (by (focus (repeat (first | exact Ext.refl _ | apply Ext.drew | apply Ext.alloc))))).acs.size); intro gg cap w4 h1 h2; have HC4 := Lib.hid ((HC.out.ext_ (by (focus (repeat (first | exact Ext.refl _ | apply Ext.drew | apply Ext.alloc))))).app h1 h2); have d1 := HC4.out.c 1 _ rfl; have hbs := heap_lt HC4.out.box; clear h1 h2; clear tok1 _t)
        | (go_simp; go_at_call 35; refine (HDG0.out _).mono ?_; rintro e w5 ⟨v5, rfl, hv5, hE5⟩; have HC5 := Lib.hid (HC4.out.ext_ ((Ext.refl w4).trans hE5)); obtain ⟨A5, c5, rfl, -⟩ := hv5.form; obtain ⟨g5, rfl, -⟩ := hv5.get (k := 0) (by omega); have HV5 := Lib.hid hv5; clear hv5 hE5)
        | (refine step_i32 rfl _ _ (by rfl) w.heap.size _ (acc ++ [36, 123]) (FM.dec G) ?hown (by rfl) ⟨g5, 0, none⟩ _ _ (by rfl) ?hm ?hm0 ?hc ?hn ?hB ?_; (case hown => exact HC5.out.acs.own); (case hm => rfl); (case hm0 => omega); (case hc => exact SlB.add HV5.out.sl); (case hn => (simp only [List.length_append, List.length_cons, List.length_nil]; omega)); (case hB => exact HC5.out.acs.size); intro gg cap w6 h1 h2; have HC6 := Lib.hid (HC5.out.app h1 h2); clear h1 h2))
      all_goals
        go_wp2_with fail
        go_meet
        have e9 : (acc ++ [36, 123]) ++ FM.dec (G : Int) = acc ++ PreP G := by simp [PreP]
        have h9 := HC6.out
        rw [e9] at h9
        have hl9 : (acc ++ [36, 123]).length + (FM.dec (G : Int)).length = (acc ++ PreP G).length := by rw [← e9, List.length_append (bs := FM.dec _)]
        rw [hl9] at h9
        exact ⟨_, _, by simp [PreP]; omega, h9⟩
    case rest =>
      obtain ⟨A6, c6, rfl, h6⟩ := hcut
      have HC6 := Lib.hid h6
      have hpl := preP_len (G : Int)
      have hl3 : (acc ++ PreP (G : Int)).length ≤ acc.length + 4 := by rw [List.length_append]; omega
      generalize hout3 : acc ++ PreP (G : Int) = out3 at h6 HC6 hl3 ⊢
      have HO3 := Lib.hid hout3
      have HAP := Lib.hid (show ∀ k, (Value.slice A6 out3.length c6).ownBlock = some k → k < wc.heap.size from fun k hk => (h6.acs.own.lt k hk).2)
      obtain ⟨T, hT⟩ : ∃ T, T = wc.heap.size := ⟨_, rfl⟩
      have HTT := Lib.hid hT
      clear hT
      have HMT := Lib.hid (fun W (hW : Ext wc W) => marked_any FM.marks _ has_marks tx _ W (HTX.out.ext (HC6.out.acs.ext.trans hW)) (by omega))
      have HMX := Lib.hid (fun W (hW : Ext wc W) => marked_any FM.marks _ has_marks es _ W (HEX.out.ext (HC6.out.acs.ext.trans hW)) (by omega))
      have hgt := guard_bound FM.marks tx
      have hge := guard_bound FM.marks es
      have HBODY := Lib.hid (show FM.body ⟨kd, (G : Int), cs, tx, es⟩ = bodyG kd cs (FM.guard FM.marks tx) (FM.guard FM.marks es) from rfl)
      generalize FM.guard FM.marks tx = tt at HMT hgt HBODY
      generalize FM.guard FM.marks es = te at HMX hge HBODY
      clear h6 hpl hout3 d0 d3 hdl
      have hbs := heap_lt HC6.out.box
      have d3 := HC6.out.c 3 _ rfl
      have d4 := HC6.out.c 4 _ rfl
      have tok2 : True := trivial
      go_upto_region 11 with fail
      go_cut [7, 8] (fun s7 s8 wx => ∃ A7 c7 A8 c8 S, s7 = .slice A7 tt.length c7 ∧ s8 = .slice A8 te.length c8 ∧ Pss w wr nb [.int .i64 kd, .int .i64 (G : Int), .int .i64 cs, .slice A1 tx.length c1, .slice A2 es.length c2] T S (.slice A7 tt.length c7) (.slice A8 te.length c8) tt te (.slice A6 out3.length c6) out3 wx)
      case first =>
        go_region_law (first
          | (have _t := tok2; go_simp; go_at_call 34; refine (HMT.out _ ((Ext.refl _).drew)).mono ?_; rintro e w7 ⟨v7, rfl, hv7, hE7⟩; have hX7 : Ext wc w7 := ((Ext.refl _).drew).trans hE7; obtain ⟨A7, c7, rfl, -⟩ := hv7.form; have HV7 := Lib.hid hv7.sl; have HE7 := Lib.hid hX7; have HC7 := Lib.hid (HC6.out.ext_ hX7); have d4 := HC7.out.c 4 _ rfl; have hbs := heap_lt HC7.out.box; clear hv7 hE7 hX7; clear tok2 _t)
          | (go_simp; go_at_call 34; refine (HMX.out _ HE7.out).mono ?_; rintro e w8 ⟨v8, rfl, hv8, hE8⟩; obtain ⟨A8, c8, rfl, -⟩ := hv8.form; have HV8 := Lib.hid hv8.sl; have HE8 := Lib.hid hE8; clear hv8 hE8))
        all_goals
          go_wp2_with fail
          go_meet
          have hv7 : SlB 21 1 Cc wc.heap.size w8 (.slice A7 tt.length c7) tt := HV7.out.keepB (keepsB_c _) (fun _ _ _ ho => HE8.out.heap ho)
          have hv8 : SlB 21 1 Cc wc.heap.size w8 (.slice A8 te.length c8) te := HV8.out.weaken HE7.out.size
          rw [HTT.out]
          exact ⟨_, _, _, _, w8.heap.size, rfl, rfl, (HC7.out.ext_ HE8.out), fun k hk => .inl (HAP.out k hk), Nat.le_refl _, hv7, hv7.blo, hv8, hv8.blo⟩
      case rest =>
        obtain ⟨Bt, bt, Be, be, S, rfl, rfl, hps⟩ := hcut
        have HP6 := Lib.hid hps
        have hbs := heap_lt hps.pts.box
        have d0 := hps.pts.c 0 _ rfl
        have d2 := hps.pts.c 2 _ rfl
        clear hps
        have t1 : True := trivial
        have t2 : True := trivial
        have t3 : True := trivial
        have t4 : True := trivial
        go_upto_block 2 with fail
        go_cut [4] (fun s4 wx => ∃ A9 c9 out9, s4 = .slice A9 (List.length out9) c9 ∧ out9 = out3 ++ bodyG kd cs tt te ∧ Pts w wr nb [.int .i64 kd, .int .i64 (G : Int), .int .i64 cs, .slice A1 tx.length c1, .slice A2 es.length c2] (.slice A9 (List.length out9) c9) out9 wx)
        case first =>
          rcases HKK.out with ⟨h0, -⟩ | ⟨h1, -, -⟩ | ⟨h2, -, -⟩ | ⟨h3, -, -⟩ | ⟨h4, -⟩
          · exact absurd h0 hk0
          · subst h1
            by_cases hcz : cs = 0
            · have HB := Lib.hid (show bodyG 1 cs tt te = [] by unfold bodyG; rw [if_pos rfl, if_pos hcz])
              go_wp2_with fail
              go_meet
              exact ⟨_, _, out3, rfl, by rw [HB.out, List.append_nil], HP6.out.pts⟩
            · obtain ⟨q, hq⟩ : ∃ q, cs.toNat - 1 = q := ⟨_, rfl⟩
              have hq5 : q < 5 := by omega
              have HB := Lib.hid (show bodyG 1 cs tt te = 58 :: 47 :: FM.names.getD q [] by unfold bodyG; rw [if_pos rfl, if_neg hcz, hq])
              have HCN := Lib.hid (fun W => caseName_any cs (by omega) hc5 W)
              rw [hq] at HCN
              have hnl := nb_len q hq5
              have hnm := name_len q hq5
              have HNB := Lib.hid (name_bytes q hq5)
              have hcpos : (0 : Int) < cs := by omega
              generalize nbs.getD q ⟨#[]⟩ = nq at HCN hnl HNB
              generalize FM.names.getD q [] = nm at HB hnm HNB
              obtain ⟨hnm1, hnm2⟩ := hnm
              clear hq hcz
              go_upto_region 16 with fail
              go_region_law (first
                | (have _t := t1; refine step_i32 rfl _ _ (by rfl) w.heap.size _ out3 [58, 47] ?hown (by rfl) ⟨wc.heap.size, 0, none⟩ 2 2 (by rfl) rfl (by decide) ?hc ?hn ?hB ?_; (case hown => exact (HP6.out.pts.ext_ (by (focus (repeat (first | exact Ext.refl _ | apply Ext.drew | apply Ext.alloc))))).acs.own); (case hc => exact lit_at (ys := [58, 47]) (heap_alloc_new wc _)); (case hn => (simp only [List.length_cons, List.length_nil]; omega)); (case hB => exact (HP6.out.pts.ext_ (by (focus (repeat (first | exact Ext.refl _ | apply Ext.drew | apply Ext.alloc))))).acs.size); intro gg cap w4 h1 h2; have HC4 := Lib.hid ((HP6.out.pts.ext_ (by (focus (repeat (first | exact Ext.refl _ | apply Ext.drew | apply Ext.alloc))))).app h1 h2); have d2 := HC4.out.c 2 _ rfl; have hbs := heap_lt HC4.out.box; clear h1 h2; clear t1 _t)
                | (go_simp; go_at_call 37; refine (HCN.out _).mono ?_; rintro e w5 ⟨rfl, rfl⟩)
                | (go_simp; go_at_call 36; refine (rplain_any nq _ (by omega)).mono ?_; rintro e w5 ⟨v5, rfl, hv5, hE5⟩; rw [HNB.out] at hv5; have HC5 := Lib.hid (HC4.out.ext_ ((Ext.refl w4).trans hE5)); obtain ⟨A5, c5, rfl, -⟩ := hv5.form; obtain ⟨g5, rfl, -⟩ := hv5.get (k := 0) (by omega); have HV5 := Lib.hid hv5; clear hv5 hE5)
                | (refine step_i32 rfl _ _ (by rfl) w.heap.size _ (out3 ++ [58, 47]) nm ?hown (by rfl) ⟨g5, 0, none⟩ _ _ (by rfl) ?hm ?hm0 ?hc ?hn ?hB ?_; (case hown => exact HC5.out.acs.own); (case hm => rfl); (case hm0 => omega); (case hc => exact SlB.add HV5.out.sl); (case hn => (simp only [List.length_append, List.length_cons, List.length_nil]; omega)); (case hB => exact HC5.out.acs.size); intro gg cap w6 h1 h2; have HC6 := Lib.hid (HC5.out.app h1 h2); clear h1 h2))
              all_goals
                go_wp2_with fail
                go_meet
                have h9 := HC6.out
                have hl9 : (out3 ++ [58, 47]).length + nm.length = ((out3 ++ [58, 47]) ++ nm).length := by rw [List.length_append (bs := nm)]
                rw [hl9] at h9
                exact ⟨_, _, (out3 ++ [58, 47]) ++ nm, by simp; omega, by rw [HB.out]; simp, h9⟩
          · subst h2
            have HB := Lib.hid (show bodyG 2 cs tt te = 58 :: 43 :: tt from rfl)
            go_wp2_with (first
              | (at_builtin; have _t := t1; go_loud (refine app_lit3 rfl _ _ rfl HP6.out [58, 43] rfl wc.heap.size 2 rfl rfl rfl (by decide) ?hn ?_; (case hn => (simp only [List.length_cons, List.length_nil]; omega)); intro v7 w7 h1; generalize hl : out3 ++ [58, 43] = out7 at h1; have HL7 := Lib.hid hl; have hl7 : out7.length ≤ out3.length + 2 := (by rw [← hl, List.length_append]; exact Nat.le_refl _); obtain ⟨A7, c7, rfl, -⟩ := h1.pts.acs.own.form; have HP7 := Lib.hid h1; clear h1 hl; clear t1 _t))
              | (at_builtin; have _t := t2; go_loud (refine app_row3 rfl _ _ rfl HP7.out (.slice Bt tt.length bt) tt HP7.out.tx rfl rfl ?hn ?_; (case hn => omega); intro v8 w8 h1; generalize hl : out7 ++ tt = out8 at h1; have HL8 := Lib.hid hl; have hl8 : out8.length ≤ out7.length + tt.length := (by rw [← hl, List.length_append]; exact Nat.le_refl _); obtain ⟨A8, c8, rfl, -⟩ := h1.pts.acs.own.form; have HP8 := Lib.hid h1; clear h1 hl; clear t2 _t)))
            go_meet
            exact ⟨_, _, out8, rfl, by rw [HB.out, ← HL8.out, ← HL7.out]; simp, HP8.out.pts⟩
          · subst h3
            have HB := Lib.hid (show bodyG 3 cs tt te = 58 :: 45 :: te from rfl)
            go_wp2_with (first
              | (at_builtin; have _t := t1; go_loud (refine app_lit3 rfl _ _ rfl HP6.out [58, 45] rfl wc.heap.size 2 rfl rfl rfl (by decide) ?hn ?_; (case hn => (simp only [List.length_cons, List.length_nil]; omega)); intro v7 w7 h1; generalize hl : out3 ++ [58, 45] = out7 at h1; have HL7 := Lib.hid hl; have hl7 : out7.length ≤ out3.length + 2 := (by rw [← hl, List.length_append]; exact Nat.le_refl _); obtain ⟨A7, c7, rfl, -⟩ := h1.pts.acs.own.form; have HP7 := Lib.hid h1; clear h1 hl; clear t1 _t))
              | (at_builtin; have _t := t2; go_loud (refine app_row3 rfl _ _ rfl HP7.out (.slice Be te.length be) te HP7.out.ex rfl rfl ?hn ?_; (case hn => omega); intro v8 w8 h1; generalize hl : out7 ++ te = out8 at h1; have HL8 := Lib.hid hl; have hl8 : out8.length ≤ out7.length + te.length := (by rw [← hl, List.length_append]; exact Nat.le_refl _); obtain ⟨A8, c8, rfl, -⟩ := h1.pts.acs.own.form; have HP8 := Lib.hid h1; clear h1 hl; clear t2 _t)))
            go_meet
            exact ⟨_, _, out8, rfl, by rw [HB.out, ← HL8.out, ← HL7.out]; simp, HP8.out.pts⟩
          · subst h4
            have HB := Lib.hid (show bodyG 4 cs tt te = 58 :: 63 :: (tt ++ 58 :: te) from rfl)
            go_wp2_with (first
              | (at_builtin; have _t := t1; go_loud (refine app_lit3 rfl _ _ rfl HP6.out [58, 63] rfl wc.heap.size 2 rfl rfl rfl (by decide) ?hn ?_; (case hn => (simp only [List.length_cons, List.length_nil]; omega)); intro v7 w7 h1; generalize hl : out3 ++ [58, 63] = out7 at h1; have HL7 := Lib.hid hl; have hl7 : out7.length ≤ out3.length + 2 := (by rw [← hl, List.length_append]; exact Nat.le_refl _); obtain ⟨A7, c7, rfl, -⟩ := h1.pts.acs.own.form; have HP7 := Lib.hid h1; clear h1 hl; clear t1 _t))
              | (at_builtin; have _t := t2; go_loud (refine app_row3 rfl _ _ rfl HP7.out (.slice Bt tt.length bt) tt HP7.out.tx rfl rfl ?hn ?_; (case hn => omega); intro v8 w8 h1; generalize hl : out7 ++ tt = out8 at h1; have HL8 := Lib.hid hl; have hl8 : out8.length ≤ out7.length + tt.length := (by rw [← hl, List.length_append]; exact Nat.le_refl _); obtain ⟨A8, c8, rfl, -⟩ := h1.pts.acs.own.form; have HP8 := Lib.hid h1; clear h1 hl; clear t2 _t))
              | (at_builtin; have _t := t3; go_loud (refine app_lit3 rfl _ _ rfl HP8.out [58] rfl w8.heap.size 1 rfl rfl rfl (by decide) ?hn ?_; (case hn => (simp only [List.length_cons, List.length_nil]; omega)); intro v9 w9 h1; generalize hl : out8 ++ [58] = out9 at h1; have HL9 := Lib.hid hl; have hl9 : out9.length ≤ out8.length + 1 := (by rw [← hl, List.length_append]; exact Nat.le_refl _); obtain ⟨A9, c9, rfl, -⟩ := h1.pts.acs.own.form; have HP9 := Lib.hid h1; clear h1 hl; clear t3 _t))
              | (at_builtin; have _t := t4; go_loud (refine app_row3 rfl _ _ rfl HP9.out (.slice Be te.length be) te HP9.out.ex rfl rfl ?hn ?_; (case hn => omega); intro v10 w10 h1; generalize hl : out9 ++ te = out10 at h1; have HL10 := Lib.hid hl; have hl10 : out10.length ≤ out9.length + te.length := (by rw [← hl, List.length_append]; exact Nat.le_refl _); obtain ⟨A10, c10, rfl, -⟩ := h1.pts.acs.own.form; have HP10 := Lib.hid h1; clear h1 hl; clear t4 _t)))
            go_meet
            exact ⟨_, _, out10, rfl, by rw [HB.out, ← HL10.out, ← HL9.out, ← HL8.out, ← HL7.out]; simp, HP10.out.pts⟩
        case rest =>
          obtain ⟨A9, c9, out9, rfl, ho9, h9⟩ := hcut
          have HC9 := Lib.hid h9
          have hl9 : out9.length ≤ acc.length + 2 * tx.length + 2 * es.length + 20 := by
            rw [ho9, List.length_append]
            have : (bodyG kd cs tt te).length ≤ tt.length + te.length + 13 := by
              have hnl := FM.names_le (cs.toNat - 1)
              unfold bodyG
              split
              · split
                · simp
                · simp only [List.length_cons]; omega
              split
              · simp only [List.length_cons]; omega
              split
              · simp only [List.length_cons]; omega
              split
              · simp only [List.length_cons, List.length_append]; omega
              · simp
            omega
          have HO9 := Lib.hid ho9
          clear ho9 h9
          go_wp2_with (at_builtin; go_loud (refine app_i32 rfl _ _ rfl w.heap.size _ out9 [125] HC9.out.acs.own.allocs rfl ⟨wc.heap.size, 0, none⟩ 1 1 rfl rfl (one_cells rfl) ?hn ?hB ?_; (case hn => (simp only [List.length_cons, List.length_nil]; omega)); (case hB => exact Nat.le_trans HC9.out.acs.size (by simp)); intro v8 w8 h1 h2; generalize hl : out9 ++ [125] = out10 at h1; have HL := Lib.hid hl; have HC10 := Lib.hid ((HC9.out.ext_ ((Ext.refl _).alloc _)).app h1 h2); obtain ⟨A10, c10, rfl, -⟩ := h1.form; clear h1 h2 hl))
          go_roundw
          case rel => exact ⟨k + 1, by omega, by go_num, by rw [HPT.out, HP.out, HBODY.out, show acc ++ (PreP (G : Int) ++ (bodyG kd cs tt te ++ [125])) = out10 by rw [← HL.out, HO9.out, ← HO3.out]; simp]; exact HC10.out.acs⟩
          case measure => simp [intOf]; omega
end Go.Proofs.YtfblkahjefdmaaaDoor
