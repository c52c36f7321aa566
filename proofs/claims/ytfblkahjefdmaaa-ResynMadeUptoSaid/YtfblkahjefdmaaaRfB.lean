/- Walks: nodes put lower; has, digit, set of the document's own reader. -/
import Derived.Test.YtfblkahjefdmaaaRfA
namespace Go.Proofs.Ytfblkahjefdmaaa
open Go.RowKit

theorem grown_cell {w w' : World} {row : Option Nat} (h : w.grownBy w' row) {a : Addr} {v : Value} (hc : w.cell? a = some v) (hne : row ≠ some a.block) : w'.cell? a = some v := World.grownBy.cell h hc (fun e => hne e.symm)
set_option maxRecDepth 100000 in
set_option maxHeartbeats 2000000 in
theorem qlower_any (B base b2 : Nat) (l more : List RX.ReN) (vl vm : Value) (w : World) (hl : OwnRe B base w vl l) (hm : SlRe B b2 w vm more) (hne : 0 < l.length) (hdis : ∀ g o n c, vm = .slice (some ⟨g, o, none⟩) n c → vl.ownBlock ≠ some g) (hb : base ≤ w.heap.size)
    (hn : l.length + more.length ≤ 100000) (hd : ∀ x ∈ more, 0 ≤ x.deep ∧ x.deep ≤ 1000) :
    Calls Try.prog 117 #[vl, vm] w (fun e w' => ∃ v', e = .returned v' ∧ OwnRe B base w' v' (l ++ more.map RX.ReN.down) ∧ w.grownBy w' vl.ownBlock) := by
  have HL := Lib.hid hl
  have HM := Lib.hid hm
  have HD := Lib.hid hd
  have HDIS := Lib.hid hdis
  have HTY := Lib.hid hl.type
  have HLT := Lib.hid hl.lt
  obtain ⟨Am, cm, rfl, hlm, hcm⟩ := hm.form
  obtain ⟨Al, cl, rfl, hll, hcl⟩ := hl.form
  obtain ⟨ob, hob⟩ : ∃ ob, (Value.slice Al l.length cl).ownBlock = ob := ⟨_, rfl⟩
  have HOB := Lib.hid hob
  have HLN := Lib.hid (And.intro hne hn)
  clear hl hm hd hdis hob hne hn
  go_enter Try.func117, Try.ntmps117
  go_wp2_with fail
  go_loopw [0, 5] (fun v i wr => ∃ q : Nat, q ≤ more.length ∧ i = .int .i64 (q : Int) ∧ OwnRe B base wr v (l ++ (more.take q).map RX.ReN.down) ∧ w.grownBy wr ob ∧ (v.ownBlock = ob ∨ ∃ g, v.ownBlock = some g ∧ w.heap.size ≤ g)) (fun _ i _ => more.length - (intOf i).toNat)
  case atStart => exact ⟨0, Nat.zero_le _, rfl, by rw [List.take_zero]; simpa using HL.out, World.grownBy.refl _ _, .inl HOB.out⟩
  case round =>
    obtain ⟨q, hq, rfl, hown, hgr, hfr⟩ := hrel
    by_cases hlt : q < more.length
    rotate_left
    · have hdd : decide ((q : Int) < (more.length : Int)) = false := by simp; omega
      rw [List.take_of_length_le (by omega)] at hown
      have HO := Lib.hid hown
      have HG := Lib.hid hgr
      clear hown hgr hfr
      go_wp2_with fail
      go_ret
      exact ⟨_, rfl, HO.out, by rw [HOB.out]; exact HG.out⟩
    have hdd : decide ((q : Int) < (more.length : Int)) = true := by simp; omega
    have hqi : (q : Int) < (more.length : Int) := by omega
    obtain ⟨g, o, cs, rfl, hcr0, hcell0⟩ := HM.out.at_ hlt
    have hgne : ob ≠ some g := by rw [← HOB.out]; exact HDIS.out g o _ _ rfl
    have hkt : KeepT [21] w wr := KeepT.of_grown hgr (fun g' hg' => by
      obtain ⟨cur, hc⟩ := HTY.out g' (by rw [HOB.out]; exact hg')
      exact ⟨cur, _, hc, by decide⟩)
    have hcr := keeps_re B _ _ _ _ hkt hcr0
    have hcell := fun i u hu => grown_cell hgr (hcell0 i u hu) (by exact hgne)
    have HSn := Lib.hid (take_map_snoc l more q hlt)
    have hdp := HD.out more[q] (List.getElem_mem hlt)
    generalize more[q] = x at hcr HSn hdp
    have hln : (l ++ (more.take q).map RX.ReN.down).length ≤ 1000000 := by
      have := HLN.out.2
      rw [List.length_append, List.length_map, List.length_take]; omega
    have hlp : 0 < (l ++ (more.take q).map RX.ReN.down).length := by
      have := HLN.out.1
      rw [List.length_append]; omega
    generalize l ++ (more.take q).map RX.ReN.down = acc at HSn hown hln hlp
    obtain ⟨acc', hac⟩ : ∃ a, a = l ++ (more.take (q + 1)).map RX.ReN.down := ⟨_, rfl⟩
    rw [← hac] at HSn
    have HAC := Lib.hid hac
    obtain ⟨Ax, cx, rfl⟩ := hcr.cells
    have c0 := hcell 0 _ rfl
    have c1 := hcell 1 _ rfl
    have c2 := hcell 2 _ rfl
    have c3 := hcell 3 _ rfl
    have c4 := hcell 4 _ rfl
    have c5 := hcell 5 _ rfl
    have c6 := hcell 6 _ rfl
    rw [Nat.add_zero] at c0
    obtain ⟨hd0, hd1⟩ := hdp
    have hy := hcr.down
    have hx1 := (Ext.refl wr).alloc (.cells #[.int .i64 x.kind, .int .i64 (x.deep + 1), .int .i64 x.lo, .int .i64 x.hi, .bool x.lazy, .bool x.neg, .slice Ax x.set.length cx] 40)
    have hown2 := hown.keepT (keeps_re B) (KeepT.of_ext hx1) (KeepT.of_ext hx1)
    have hy2 := keeps_re B _ _ _ _ (KeepT.of_ext hx1) hy
    have HY := Lib.hid hy2
    have HOW := Lib.hid hown2
    have HG := Lib.hid hgr
    have HFR := Lib.hid hfr
    have HLT2 := Lib.hid hown.lt
    have hsz : w.heap.size ≤ wr.heap.size := hgr.size
    have hcl2 := World.block_lt_of_cell? _ _ c0
    clear hcr hcr0 hcell hcell0 hown hgr hy hy2 hown2 hac hx1 hfr hkt hgne
    go_wp2_with (at_builtin; go_loud (refine app_oneF Try.underlying33 info_re rfl (by decide) (by decide) (keeps_re B) (by decide) rfl _ _ rfl base _ acc x.down _ _ HOW.out hlp HY.out rfl HY.out.one rfl _ rfl (by simp) hln (Nat.le_trans hb (by simp; omega)) ?_))
    intro v' w' h1 h2 h3
    have hgr2 : w.grownBy w' ob := by
      have h5 := h2
      refine ⟨h5.os.trans HG.out.os, h5.tape.trans HG.out.tape, h5.output.trans HG.out.output, Nat.le_trans hsz (Nat.le_trans (by simp; omega) h5.size), fun i hi hio => ?_⟩
      have h6 := HG.out.block i hi hio
      refine (h5.block i (by simp; omega) ?_).trans ?_
      · intro e
        rcases HFR.out with h7 | ⟨g7, h7, h8⟩
        · rw [h7] at e; exact hio e
        · rw [h7] at e; injection e with e; omega
      · exact (((Ext.refl wr).alloc _).alloc _ |> fun hE => Below.block hE i (by omega)).trans h6
    have hfr2 : v'.ownBlock = ob ∨ ∃ g, v'.ownBlock = some g ∧ w.heap.size ≤ g := by
      rcases h3 with h3 | h3
      · rw [h3]; exact HFR.out
      · exact .inr ⟨_, h3, by first | omega | (simp; omega)⟩
    rw [← HSn.out] at h1
    have HX := Lib.hid (And.intro h1 (And.intro hgr2 hfr2))
    clear h1 h2 h3 hgr2 hfr2
    go_wp2_with fail
    go_roundw
    case rel => exact ⟨q + 1, by omega, by go_num, by rw [← HAC.out]; exact HX.out.1, HX.out.2.1, HX.out.2.2⟩
    case measure => simp [intOf]; omega
theorem signs_getQ {b : ByteArray} {k : Nat} (h : k < b.size) : (signs b)[k]? = some (b[k].toNat : Int) := by
  have h2 : k < (signs b).length := by rw [signs_len]; exact h
  rw [List.getElem?_eq_getElem h2]
  simp [signs]; rfl
set_option maxHeartbeats 1000000 in
theorem hasB_any (bs : ByteArray) (c : Int) (w : World) (hs : bs.size ≤ 1000) : Calls Try.prog 75 #[.string bs, .int .i32 c] w (fun e w' => e = .returned (.bool (decide (c ∈ signs bs))) ∧ w = w') := by
  go_enter Try.func75, Try.ntmps75
  go_wp2_with fail
  go_loop [5] (fun i => ∃ k : Nat, k ≤ bs.size ∧ i = .int .i64 k ∧ ∀ j, j < k → (signs bs)[j]? ≠ some c) (fun i => bs.size - (intOf i).toNat)
  case atStart => exact ⟨0, Nat.zero_le _, rfl, by intro j hj; omega⟩
  case round =>
    obtain ⟨k, hk, rfl, hpre⟩ := hrel
    have HP := Lib.hid hpre
    clear hpre
    by_cases hlt : k < bs.size
    · have hg := signs_getQ hlt
      have hw := wrap_byte bs[k]
      by_cases he : (bs[k].toNat : Int) = c
      · have hb : (wrap32 (bs[k].toNat : Int) == c) = true := by rw [hw, he]; simp
        have hb2 : ((bs[k].toNat : Int) == c) = true := by rw [he]; simp
        have HM := Lib.hid (show decide (c ∈ signs bs) = true from decide_eq_true (List.mem_of_getElem? (by rw [hg, he])))
        clear he hg hw
        go_wp2_with fail
        go_ret
        exact ⟨by rw [HM.out]; rfl, rfl⟩
      · have hb : (wrap32 (bs[k].toNat : Int) == c) = false := by rw [hw]; simpa using he
        have hb2 : ((bs[k].toNat : Int) == c) = false := by simpa using he
        have HE := Lib.hid (show ∀ j, j < k + 1 → (signs bs)[j]? ≠ some c by
          intro j hj
          rcases Nat.lt_succ_iff_lt_or_eq.1 hj with h | rfl
          · exact HP.out j h
          · rw [hg]; intro e; injection e with e; exact he e)
        clear he hg hw
        go_wp2_with fail
        go_round
        case rel => exact ⟨k + 1, by omega, by go_num, HE.out⟩
        case measure => simp [intOf]; omega
    · have HM := Lib.hid (show decide (c ∈ signs bs) = false from decide_eq_false (by
        intro hm
        obtain ⟨j, hj, e⟩ := List.mem_iff_getElem.1 hm
        exact HP.out j (by rw [signs_len] at hj; omega) (by rw [List.getElem?_eq_getElem hj, e])))
      go_wp2_with fail
      go_ret
      exact ⟨by rw [HM.out]; rfl, rfl⟩
theorem hasq_any (r : Int) (w : World) : Calls Try.prog 75 #[.string { data := #[42, 43, 63, 123] }, .int .i32 r] w (RetE (.bool (decide (r = 42 ∨ r = 43 ∨ r = 63 ∨ r = 123))) w) := by
  refine (hasB_any ⟨#[42, 43, 63, 123]⟩ r w (by decide)).mono ?_
  rintro e w' ⟨rfl, rfl⟩
  refine ⟨ret_congr ?_, Ext.refl _⟩
  have e : signs ⟨#[42, 43, 63, 123]⟩ = [42, 43, 63, 123] := by decide
  rw [e]
  simp
end Go.Proofs.Ytfblkahjefdmaaa
