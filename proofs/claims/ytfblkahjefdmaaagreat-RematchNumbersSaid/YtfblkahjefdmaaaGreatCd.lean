/- Walk: choices of the document's own programs. -/
import Derived.Test.YtfblkahjefdmaaaGreatCc
import Derived.Test.YtfblkahjefdmaaaGreatCb
import Derived.Deep.RegionWith
namespace Go.Proofs.YtfblkahjefdmaaaGreat
open Go.RowKit

/-- The document's code of a tree that sits in a row. -/
abbrev CodedAt (n : Nat) (e : Int) (t : List RX.ReN) : Prop := ∀ (B : Nat) (L : List RX.ReN) (v : Value) (w : World) (i : Nat), SlRe B B w v L → L.length ≤ 1000000 → PG.Sits L i e t → PG.smallT n t = true → Calls Tryz.prog 40 #[v, .int .i64 i] w (JR B (PG.iTree n t) w)
namespace PG
theorem sz_small {e : Int} {t : List RX.ReN} (h : Tree e t) {n : Nat} (hl : t.length ≤ n) (hs : lenT n t ≤ 50000) : szT n t = (lenT n t : Nat) := by
  have h1 := sz_cl h n hl
  have := h1.1
  have := h1.2
  omega
theorem small_len {n : Nat} {t : List RX.ReN} (h : smallT n t = true) (hp : 0 < t.length) (hn : 0 < n) : (iTree n t).length ≤ 50000 := by
  rw [iTree_len]
  obtain ⟨n, rfl⟩ : ∃ m, n = m + 1 := ⟨n - 1, by omega⟩
  cases t with
  | nil => simp at hp
  | cons x r =>
    rw [smallT, Bool.and_eq_true] at h
    exact of_decide_eq_true h.1
theorem chL_one (all : Int) (out c : List Inst) : chL all out [c] = out ++ c.map (moved out.length) := rfl
theorem chL_two (all : Int) (out c : List Inst) (cs : List (List Inst)) (h : cs ≠ []) : chL all out (c :: cs) = chL all (out ++ [⟨4, out.length + 1, out.length + c.length + 2, false, []⟩] ++ c.map (moved (out.length + 1 : Nat)) ++ [⟨5, all, 0, false, []⟩]) cs := by
  cases cs with
  | nil => exact absurd rfl h
  | cons d cs => rfl
theorem either_two (c : List Inst) (cs : List (List Inst)) (h : cs ≠ []) : (iEither (c :: cs)).length = c.length + (iEither cs).length + 2 := by
  cases cs with
  | nil => exact absurd rfl h
  | cons d cs => rw [iEither_len, iEither_len]; simp [nsum]; omega
end PG
set_option maxRecDepth 100000 in
set_option maxHeartbeats 1000000 in
theorem rchoices_step {n : Nat} {e : Int} {x : RX.ReN} {ks : List (List RX.ReN)} (hd : x.deep = e) (hn : PG.NOk x ks) (hk1 : x.kind = 1) (hks : ∀ k ∈ ks, PG.Tree (e + 1) k) (ih : ∀ k ∈ ks, CodedAt n (e + 1) k) (hln : ks.flatten.length ≤ n)
    (B : Nat) (L : List RX.ReN) (v : Value) (w : World) (i : Nat) (hs : SlRe B B w v L) (hl : L.length ≤ 1000000) (hp : PG.Sits L i e (x :: ks.flatten)) (hsm : PG.smallT (n + 1) (x :: ks.flatten) = true) :
    Calls Tryz.prog 60 #[v, .int .i64 i] w (JR B (PG.iTree (n + 1) (x :: ks.flatten)) w) := by
  have htree := PG.Tree.mk e x ks hd hn hks
  have hle := hp.le htree.pos
  obtain ⟨hsm1, hsm2⟩ := PG.smallT_mk hks hsm
  obtain ⟨cs, hcs⟩ : ∃ cs, ks.map (PG.iTree n) = cs := ⟨_, rfl⟩
  have hcl : cs.length = ks.length := by rw [← hcs, List.length_map]
  have HRE := Lib.hid (show PG.iTree (n + 1) (x :: ks.flatten) = PG.iEither cs by rw [PG.iTree_mk hks, hcs]; unfold PG.iNode; rw [if_neg (by omega), if_pos hk1])
  rw [HRE.out]
  obtain ⟨all, hall⟩ : ∃ all, PG.lenT (n + 1) (x :: ks.flatten) = all := ⟨_, rfl⟩
  have HAL := Lib.hid (show (PG.iEither cs).length = all by rw [← HRE.out, PG.iTree_len, hall])
  rw [hall] at hsm1
  have hiL : i < L.length := by have := htree.pos; omega
  obtain ⟨A, c, rfl, hlc, hcc⟩ := hs.form
  have HS := Lib.hid hs
  have hszl : (x :: ks.flatten).length ≤ n + 1 := by have h2 : (x :: ks.flatten).length = ks.flatten.length + 1 := List.length_cons; omega
  have HSZ := Lib.hid (show Calls Tryz.prog 38 #[.slice A L.length c, .int .i64 i] w (Ret (.int .i64 (all : Nat)) w) from by
    have := rsize_tree htree (n + 1) hszl B L _ w i hs hl hp
    rw [PG.sz_small htree hszl (by rw [hall]; exact hsm1), hall] at this
    exact this)
  have HEND := Lib.hid (fun w' (h : SlRe B B w' (.slice A L.length c) L) => rend_any htree L _ w' i h (by omega) hp)
  have HKE := Lib.hid (fun j (hj : j < ks.length) w' (h : SlRe B B w' (.slice A L.length c) L) => rend_any (hks _ (List.getElem_mem hj)) L _ w' _ h (by omega) (hp.kid hks hj))
  have HKS := Lib.hid (fun j (hj : j < ks.length) w' (h : SlRe B B w' (.slice A L.length c) L) => ih _ (List.getElem_mem hj) B L _ w' _ h hl (hp.kid hks hj) (hsm2 _ (List.getElem_mem hj)))
  have HKL := Lib.hid (fun j (hj : j < ks.length) => PG.small_len (hsm2 _ (List.getElem_mem hj)) (hks _ (List.getElem_mem hj)).pos (Nat.lt_of_lt_of_le (hks _ (List.getElem_mem hj)).pos (Nat.le_trans (PG.flat_len_le (List.getElem_mem hj)) hln)))
  have HCD := Lib.hid (fun j (hj : j < ks.length) => show cs.drop j = PG.iTree n ks[j] :: cs.drop (j + 1) by rw [List.drop_eq_getElem_cons (by omega)]; subst hcs; rw [List.getElem_map])
  have HPS := Lib.hid (fun j (hj : j < ks.length) => (PG.kpos_succ (i := i) hj).symm)
  have HPL := Lib.hid (fun j (hj : j < ks.length) => PG.kpos_lt (i := i) (x := x) hj (fun k hk => (hks k hk).pos))
  have HPP := Lib.hid (fun j (hj : j < ks.length) => (hks _ (List.getElem_mem hj)).pos)
  have HPA := Lib.hid (PG.kpos_all i x ks)
  obtain ⟨T, hT⟩ : ∃ T, i + (x :: ks.flatten).length = T := ⟨_, rfl⟩
  rw [hT] at HEND HPL HPA hle
  obtain ⟨RES, hRES⟩ : ∃ RES, PG.iEither cs = RES := ⟨_, rfl⟩
  have HCE := Lib.hid (show PG.chL (all : Int) [] cs = RES by rw [PG.chL_eq _ cs [] (by rw [HAL.out]; simp), hRES]; simp only [List.nil_append, List.length_nil]; rw [show ((0 : Nat) : Int) = 0 from rfl, PG.map_zero])
  rw [hRES]
  clear hs hp htree hT ih hRES hsm hsm2 hcs hall hszl HRE
  go_enter Tryz.func60, Tryz.ntmps60
  go_upto_region 4 with (go_at_call 38; go_loud (refine HSZ.out.mono ?_; rintro e w1 ⟨rfl, hx1⟩; have HX0 := Lib.hid hx1; clear hx1))
  have HS1 := Lib.hid (SlB.keep HS.out (keeps_re _) (KeepT.of_ext HX0.out) (KeepT.of_ext HX0.out))
  clear HSZ HS
  go_loopw [6, 7] (fun v6 k wr => ∃ (j : Nat) (out : List PG.Inst), j ≤ ks.length ∧ k = .int .i64 (PG.kpos i ks j : Nat) ∧ out.length + (PG.iEither (cs.drop j)).length = all ∧ PG.chL (all : Int) out (cs.drop j) = RES ∧ Ly B w1 wr v6 out) (fun _ k _ => L.length - (intOf k).toNat)
  case atStart => exact ⟨0, [], Nat.zero_le _, by rw [PG.kpos_zero]; go_num, by rw [List.drop_zero, HAL.out]; simp, HCE.out, Ly.nil_⟩
  case round =>
    obtain ⟨j, out, hj, rfl, hol, hrp, hly⟩ := hrel
    have HL := Lib.hid hly
    have HRP := Lib.hid hrp
    have HOL := Lib.hid hol
    have hol2 : out.length ≤ 50000 := by omega
    have HSW := Lib.hid (SlB.keep HS1.out (keeps_re _) (KeepT.of_ext hly.ext) (KeepT.of_ext hly.ext))
    obtain ⟨A6, c6, rfl, -⟩ := hly.own.form
    obtain ⟨k, hk⟩ : ∃ k, PG.kpos i ks j = k := ⟨_, rfl⟩
    rw [hk]
    clear hly hrp hol
    by_cases hlt : j < ks.length
    · have hkT : k < T := by rw [← hk]; exact HPL.out j hlt
      have d1 : decide ((k : Int) < (T : Int)) = true := by simp; omega
      have HKE1 := Lib.hid (HKE.out j hlt)
      have HKS1 := Lib.hid (HKS.out j hlt)
      have HPS1 := Lib.hid (HPS.out j hlt)
      have hcml := HKL.out j hlt
      have HTB := Lib.hid ((PG.tb_tree n ks[j]).mono (show (PG.iTree n ks[j]).length ≤ 1000000 by omega))
      have hkl := HPP.out j hlt
      have HCD1 := Lib.hid (HCD.out j hlt)
      rw [hk] at HKE1 HKS1 HPS1
      rw [HPS1.out] at HKE1
      obtain ⟨kn, hkn⟩ : ∃ kn, PG.kpos i ks (j + 1) = kn := ⟨_, rfl⟩
      have hkk : k < kn := by have := HPS1.out; omega
      have HKN := Lib.hid hkn
      rw [hkn] at HKE1
      generalize PG.iTree n ks[j] = cd at HKS1 hcml HTB HCD1
      have HRP1 := HRP.out
      have HOL1 := HOL.out
      rw [HCD1.out] at HRP1 HOL1
      have HRP2 := Lib.hid HRP1
      have HOL2 := Lib.hid HOL1
      clear hk hkn HRP1 HOL1 hkl
      go_upto_region 6 with (go_at_call 59; go_loud (refine (HEND.out _ HSW.out).mono ?_; rintro e w1e ⟨rfl, hd1e⟩; have HE1e := Lib.hid (show Ext wr w1e by obtain ⟨m, rfl⟩ := hd1e; exact (Ext.refl _).drewN m); clear hd1e; have HSW1 := Lib.hid (SlB.keep HSW.out (keeps_re _) (KeepT.of_ext HE1e.out) (KeepT.of_ext HE1e.out))))
      go_upto_region 7 with (first
        | (go_at_call 59; go_loud (refine (HEND.out _ HSW2.out).mono ?_; rintro e w3 ⟨rfl, hd3⟩; have HE3 := Lib.hid (show Ext w2 w3 by obtain ⟨m, rfl⟩ := hd3; exact (Ext.refl _).drewN m); clear hd3; have HSW3 := Lib.hid (SlB.keep HSW2.out (keeps_re _) (KeepT.of_ext HE3.out) (KeepT.of_ext HE3.out))))
        | (go_at_call 59; go_loud (refine (HKE1.out _ HSW1.out).mono ?_; rintro e w2 ⟨rfl, hd2⟩; have HE2 := Lib.hid (show Ext w1e w2 by obtain ⟨m, rfl⟩ := hd2; exact (Ext.refl _).drewN m); clear hd2; have HSW2 := Lib.hid (SlB.keep HSW1.out (keeps_re _) (KeepT.of_ext HE2.out) (KeepT.of_ext HE2.out)))))
      go_upto_region 8 with (go_at_call 40; go_loud (refine (HKS1.out _ HSW3.out).mono ?_; rintro e w7 ⟨hx7, A7, c7, rfl, hs7⟩; have HS7 := Lib.hid hs7; have HX7 := Lib.hid (HE1e.out.trans (HE2.out.trans (HE3.out.trans hx7))); have HL7 := Lib.hid (Ly.ext_ HL.out HX7.out); clear hs7 hx7))
      have HOB := Lib.hid (show ∀ b, (Value.slice A6 out.length c6).ownBlock = some b → b < w3.heap.size from fun b hb => Nat.lt_of_lt_of_le (HL.out.own.lt b hb).2 (Nat.le_trans HE1e.out.size (Nat.le_trans HE2.out.size HE3.out.size)))
      by_cases hlast : j + 1 < ks.length
      · have hknT : kn < T := by rw [← HKN.out]; exact HPL.out _ hlast
        have d2 : decide ((T : Int) ≤ (kn : Int)) = false := by simp; omega
        have d3 : decide (T ≤ kn) = false := by simp; omega
        have hne : cs.drop (j + 1) ≠ [] := by intro h; have := congrArg List.length h; rw [List.length_drop] at this; simp at this; omega
        have HRP3 := HRP2.out
        have HOL3 := HOL2.out
        rw [PG.chL_two _ _ _ _ hne] at HRP3
        rw [PG.either_two _ _ hne] at HOL3
        have hsum : out.length + cd.length + 2 ≤ 50000 := by omega
        have HRP4 := Lib.hid HRP3
        have HOL4 := Lib.hid HOL3
        clear HRP3 HOL3 hne
        go_upto_region 10 with (at_builtin; go_loud (refine app_one Tryz.underlying45 info_inst rfl (by decide) (by decide) (keeps_icw B) (by simp) rfl _ _ rfl w1.heap.size _ out ⟨4, out.length + 1, out.length + cd.length + 2, false, []⟩ [.int .i64 4, .int .i64 ((out.length : Int) + 1), .int .i64 ((out.length : Int) + cd.length + 2), .bool false, .slice none 0 0] 72 HL7.out.own ⟨_, rfl, SlB.nil_⟩ rfl (by simp [Value.oneCell']) rfl _ rfl (by simp) (by omega) HL7.out.size ?_; intro v3 w3 h1 h2; obtain ⟨o3, ho3⟩ : ∃ z, out ++ [⟨4, out.length + 1, out.length + cd.length + 2, false, []⟩] = z := ⟨_, rfl⟩; rw [ho3] at h1; obtain ⟨A3, c3, rfl, -⟩ := h1.form; have HL3 := Lib.hid (Ly.app (Ly.ext_ HL7.out ((Ext.refl _).alloc _)) h1 h2); have HH3 := Lib.hid h2; have hl3 : o3.length ≤ out.length + 1 := (by rw [← ho3]; simp); have HO3 := Lib.hid ho3; clear h1 h2 ho3))
        have HS8 := Lib.hid (Ly.keep (Ly.ext_ HL7.out ((Ext.refl _).alloc _)) HH3.out (SlB.keep HS7.out (keeps_icw B) (KeepT.of_ext ((Ext.refl _).alloc _)) (KeepT.of_ext ((Ext.refl _).alloc _))) HOB.out)
        obtain ⟨cm, hcm⟩ : ∃ cm, cd.map (PG.moved (o3.length : Int)) = cm := ⟨_, rfl⟩
        have hcmm : cm.length ≤ 50000 := by rw [← hcm, List.length_map]; exact hcml
        have HSS := Lib.hid (rshift_any cd _ _ (o3.length : Int) HS8.out (by omega) (by omega) (by omega) HTB.out)
        rw [hcm] at HSS
        have HCM := Lib.hid hcm
        clear hcm
        go_upto_region 12 with (first
          | (go_at_call 39; go_loud (refine (HSS.out).mono ?_; rintro e w4 ⟨hx4, A4, c4, rfl, hs4⟩; have HS4 := Lib.hid hs4; have HX4 := Lib.hid hx4; clear hs4 hx4))
          | (at_builtin; go_loud (refine app_rows Tryz.underlying45 info_inst rfl (by decide) (by decide) (keeps_icw B) (by decide) icw_one rfl _ _ rfl w1.heap.size _ _ _ o3 cm (Ly.ext_ HL3.out HX4.out).own HS4.out rfl rfl (by omega) (Ly.ext_ HL3.out HX4.out).size ?_; intro v5 w5 h1 h2; obtain ⟨o5, ho5⟩ : ∃ z, o3 ++ cm = z := ⟨_, rfl⟩; rw [ho5] at h1; obtain ⟨A5, c5, rfl, -⟩ := h1.form; have HL5 := Lib.hid (Ly.app (Ly.ext_ HL3.out HX4.out) h1 h2); have hl5 : o5.length ≤ o3.length + cm.length := (by rw [← ho5]; simp); have HO5 := Lib.hid ho5; clear h1 h2 ho5)))
        have HSW8 := Lib.hid (SlB.keep HS1.out (keeps_re _) (KeepT.of_ext HL5.out.ext) (KeepT.of_ext HL5.out.ext))
        go_upto_region 5 with (at_builtin; go_loud (refine app_one Tryz.underlying45 info_inst rfl (by decide) (by decide) (keeps_icw B) (by simp) rfl _ _ rfl w1.heap.size _ o5 ⟨5, all, 0, false, []⟩ [.int .i64 5, .int .i64 all, .int .i64 0, .bool false, .slice none 0 0] 72 HL5.out.own ⟨_, rfl, SlB.nil_⟩ rfl (by simp [Value.oneCell']) rfl _ rfl (by simp) (by omega) HL5.out.size ?_; intro v6 w6 h1 h2; obtain ⟨o6, ho6⟩ : ∃ z, o5 ++ [⟨5, all, 0, false, []⟩] = z := ⟨_, rfl⟩; rw [ho6] at h1; obtain ⟨A6, c6, rfl, -⟩ := h1.form; have HL6 := Lib.hid (Ly.app (Ly.ext_ HL5.out ((Ext.refl _).alloc _)) h1 h2); have HH6 := Lib.hid h2; have hl6 : o6.length ≤ o5.length + 1 := (by rw [← ho6]; simp); have HO6 := Lib.hid ho6; clear h1 h2 ho6))
        have HSW9 := Lib.hid (SlB.keep HS1.out (keeps_re _) (KeepT.of_ext HL6.out.ext) (KeepT.of_ext HL6.out.ext))
        go_wp2_with (go_at_call 59; go_loud (refine (HKE1.out _ HSW9.out).mono ?_; rintro e w9 ⟨rfl, hd9⟩; have HE9 := Lib.hid (show Ext _ w9 by obtain ⟨m, rfl⟩ := hd9; exact (Ext.refl _).drewN m); clear hd9))
        go_roundw
        case rel =>
          have h3 : o3.length = out.length + 1 := by rw [← HO3.out]; simp
          have h5 : o6 = out ++ [⟨4, out.length + 1, out.length + cd.length + 2, false, []⟩] ++ cd.map (PG.moved (out.length + 1 : Nat)) ++ [⟨5, all, 0, false, []⟩] := by rw [← HO6.out, ← HO5.out, ← HCM.out, h3, HO3.out]
          have h6 : o6.length = out.length + cd.length + 2 := by rw [h5]; simp; omega
          exact ⟨j + 1, o6, by omega, by rw [HKN.out], by rw [h6]; have := HOL4.out; omega, by rw [h5]; exact HRP4.out, Ly.ext_ HL6.out HE9.out⟩
        case measure => simp [intOf]; omega
      · have hjm : j + 1 = ks.length := by omega
        have hknT : kn = T := by rw [← HKN.out, hjm]; exact HPA.out
        subst hknT
        have hne : cs.drop (j + 1) = [] := List.drop_eq_nil_of_le (by omega)
        have HRP3 := HRP2.out
        rw [hne, PG.chL_one] at HRP3
        obtain ⟨cm, hcm⟩ : ∃ cm, cd.map (PG.moved (out.length : Int)) = cm := ⟨_, rfl⟩
        have hcmm : cm.length ≤ 50000 := by rw [← hcm, List.length_map]; exact hcml
        have HSS := Lib.hid (rshift_any cd _ _ (out.length : Int) HS7.out (by omega) (by omega) (by omega) HTB.out)
        rw [hcm] at HSS HRP3
        have HRP4 := Lib.hid HRP3
        have HNE := Lib.hid hne
        have HCML := Lib.hid (show cm.length = cd.length by rw [← hcm, List.length_map])
        have HOL3 := HOL2.out
        rw [hne] at HOL3
        have HOL4 := Lib.hid (show out.length + cd.length = all from HOL3)
        have HJM := Lib.hid hjm
        clear hcm hne HRP3 HOL3 hjm
        go_upto_region 5 with (first
          | (go_at_call 39; go_loud (refine (HSS.out).mono ?_; rintro e w4 ⟨hx4, A4, c4, rfl, hs4⟩; have HS4 := Lib.hid hs4; have HX4 := Lib.hid hx4; clear hs4 hx4))
          | (at_builtin; go_loud (refine app_rows Tryz.underlying45 info_inst rfl (by decide) (by decide) (keeps_icw B) (by decide) icw_one rfl _ _ rfl w1.heap.size _ _ _ out cm (Ly.ext_ HL7.out HX4.out).own HS4.out rfl rfl (by omega) (Ly.ext_ HL7.out HX4.out).size ?_; intro v5 w5 h1 h2; obtain ⟨o5, ho5⟩ : ∃ z, out ++ cm = z := ⟨_, rfl⟩; rw [ho5] at h1; obtain ⟨A5, c5, rfl, -⟩ := h1.form; have HL5 := Lib.hid (Ly.app (Ly.ext_ HL7.out HX4.out) h1 h2); have hl5 : o5.length ≤ out.length + cm.length := (by rw [← ho5]; simp); have HO5 := Lib.hid ho5; clear h1 h2 ho5)))
        have HSW9 := Lib.hid (SlB.keep HS1.out (keeps_re _) (KeepT.of_ext HL5.out.ext) (KeepT.of_ext HL5.out.ext))
        go_wp2_with (go_at_call 59; go_loud (refine (HKE1.out _ HSW9.out).mono ?_; rintro e w9 ⟨rfl, hd9⟩; have HE9 := Lib.hid (show Ext _ w9 by obtain ⟨m, rfl⟩ := hd9; exact (Ext.refl _).drewN m); clear hd9))
        go_roundw
        case rel =>
          have h6 : o5.length = all := by rw [← HO5.out, List.length_append, HCML.out]; exact HOL4.out
          exact ⟨j + 1, o5, by have := HJM.out; omega, by rw [HKN.out], by rw [h6, HNE.out]; rfl, by rw [HNE.out, ← HO5.out]; exact HRP4.out, Ly.ext_ HL5.out HE9.out⟩
        case measure => simp [intOf]; omega
    · obtain rfl : j = ks.length := by omega
      have hkT : k = T := by rw [← hk]; exact HPA.out
      subst hkT
      have HN := Lib.hid (show out = RES by have := HRP.out; rw [List.drop_eq_nil_of_le (by omega)] at this; exact this)
      clear hk
      go_wp2_with (go_at_call 59; go_loud (refine (HEND.out _ HSW.out).mono ?_; rintro e w9 ⟨rfl, hd9⟩; have HE9 := Lib.hid (show Ext wr w9 by obtain ⟨m, rfl⟩ := hd9; exact (Ext.refl _).drewN m); clear hd9))
      go_ret
      rw [← HN.out]
      exact JR.weaken HX0.out (Ly.ret (Ly.ext_ HL.out HE9.out))
end Go.Proofs.YtfblkahjefdmaaaGreat

/- Walk: code of the document's own programs. -/
namespace Go.Proofs.YtfblkahjefdmaaaGreat
open Go.RowKit

set_option maxRecDepth 100000 in
set_option maxHeartbeats 2000000 in
theorem rcode_step {n : Nat} {e : Int} {x : RX.ReN} {ks : List (List RX.ReN)} (hd : x.deep = e) (hn : PG.NOk x ks) (hks : ∀ k ∈ ks, PG.Tree (e + 1) k) (ih : ∀ k ∈ ks, CodedAt n (e + 1) k) (hln : ks.flatten.length ≤ n) : CodedAt (n + 1) e (x :: ks.flatten) := by
  intro B L v w i hs hl hp hsm
  have HCH := Lib.hid (fun (hk1 : x.kind = 1) w' (h : SlRe B B w' v L) => rchoices_step hd hn hk1 hks ih hln B L v w' i h hl hp hsm)
  have htree := PG.Tree.mk e x ks hd hn hks
  have hle := hp.le htree.pos
  have hx0 := hp.at_ (j := 0) (by simp)
  simp only [Nat.add_zero, List.getElem_cons_zero] at hx0
  obtain ⟨hsm1, hsm2⟩ := PG.smallT_mk hks hsm
  obtain ⟨cs, hcs⟩ : ∃ cs, ks.map (PG.iTree n) = cs := ⟨_, rfl⟩
  have hcl : cs.length = ks.length := by rw [← hcs, List.length_map]
  obtain ⟨RES, hRES⟩ : ∃ RES, PG.iTree (n + 1) (x :: ks.flatten) = RES := ⟨_, rfl⟩
  have HRE := Lib.hid (show RES = PG.iNode x cs by rw [← hRES, PG.iTree_mk hks, hcs])
  have HRL := Lib.hid (show RES.length ≤ 50000 by rw [← hRES, PG.iTree_len]; exact hsm1)
  rw [hRES] at HCH ⊢
  have hiL : i < L.length := by have := htree.pos; omega
  obtain ⟨A, c, rfl, hlc, hcc⟩ := hs.form
  have HS := Lib.hid hs
  have HEND := Lib.hid (fun w' (h : SlRe B B w' (.slice A L.length c) L) => rend_any htree L _ w' i h (by omega) hp)
  have HKE := Lib.hid (fun j (hj : j < ks.length) w' (h : SlRe B B w' (.slice A L.length c) L) => rend_any (hks _ (List.getElem_mem hj)) L _ w' _ h (by omega) (hp.kid hks hj))
  have HKS := Lib.hid (fun j (hj : j < ks.length) w' (h : SlRe B B w' (.slice A L.length c) L) => ih _ (List.getElem_mem hj) B L _ w' _ h hl (hp.kid hks hj) (hsm2 _ (List.getElem_mem hj)))
  have HKL := Lib.hid (fun j (hj : j < ks.length) => PG.small_len (hsm2 _ (List.getElem_mem hj)) (hks _ (List.getElem_mem hj)).pos (Nat.lt_of_lt_of_le (hks _ (List.getElem_mem hj)).pos (Nat.le_trans (PG.flat_len_le (List.getElem_mem hj)) hln)))
  have HCD := Lib.hid (fun j (hj : j < ks.length) => show cs.drop j = PG.iTree n ks[j] :: cs.drop (j + 1) by rw [List.drop_eq_getElem_cons (by omega)]; subst hcs; rw [List.getElem_map])
  have HPS := Lib.hid (fun j (hj : j < ks.length) => (PG.kpos_succ (i := i) hj).symm)
  have HPL := Lib.hid (fun j (hj : j < ks.length) => PG.kpos_lt (i := i) (x := x) hj (fun k hk => (hks k hk).pos))
  have HPP := Lib.hid (fun j (hj : j < ks.length) => (hks _ (List.getElem_mem hj)).pos)
  have HPA := Lib.hid (PG.kpos_all i x ks)
  obtain ⟨hil, hxe⟩ := List.getElem?_eq_some_iff.1 hx0
  obtain ⟨g1, o1, cs0, rfl, hcr, hcell⟩ := HS.out.at_ hil
  rw [hxe] at hcr
  obtain ⟨sv, rfl, hsv⟩ := id hcr
  obtain ⟨A1, c1, rfl, -⟩ := hsv.form
  have q0 : w.cell? ⟨g1, o1 + i * 7, none⟩ = _ := hcell 0 _ rfl
  have q1 := hcell 1 _ rfl
  have q2 := hcell 2 _ rfl
  have q3 := hcell 3 _ rfl
  have q4 := hcell 4 _ rfl
  have q5 := hcell 5 _ rfl
  have q6 := hcell 6 _ rfl
  have HSV := Lib.hid hsv
  have HZ0 := Lib.hid (PG.kpos_zero i ks)
  obtain ⟨T, hT⟩ : ∃ T, i + (x :: ks.flatten).length = T := ⟨_, rfl⟩
  rw [hT] at HEND HPL HPA hle
  obtain ⟨⟨-, hlo0, hlo9, hhi9⟩, hkind⟩ := hn
  clear hs hp hRES hx0 hcr hcell htree hT ih hxe hsm hsm2 hcs hsv
  obtain ⟨kind, deep, lo, hi, lazy, neg, set⟩ := x
  dsimp only at *
  subst hd
  have HX0 := Lib.hid (show Ext w (w.alloc (.cells #[.int .i64 kind, .int .i64 deep, .int .i64 lo, .int .i64 hi, .bool lazy, .bool neg, .slice A1 set.length c1] 82)) from (Ext.refl w).alloc _)
  have HB := Lib.hid (heap_alloc_new w (.cells #[.int .i64 kind, .int .i64 deep, .int .i64 lo, .int .i64 hi, .bool lazy, .bool neg, .slice A1 set.length c1] 82))
  have HS1 := Lib.hid (SlB.keep HS.out (keeps_re _) (KeepT.of_ext HX0.out) (KeepT.of_ext HX0.out))
  have HSV1 := Lib.hid (SlB.keep HSV.out (keeps_c []) (fun _ _ _ h => by cases h) (KeepT.of_ext HX0.out))
  go_enter Tryz.func40, Tryz.ntmps40
  go_upto_region 2 with fail
  obtain ⟨nb, hnb⟩ : ∃ nb, w.heap.size = nb := ⟨_, rfl⟩
  rw [hnb] at HB ⊢
  generalize w.alloc _ = w1 at HX0 HB HS1 HSV1 ⊢
  clear q0 q1 q2 q3 q4 q5 q6 hnb HS HSV
  have c0 := cell_of_row w1 nb 0 _ _ _ HB.out
  have c1' := cell_of_row w1 nb 1 _ _ _ HB.out
  have c2 := cell_of_row w1 nb 2 _ _ _ HB.out
  have c3 := cell_of_row w1 nb 3 _ _ _ HB.out
  have c4 := cell_of_row w1 nb 4 _ _ _ HB.out
  have c5 := cell_of_row w1 nb 5 _ _ _ HB.out
  have c6 := cell_of_row w1 nb 6 _ _ _ HB.out
  rcases hkind with hk | ⟨hk, h2⟩ | ⟨hk, h2⟩ | ⟨hk, h2⟩ | ⟨hk, h2, h3⟩
  · subst hk
    obtain ⟨RES0, hR0⟩ : ∃ z, PG.cat [] cs = z := ⟨_, rfl⟩
    have HRR := Lib.hid (show RES = RES0 by rw [← hR0, PG.cat_seq, HRE.out]; rfl)
    have HLE := Lib.hid (show PG.lens cs ≤ 50000 by have := HRL.out; rw [HRE.out] at this; rw [← PG.fl_len cs 0]; exact this)
    have HR0 := Lib.hid hR0
    clear hR0
    go_upto_region 17 with fail
    go_loopw [6, 7] (fun v6 k wr => ∃ (j : Nat) (out : List PG.Inst), j ≤ ks.length ∧ k = .int .i64 (PG.kpos i ks j : Nat) ∧ out.length + PG.lens (cs.drop j) ≤ 50000 ∧ PG.cat out (cs.drop j) = RES0 ∧ Ly B w1 wr v6 out) (fun _ k _ => L.length - (intOf k).toNat)
    case atStart => exact ⟨0, _, Nat.zero_le _, by rw [PG.kpos_zero]; go_num, by simpa using HLE.out, HR0.out, Ly.nil_⟩
    case round =>
      obtain ⟨j, out, hj, rfl, hol, hrp, hly⟩ := hrel
      have HL := Lib.hid hly
      have HRP := Lib.hid hrp
      have HOL := Lib.hid hol
      have hol2 : out.length ≤ 50000 := by omega
      have HSW := Lib.hid (SlB.keep HS1.out (keeps_re _) (KeepT.of_ext hly.ext) (KeepT.of_ext hly.ext))
      obtain ⟨A6, c6, rfl, -⟩ := hly.own.form
      have HBW := Lib.hid (hly.ext.heap HB.out)
      obtain ⟨k, hk⟩ : ∃ k, PG.kpos i ks j = k := ⟨_, rfl⟩
      rw [hk]
      clear hly hrp hol
      by_cases hlt : j < ks.length
      · have hkT : k < T := by rw [← hk]; exact HPL.out j hlt
        have d1 : decide ((k : Int) < (T : Int)) = true := by simp; omega
        have HKE1 := Lib.hid (HKE.out j hlt)
        have HKS1 := Lib.hid (HKS.out j hlt)
        have HPS1 := Lib.hid (HPS.out j hlt)
        have hcml := HKL.out j hlt
        have HTB := Lib.hid ((PG.tb_tree n ks[j]).mono (show (PG.iTree n ks[j]).length ≤ 1000000 by omega))
        have hkl := HPP.out j hlt
        have HCD1 := Lib.hid (HCD.out j hlt)
        rw [hk] at HKE1 HKS1 HPS1
        rw [HPS1.out] at HKE1
        obtain ⟨kn, hkn⟩ : ∃ kn, PG.kpos i ks (j + 1) = kn := ⟨_, rfl⟩
        have hkk : k < kn := by have := HPS1.out; omega
        have HKN := Lib.hid hkn
        rw [hkn] at HKE1
        generalize PG.iTree n ks[j] = cd at HKS1 hcml HTB HCD1
        have HRP1 := HRP.out
        have HOL1 := HOL.out
        rw [HCD1.out] at HRP1 HOL1
        have HOL2 := Lib.hid (show out.length + (cd.length + PG.lens (cs.drop (j + 1))) ≤ 50000 from HOL1)
        obtain ⟨cm, hcm⟩ : ∃ cm, cd.map (PG.moved (out.length : Int)) = cm := ⟨_, rfl⟩
        rw [PG.cat, hcm] at HRP1
        have HRP2 := Lib.hid HRP1
        have hcmm : cm.length ≤ 50000 := by rw [← hcm, List.length_map]; exact hcml
        have HCML := Lib.hid (show cm.length = cd.length by rw [← hcm, List.length_map])
        have HSS := Lib.hid (fun w' base (A7 : Option Addr) (c7 : Nat) (h : SlB 72 5 (IcW B) base w' (.slice A7 cd.length c7) cd) => rshift_any cd _ w' (out.length : Int) h (by omega) (by omega) (by omega) HTB.out)
        rw [hcm] at HSS
        clear hk hkn HRP1 HOL1 hkl hcm
        go_upto_region 19 with (go_at_call 59; go_loud (refine (HEND.out _ HSW.out).mono ?_; rintro e wa ⟨rfl, hda⟩; have HEA := Lib.hid (show Ext wr wa by obtain ⟨m, rfl⟩ := hda; exact (Ext.refl _).drewN m); clear hda; have HSW1 := Lib.hid (SlB.keep HSW.out (keeps_re _) (KeepT.of_ext HEA.out) (KeepT.of_ext HEA.out))))
        go_upto_region 18 with (first
          | (go_at_call 40; go_loud (refine (HKS1.out _ HSW1.out).mono ?_; rintro e w7 ⟨hx7, A7, c7, rfl, hs7⟩; have HS7 := Lib.hid hs7; have HX7 := Lib.hid (HEA.out.trans hx7); have HL7 := Lib.hid (Ly.ext_ HL.out HX7.out); clear hs7 hx7))
          | (go_at_call 39; go_loud (refine (HSS.out _ _ _ _ HS7.out).mono ?_; rintro e w4 ⟨hx4, A4, c4, rfl, hs4⟩; have HS4 := Lib.hid hs4; have HX4 := Lib.hid hx4; clear hs4 hx4))
          | (at_builtin; go_loud (refine app_rows Tryz.underlying45 info_inst rfl (by decide) (by decide) (keeps_icw B) (by decide) icw_one rfl _ _ rfl w1.heap.size _ _ _ out cm (Ly.ext_ HL7.out HX4.out).own HS4.out rfl rfl (by omega) (Ly.ext_ HL7.out HX4.out).size ?_; intro v5 w5 h1 h2; obtain ⟨o5, ho5⟩ : ∃ z, out ++ cm = z := ⟨_, rfl⟩; rw [ho5] at h1; obtain ⟨A5, c5, rfl, -⟩ := h1.form; have HL5 := Lib.hid (Ly.app (Ly.ext_ HL7.out HX4.out) h1 h2); have hl5 : o5.length ≤ out.length + cm.length := (by rw [← ho5]; simp); have HO5 := Lib.hid ho5; clear h1 h2 ho5)))
        have HSW9 := Lib.hid (SlB.keep HS1.out (keeps_re _) (KeepT.of_ext HL5.out.ext) (KeepT.of_ext HL5.out.ext))
        go_wp2_with (go_at_call 59; go_loud (refine (HKE1.out _ HSW9.out).mono ?_; rintro e w9 ⟨rfl, hd9⟩; have HE9 := Lib.hid (show Ext _ w9 by obtain ⟨m, rfl⟩ := hd9; exact (Ext.refl _).drewN m); clear hd9))
        go_roundw
        case rel =>
          have h6 : o5.length = out.length + cd.length := by rw [← HO5.out, List.length_append, HCML.out]
          exact ⟨j + 1, o5, by omega, by rw [HKN.out], by rw [h6]; have := HOL2.out; omega, by rw [← HO5.out]; exact HRP2.out, Ly.ext_ HL5.out HE9.out⟩
        case measure => simp [intOf]; omega
      · obtain rfl : j = ks.length := by omega
        have hkT : k = T := by rw [← hk]; exact HPA.out
        subst hkT
        have HN := Lib.hid (show out = RES0 by have := HRP.out; rw [List.drop_eq_nil_of_le (by omega)] at this; exact this)
        clear hk
        have c0 := cell_of_row wr nb 0 _ _ _ HBW.out
        have c2 := cell_of_row wr nb 2 _ _ _ HBW.out
        go_upto_region 20 with (go_at_call 59; go_loud (refine (HEND.out _ HSW.out).mono ?_; rintro e w9 ⟨rfl, hd9⟩; have HE9 := Lib.hid (show Ext wr w9 by obtain ⟨m, rfl⟩ := hd9; exact (Ext.refl _).drewN m); clear hd9))
        replace c0 := HE9.out.cell c0
        replace c2 := HE9.out.cell c2
        go_wp2_with fail
        go_ret
        have HF : out = RES := by rw [HN.out, HRR.out]
        rw [← HF]
        exact JR.weaken HX0.out (Ly.ret (Ly.ext_ HL.out HE9.out))

  · subst hk
    go_wp2_with (go_at_call 60; go_loud (refine (HCH.out rfl _ HS1.out).mono ?_; rintro e w2 ⟨hx2, A2, c2', rfl, hs2⟩; have HX2 := Lib.hid hx2; have HS2 := Lib.hid hs2; clear hx2 hs2))
    go_ret
    exact JR.weaken HX0.out ⟨HX2.out, A2, c2', rfl, HS2.out⟩
  · subst h2
    rcases hk with hk | hk | hk <;> subst hk
    · have HN := Lib.hid (show RES = [⟨0, 0, 0, neg, set⟩] from HRE.out)
      go_wp2_with fail
      go_ret
      rw [HN.out]
      exact ⟨(HX0.out.alloc _), _, 1, rfl, (OwnJ.lit (i := ⟨0, 0, 0, neg, set⟩) HSV1.out).sl.weaken HX0.out.size⟩
    · have HN := Lib.hid (show RES = [⟨1, 0, 0, false, []⟩] from HRE.out)
      go_wp2_with fail
      go_ret
      rw [HN.out]
      exact ⟨(HX0.out.alloc _), _, 1, rfl, (OwnJ.lit (i := ⟨1, 0, 0, false, []⟩) SlB.nil_).sl.weaken HX0.out.size⟩
    · have HN := Lib.hid (show RES = [⟨2, 0, 0, false, []⟩] from HRE.out)
      go_wp2_with fail
      go_ret
      rw [HN.out]
      exact ⟨(HX0.out.alloc _), _, 1, rfl, (OwnJ.lit (i := ⟨2, 0, 0, false, []⟩) SlB.nil_).sl.weaken HX0.out.size⟩

  · subst hk
    obtain ⟨cd, hcd⟩ : ∃ cd, cs = [cd] := PG.one_list (by omega)
    by_cases hlo : 0 < lo
    · obtain ⟨RES0, hR0⟩ : ∃ z, PG.cat (PG.iS (2 * lo)) cs = z := ⟨_, rfl⟩
      have HRR := Lib.hid (show RES = RES0 ++ PG.iS (2 * lo + 1) by
        rw [← hR0, HRE.out, hcd, PG.cat_num]
        show (if 0 < lo then _ else _) = _
        rw [if_pos hlo]; rfl)
      have HLE := Lib.hid (show 1 + PG.lens cs ≤ 50000 by
        have := HRL.out; rw [HRR.out, ← hR0, PG.cat_eq] at this
        simp only [List.length_append, PG.fl_len] at this
        simp [PG.iS] at this; omega)
      have HR0 := Lib.hid hR0
      clear hR0 hcd
      go_upto_region 16 with (at_builtin; go_loud (refine app_one Tryz.underlying45 info_inst rfl (by decide) (by decide) (keeps_icw B) (by simp) rfl _ _ rfl w1.heap.size _ ([] : List PG.Inst) ⟨3, 2 * lo, 0, false, []⟩ [.int .i64 3, .int .i64 (2 * lo), .int .i64 0, .bool false, .slice none 0 0] 72 (Lib.hid (Ly.nil_ (B := B) (w := w1))).out.own ⟨_, rfl, SlB.nil_⟩ rfl (by simp [Value.oneCell']) rfl _ rfl (by simp) (by simp) (Lib.hid (Ly.nil_ (B := B) (w := w1))).out.size ?_; intro v3 w3 h1 h2; obtain ⟨o3, ho3⟩ : ∃ z, ([] : List PG.Inst) ++ [⟨3, 2 * lo, 0, false, []⟩] = z := ⟨_, rfl⟩; rw [ho3] at h1; obtain ⟨A3, c3, rfl, -⟩ := h1.form; have HL3 := Lib.hid (Ly.app (Ly.ext_ (Lib.hid (Ly.nil_ (B := B) (w := w1))).out ((Ext.refl _).alloc _)) h1 h2); have HH3 := Lib.hid h2; have hl3 : o3.length ≤ ([] : List PG.Inst).length + 1 := (by rw [← ho3]; simp); have HO3 := Lib.hid ho3; clear h1 h2 ho3))
      rw [List.nil_append] at HO3
      go_upto_region 17 with fail
      go_loopw [6, 7] (fun v6 k wr => ∃ (j : Nat) (out : List PG.Inst), j ≤ ks.length ∧ k = .int .i64 (PG.kpos i ks j : Nat) ∧ out.length + PG.lens (cs.drop j) ≤ 50000 ∧ PG.cat out (cs.drop j) = RES0 ∧ Ly B w1 wr v6 out) (fun _ k _ => L.length - (intOf k).toNat)
      case atStart => exact ⟨0, _, Nat.zero_le _, by rw [PG.kpos_zero]; go_num, by rw [← HO3.out]; simpa using HLE.out, by rw [← HO3.out]; exact HR0.out, HL3.out⟩
      case round =>
        obtain ⟨j, out, hj, rfl, hol, hrp, hly⟩ := hrel
        have HL := Lib.hid hly
        have HRP := Lib.hid hrp
        have HOL := Lib.hid hol
        have hol2 : out.length ≤ 50000 := by omega
        have HSW := Lib.hid (SlB.keep HS1.out (keeps_re _) (KeepT.of_ext hly.ext) (KeepT.of_ext hly.ext))
        obtain ⟨A6, c6, rfl, -⟩ := hly.own.form
        have HBW := Lib.hid (hly.ext.heap HB.out)
        obtain ⟨k, hk⟩ : ∃ k, PG.kpos i ks j = k := ⟨_, rfl⟩
        rw [hk]
        clear hly hrp hol
        by_cases hlt : j < ks.length
        · have hkT : k < T := by rw [← hk]; exact HPL.out j hlt
          have d1 : decide ((k : Int) < (T : Int)) = true := by simp; omega
          have HKE1 := Lib.hid (HKE.out j hlt)
          have HKS1 := Lib.hid (HKS.out j hlt)
          have HPS1 := Lib.hid (HPS.out j hlt)
          have hcml := HKL.out j hlt
          have HTB := Lib.hid ((PG.tb_tree n ks[j]).mono (show (PG.iTree n ks[j]).length ≤ 1000000 by omega))
          have hkl := HPP.out j hlt
          have HCD1 := Lib.hid (HCD.out j hlt)
          rw [hk] at HKE1 HKS1 HPS1
          rw [HPS1.out] at HKE1
          obtain ⟨kn, hkn⟩ : ∃ kn, PG.kpos i ks (j + 1) = kn := ⟨_, rfl⟩
          have hkk : k < kn := by have := HPS1.out; omega
          have HKN := Lib.hid hkn
          rw [hkn] at HKE1
          generalize PG.iTree n ks[j] = cd at HKS1 hcml HTB HCD1
          have HRP1 := HRP.out
          have HOL1 := HOL.out
          rw [HCD1.out] at HRP1 HOL1
          have HOL2 := Lib.hid (show out.length + (cd.length + PG.lens (cs.drop (j + 1))) ≤ 50000 from HOL1)
          obtain ⟨cm, hcm⟩ : ∃ cm, cd.map (PG.moved (out.length : Int)) = cm := ⟨_, rfl⟩
          rw [PG.cat, hcm] at HRP1
          have HRP2 := Lib.hid HRP1
          have hcmm : cm.length ≤ 50000 := by rw [← hcm, List.length_map]; exact hcml
          have HCML := Lib.hid (show cm.length = cd.length by rw [← hcm, List.length_map])
          have HSS := Lib.hid (fun w' base (A7 : Option Addr) (c7 : Nat) (h : SlB 72 5 (IcW B) base w' (.slice A7 cd.length c7) cd) => rshift_any cd _ w' (out.length : Int) h (by omega) (by omega) (by omega) HTB.out)
          rw [hcm] at HSS
          clear hk hkn HRP1 HOL1 hkl hcm
          go_upto_region 19 with (go_at_call 59; go_loud (refine (HEND.out _ HSW.out).mono ?_; rintro e wa ⟨rfl, hda⟩; have HEA := Lib.hid (show Ext wr wa by obtain ⟨m, rfl⟩ := hda; exact (Ext.refl _).drewN m); clear hda; have HSW1 := Lib.hid (SlB.keep HSW.out (keeps_re _) (KeepT.of_ext HEA.out) (KeepT.of_ext HEA.out))))
          go_upto_region 18 with (first
            | (go_at_call 40; go_loud (refine (HKS1.out _ HSW1.out).mono ?_; rintro e w7 ⟨hx7, A7, c7, rfl, hs7⟩; have HS7 := Lib.hid hs7; have HX7 := Lib.hid (HEA.out.trans hx7); have HL7 := Lib.hid (Ly.ext_ HL.out HX7.out); clear hs7 hx7))
            | (go_at_call 39; go_loud (refine (HSS.out _ _ _ _ HS7.out).mono ?_; rintro e w4 ⟨hx4, A4, c4, rfl, hs4⟩; have HS4 := Lib.hid hs4; have HX4 := Lib.hid hx4; clear hs4 hx4))
            | (at_builtin; go_loud (refine app_rows Tryz.underlying45 info_inst rfl (by decide) (by decide) (keeps_icw B) (by decide) icw_one rfl _ _ rfl w1.heap.size _ _ _ out cm (Ly.ext_ HL7.out HX4.out).own HS4.out rfl rfl (by omega) (Ly.ext_ HL7.out HX4.out).size ?_; intro v5 w5 h1 h2; obtain ⟨o5, ho5⟩ : ∃ z, out ++ cm = z := ⟨_, rfl⟩; rw [ho5] at h1; obtain ⟨A5, c5, rfl, -⟩ := h1.form; have HL5 := Lib.hid (Ly.app (Ly.ext_ HL7.out HX4.out) h1 h2); have hl5 : o5.length ≤ out.length + cm.length := (by rw [← ho5]; simp); have HO5 := Lib.hid ho5; clear h1 h2 ho5)))
          have HSW9 := Lib.hid (SlB.keep HS1.out (keeps_re _) (KeepT.of_ext HL5.out.ext) (KeepT.of_ext HL5.out.ext))
          go_wp2_with (go_at_call 59; go_loud (refine (HKE1.out _ HSW9.out).mono ?_; rintro e w9 ⟨rfl, hd9⟩; have HE9 := Lib.hid (show Ext _ w9 by obtain ⟨m, rfl⟩ := hd9; exact (Ext.refl _).drewN m); clear hd9))
          go_roundw
          case rel =>
            have h6 : o5.length = out.length + cd.length := by rw [← HO5.out, List.length_append, HCML.out]
            exact ⟨j + 1, o5, by omega, by rw [HKN.out], by rw [h6]; have := HOL2.out; omega, by rw [← HO5.out]; exact HRP2.out, Ly.ext_ HL5.out HE9.out⟩
          case measure => simp [intOf]; omega
        · obtain rfl : j = ks.length := by omega
          have hkT : k = T := by rw [← hk]; exact HPA.out
          subst hkT
          have HN := Lib.hid (show out = RES0 by have := HRP.out; rw [List.drop_eq_nil_of_le (by omega)] at this; exact this)
          clear hk
          have c0 := cell_of_row wr nb 0 _ _ _ HBW.out
          have c2 := cell_of_row wr nb 2 _ _ _ HBW.out
          go_upto_region 20 with (go_at_call 59; go_loud (refine (HEND.out _ HSW.out).mono ?_; rintro e w9 ⟨rfl, hd9⟩; have HE9 := Lib.hid (show Ext wr w9 by obtain ⟨m, rfl⟩ := hd9; exact (Ext.refl _).drewN m); clear hd9))
          have HL9 := Lib.hid (Ly.ext_ HL.out HE9.out)
          replace c0 := HE9.out.cell c0
          replace c2 := HE9.out.cell c2
          go_wp2_with (at_builtin; go_loud (refine app_one Tryz.underlying45 info_inst rfl (by decide) (by decide) (keeps_icw B) (by simp) rfl _ _ rfl w1.heap.size _ out ⟨3, 2 * lo + 1, 0, false, []⟩ [.int .i64 3, .int .i64 (2 * lo + 1), .int .i64 0, .bool false, .slice none 0 0] 72 HL9.out.own ⟨_, rfl, SlB.nil_⟩ rfl (by simp [Value.oneCell']) rfl _ rfl (by simp) (by omega) HL9.out.size ?_; intro v8 w8 h1 h2; obtain ⟨o8, ho8⟩ : ∃ z, out ++ [⟨3, 2 * lo + 1, 0, false, []⟩] = z := ⟨_, rfl⟩; rw [ho8] at h1; obtain ⟨A8, c8, rfl, -⟩ := h1.form; have HL8 := Lib.hid (Ly.app (Ly.ext_ HL9.out ((Ext.refl _).alloc _)) h1 h2); have HH8 := Lib.hid h2; have hl8 : o8.length ≤ out.length + 1 := (by rw [← ho8]; simp); have HO8 := Lib.hid ho8; clear h1 h2 ho8))
          go_ret
          have HF : o8 = RES := by rw [HRR.out, ← HO8.out, HN.out]; rfl
          rw [← HF]
          exact JR.weaken HX0.out HL8.out.ret

    · obtain ⟨RES0, hR0⟩ : ∃ z, PG.cat [] cs = z := ⟨_, rfl⟩
      have HRR := Lib.hid (show RES = RES0 by
        rw [← hR0, HRE.out, PG.cat_seq, hcd, PG.fl_one]
        show (if 0 < lo then _ else _) = _
        rw [if_neg hlo]; rfl)
      have HLE := Lib.hid (show PG.lens cs ≤ 50000 by have := HRL.out; rw [HRR.out, ← hR0, PG.cat_seq, PG.fl_len] at this; exact this)
      have HR0 := Lib.hid hR0
      clear hR0 hcd
      go_upto_region 17 with fail
      go_loopw [6, 7] (fun v6 k wr => ∃ (j : Nat) (out : List PG.Inst), j ≤ ks.length ∧ k = .int .i64 (PG.kpos i ks j : Nat) ∧ out.length + PG.lens (cs.drop j) ≤ 50000 ∧ PG.cat out (cs.drop j) = RES0 ∧ Ly B w1 wr v6 out) (fun _ k _ => L.length - (intOf k).toNat)
      case atStart => exact ⟨0, _, Nat.zero_le _, by rw [PG.kpos_zero]; go_num, by simpa using HLE.out, HR0.out, Ly.nil_⟩
      case round =>
        obtain ⟨j, out, hj, rfl, hol, hrp, hly⟩ := hrel
        have HL := Lib.hid hly
        have HRP := Lib.hid hrp
        have HOL := Lib.hid hol
        have hol2 : out.length ≤ 50000 := by omega
        have HSW := Lib.hid (SlB.keep HS1.out (keeps_re _) (KeepT.of_ext hly.ext) (KeepT.of_ext hly.ext))
        obtain ⟨A6, c6, rfl, -⟩ := hly.own.form
        have HBW := Lib.hid (hly.ext.heap HB.out)
        obtain ⟨k, hk⟩ : ∃ k, PG.kpos i ks j = k := ⟨_, rfl⟩
        rw [hk]
        clear hly hrp hol
        by_cases hlt : j < ks.length
        · have hkT : k < T := by rw [← hk]; exact HPL.out j hlt
          have d1 : decide ((k : Int) < (T : Int)) = true := by simp; omega
          have HKE1 := Lib.hid (HKE.out j hlt)
          have HKS1 := Lib.hid (HKS.out j hlt)
          have HPS1 := Lib.hid (HPS.out j hlt)
          have hcml := HKL.out j hlt
          have HTB := Lib.hid ((PG.tb_tree n ks[j]).mono (show (PG.iTree n ks[j]).length ≤ 1000000 by omega))
          have hkl := HPP.out j hlt
          have HCD1 := Lib.hid (HCD.out j hlt)
          rw [hk] at HKE1 HKS1 HPS1
          rw [HPS1.out] at HKE1
          obtain ⟨kn, hkn⟩ : ∃ kn, PG.kpos i ks (j + 1) = kn := ⟨_, rfl⟩
          have hkk : k < kn := by have := HPS1.out; omega
          have HKN := Lib.hid hkn
          rw [hkn] at HKE1
          generalize PG.iTree n ks[j] = cd at HKS1 hcml HTB HCD1
          have HRP1 := HRP.out
          have HOL1 := HOL.out
          rw [HCD1.out] at HRP1 HOL1
          have HOL2 := Lib.hid (show out.length + (cd.length + PG.lens (cs.drop (j + 1))) ≤ 50000 from HOL1)
          obtain ⟨cm, hcm⟩ : ∃ cm, cd.map (PG.moved (out.length : Int)) = cm := ⟨_, rfl⟩
          rw [PG.cat, hcm] at HRP1
          have HRP2 := Lib.hid HRP1
          have hcmm : cm.length ≤ 50000 := by rw [← hcm, List.length_map]; exact hcml
          have HCML := Lib.hid (show cm.length = cd.length by rw [← hcm, List.length_map])
          have HSS := Lib.hid (fun w' base (A7 : Option Addr) (c7 : Nat) (h : SlB 72 5 (IcW B) base w' (.slice A7 cd.length c7) cd) => rshift_any cd _ w' (out.length : Int) h (by omega) (by omega) (by omega) HTB.out)
          rw [hcm] at HSS
          clear hk hkn HRP1 HOL1 hkl hcm
          go_upto_region 19 with (go_at_call 59; go_loud (refine (HEND.out _ HSW.out).mono ?_; rintro e wa ⟨rfl, hda⟩; have HEA := Lib.hid (show Ext wr wa by obtain ⟨m, rfl⟩ := hda; exact (Ext.refl _).drewN m); clear hda; have HSW1 := Lib.hid (SlB.keep HSW.out (keeps_re _) (KeepT.of_ext HEA.out) (KeepT.of_ext HEA.out))))
          go_upto_region 18 with (first
            | (go_at_call 40; go_loud (refine (HKS1.out _ HSW1.out).mono ?_; rintro e w7 ⟨hx7, A7, c7, rfl, hs7⟩; have HS7 := Lib.hid hs7; have HX7 := Lib.hid (HEA.out.trans hx7); have HL7 := Lib.hid (Ly.ext_ HL.out HX7.out); clear hs7 hx7))
            | (go_at_call 39; go_loud (refine (HSS.out _ _ _ _ HS7.out).mono ?_; rintro e w4 ⟨hx4, A4, c4, rfl, hs4⟩; have HS4 := Lib.hid hs4; have HX4 := Lib.hid hx4; clear hs4 hx4))
            | (at_builtin; go_loud (refine app_rows Tryz.underlying45 info_inst rfl (by decide) (by decide) (keeps_icw B) (by decide) icw_one rfl _ _ rfl w1.heap.size _ _ _ out cm (Ly.ext_ HL7.out HX4.out).own HS4.out rfl rfl (by omega) (Ly.ext_ HL7.out HX4.out).size ?_; intro v5 w5 h1 h2; obtain ⟨o5, ho5⟩ : ∃ z, out ++ cm = z := ⟨_, rfl⟩; rw [ho5] at h1; obtain ⟨A5, c5, rfl, -⟩ := h1.form; have HL5 := Lib.hid (Ly.app (Ly.ext_ HL7.out HX4.out) h1 h2); have hl5 : o5.length ≤ out.length + cm.length := (by rw [← ho5]; simp); have HO5 := Lib.hid ho5; clear h1 h2 ho5)))
          have HSW9 := Lib.hid (SlB.keep HS1.out (keeps_re _) (KeepT.of_ext HL5.out.ext) (KeepT.of_ext HL5.out.ext))
          go_wp2_with (go_at_call 59; go_loud (refine (HKE1.out _ HSW9.out).mono ?_; rintro e w9 ⟨rfl, hd9⟩; have HE9 := Lib.hid (show Ext _ w9 by obtain ⟨m, rfl⟩ := hd9; exact (Ext.refl _).drewN m); clear hd9))
          go_roundw
          case rel =>
            have h6 : o5.length = out.length + cd.length := by rw [← HO5.out, List.length_append, HCML.out]
            exact ⟨j + 1, o5, by omega, by rw [HKN.out], by rw [h6]; have := HOL2.out; omega, by rw [← HO5.out]; exact HRP2.out, Ly.ext_ HL5.out HE9.out⟩
          case measure => simp [intOf]; omega
        · obtain rfl : j = ks.length := by omega
          have hkT : k = T := by rw [← hk]; exact HPA.out
          subst hkT
          have HN := Lib.hid (show out = RES0 by have := HRP.out; rw [List.drop_eq_nil_of_le (by omega)] at this; exact this)
          clear hk
          have c0 := cell_of_row wr nb 0 _ _ _ HBW.out
          have c2 := cell_of_row wr nb 2 _ _ _ HBW.out
          go_upto_region 20 with (go_at_call 59; go_loud (refine (HEND.out _ HSW.out).mono ?_; rintro e w9 ⟨rfl, hd9⟩; have HE9 := Lib.hid (show Ext wr w9 by obtain ⟨m, rfl⟩ := hd9; exact (Ext.refl _).drewN m); clear hd9))
          replace c0 := HE9.out.cell c0
          replace c2 := HE9.out.cell c2
          go_wp2_with fail
          go_ret
          have HF : out = RES := by rw [HN.out, HRR.out]
          rw [← HF]
          exact JR.weaken HX0.out (Ly.ret (Ly.ext_ HL.out HE9.out))

  · subst hk
    obtain ⟨cd, hcd⟩ : ∃ cd, cs = [cd] := PG.one_list (by omega)
    have h0 : 0 < ks.length := by omega
    have HKS1 := Lib.hid (HKS.out 0 h0)
    have hcml := HKL.out 0 h0
    have HTB := Lib.hid (PG.tb_tree n ks[0])
    have HCD1 := HCD.out 0 h0
    rw [hcd] at HCD1
    have HCD2 := Lib.hid (show PG.iTree n ks[0] = cd by injection HCD1 with h _; exact h.symm)
    rw [HZ0.out, HCD2.out] at HKS1
    rw [HCD2.out] at hcml HTB
    have HRR := Lib.hid (show RES = PG.repC lo hi lazy cd by rw [PG.repC_eq _ _ _ _ h3, HRE.out, hcd]; rfl)
    have HRC := Lib.hid (fun w' base (A7 : Option Addr) (c7 : Nat) (h : SlB 72 5 (IcW B) base w' (.slice A7 cd.length c7) cd) => rrep_any 6 deep lo hi lazy neg (.slice A1 set.length c1) cd _ w' h hlo0 hlo9 hhi9 h3 hcml (HTB.out.mono hcml))
    have e1 : IntKind.i64.wrap ((i : Int) + 1) = (i : Int) + 1 := IntWalk.i64_in _ (by omega)
    rw [← HRR.out] at HRC
    clear hcd HCD1
    have HKS2 := Lib.hid (fun w' (h : SlRe B B w' (.slice (some ⟨g1, o1, none⟩) L.length c) L) => (show Calls Tryz.prog 40 #[.slice (some ⟨g1, o1, none⟩) L.length c, .int .i64 ((i : Int) + 1)] w' (JR B cd w') from HKS1.out w' h))
    clear HKS1
    go_upto_region 12 with fail
    go_region_with (first
      | (go_at_call 61; go_loud (refine (HRC.out _ _ _ _ HS7.out).mono ?_; rintro e w8 ⟨hx8, A8, c8, rfl, hs8⟩; have HS8 := Lib.hid hs8; have HX8 := Lib.hid (HX7.out.trans hx8); clear hs8 hx8))
      | (go_at_call 40; go_loud (refine (HKS2.out _ (SlB.keep HS1.out (keeps_re _) (KeepT.of_ext ((Ext.refl _).drewN _)) (KeepT.of_ext ((Ext.refl _).drewN _)))).mono ?_; rintro e w7 ⟨hx7, A7, c7, rfl, hs7⟩; have HS7 := Lib.hid hs7; have HX7 := Lib.hid (((Ext.refl w1).drewN _).trans hx7); have d0 := HX7.out.cell c0; have d1 := HX7.out.cell c1'; have d2 := HX7.out.cell c2; have d3 := HX7.out.cell c3; have d4 := HX7.out.cell c4; have d5 := HX7.out.cell c5; have d6 := HX7.out.cell c6; clear hs7 hx7)))
    all_goals
      go_wp2_with fail
      go_ret
      exact ⟨HX0.out.trans HX8.out, A8, c8, rfl, HS8.out.weaken (HX0.out.trans HX7.out).size⟩
theorem rcode_tree {e : Int} {t : List RX.ReN} (h : PG.Tree e t) : ∀ n, t.length ≤ n → CodedAt n e t := by
  induction h with
  | mk e x ks hd hn hks ih =>
    intro n hl
    cases n with
    | zero => simp at hl
    | succ n =>
      have h2 : (x :: ks.flatten).length = ks.flatten.length + 1 := List.length_cons
      exact rcode_step hd hn hks (fun k hk => ih k hk n (Nat.le_trans (PG.flat_len_le hk) (by omega))) (by omega)
end Go.Proofs.YtfblkahjefdmaaaGreat
