/- Walks: class of package resyn. -/
import Derived.Test.YtfblkahjefdmaaaGreatWa
import Derived.Test.YtfblkahjefdmaaaGreatPureA
import Derived.Deep.DeepCutAuto
import Derived.Deep.CutBlock
namespace Go.Proofs.YtfblkahjefdmaaaGreat
open Go.RowKit

theorem OwnB.setlow {rb t o B : Nat} {u : Value} {w : World} {v : Value} {xs : List Int} (hb : rb < B) (h : OwnB t 1 Cc B w v xs) : OwnB t 1 Cc B (w.setCell ⟨rb, o, none⟩ u) v xs := h.keepB (keepsB_c _) (KeepB.low ((Only.refl w rb).set u) hb)
theorem OwnB.drewN {t n B : Nat} {w : World} {v : Value} {xs : List Int} (h : OwnB t 1 Cc B w v xs) : OwnB t 1 Cc B (w.drewN n) v xs := h
theorem OwnB.allocs {t B : Nat} {o : Obj} {w : World} {v : Value} {xs : List Int} (h : OwnB t 1 Cc B w v xs) : OwnB t 1 Cc B (w.alloc o) v xs := h.keepB (keepsB_c _) (fun _ _ _ ho => ((Ext.refl w).alloc _).heap ho)
theorem OwnB.low {rb t B : Nat} {w w' : World} {v : Value} {xs : List Int} (h : OwnB t 1 Cc B w v xs) (ho : Only w w' rb) (hb : rb < B) : OwnB t 1 Cc B w' v xs := h.keepB (keepsB_c _) (KeepB.low ho hb)
theorem two_cells {w : World} {nb : Nat} {a b : Int} {t : TypeId} (hnb : nb = w.heap.size) : ∀ j y, [a, b][j]? = some y → (w.alloc (.cells #[.int .i32 a, .int .i32 b] t)).cell? ((⟨nb, 0, none⟩ : Addr).add j) = some (.int .i32 y) := by
  subst hnb
  intro j y hy
  refine news_all w [.int .i32 a, .int .i32 b] t j _ ?_
  match j, hy with
  | 0, hy => simp at hy; subst hy; rfl
  | 1, hy => simp at hy; subst hy; rfl
theorem SlB.add {t B n c : Nat} {w : World} {ad : Addr} {xs : List Int} (h : SlB t 1 Cc B w (.slice (some ad) n c) xs) : ∀ j y, xs[j]? = some y → w.cell? (ad.add j) = some (.int .i32 y) := by
  intro j y hy
  have hj : j < xs.length := by
    rcases Nat.lt_or_ge j xs.length with h | h
    · exact h
    · rw [List.getElem?_eq_none h] at hy; cases hy
  obtain ⟨g, o, cs, h1, h2, h3⟩ := h.at_ hj
  injection h1 with h1
  subst h1
  have h2 : cs = _ := h2
  subst h2
  have h4 := h3 0 _ rfl
  rw [List.getElem?_eq_getElem hj] at hy
  injection hy with hy
  subst hy
  rw [Nat.mul_one, Nat.add_zero] at h4
  have : (⟨g, o, none⟩ : Addr).add j = ⟨g, o + j, none⟩ := by unfold Addr.add; simp
  rw [this]
  exact h4
section
variable {w0 : World} {rb : Nat} {sv : Value} {s : List Int}
theorem member_none {w : World} {st : RX.St} (he : Env w0 rb sv s w st) (ha : st.at_ ≤ 900) (h : (RX.member s st).2.1 = none) :
    Calls Tryz.prog 94 #[.pointer (some ⟨rb, 0, none⟩)] w (PostR (fun _ v => v = .tuple #[.int .i32 (RX.member s st).1, .slice none 0 0]) rb sv w (RX.member s st).2.2 (st.at_ + 2)) := by
  refine (member_any w st he ha).mono ?_
  rintro e w' ⟨v, rfl, ⟨u, rfl, hu⟩, hr⟩
  rw [h] at hu
  have hu : u = _ := hu
  subst hu
  exact ⟨_, rfl, rfl, hr⟩
theorem member_some {w : World} {st : RX.St} {l : List Int} (he : Env w0 rb sv s w st) (ha : st.at_ ≤ 900) (h : (RX.member s st).2.1 = some l) :
    Calls Tryz.prog 94 #[.pointer (some ⟨rb, 0, none⟩)] w (PostR (fun w' v => ∃ g, v = .tuple #[.int .i32 (RX.member s st).1, .slice (some ⟨g, 0, none⟩) l.length l.length] ∧ SlB 21 1 Cc (rb + 1) w' (.slice (some ⟨g, 0, none⟩) l.length l.length) l) rb sv w (RX.member s st).2.2 (st.at_ + 2)) := by
  refine (member_any w st he ha).mono ?_
  rintro e w' ⟨v, rfl, ⟨u, rfl, hu⟩, hr⟩
  rw [h] at hu
  obtain ⟨h1, g, rfl⟩ := hu
  exact ⟨_, rfl, ⟨g, rfl, h1⟩, hr⟩

/-- Inside of class: the reader, the node's box, its set. -/
structure Cst (w0 : World) (rb nb : Nat) (sv : Value) (s : List Int) (neg : Bool) (w : World) (st : RX.St) (set : List Int) (vs : Value) (wr : World) : Prop where
  env : Env w0 rb sv s wr st
  only : Only w wr rb
  box : BX nb wr [.int .i64 2, .int .i64 0, .int .i64 0, .int .i64 0, .bool false, .bool neg, vs]
  own : OwnB 21 1 Cc (nb + 1) wr vs set
  lt : rb < nb
  le : w.heap.size ≤ nb
variable {nb : Nat} {neg : Bool} {w wr w' : World} {st st' : RX.St} {set : List Int} {vs : Value}
theorem Cst.drewN {n : Nat} (h : Cst w0 rb nb sv s neg w st set vs wr) : Cst w0 rb nb sv s neg w st set vs (wr.drewN n) := ⟨h.env.drewN n, h.only.drewN n, h.box.drewN, h.own.drewN, h.lt, h.le⟩
theorem Cst.bump (h : Cst w0 rb nb sv s neg w st set vs wr) : Cst w0 rb nb sv s neg w (st.bump 1) set vs (wr.setCell ⟨rb, 1, none⟩ (.int .i64 ((st.at_ : Int) + 1))) :=
  ⟨h.env.bump1, h.only.set _, h.box.setrb h.lt, h.own.setlow (by have := h.lt; omega), h.lt, h.le⟩
theorem Cst.alloc {o : Obj} (h : Cst w0 rb nb sv s neg w st set vs wr) : Cst w0 rb nb sv s neg w st set vs (wr.alloc o) := ⟨h.env.alloc o, h.only.alloc o, h.box.alloc, h.own.allocs, h.lt, h.le⟩
theorem Cst.call (h : Cst w0 rb nb sv s neg w st set vs wr) (hr : RS rb sv w' st') (ho : Only wr w' rb) : Cst w0 rb nb sv s neg w st' set vs w' :=
  ⟨h.env.step ho hr, h.only.trans ho, h.box.only ho h.lt, h.own.low ho (by have := h.lt; omega), h.lt, h.le⟩
theorem Cst.c1 (h : Cst w0 rb nb sv s neg w st set vs wr) : wr.cell? ⟨rb, 1, none⟩ = some (.int .i64 st.at_) := h.env.rs.c1
theorem Cst.f1 (h : Cst w0 rb nb sv s neg w st set vs wr) : wr.frozen? ⟨rb, 1, none⟩ = false := h.env.rs.fr 1
theorem Cst.d6 (h : Cst w0 rb nb sv s neg w st set vs wr) : wr.cell? ⟨nb, 6, none⟩ = some vs := h.box.c 6 _ rfl
theorem Cst.e6 (h : Cst w0 rb nb sv s neg w st set vs wr) : wr.frozen? ⟨nb, 6, none⟩ = false := h.box.fr 6
theorem Cst.nbl (h : Cst w0 rb nb sv s neg w st set vs wr) : nb < wr.heap.size := heap_lt h.box
theorem Cst.rbl (h : Cst w0 rb nb sv s neg w st set vs wr) : rb < wr.heap.size := heap_lt h.env.rs
theorem Cst.own_lt (h : Cst w0 rb nb sv s neg w st set vs wr) : ∀ k, vs.ownBlock = some k → nb + 1 ≤ k := fun k hk => (h.own.lt k hk).1
/-- Behind an append, ahead of its store. -/
theorem Cst.app {v' : Value} {set' : List Int} (h : Cst w0 rb nb sv s neg w st set vs wr) (h1 : OwnB 21 1 Cc (nb + 1) w' v' set') (h2 : wr.grownBy w' vs.ownBlock) :
    Cst w0 rb nb sv s neg w st set' v' (w'.setCell ⟨nb, 6, none⟩ v') ∧ w'.cell? ⟨nb, 6, none⟩ = some vs ∧ w'.frozen? ⟨nb, 6, none⟩ = false := by
  have hb := h.box.own (b := nb + 1) h2 h.own_lt (by omega)
  have he := Env.own (nb := nb + 1) h.env h2 h.own_lt (by have := h.lt; omega)
  have ho := Only.own (nb := nb + 1) h.only h2 h.own_lt (by have := h.le; omega)
  exact ⟨⟨Env.setbox h.lt he, Only.setNew h.le ho, hb.put6, OwnB.setlow (by omega) h1, h.lt, h.le⟩, hb.c 6 _ rfl, hb.fr 6⟩

theorem cls_b {a : Bool} {l : List Int} {x : Int} (h : a = true) (hz : ((l.length : Int) == 0) = true) : true = (a && (l.isEmpty || decide (x ≠ 93))) := by
  have : l = [] := List.eq_nil_of_length_eq_zero (by have := beq_iff_eq.1 hz; omega)
  rw [h, this]; rfl
theorem cls_c {a : Bool} {l : List Int} {x : Int} (h : a = true) (hz : ((l.length : Int) == 0) = false) : (x != 93) = (a && (l.isEmpty || decide (x ≠ 93))) := by
  rw [h]
  cases l with
  | nil => simp at hz
  | cons a l => simp [bne]; rfl
set_option maxRecDepth 100000 in
set_option maxHeartbeats 4000000 in
theorem classR_any (w : World) (st : RX.St) (he : Env w0 rb sv s w st) (ha : st.at_ ≤ s.length) (h9 : st.caps ≤ 9) :
    Calls Tryz.prog 85 #[.pointer (some ⟨rb, 0, none⟩)] w (PostR (fun w' v => SlRe (rb + 1) (rb + 1) w' v (RX.classP s st).1) rb sv w (RX.classP s st).2 (s.length + 1)) := by
  have hl60 := he.len
  have hrb : rb + 1 ≤ w.heap.size := he.rbl
  obtain ⟨nb, hnb⟩ : ∃ nb, nb = w.heap.size := ⟨_, rfl⟩
  have hrn : rb < nb := by omega
  have hfw := RX.classP_fwd (s := s) ha h9
  have HF := Lib.hid hfw
  have HE := Lib.hid he
  have HC := Lib.hid (show Cst w0 rb nb sv s false w st [] (.slice none 0 0) (w.alloc (.cells [Value.int .i64 2, .int .i64 0, .int .i64 0, .int .i64 0, .bool false, .bool false, .slice none 0 0].toArray 82)) from
    ⟨he.alloc _, (Only.refl w rb).alloc _, BX.new hnb, OwnB.nil_, hrn, by omega⟩)
  clear he hfw
  obtain ⟨ng, hng⟩ : ∃ ng, ng = decide (RX.nxt s st 0 = 94) := ⟨_, rfl⟩
  obtain ⟨st1, hst1⟩ : ∃ st1, st1 = if decide (RX.nxt s st 0 = 94) = true then st.bump 1 else st := ⟨_, rfl⟩
  have HG := Lib.hid hng
  have H1 := Lib.hid hst1
  have h1a : st1.at_ ≤ s.length := by
    rw [hst1]; split
    · rename_i h; exact RX.nxt_in (k := 0) (by have := of_decide_eq_true h; omega)
    · exact ha
  have h19 : st1.caps ≤ 9 := by rw [hst1]; split <;> exact h9
  clear hng hst1
  go_enter Tryz.func85, Tryz.ntmps85
  go_wp2_with fail
  rw [← hnb]
  clear hnb
  generalize hwb : w.alloc _ = wb at HC ⊢
  clear hwb
  have c1 := HC.out.c1
  have f1 := HC.out.f1
  have e5 := HC.out.box.fr 5
  have d5 := HC.out.box.c 5 _ rfl
  have hrl := HC.out.rbl
  have hnl := HC.out.nbl
  go_upto_if 11 with (first | (go_at_call 57; apply Calls.mono; apply peek_any (w0 := w0) (rb := rb) (sv := sv) (s := s); (apply Cst.env; (focus (repeat (first | exact HC.out | apply Cst.drewN | apply Cst.bump | apply Cst.alloc)))); (first | omega | (simp only [RX.St.bump] at *; omega)); rintro e w' ⟨rfl, n, rfl⟩))
  go_cut [] (fun wx => Cst w0 rb nb sv s ng w st1 [] (.slice none 0 0) wx)
  case first =>
    rcases h94 : (RX.nxt s st 0 == 94) with _ | _
    · go_wp2_with fail
      go_meet
      have h94' : ¬ RX.nxt s st 0 = 94 := by simpa using h94
      rw [HG.out, H1.out, decide_eq_false h94', if_neg (by decide)]
      exact (by (focus (repeat (first | exact HC.out | apply Cst.drewN | apply Cst.bump | apply Cst.alloc))))
    · have h94' : RX.nxt s st 0 = 94 := by simpa using h94
      clear h94
      go_wp2_with fail
      go_meet
      rw [HG.out, H1.out, decide_eq_true h94', if_pos rfl]
      have HB := HC.out
      exact ⟨((HB.env.drewN _).setbox (nb := nb) (o := 5) (u := .bool true) hrn).bump1, ((HB.only.drewN _).setNew HB.le).set _, BX.setrb hrn (BX.put5 (BX.drewN HB.box)), OwnB.nil_, hrn, HB.le⟩
  case rest =>
    have HC := Lib.hid hcut
    clear hcut c1 f1 e5 d5 hrl hnl
    obtain ⟨R, hR⟩ : ∃ R, RX.classLoop s (s.length + 2 - st1.at_) st1 [] = R := ⟨_, rfl⟩
    have HR := Lib.hid hR
    have hf0 := RX.classLoop_fwd (s := s) (s.length + 2 - st1.at_) (set := []) h1a h19
    clear hR
    go_wp2_with fail
    go_loopg [4, 5, 6, 7] (s.length + 2 - st1.at_) (fun k _ _ _ _ wr => ∃ (st' : RX.St) (set' : List Int) (vs : Value), Cst w0 rb nb sv s ng w st' set' vs wr ∧ RX.classLoop s k st' set' = R ∧ st'.at_ ≤ s.length ∧ st'.caps ≤ 9 ∧ (st'.ok = true → s.length + 1 ≤ k + st'.at_) ∧ set'.length + 8 * k ≤ 1000)
    case atStart => exact ⟨st1, [], _, (by (focus (repeat (first | exact HC.out | apply Cst.drewN | apply Cst.bump | apply Cst.alloc)))), HR.out, h1a, h19, by intro _; omega, by simp; omega⟩
    case round =>
      obtain ⟨st', set', vs, hcs, hcl, hat, hcp, hrd, hsl⟩ := hrel
      have HC := Lib.hid hcs
      have HL := Lib.hid hcl
      have HD := Lib.hid hrd
      obtain ⟨As, cs, rfl, hcs1, hcm⟩ := hcs.own.form
      clear hcs hcl hrd
      have c1 := HC.out.c1; have f1 := HC.out.f1; have d6 := HC.out.d6; have e6 := HC.out.e6; have hrl := HC.out.rbl; have hnl := HC.out.nbl
      have d6 : wr.cell? ⟨nb, 6, none⟩ = some _ := HC.out.d6
      go_upto_region 5 with fail
      go_cut [32] (fun s32 wx => ∃ b n, s32 = .bool b ∧ b = (st'.ok && (set'.isEmpty || decide (RX.nxt s st' 0 ≠ 93))) ∧ wx = wr.drewN n)
      case first =>
        rcases hok : st'.ok with _ | _
        · go_wp2_with (first | (go_at_call 36; apply Calls.mono; apply ok_any (w0 := w0) (rb := rb) (sv := sv) (s := s); (apply Cst.env; (focus (repeat (first | exact HC.out | apply Cst.drewN | apply Cst.bump | apply Cst.alloc)))); rintro e w' ⟨rfl, n, rfl⟩))
          go_meet
          exact ⟨_, _, rfl, by rw [hok]; rfl, rfl⟩
        rcases hz : ((set'.length : Int) == 0) with _ | _
        · go_wp2_with (first | (go_at_call 36; apply Calls.mono; apply ok_any (w0 := w0) (rb := rb) (sv := sv) (s := s); (apply Cst.env; (focus (repeat (first | exact HC.out | apply Cst.drewN | apply Cst.bump | apply Cst.alloc)))); rintro e w' ⟨rfl, n, rfl⟩) | (go_at_call 57; apply Calls.mono; apply peek_any (w0 := w0) (rb := rb) (sv := sv) (s := s); (apply Cst.env; (focus (repeat (first | exact HC.out | apply Cst.drewN | apply Cst.bump | apply Cst.alloc)))); (first | omega | (simp only [RX.St.bump] at *; omega)); rintro e w' ⟨rfl, n, rfl⟩))
          go_meet
          exact ⟨_, _, rfl, cls_c hok hz, rfl⟩
        · go_wp2_with (first | (go_at_call 36; apply Calls.mono; apply ok_any (w0 := w0) (rb := rb) (sv := sv) (s := s); (apply Cst.env; (focus (repeat (first | exact HC.out | apply Cst.drewN | apply Cst.bump | apply Cst.alloc)))); rintro e w' ⟨rfl, n, rfl⟩))
          go_meet
          exact ⟨_, _, rfl, cls_b hok hz, rfl⟩
      case rest =>
        obtain ⟨b, n, rfl, hb, rfl⟩ := hcut
        have HB := Lib.hid hb
        clear hb
        rcases b with _ | _
        · have d0 := HC.out.box.c 0 _ rfl
          have d1 := HC.out.box.c 1 _ rfl
          have d2 := HC.out.box.c 2 _ rfl
          have d3 := HC.out.box.c 3 _ rfl
          have d4 := HC.out.box.c 4 _ rfl
          have d5 := HC.out.box.c 5 _ rfl
          go_wp2_with fail
          go_ret
          have HCX := Cst.alloc (o := .cells #[.int .i64 2, .int .i64 0, .int .i64 0, .int .i64 0, .bool false, .bool ng, .slice As set'.length cs] 82) (Cst.bump (Cst.drewN (n := n) HC.out))
          have hR : R = (set', st') := by rw [← HL.out, RX.classLoop_off HB.out.symm]
          have hP : RX.classP s st = ([RX.node 2 0 0 false ng R.1], R.2.bump 1) := by rw [HG.out, ← HR.out, H1.out]; rfl
          rw [hR] at hP
          rw [hP]
          refine PostR.of HCX.env.rs HCX.only ?_ ?_ rfl
          · show st'.at_ + 1 ≤ _; omega
          · refine re_lit _ (RX.node 2 0 0 false ng set') _ _ (by simp) (by simp; omega) (CR.mk ?_)
            have h1 := (Cst.bump (Cst.drewN (n := n) HC.out)).own.sl
            exact SlB.weaken h1 (by omega)
        · obtain ⟨k, rfl⟩ : ∃ k, gk = k + 1 := by
            have h0 := HB.out.symm
            simp only [Bool.and_eq_true] at h0
            have := HD.out h0.1
            exact ⟨gk - 1, by omega⟩
          have hfw := RX.classRound_fwd (s := s) (set := set') hat hcp
          have hmo := RX.classRound_more (s := s) (set := set') hat hcp
          have hle := RX.classRound_len (s := s) st' set'
          have HK := Lib.hid (show RX.classLoop s k (RX.classRound s st' set').2 (RX.classRound s st' set').1 = R by rw [← HL.out, RX.classLoop_on HB.out.symm])
          have hok1 : st'.ok = true := by
            have h0 := HB.out.symm
            simp only [Bool.and_eq_true] at h0
            exact h0.1
          have hn := HD.out hok1
          rcases hm1 : (RX.member s st').2.1 with _ | l
          · rw [RX.classRound_one hm1] at hfw hmo hle HK
            have hre := RX.rangeEnd_fwd (s := s) hat hcp
            have hme := RX.member_fwd (s := s) hat hcp
            have HX := Lib.hid (And.intro hfw (And.intro hmo (And.intro hle (And.intro hre hme))))
            have h3 : (RX.member s st').2.2.at_ ≤ s.length := hme.hi
            have h4 : (RX.rangeEnd s st').2.at_ ≤ s.length := hre.hi
            clear hfw hmo hle hre hme hok1
            go_upto_region 11 with (first | (go_at_call 94; apply Calls.mono; apply member_none (w0 := w0) (rb := rb) (sv := sv) (s := s); (apply Cst.env; (focus (repeat (first | exact HC.out | apply Cst.drewN | apply Cst.bump | apply Cst.alloc)))); (first | omega | (simp only [RX.St.bump] at *; omega)); exact hm1; rintro e w' ⟨_, rfl, rfl, hr, ho, hb⟩; have HC := Lib.hid (Cst.call (by (focus (repeat (first | exact HC.out | apply Cst.drewN | apply Cst.bump | apply Cst.alloc)))) hr ho); have c1 := HC.out.c1; have f1 := HC.out.f1; have d6 := HC.out.d6; have e6 := HC.out.e6; have hrl := HC.out.rbl; have hnl := HC.out.nbl; clear hr ho hb))
            go_cut [55] (fun s55 wx => ∃ b, s55 = .bool b ∧ b = ((RX.member s st').2.2.ok && RX.ranged s (RX.member s st').2.2) ∧ Cst w0 rb nb sv s ng w (RX.member s st').2.2 set' (.slice As set'.length cs) wx)
            case first =>
              rcases hok : (RX.member s st').2.2.ok with _ | _
              · go_wp2_with (first | (go_at_call 36; apply Calls.mono; apply ok_any (w0 := w0) (rb := rb) (sv := sv) (s := s); (apply Cst.env; (focus (repeat (first | exact HC.out | apply Cst.drewN | apply Cst.bump | apply Cst.alloc)))); rintro e w' ⟨rfl, n, rfl⟩) | (go_at_call 95; apply Calls.mono; apply ranged_any (w0 := w0) (rb := rb) (sv := sv) (s := s); (apply Cst.env; (focus (repeat (first | exact HC.out | apply Cst.drewN | apply Cst.bump | apply Cst.alloc)))); (first | omega | (simp only [RX.St.bump] at *; omega)); rintro e w' ⟨rfl, hr, ho, hb⟩; have HC := Lib.hid (Cst.call (by (focus (repeat (first | exact HC.out | apply Cst.drewN | apply Cst.bump | apply Cst.alloc)))) hr ho); have c1 := HC.out.c1; have f1 := HC.out.f1; have d6 := HC.out.d6; have e6 := HC.out.e6; have hrl := HC.out.rbl; have hnl := HC.out.nbl; clear hr ho hb))
                go_meet
                exact ⟨_, rfl, by rw [hok]; rfl, (by (focus (repeat (first | exact HC.out | apply Cst.drewN | apply Cst.bump | apply Cst.alloc))))⟩
              · go_wp2_with (first | (go_at_call 36; apply Calls.mono; apply ok_any (w0 := w0) (rb := rb) (sv := sv) (s := s); (apply Cst.env; (focus (repeat (first | exact HC.out | apply Cst.drewN | apply Cst.bump | apply Cst.alloc)))); rintro e w' ⟨rfl, n, rfl⟩) | (go_at_call 95; apply Calls.mono; apply ranged_any (w0 := w0) (rb := rb) (sv := sv) (s := s); (apply Cst.env; (focus (repeat (first | exact HC.out | apply Cst.drewN | apply Cst.bump | apply Cst.alloc)))); (first | omega | (simp only [RX.St.bump] at *; omega)); rintro e w' ⟨rfl, hr, ho, hb⟩; have HC := Lib.hid (Cst.call (by (focus (repeat (first | exact HC.out | apply Cst.drewN | apply Cst.bump | apply Cst.alloc)))) hr ho); have c1 := HC.out.c1; have f1 := HC.out.f1; have d6 := HC.out.d6; have e6 := HC.out.e6; have hrl := HC.out.rbl; have hnl := HC.out.nbl; clear hr ho hb))
                go_meet
                exact ⟨_, rfl, by rw [hok]; rfl, (by (focus (repeat (first | exact HC.out | apply Cst.drewN | apply Cst.bump | apply Cst.alloc))))⟩
            case rest =>
              obtain ⟨b, rfl, hb, hcs⟩ := hcut
              have HC := Lib.hid hcs
              have HB2 := Lib.hid hb
              clear hb hcs
              have c1 := HC.out.c1; have f1 := HC.out.f1; have d6 := HC.out.d6; have e6 := HC.out.e6; have hrl := HC.out.rbl; have hnl := HC.out.nbl
              go_upto_if 55 with fail
              go_cut [7] (fun s7 wx => s7 = .int .i32 (RX.rangeEnd s st').1 ∧ Cst w0 rb nb sv s ng w (RX.rangeEnd s st').2 set' (.slice As set'.length cs) wx)
              case first =>
                rcases b with _ | _
                · have HY := Lib.hid (show RX.rangeEnd s st' = ((RX.member s st').1, (RX.member s st').2.2) by unfold RX.rangeEnd; rw [← HB2.out]; rfl)
                  go_wp2_with fail
                  go_meet
                  rw [HY.out]
                  exact ⟨rfl, (by (focus (repeat (first | exact HC.out | apply Cst.drewN | apply Cst.bump | apply Cst.alloc))))⟩
                · have HY := Lib.hid (show RX.rangeEnd s st' = ((RX.member s ((RX.member s st').2.2.bump 1)).1, (RX.member s ((RX.member s st').2.2.bump 1)).2.2) by unfold RX.rangeEnd; rw [← HB2.out]; rfl)
                  go_wp2_with (first | (go_at_call 94; apply Calls.mono; apply member_any (w0 := w0) (rb := rb) (sv := sv) (s := s); (apply Cst.env; (focus (repeat (first | exact HC.out | apply Cst.drewN | apply Cst.bump | apply Cst.alloc)))); (first | omega | (simp only [RX.St.bump] at *; omega)); rintro e w' ⟨_, rfl, ⟨u2, rfl, _⟩, hr, ho, hb⟩; have HC := Lib.hid (Cst.call (by (focus (repeat (first | exact HC.out | apply Cst.drewN | apply Cst.bump | apply Cst.alloc)))) hr ho); have c1 := HC.out.c1; have f1 := HC.out.f1; have d6 := HC.out.d6; have e6 := HC.out.e6; have hrl := HC.out.rbl; have hnl := HC.out.nbl; clear hr ho hb))
                  go_meet
                  rw [HY.out]
                  exact ⟨rfl, (by (focus (repeat (first | exact HC.out | apply Cst.drewN | apply Cst.bump | apply Cst.alloc))))⟩
              case rest =>
                obtain ⟨rfl, hcs⟩ := hcut
                have HC := Lib.hid hcs
                clear hcs c1 f1 d6 e6 hrl hnl
                go_upto_region 14 with fail
                go_cut [74] (fun s74 wx => ∃ b, s74 = .bool b ∧ b = ((RX.rangeEnd s st').2.ok && decide ((RX.rangeEnd s st').1 < (RX.member s st').1)) ∧ Cst w0 rb nb sv s ng w (RX.rangeEnd s st').2 set' (.slice As set'.length cs) wx)
                case first =>
                  rcases hok : (RX.rangeEnd s st').2.ok with _ | _
                  · go_wp2_with (first | (go_at_call 36; apply Calls.mono; apply ok_any (w0 := w0) (rb := rb) (sv := sv) (s := s); (apply Cst.env; (focus (repeat (first | exact HC.out | apply Cst.drewN | apply Cst.bump | apply Cst.alloc)))); rintro e w' ⟨rfl, n, rfl⟩))
                    go_meet
                    exact ⟨_, rfl, by rw [hok]; rfl, (by (focus (repeat (first | exact HC.out | apply Cst.drewN | apply Cst.bump | apply Cst.alloc))))⟩
                  · go_wp2_with (first | (go_at_call 36; apply Calls.mono; apply ok_any (w0 := w0) (rb := rb) (sv := sv) (s := s); (apply Cst.env; (focus (repeat (first | exact HC.out | apply Cst.drewN | apply Cst.bump | apply Cst.alloc)))); rintro e w' ⟨rfl, n, rfl⟩))
                    go_meet
                    exact ⟨_, rfl, by rw [hok]; rfl, (by (focus (repeat (first | exact HC.out | apply Cst.drewN | apply Cst.bump | apply Cst.alloc))))⟩
                case rest =>
                  obtain ⟨b, rfl, hb, hcs⟩ := hcut
                  have HC := Lib.hid hcs
                  have HB3 := Lib.hid hb
                  clear hb hcs
                  go_upto_if 74 with fail
                  go_cut [] (fun wx => Cst w0 rb nb sv s ng w (if (RX.rangeEnd s st').2.ok = true ∧ (RX.rangeEnd s st').1 < (RX.member s st').1 then (RX.rangeEnd s st').2.fail 5 st'.at_ else (RX.rangeEnd s st').2) set' (.slice As set'.length cs) wx)
                  case first =>
                    rcases b with _ | _
                    · have HY := Lib.hid (show ¬ ((RX.rangeEnd s st').2.ok = true ∧ (RX.rangeEnd s st').1 < (RX.member s st').1) by have := HB3.out; intro h; rw [h.1, decide_eq_true h.2] at this; cases this)
                      go_wp2_with fail
                      go_meet
                      rw [if_neg HY.out]
                      exact (by (focus (repeat (first | exact HC.out | apply Cst.drewN | apply Cst.bump | apply Cst.alloc))))
                    · have HY := Lib.hid (show (RX.rangeEnd s st').2.ok = true ∧ (RX.rangeEnd s st').1 < (RX.member s st').1 by have := HB3.out.symm; simp only [Bool.and_eq_true, decide_eq_true_eq] at this; exact this)
                      go_wp2_with (first | (go_at_call 37; apply Calls.mono; apply fail_any (w0 := w0) (rb := rb) (sv := sv) (s := s); (apply Cst.env; (focus (repeat (first | exact HC.out | apply Cst.drewN | apply Cst.bump | apply Cst.alloc)))); rintro e w' ⟨rfl, hr, ho, hb⟩; have HC := Lib.hid (Cst.call (by (focus (repeat (first | exact HC.out | apply Cst.drewN | apply Cst.bump | apply Cst.alloc)))) hr ho); have c1 := HC.out.c1; have f1 := HC.out.f1; have d6 := HC.out.d6; have e6 := HC.out.e6; have hrl := HC.out.rbl; have hnl := HC.out.nbl; clear hr ho hb))
                      go_meet
                      rw [if_pos HY.out]
                      exact (by (focus (repeat (first | exact HC.out | apply Cst.drewN | apply Cst.bump | apply Cst.alloc))))
                  case rest =>
                    generalize (if (RX.rangeEnd s st').2.ok = true ∧ (RX.rangeEnd s st').1 < (RX.member s st').1 then (RX.rangeEnd s st').2.fail 5 st'.at_ else (RX.rangeEnd s st').2) = st3 at hcut HX HK
                    have HC := Lib.hid hcut
                    clear hcut
                    have c1 := HC.out.c1; have f1 := HC.out.f1; have d6 := HC.out.d6; have e6 := HC.out.e6; have hrl := HC.out.rbl; have hnl := HC.out.nbl
                    go_wp2_with (first | (at_builtin; go_loud (refine app_i32 rfl _ _ rfl (nb + 1) _ set' [(RX.member s st').1, (RX.rangeEnd s st').1] ?hown rfl _ 2 2 rfl rfl ?hc (by omega) ?hll ?hB ?_; (case hown => (apply Cst.own; (focus (repeat (first | exact HC.out | apply Cst.drewN | apply Cst.bump | apply Cst.alloc))))); (case hc => exact two_cells rfl); (case hll => (show 2 ≤ 1000; decide)); (case hB => (first | omega | (simp; omega))); intro v' w' h1 h2; obtain ⟨hz, d6, e6⟩ := Cst.app (by (focus (repeat (first | exact HC.out | apply Cst.drewN | apply Cst.bump | apply Cst.alloc)))) h1 h2; obtain ⟨Av, cv, rfl, hcv, hcm⟩ := h1.form; have HZ := Lib.hid hz; clear h1 h2 hz)))
                    go_roundg k
                    case measure => omega
                    case rel =>
                      obtain ⟨hfw, hmo, hle, _⟩ := HX.out
                      have hz := HZ.out
                      (try rw [List.length_append] at hz)
                      exact ⟨_, _, _, hz, HK.out, hfw.hi, hfw.caps9, fun ho => by have h6 : st'.at_ + 1 ≤ st3.at_ := hmo ho; omega, by rw [List.length_append]; show set'.length + 2 + 8 * k ≤ 1000; omega⟩
          · rw [RX.classRound_sort hm1] at hfw hmo hle HK
            have HX := Lib.hid (And.intro hfw (And.intro hmo hle))
            have hml := RX.member_sort hm1
            clear hfw hmo hle hok1
            go_upto_region 9 with (first | (go_at_call 94; apply Calls.mono; apply member_some (w0 := w0) (rb := rb) (sv := sv) (s := s); (apply Cst.env; (focus (repeat (first | exact HC.out | apply Cst.drewN | apply Cst.bump | apply Cst.alloc)))); (first | omega | (simp only [RX.St.bump] at *; omega)); exact hm1; rintro e w' ⟨_, rfl, ⟨gl, rfl, hsl⟩, hr, ho, hb⟩; have HC := Lib.hid (Cst.call (by (focus (repeat (first | exact HC.out | apply Cst.drewN | apply Cst.bump | apply Cst.alloc)))) hr ho); have c1 := HC.out.c1; have f1 := HC.out.f1; have d6 := HC.out.d6; have e6 := HC.out.e6; have hrl := HC.out.rbl; have hnl := HC.out.nbl; clear hr ho hb; have HS := Lib.hid hsl; clear hsl))
            go_wp2_with (first | (at_builtin; go_loud (refine app_i32 rfl _ _ rfl (nb + 1) _ set' l ?hown rfl _ _ _ rfl rfl ?hc (by omega) ?hll ?hB ?_; (case hown => (apply Cst.own; (focus (repeat (first | exact HC.out | apply Cst.drewN | apply Cst.bump | apply Cst.alloc))))); (case hc => exact (SlB.add HS.out)); (case hll => omega); (case hB => (first | omega | (simp; omega))); intro v' w' h1 h2; obtain ⟨hz, d6, e6⟩ := Cst.app (by (focus (repeat (first | exact HC.out | apply Cst.drewN | apply Cst.bump | apply Cst.alloc)))) h1 h2; obtain ⟨Av, cv, rfl, hcv, hcm⟩ := h1.form; have HZ := Lib.hid hz; clear h1 h2 hz)))
            go_roundg k
            case measure => omega
            case rel =>
              obtain ⟨hfw, hmo, hle⟩ := HX.out
              have hz := HZ.out
              rw [List.length_append] at hz
              exact ⟨_, _, _, hz, HK.out, hfw.hi, hfw.caps9, fun ho => by have := hmo ho; omega, by omega⟩
end
end Go.Proofs.YtfblkahjefdmaaaGreat

/- Walks: group, atom, item of package resyn. -/
namespace Go.Proofs.YtfblkahjefdmaaaGreat
open Go.RowKit

section
variable {w0 : World} {rb : Nat} {sv : Value} {s : List Int}
/-- Inside of a method of the reader: the reader; what is left as it was; nodes that are held. -/
structure Rst (w0 : World) (rb : Nat) (sv : Value) (s : List Int) (w : World) (st : RX.St) (v : Value) (l : List RX.ReN) (wr : World) : Prop where
  env : Env w0 rb sv s wr st
  only : Only w wr rb
  val : SlRe (rb + 1) (rb + 1) wr v l
variable {w wr w' : World} {st st' : RX.St} {v v' : Value} {l l' : List RX.ReN}
theorem Rst.step (h : Rst w0 rb sv s w st v l wr) (he : Env w0 rb sv s w' st') (ho : Only wr w' rb) : Rst w0 rb sv s w st' v l w' := ⟨he, h.only.trans ho, SlB.only h.val (keepsB_re _) ho⟩
theorem Rst.drewN {n : Nat} (h : Rst w0 rb sv s w st v l wr) : Rst w0 rb sv s w st v l (wr.drewN n) := h.step (h.env.drewN n) ((Only.refl _ _).drewN n)
theorem Rst.bump (h : Rst w0 rb sv s w st v l wr) : Rst w0 rb sv s w (st.bump 1) v l (wr.setCell ⟨rb, 1, none⟩ (.int .i64 ((st.at_ : Int) + 1))) := h.step h.env.bump1 ((Only.refl _ _).set _)
theorem Rst.bump3 (h : Rst w0 rb sv s w st v l wr) : Rst w0 rb sv s w (st.bump 3) v l (wr.setCell ⟨rb, 1, none⟩ (.int .i64 ((st.at_ : Int) + 3))) := h.step (h.env.bump 3) ((Only.refl _ _).set _)
theorem Rst.alloc {o : Obj} (h : Rst w0 rb sv s w st v l wr) : Rst w0 rb sv s w st v l (wr.alloc o) := h.step (h.env.alloc o) ((Only.refl _ _).alloc o)
theorem Rst.call (h : Rst w0 rb sv s w st v l wr) (hr : RS rb sv w' st') (ho : Only wr w' rb) : Rst w0 rb sv s w st' v l w' := h.step (h.env.step ho hr) ho
theorem Rst.ext (h : Rst w0 rb sv s w st v l wr) (hx : Ext wr w') : Rst w0 rb sv s w st v l w' := h.step (h.env.ext hx) (Only.of_ext hx rb)
theorem Rst.setop {n : Nat} (h : Rst w0 rb sv s w st v l wr) : Rst w0 rb sv s w { st with op := n } v l (wr.setCell ⟨rb, 2, none⟩ (.int .i64 n)) := h.step (h.env.setop n) ((Only.refl _ _).set _)
theorem Rst.setop1 (h : Rst w0 rb sv s w st v l wr) : Rst w0 rb sv s w { st with op := st.op + 1 } v l (wr.setCell ⟨rb, 2, none⟩ (.int .i64 ((st.op : Int) + 1))) := h.setop (n := st.op + 1)
theorem Rst.setop0 (h : Rst w0 rb sv s w st v l wr) (h1 : 1 ≤ st.op) : Rst w0 rb sv s w { st with op := st.op - 1 } v l (wr.setCell ⟨rb, 2, none⟩ (.int .i64 ((st.op : Int) - 1))) := by
  have e : ((st.op : Int) - 1) = ((st.op - 1 : Nat) : Int) := by omega
  rw [e]; exact h.setop
theorem Rst.setcaps1 (h : Rst w0 rb sv s w st v l wr) : Rst w0 rb sv s w { st with caps := st.caps + 1 } v l (wr.setCell ⟨rb, 3, none⟩ (.int .i64 ((st.caps : Int) + 1))) := h.step (h.env.setcaps (st.caps + 1)) ((Only.refl _ _).set _)
theorem Rst.rbl (h : Rst w0 rb sv s w st v l wr) : rb < wr.heap.size := heap_lt h.env.rs
theorem Rst.start (he : Env w0 rb sv s w st) : Rst w0 rb sv s w st (.slice none 0 0) [] w := ⟨he, Only.refl w rb, SlB.nil_⟩
theorem Rst.setv (h : Rst w0 rb sv s w st v l wr) (hv : SlRe (rb + 1) (rb + 1) wr v' l') : Rst w0 rb sv s w st v' l' wr := ⟨h.env, h.only, hv⟩

/-- What is called of the alternatives within a group. -/
def AltC (w0 : World) (rb : Nat) (sv : Value) (s : List Int) (alt : RX.St → List RX.ReN × RX.St) (op : Nat) : Prop :=
  ∀ (w : World) (st : RX.St), Env w0 rb sv s w st → st.ok = true → st.at_ ≤ s.length → st.caps ≤ 9 → st.op = op →
    Calls Tryz.prog 35 #[.pointer (some ⟨rb, 0, none⟩)] w (PostR (fun w' v => SlRe (rb + 1) (rb + 1) w' v (alt st).1) rb sv w (alt st).2 (s.length + 30))

namespace RX
/-- Which group it is; where its inside begins. -/
def groupSel (s : List Int) (st : St) : Int × St :=
  if 12 ≤ st.op then (0, st.fail 6 st.at_)
  else if nxt s st 1 = 63 ∧ nxt s st 2 = 58 then (0, st.bump 3)
  else if nxt s st 1 = 63 then (0, st.fail 5 (st.at_ + 2))
  else if 9 ≤ st.caps then (0, st.fail 3 st.at_)
  else (st.caps + 1, { st.bump 1 with caps := st.caps + 1 })
theorem groupSel_eq (s : List Int) (alt : St → List ReN × St) {st : St} (hok : st.ok = true) : groupP s alt st = if (groupSel s st).2.ok = true then groupIn s alt (groupSel s st).1 (groupSel s st).2 else ([], (groupSel s st).2) := by
  unfold groupP groupSel
  by_cases h1 : 12 ≤ st.op
  · simp only [if_pos h1]; rw [St.fail_ok _ (by decide)]; rfl
  simp only [if_neg h1]
  by_cases h2 : nxt s st 1 = 63 ∧ nxt s st 2 = 58
  · simp only [if_pos h2]; rw [show (st.bump 3).ok = true from hok]; rfl
  simp only [if_neg h2]
  by_cases h3 : nxt s st 1 = 63
  · simp only [if_pos h3]; rw [St.fail_ok _ (by decide)]; rfl
  simp only [if_neg h3]
  by_cases h4 : 9 ≤ st.caps
  · simp only [if_pos h4]; rw [St.fail_ok _ (by decide)]; rfl
  simp only [if_neg h4]
  rw [show ({ st.bump 1 with caps := st.caps + 1 } : St).ok = true from hok]; rfl
theorem groupSel_ok {s : List Int} {st : St} (ha : st.at_ < s.length) (h9 : st.caps ≤ 9) : (groupSel s st).2.at_ ≤ s.length ∧ ((groupSel s st).2.ok = true → st.op < 12 ∧ (groupSel s st).2.op = st.op ∧ (groupSel s st).2.caps ≤ 9) := by
  have hf : ∀ c b, c ≠ 0 → (st.fail c b).at_ ≤ s.length ∧ ((st.fail c b).ok = true → st.op < 12 ∧ (st.fail c b).op = st.op ∧ (st.fail c b).caps ≤ 9) := fun c b h =>
    ⟨by rw [St.fail_at]; omega, by rw [St.fail_ok _ h]; exact (fun h => nomatch h)⟩
  unfold groupSel
  by_cases h1 : 12 ≤ st.op
  · simp only [if_pos h1]; exact hf _ _ (by decide)
  simp only [if_neg h1]
  by_cases h2 : nxt s st 1 = 63 ∧ nxt s st 2 = 58
  · simp only [if_pos h2]
    have := nxt_in (s := s) (k := 2) (st := st) (by omega)
    exact ⟨this, fun _ => ⟨by omega, rfl, h9⟩⟩
  simp only [if_neg h2]
  by_cases h3 : nxt s st 1 = 63
  · simp only [if_pos h3]; exact hf _ _ (by decide)
  simp only [if_neg h3]
  by_cases h4 : 9 ≤ st.caps
  · simp only [if_pos h4]; exact hf _ _ (by decide)
  simp only [if_neg h4]
  exact ⟨ha, fun _ => ⟨by omega, rfl, by show st.caps + 1 ≤ 9; omega⟩⟩
/-- What stands behind a group's inside. -/
def closed (s : List Int) (st : St) : St := if st.ok = true ∧ nxt s st 0 ≠ 41 then st.fail 5 st.at_ else st
theorem groupIn_eq (s : List Int) (alt : St → List ReN × St) (n : Int) (st : St) : groupIn s alt n st = (under (node 5 n 0 false false []) [(alt { st with op := st.op + 1 }).1], (closed s { (alt { st with op := st.op + 1 }).2 with op := (alt { st with op := st.op + 1 }).2.op - 1 }).bump 1) := rfl
theorem closed_at (s : List Int) (st : St) : (closed s st).at_ = st.at_ := by
  unfold closed; split
  · exact St.fail_at _ _ _
  · rfl
end RX
theorem ne_dec (x : Int) : (x != 41) = (true && decide (x ≠ 41)) := by simp [bne]; rfl
theorem small_of {d : Int} {k : Nat} {l : List RX.ReN} (h : RX.Tr d k l) (hd : d ≤ 1000) (hk : k ≤ 90000) (t : RX.ReN) : Small t [l] := by
  refine ⟨?_, fun l' hl x hx => ?_⟩
  · rw [RX.under_len]; have := h.1; simp; omega
  · simp at hl; subst hl; have := h.2 x hx; omega

set_option maxRecDepth 100000 in
set_option maxHeartbeats 4000000 in
theorem group_any (w : World) (st : RX.St) (alt : RX.St → List RX.ReN × RX.St) (he : Env w0 rb sv s w st) (hok : st.ok = true) (ha : st.at_ < s.length) (h9 : st.caps ≤ 9) {c : Nat} {d : Int} (hk : RX.AltOk s c d alt) (hc : c ≤ 20) (hd : d ≤ 100) (HA : st.op < 12 → AltC w0 rb sv s alt (st.op + 1)) :
    Calls Tryz.prog 84 #[.pointer (some ⟨rb, 0, none⟩)] w (PostR (fun w' v => SlRe (rb + 1) (rb + 1) w' v (RX.groupP s alt st).1) rb sv w (RX.groupP s alt st).2 (s.length + 30)) := by
  have HC := Lib.hid (Rst.start he)
  have hl60 := he.len
  have c1 := he.rs.c1
  have c2 := he.rs.c2
  have c3 := he.rs.c3
  have f1 := he.rs.fr 1
  have f3 := he.rs.fr 3
  clear he
  go_enter Tryz.func84, Tryz.ntmps84
  have HG := Lib.hid (RX.groupSel_eq s alt hok)
  have HO := Lib.hid hok
  clear hok
  have hrl : rb < w.heap.size := HC.out.rbl
  go_upto_block 0 with fail
  go_cut [3] (fun s3 wx => s3 = .int .i64 (RX.groupSel s st).1 ∧ Rst w0 rb sv s w (RX.groupSel s st).2 (.slice none 0 0) [] wx)
  case first =>
    by_cases h1 : 12 ≤ st.op
    · have hd : decide ((12 : Int) ≤ st.op) = true := by simp; omega
      have HY := Lib.hid (show RX.groupSel s st = (0, st.fail 6 st.at_) by unfold RX.groupSel; rw [if_pos h1])
      go_wp2_with (first | (go_at_call 37; apply Calls.mono; apply fail_any (w0 := w0) (rb := rb) (sv := sv) (s := s); (apply Rst.env; (focus (repeat (first | exact HC.out | apply Rst.drewN | apply Rst.bump | apply Rst.bump3 | apply Rst.setop1 | apply Rst.setcaps1 | apply Rst.alloc)))); rintro e w' ⟨rfl, hr, ho, hb⟩; have HC := Lib.hid (Rst.call (by (focus (repeat (first | exact HC.out | apply Rst.drewN | apply Rst.bump | apply Rst.bump3 | apply Rst.setop1 | apply Rst.setcaps1 | apply Rst.alloc)))) hr ho); have hr1 := HC.out.env.rs; have c1 := hr1.c1; have c2 := hr1.c2; have c3 := hr1.c3; have f1 := hr1.fr 1; have f2 := hr1.fr 2; have f3 := hr1.fr 3; have hrl := HC.out.rbl; clear hr1; clear hr ho hb))
      go_meet
      rw [HY.out]
      exact ⟨rfl, by (focus (repeat (first | exact HC.out | apply Rst.drewN | apply Rst.bump | apply Rst.bump3 | apply Rst.setop1 | apply Rst.setcaps1 | apply Rst.alloc)))⟩
    have hd : decide ((12 : Int) ≤ st.op) = false := by simp; omega
    rcases h3 : (RX.nxt s st 1 == 63) with _ | _
    · have h3' : ¬ RX.nxt s st 1 = 63 := by simpa using h3
      by_cases h4 : 9 ≤ st.caps
      · have hd4 : decide ((9 : Int) ≤ st.caps) = true := by simp; omega
        have HY := Lib.hid (show RX.groupSel s st = (0, st.fail 3 st.at_) by unfold RX.groupSel; rw [if_neg h1, if_neg (fun h => h3' h.1), if_neg h3', if_pos h4])
        clear h3'
        go_wp2_with (first | (go_at_call 74; apply Calls.mono; apply next_lit (w0 := w0) (rb := rb) (sv := sv) (s := s); (first | exact one_cast | exact two_cast | exact three_cast); (apply Rst.env; (focus (repeat (first | exact HC.out | apply Rst.drewN | apply Rst.bump | apply Rst.bump3 | apply Rst.setop1 | apply Rst.setcaps1 | apply Rst.alloc)))); (first | omega | (simp only [RX.St.bump] at *; omega)); rintro e w' ⟨rfl, n, rfl⟩) | (go_at_call 37; apply Calls.mono; apply fail_any (w0 := w0) (rb := rb) (sv := sv) (s := s); (apply Rst.env; (focus (repeat (first | exact HC.out | apply Rst.drewN | apply Rst.bump | apply Rst.bump3 | apply Rst.setop1 | apply Rst.setcaps1 | apply Rst.alloc)))); rintro e w' ⟨rfl, hr, ho, hb⟩; have HC := Lib.hid (Rst.call (by (focus (repeat (first | exact HC.out | apply Rst.drewN | apply Rst.bump | apply Rst.bump3 | apply Rst.setop1 | apply Rst.setcaps1 | apply Rst.alloc)))) hr ho); have hr1 := HC.out.env.rs; have c1 := hr1.c1; have c2 := hr1.c2; have c3 := hr1.c3; have f1 := hr1.fr 1; have f2 := hr1.fr 2; have f3 := hr1.fr 3; have hrl := HC.out.rbl; clear hr1; clear hr ho hb))
        go_meet
        rw [HY.out]
        exact ⟨rfl, by (focus (repeat (first | exact HC.out | apply Rst.drewN | apply Rst.bump | apply Rst.bump3 | apply Rst.setop1 | apply Rst.setcaps1 | apply Rst.alloc)))⟩
      · have hd4 : decide ((9 : Int) ≤ st.caps) = false := by simp; omega
        have HY := Lib.hid (show RX.groupSel s st = ((st.caps : Int) + 1, { st.bump 1 with caps := st.caps + 1 }) by unfold RX.groupSel; rw [if_neg h1, if_neg (fun h => h3' h.1), if_neg h3', if_neg h4])
        clear h3'
        go_wp2_with (first | (go_at_call 74; apply Calls.mono; apply next_lit (w0 := w0) (rb := rb) (sv := sv) (s := s); (first | exact one_cast | exact two_cast | exact three_cast); (apply Rst.env; (focus (repeat (first | exact HC.out | apply Rst.drewN | apply Rst.bump | apply Rst.bump3 | apply Rst.setop1 | apply Rst.setcaps1 | apply Rst.alloc)))); (first | omega | (simp only [RX.St.bump] at *; omega)); rintro e w' ⟨rfl, n, rfl⟩) | (go_at_call 37; apply Calls.mono; apply fail_any (w0 := w0) (rb := rb) (sv := sv) (s := s); (apply Rst.env; (focus (repeat (first | exact HC.out | apply Rst.drewN | apply Rst.bump | apply Rst.bump3 | apply Rst.setop1 | apply Rst.setcaps1 | apply Rst.alloc)))); rintro e w' ⟨rfl, hr, ho, hb⟩; have HC := Lib.hid (Rst.call (by (focus (repeat (first | exact HC.out | apply Rst.drewN | apply Rst.bump | apply Rst.bump3 | apply Rst.setop1 | apply Rst.setcaps1 | apply Rst.alloc)))) hr ho); have hr1 := HC.out.env.rs; have c1 := hr1.c1; have c2 := hr1.c2; have c3 := hr1.c3; have f1 := hr1.fr 1; have f2 := hr1.fr 2; have f3 := hr1.fr 3; have hrl := HC.out.rbl; clear hr1; clear hr ho hb))
        go_meet
        rw [HY.out]
        exact ⟨rfl, Rst.bump (Rst.setcaps1 (by (focus (repeat (first | exact HC.out | apply Rst.drewN | apply Rst.bump | apply Rst.bump3 | apply Rst.setop1 | apply Rst.setcaps1 | apply Rst.alloc)))))⟩
    · have h3' : RX.nxt s st 1 = 63 := by simpa using h3
      rcases h5 : (RX.nxt s st 2 == 58) with _ | _
      · have h5' : ¬ RX.nxt s st 2 = 58 := by simpa using h5
        have HY := Lib.hid (show RX.groupSel s st = (0, st.fail 5 (st.at_ + 2)) by unfold RX.groupSel; rw [if_neg h1, if_neg (fun h => h5' h.2), if_pos h3'])
        clear h3' h5'
        go_wp2_with (first | (go_at_call 74; apply Calls.mono; apply next_lit (w0 := w0) (rb := rb) (sv := sv) (s := s); (first | exact one_cast | exact two_cast | exact three_cast); (apply Rst.env; (focus (repeat (first | exact HC.out | apply Rst.drewN | apply Rst.bump | apply Rst.bump3 | apply Rst.setop1 | apply Rst.setcaps1 | apply Rst.alloc)))); (first | omega | (simp only [RX.St.bump] at *; omega)); rintro e w' ⟨rfl, n, rfl⟩) | (go_at_call 37; apply Calls.mono; apply fail_any (w0 := w0) (rb := rb) (sv := sv) (s := s); (apply Rst.env; (focus (repeat (first | exact HC.out | apply Rst.drewN | apply Rst.bump | apply Rst.bump3 | apply Rst.setop1 | apply Rst.setcaps1 | apply Rst.alloc)))); rintro e w' ⟨rfl, hr, ho, hb⟩; have HC := Lib.hid (Rst.call (by (focus (repeat (first | exact HC.out | apply Rst.drewN | apply Rst.bump | apply Rst.bump3 | apply Rst.setop1 | apply Rst.setcaps1 | apply Rst.alloc)))) hr ho); have hr1 := HC.out.env.rs; have c1 := hr1.c1; have c2 := hr1.c2; have c3 := hr1.c3; have f1 := hr1.fr 1; have f2 := hr1.fr 2; have f3 := hr1.fr 3; have hrl := HC.out.rbl; clear hr1; clear hr ho hb))
        go_meet
        rw [HY.out]
        exact ⟨rfl, by (focus (repeat (first | exact HC.out | apply Rst.drewN | apply Rst.bump | apply Rst.bump3 | apply Rst.setop1 | apply Rst.setcaps1 | apply Rst.alloc)))⟩
      · have h5' : RX.nxt s st 2 = 58 := by simpa using h5
        have HY := Lib.hid (show RX.groupSel s st = (0, st.bump 3) by unfold RX.groupSel; rw [if_neg h1, if_pos ⟨h3', h5'⟩])
        clear h3' h5'
        go_wp2_with (first | (go_at_call 74; apply Calls.mono; apply next_lit (w0 := w0) (rb := rb) (sv := sv) (s := s); (first | exact one_cast | exact two_cast | exact three_cast); (apply Rst.env; (focus (repeat (first | exact HC.out | apply Rst.drewN | apply Rst.bump | apply Rst.bump3 | apply Rst.setop1 | apply Rst.setcaps1 | apply Rst.alloc)))); (first | omega | (simp only [RX.St.bump] at *; omega)); rintro e w' ⟨rfl, n, rfl⟩) | (go_at_call 37; apply Calls.mono; apply fail_any (w0 := w0) (rb := rb) (sv := sv) (s := s); (apply Rst.env; (focus (repeat (first | exact HC.out | apply Rst.drewN | apply Rst.bump | apply Rst.bump3 | apply Rst.setop1 | apply Rst.setcaps1 | apply Rst.alloc)))); rintro e w' ⟨rfl, hr, ho, hb⟩; have HC := Lib.hid (Rst.call (by (focus (repeat (first | exact HC.out | apply Rst.drewN | apply Rst.bump | apply Rst.bump3 | apply Rst.setop1 | apply Rst.setcaps1 | apply Rst.alloc)))) hr ho); have hr1 := HC.out.env.rs; have c1 := hr1.c1; have c2 := hr1.c2; have c3 := hr1.c3; have f1 := hr1.fr 1; have f2 := hr1.fr 2; have f3 := hr1.fr 3; have hrl := HC.out.rbl; clear hr1; clear hr ho hb))
        go_meet
        rw [HY.out]
        exact ⟨rfl, by (focus (repeat (first | exact HC.out | apply Rst.drewN | apply Rst.bump | apply Rst.bump3 | apply Rst.setop1 | apply Rst.setcaps1 | apply Rst.alloc)))⟩
  case rest =>
    obtain ⟨rfl, hcc⟩ := hcut
    have HC := Lib.hid hcc
    clear hcc c1 c2 c3 f1 f3 hrl
    have hsel := RX.groupSel_ok (s := s) ha h9
    generalize RX.groupSel s st = g at HG HC hsel ⊢
    obtain ⟨n2, st2⟩ := g
    dsimp only at HG HC hsel ⊢
    obtain ⟨hat2, hsel⟩ := hsel
    rcases hok2 : st2.ok with _ | _
    · go_wp2_with (first | (go_at_call 36; apply Calls.mono; apply ok_any (w0 := w0) (rb := rb) (sv := sv) (s := s); (apply Rst.env; (focus (repeat (first | exact HC.out | apply Rst.drewN | apply Rst.bump | apply Rst.bump3 | apply Rst.setop1 | apply Rst.setcaps1 | apply Rst.alloc)))); rintro e w' ⟨rfl, n, rfl⟩))
      go_ret
      have hz := HG.out
      rw [hok2, if_neg (by decide)] at hz
      rw [hz]
      have HD := HC.out.drewN (n := n)
      exact PostR.of HD.env.rs HD.only (by omega) SlB.nil_ rfl
    · obtain ⟨h12, hop2, h92⟩ := hsel hok2
      have hz := HG.out
      rw [hok2, if_pos rfl, RX.groupIn_eq] at hz
      have HQ := HA h12
      have hq := hk { st2 with op := st2.op + 1 } hok2 hat2 h92
      have hA : ∀ w, Env w0 rb sv s w { st2 with op := st2.op + 1 } → Calls Tryz.prog 35 #[.pointer (some ⟨rb, 0, none⟩)] w (PostR (fun w' v => SlRe (rb + 1) (rb + 1) w' v (alt { st2 with op := st2.op + 1 }).1) rb sv w (alt { st2 with op := st2.op + 1 }).2 (s.length + 30)) :=
        fun w he => HQ w _ he hok2 hat2 h92 (by show st2.op + 1 = _; omega)
      generalize alt { st2 with op := st2.op + 1 } = r at hz hq hA
      have hop1 : r.2.op = st2.op + 1 := hq.1.op
      have hat3 : r.2.at_ ≤ s.length + c := hq.1.hi
      have hsm := small_of hq.2 (by omega) (by omega)
      have HZ := Lib.hid hz
      have HA := Lib.hid hA
      have HS := Lib.hid hsm
      have HP := Lib.hid hop1
      have hp1 : 1 ≤ r.2.op := by omega
      have hp2 : r.2.op ≤ 12 := by omega
      have hp0 : st2.op ≤ 12 := by omega
      clear hz hA hq hsm hsel HQ hop1 hop2
      have hr1 := HC.out.env.rs; have c1 := hr1.c1; have c2 := hr1.c2; have c3 := hr1.c3; have f1 := hr1.fr 1; have f2 := hr1.fr 2; have f3 := hr1.fr 3; have hrl := HC.out.rbl; clear hr1
      go_upto_region 17 with (first | (go_at_call 36; apply Calls.mono; apply ok_any (w0 := w0) (rb := rb) (sv := sv) (s := s); (apply Rst.env; (focus (repeat (first | exact HC.out | apply Rst.drewN | apply Rst.bump | apply Rst.bump3 | apply Rst.setop1 | apply Rst.setcaps1 | apply Rst.alloc)))); rintro e w' ⟨rfl, n, rfl⟩) | (go_at_call 35; refine (HA.out _ ?hen).mono ?_; (case hen => (apply Rst.env; (focus (repeat (first | exact HC.out | apply Rst.drewN | apply Rst.bump | apply Rst.bump3 | apply Rst.setop1 | apply Rst.setcaps1 | apply Rst.alloc))))); rintro e w' ⟨v, rfl, hv, hr, ho, hb⟩; have HC := Lib.hid (Rst.call (by (focus (repeat (first | exact HC.out | apply Rst.drewN | apply Rst.bump | apply Rst.bump3 | apply Rst.setop1 | apply Rst.setcaps1 | apply Rst.alloc)))) hr ho); have hr1 := HC.out.env.rs; have c1 := hr1.c1; have c2 := hr1.c2; have c3 := hr1.c3; have f1 := hr1.fr 1; have f2 := hr1.fr 2; have f3 := hr1.fr 3; have hrl := HC.out.rbl; clear hr1; clear hr ho hb; obtain ⟨Aa, ca, rfl, _⟩ := hv.form; have HV := Lib.hid hv; clear hv))
      go_upto_region 18 with fail
      have HC := Lib.hid (Rst.setop0 (Rst.setv HC.out HV.out) hp1)
      generalize hst4 : ({ r.2 with op := r.2.op - 1 } : RX.St) = st4 at HC HZ
      have hat4 : st4.at_ ≤ s.length + c := by rw [← hst4]; exact hat3
      clear hst4
      go_cut [99] (fun s99 wx => ∃ b, s99 = .bool b ∧ b = (st4.ok && decide (RX.nxt s st4 0 ≠ 41)) ∧ Rst w0 rb sv s w st4 (.slice Aa r.1.length ca) r.1 wx)
      case first =>
        rcases hok4 : st4.ok with _ | _
        · go_wp2_with (first | (go_at_call 36; apply Calls.mono; apply ok_any (w0 := w0) (rb := rb) (sv := sv) (s := s); (apply Rst.env; (focus (repeat (first | exact HC.out | apply Rst.drewN | apply Rst.bump | apply Rst.bump3 | apply Rst.setop1 | apply Rst.setcaps1 | apply Rst.alloc)))); rintro e w' ⟨rfl, n, rfl⟩))
          go_meet
          exact ⟨_, rfl, by rw [hok4]; rfl, by (focus (repeat (first | exact HC.out | apply Rst.drewN | apply Rst.bump | apply Rst.bump3 | apply Rst.setop1 | apply Rst.setcaps1 | apply Rst.alloc)))⟩
        · go_wp2_with (first | (go_at_call 36; apply Calls.mono; apply ok_any (w0 := w0) (rb := rb) (sv := sv) (s := s); (apply Rst.env; (focus (repeat (first | exact HC.out | apply Rst.drewN | apply Rst.bump | apply Rst.bump3 | apply Rst.setop1 | apply Rst.setcaps1 | apply Rst.alloc)))); rintro e w' ⟨rfl, n, rfl⟩) | (go_at_call 57; apply Calls.mono; apply peek_any (w0 := w0) (rb := rb) (sv := sv) (s := s); (apply Rst.env; (focus (repeat (first | exact HC.out | apply Rst.drewN | apply Rst.bump | apply Rst.bump3 | apply Rst.setop1 | apply Rst.setcaps1 | apply Rst.alloc)))); (first | omega | (simp only [RX.St.bump] at *; omega)); rintro e w' ⟨rfl, n, rfl⟩))
          go_meet
          exact ⟨_, rfl, by rw [hok4]; exact ne_dec _, by (focus (repeat (first | exact HC.out | apply Rst.drewN | apply Rst.bump | apply Rst.bump3 | apply Rst.setop1 | apply Rst.setcaps1 | apply Rst.alloc)))⟩
      case rest =>
        obtain ⟨b, rfl, hb, hcc⟩ := hcut
        have HC := Lib.hid hcc
        have HB := Lib.hid hb
        clear hcc hb
        have hr1 := HC.out.env.rs; have c1 := hr1.c1; have c2 := hr1.c2; have c3 := hr1.c3; have f1 := hr1.fr 1; have f2 := hr1.fr 2; have f3 := hr1.fr 3; have hrl := HC.out.rbl; clear hr1
        go_upto_if 99 with fail
        go_cut [] (fun wx => Rst w0 rb sv s w (RX.closed s st4) (.slice Aa r.1.length ca) r.1 wx)
        case first =>
          rcases b with _ | _
          · have HY := Lib.hid (show RX.closed s st4 = st4 by unfold RX.closed; rw [if_neg]; have := HB.out; intro h; rw [h.1, decide_eq_true h.2] at this; cases this)
            go_wp2_with fail
            go_meet
            rw [HY.out]; (focus (repeat (first | exact HC.out | apply Rst.drewN | apply Rst.bump | apply Rst.bump3 | apply Rst.setop1 | apply Rst.setcaps1 | apply Rst.alloc)))
          · have HY := Lib.hid (show RX.closed s st4 = st4.fail 5 st4.at_ by unfold RX.closed; rw [if_pos]; have := HB.out.symm; simp only [Bool.and_eq_true, decide_eq_true_eq] at this; exact this)
            go_wp2_with (first | (go_at_call 37; apply Calls.mono; apply fail_any (w0 := w0) (rb := rb) (sv := sv) (s := s); (apply Rst.env; (focus (repeat (first | exact HC.out | apply Rst.drewN | apply Rst.bump | apply Rst.bump3 | apply Rst.setop1 | apply Rst.setcaps1 | apply Rst.alloc)))); rintro e w' ⟨rfl, hr, ho, hb⟩; have HC := Lib.hid (Rst.call (by (focus (repeat (first | exact HC.out | apply Rst.drewN | apply Rst.bump | apply Rst.bump3 | apply Rst.setop1 | apply Rst.setcaps1 | apply Rst.alloc)))) hr ho); have hr1 := HC.out.env.rs; have c1 := hr1.c1; have c2 := hr1.c2; have c3 := hr1.c3; have f1 := hr1.fr 1; have f2 := hr1.fr 2; have f3 := hr1.fr 3; have hrl := HC.out.rbl; clear hr1; clear hr ho hb))
            go_meet
            rw [HY.out]; (focus (repeat (first | exact HC.out | apply Rst.drewN | apply Rst.bump | apply Rst.bump3 | apply Rst.setop1 | apply Rst.setcaps1 | apply Rst.alloc)))
        case rest =>
          have hat5 := RX.closed_at s st4
          have hat6 : (RX.closed s st4).at_ ≤ s.length + c := by omega
          clear hat5
          generalize RX.closed s st4 = st5 at HZ hcut hat6
          have HC := Lib.hid hcut
          clear hcut
          have hr1 := HC.out.env.rs; have c1 := hr1.c1; have c2 := hr1.c2; have c3 := hr1.c3; have f1 := hr1.fr 1; have f2 := hr1.fr 2; have f3 := hr1.fr 3; have hrl := HC.out.rbl; clear hr1
          go_wp2_with (first | (go_at_call 58; apply Calls.mono; apply under_any (B := rb + 1) (parts := [_]); apply CR.mk0; (apply l_lit; (focus (first | rfl | (simp; done) | (simp; omega))); (focus (first | omega | (simp; omega))); (apply Rst.val; (focus (repeat (first | exact HC.out | apply Rst.drewN | apply Rst.bump | apply Rst.bump3 | apply Rst.setop1 | apply Rst.setcaps1 | apply Rst.alloc))))); exact HS.out _; rintro e w' ⟨vr, rfl, hown, hx⟩; have HR := Lib.hid (SlB.weaken (base' := rb + 1) hown.sl (by (focus (first | omega | (simp; omega))))); have HC := Lib.hid (Rst.ext (by (focus (repeat (first | exact HC.out | apply Rst.drewN | apply Rst.bump | apply Rst.bump3 | apply Rst.setop1 | apply Rst.setcaps1 | apply Rst.alloc)))) hx); have hr1 := HC.out.env.rs; have c1 := hr1.c1; have c2 := hr1.c2; have c3 := hr1.c3; have f1 := hr1.fr 1; have f2 := hr1.fr 2; have f3 := hr1.fr 3; have hrl := HC.out.rbl; clear hr1; clear hx hown))
          go_ret
          have hz := HZ.out
          rw [hz]
          exact PostR.of HC.out.env.rs HC.out.only (by show st5.at_ + 1 ≤ _; omega) HR.out rfl
end
end Go.Proofs.YtfblkahjefdmaaaGreat
