/- Walk: try of the document's own matcher. -/
import Derived.Test.YtfblkahjefdmaaaGreatRmB
import Derived.Test.YtfblkahjefdmaaaGreatMxH
import Derived.Deep.RegionHeld3
namespace Go.Proofs.YtfblkahjefdmaaaGreat
open Go.RowKit

theorem fill_next {α : Type} (a b : α) : ∀ (j k : Nat), (List.replicate j a ++ List.replicate (k + 1) b).set j a = List.replicate (j + 1) a ++ List.replicate k b
  | 0, k => by simp [List.replicate_succ]
  | j + 1, k => by
    rw [List.replicate_succ, List.cons_append, List.set_cons_succ, fill_next a b j k]
    rfl
set_option maxRecDepth 100000 in
set_option maxHeartbeats 4000000 in
theorem rtry_any {w : World} {mb sb : Nat} {sv vp : Value} {prog : List PG.Inst} {g e : Nat} {fold : Bool} {s : List Int} (hmade : PG.Made prog g e) (hset : ∀ x ∈ prog, x.set.length ≤ 1000) (hg : g ≤ 200)
    (hm : Rmt w mb vp prog g fold) (hs : SlC w sv s) (hsl : s.length ≤ 1000) (S : MX.Seen) (we : World) (hx0 : Ext w we) (hlo : w.heap.size ≤ sb)
    (hsn : we.heap[sb]? = some (.cells ((MX.seenL (e + 2) (s.length + 1) S).map Value.bool).toArray 4 (0, 0)))
    (at_ : Nat) (ha : at_ ≤ s.length) (S' : MX.Seen) (r : Option (List Int)) (hx : MX.Exp (MX.act prog fold s) S 0 at_ (MX.blank g) S' r) :
    Calls Tryz.prog 27 #[.pointer (some ⟨mb, 0, none⟩), sv, .int .i64 (at_ : Int), .slice (some ⟨sb, 0, none⟩) ((e + 2) * (s.length + 1)) ((e + 2) * (s.length + 1))] we (TryR w sb (e + 2) (s.length + 1) S' r) := by
  have HOK := Lib.hid (fun (c : MX.Cf) (pc a : Nat) (h1 : MX.WOk g (e + 2) (s.length + 1) c) (h2 : pc < e + 2) (h3 : a ≤ s.length) => MX.step_ok hmade fold s h1 h2 h3)
  have HEN := Lib.hid (MX.ends_run hx)
  have hle := hmade.le
  have hplen := hmade.len
  have HSEE := Lib.hid hsn
  have HX0 := Lib.hid hx0
  have HMT := Lib.hid hm
  have HSS := Lib.hid hs
  have HSET := Lib.hid hset
  have HALL := Lib.hid (fun pc (h : pc < prog.length) => hmade.all (List.getElem?_eq_getElem h))
  have HOPS := Lib.hid (fun pc (h : pc < prog.length) => hmade.ops (List.getElem?_eq_getElem h))
  have HAA := Lib.hid (fun pc (h : pc < prog.length) a => show MX.act prog fold s pc a = (if prog[pc].op = 0 then (if MX.hits fold s a prog[pc] = true then MX.Act.to (pc + 1) (a + 1) else .fail)
    else if prog[pc].op = 1 then (if a = 0 then .to (pc + 1) a else .fail) else if prog[pc].op = 2 then (if a = s.length then .to (pc + 1) a else .fail)
    else if prog[pc].op = 3 then .save prog[pc].x.toNat else if prog[pc].op = 4 then .split prog[pc].x.toNat prog[pc].y.toNat else if prog[pc].op = 5 then .to prog[pc].x.toNat a else .done) by unfold MX.act; rw [List.getElem?_eq_getElem h])
  obtain ⟨As, cs, rfl, hsc, hscm, -⟩ := id hs
  obtain ⟨Ap, cp, rfl, hpl, hpcm, -⟩ := id hm.ins
  obtain ⟨M, hM⟩ : ∃ M, (e + 2) * (s.length + 1) = M := ⟨_, rfl⟩
  have hMb : M ≤ 300 * 1001 := by rw [← hM]; exact Nat.mul_le_mul (by omega) (by omega)
  have HKL := Lib.hid (fun pc a (hp : pc < e + 2) (ha : a < s.length + 1) => (show pc * (s.length + 1) + a < M from by rw [← hM]; exact MX.key_lt hp ha))
  have HMU := Lib.hid (show MX.mu (e + 2) (s.length + 1) ⟨S, [.fwd 0 at_], MX.blank g⟩ ≤ 700000 from by
    have h1 : MX.unseen (e + 2) (s.length + 1) S ≤ (e + 2) * (s.length + 1) := by
      unfold MX.unseen
      have := List.countP_le_length (p := fun b : Bool => !b) (l := MX.seenL (e + 2) (s.length + 1) S)
      rw [MX.seenL_len] at this
      exact this
    simp only [MX.mu, List.length_cons, List.length_nil]
    omega)
  have HW0 := Lib.hid (show MX.WOk g (e + 2) (s.length + 1) ⟨S, [.fwd 0 at_], MX.blank g⟩ from ⟨by simp [MX.blank], fun x hx => by
    simp at hx
    subst hx
    show 0 < e + 2 ∧ at_ < s.length + 1
    omega⟩)
  rw [hM]
  generalize hA : MX.act prog fold s = A at HOK HEN HAA
  rw [hplen] at hpl
  generalize hmm : e + 2 = m at *
  generalize hn : s.length + 1 = n at *
  have HN := Lib.hid hn
  have HPL := Lib.hid hplen
  have hm1 : m ≤ 300 := by omega
  have hn1 : n ≤ 1001 := by omega
  have s1 : IntKind.i64.wrap ((s.length : Int) + 1) = (n : Int) := by rw [IntWalk.i64_in _ (by omega)]; omega
  obtain ⟨G, hG⟩ : ∃ G, 2 * g + 2 = G := ⟨_, rfl⟩
  have hG1 : G ≤ 402 := by omega
  have s4 : IntKind.i64.wrap (2 * (g : Int) + 2) = (G : Int) := by rw [IntWalk.i64_in _ (by omega)]; omega
  have m1 := hx0.cell hm.c1
  have hmk := fun W => run_make_row' (P := Tryz.prog) 39 3 (.int .i64 0) 8 Tryz.underlying39 info_i rfl .i64 .i64 G (by omega) (by omega) W
  have HGG := Lib.hid hG
  have HLO := Lib.hid hlo
  have HSL := Lib.hid hsl
  have HAT := Lib.hid ha
  clear hmade hset hm hs hx hA hM hmm hn hG hsn hx0 hplen hlo hsl ha hsc hle hpl
  go_enter Tryz.func27, Tryz.ntmps27
  go_upto_region 3 with fail
  have HB1 := Lib.hid (heap_alloc_new we (.cells (madeCells #[.int .i64 0] G) 3))
  have HX1 := Lib.hid (show Ext we (we.alloc (.cells (madeCells #[.int .i64 0] G) 3)) from (Ext.refl _).alloc _)
  obtain ⟨nb, hnb⟩ : ∃ nb, we.heap.size = nb := ⟨_, rfl⟩
  have HNB := Lib.hid (show we.heap.size ≤ nb by omega)
  rw [hnb] at HB1 ⊢
  generalize we.alloc _ = w1 at HB1 HX1 ⊢
  clear hnb hmk m1 s4
  obtain ⟨R, hR⟩ : ∃ R, MX.resOf S' (MX.blank g) r = R := ⟨_, rfl⟩
  rw [hR] at HEN
  have HR := Lib.hid hR
  clear hR
  go_loopw [11] (fun x wr => ∃ j k : Nat, j + k = G ∧ x = .int .i64 (j : Nat) ∧ Ext we wr ∧ wr.heap[nb]? = some (.cells ((List.replicate j (-1 : Int) ++ List.replicate k 0).map (Value.int .i64)).toArray 3 (0, 0))) (fun x _ => G - (intOf x).toNat)
  case atStart => exact ⟨0, G, by omega, rfl, HX1.out, by rw [HB1.out, made_rep]; simp⟩
  case round =>
    obtain ⟨j, k, hjk, rfl, hxf, hbf⟩ := hrel
    have HXF := Lib.hid hxf
    have HBF := Lib.hid hbf
    cases k with
    | succ k =>
      have hjG : j < G := by omega
      have d1 : decide ((j : Int) < (G : Int)) = true := by simp; omega
      have d2 : (j : Int) < (G : Int) := by omega
      have fn := frozen_of_row wr nb j _ _ hbf
      have cn : wr.cell? ⟨nb, j, none⟩ = some (.int .i64 0) := by
        rw [cell_of_row wr nb j _ _ _ hbf]
        simp
      have HJK := Lib.hid hjk
      clear hxf hbf hjk
      go_wp2_with fail
      go_roundw
      case rel => exact ⟨j + 1, k, by have := HJK.out; omega, by go_num, HXF.out.set (p := ⟨nb, j, none⟩) HNB.out _, by
        rw [heap_set HBF.out, ← fill_next (-1) 0 j k, List.map_set]
        simp⟩
      case measure => simp [intOf]; omega
    | zero =>
    obtain rfl : j = G := by omega
    have d1 : decide ((j : Int) < (j : Int)) = false := by simp
    have HT0 := Lib.hid (show Trj w sb nb (.slice none 0 0) m n ⟨S, [], MX.blank g⟩ wr from ⟨HX0.out.trans hxf, HLO.out, Nat.le_trans HX0.out.size HNB.out, hxf.heap HSEE.out, by rw [hbf, MX.blank, HGG.out]; simp, OwnB.nil_⟩)
    have HT := Lib.hid (HT0.out.renew at_)
    clear hxf hbf hjk HXF HBF
    go_upto_region 7 with fail
    generalize wr.alloc _ = w2 at HT ⊢
    generalize wr.heap.size = g0 at HT ⊢
    clear HT0
    go_loopg [12] 700000 (fun k v12 wr => ∃ c : MX.Cf, Trj w sb nb v12 m n c wr ∧ MX.WOk g m n c ∧ MX.mu m n c ≤ k ∧ k ≤ 700000 ∧ MX.Ends A c .pop R)
    case atStart => exact ⟨_, HT.out, HW0.out, HMU.out, Nat.le_refl _, HEN.out⟩
    case round =>
      obtain ⟨⟨S2, W, nt2⟩, hT, hW, hmu, hk, hE⟩ := hrel
      obtain ⟨K0, rfl⟩ : ∃ K0, K0 = gk := ⟨gk, rfl⟩
      have HT2 := Lib.hid hT
      obtain ⟨Aw, cap, rfl, hwc, hcc⟩ := hT.formW
      cases W with
      | nil =>
        have HF := Lib.hid (show R = .lost S2 nt2 from (MX.Ends.stop rfl hE).symm)
        clear hT hW hmu hE
        go_wp2_with fail
        refine bodyPost_ret (v := .tuple #[.slice none 0 0, .bool false]) (by simp [results, Tryz.results27, go_sem]) rfl ?_
        have h1 : MX.resOf S' (MX.blank g) r = .lost S2 nt2 := HR.out.trans HF.out
        cases r with
        | some r => cases h1
        | none =>
          injection h1 with e1 e2
          subst e1 e2
          exact ⟨HT2.out.ext, rfl, HT2.out.seen⟩
      | cons x W =>
        obtain ⟨gw, rfl, -, hcell⟩ := hT.top
        have hmu2 : MX.mu m n ⟨S2, W, nt2⟩ + 1 = MX.mu m n ⟨S2, x :: W, nt2⟩ := by simp only [MX.mu, List.length_cons]; omega
        have HMU2 := Lib.hid hmu2
        have hwl : W.length ≤ 700000 := by simp only [MX.mu] at hmu2 hmu; omega
        have hWx := hW.way x (by simp)
        have HW2 := Lib.hid (show MX.WOk g m n ⟨S2, W, nt2⟩ from ⟨hW.len, fun y hy => hW.way y (by simp [hy])⟩)
        have hwc2 : W.length ≤ cap := by simp at hwc; omega
        obtain ⟨q, hq⟩ : ∃ q, (x :: W).length = q := ⟨_, rfl⟩
        obtain ⟨rl, hrl⟩ : ∃ rl, W.length = rl := ⟨_, rfl⟩
        have hql : q = rl + 1 := by rw [← hq, ← hrl]; rfl
        have t1 : IntKind.i64.wrap ((q : Int) - 1) = (rl : Int) := by rw [IntWalk.i64_in _ (by omega)]; omega
        have q1 : (rl : Int) < (q : Int) := by omega
        have q2 : (0 : Int) < (q : Int) := by omega
        have q3 : rl < q := by omega
        have q4 : rl ≤ cap := by omega
        have q5 : (rl : Int) ≤ (cap : Int) := by omega
        have q6 : 0 < q := by omega
        rw [hrl] at hcell hwl hwc2
        have HRL := Lib.hid hrl
        have HTT := Lib.hid (show Trj w sb nb (.slice (some ⟨gw, 0, none⟩) q cap) m n ⟨S2, x :: W, nt2⟩ wr by rw [← hq]; exact hT)
        rw [hq]
        clear hW hmu2 hq hrl hql hT HT2
        cases x with
        | back i v =>
          have e0 : wr.cell? ⟨gw, rl * 3, none⟩ = some (.bool true) := hcell 0 _ rfl
          have e1 : wr.cell? ⟨gw, rl * 3 + 1, none⟩ = some (.int .i64 (i : Int)) := hcell 1 _ rfl
          have e2 : wr.cell? ⟨gw, rl * 3 + 2, none⟩ = some (.int .i64 v) := hcell 2 _ rfl
          clear hcell
          go_upto_region 9 with fail
          have HTA := Lib.hid (HTT.out.ext_ ((Ext.refl wr).alloc (.cells #[.bool true, .int .i64 (i : Int), .int .i64 v] 97)))
          have f0 : (wr.alloc (.cells #[.bool true, .int .i64 (i : Int), .int .i64 v] 97)).cell? ⟨wr.heap.size, 0, none⟩ = some (.bool true) := (World.cell?_alloc_new wr _ _ 0).trans rfl
          have f1 : (wr.alloc (.cells #[.bool true, .int .i64 (i : Int), .int .i64 v] 97)).cell? ⟨wr.heap.size, 1, none⟩ = some (.int .i64 (i : Int)) := (World.cell?_alloc_new wr _ _ 1).trans rfl
          have f2 : (wr.alloc (.cells #[.bool true, .int .i64 (i : Int), .int .i64 v] 97)).cell? ⟨wr.heap.size, 2, none⟩ = some (.int .i64 v) := (World.cell?_alloc_new wr _ _ 2).trans rfl
          have HTB := Lib.hid (show Trj w sb nb (.slice (some ⟨gw, 0, none⟩) rl cap) m n ⟨S2, W, nt2⟩ _ from by have h1 := HTA.out.pop; rw [HRL.out] at h1; exact h1)
          have hil : i < nt2.length := by have := HW2.out.len; dsimp only at this; rw [this]; exact hWx
          have hnl : nt2.length = j := by have := HW2.out.len; dsimp only at this; rw [this]; exact HGG.out
          have hil2 : i < j := by omega
          have hilI : (i : Int) < (j : Int) := by omega
          have cn := HTB.out.nt hil
          have fn := HTB.out.fn i
          clear e0 e1 e2 hil hnl HTT HTA
          generalize wr.alloc _ = w3 at HTB f0 f1 f2 cn fn ⊢
          generalize wr.heap.size = xb at f0 f1 f2 ⊢
          go_wp2_with fail
          go_roundg (MX.mu m n ⟨S2, W, nt2⟩)
          case measure => have := HMU2.out; omega
          case rel => exact ⟨⟨S2, W, nt2.set i v⟩, HTB.out.note (x := i) (v := v), ⟨by simp only [List.length_set]; exact HW2.out.len, HW2.out.way⟩, Nat.le_refl _, by have := HMU2.out; omega, MX.Ends.off rfl hE⟩
        | fwd p a =>
          have e0 : wr.cell? ⟨gw, rl * 3, none⟩ = some (.bool false) := hcell 0 _ rfl
          have e1 : wr.cell? ⟨gw, rl * 3 + 1, none⟩ = some (.int .i64 (p : Int)) := hcell 1 _ rfl
          have e2 : wr.cell? ⟨gw, rl * 3 + 2, none⟩ = some (.int .i64 (a : Int)) := hcell 2 _ rfl
          clear hcell
          go_upto_region 9 with fail
          have HTA := Lib.hid (HTT.out.ext_ ((Ext.refl wr).alloc (.cells #[.bool false, .int .i64 (p : Int), .int .i64 (a : Int)] 97)))
          have f0 : (wr.alloc (.cells #[.bool false, .int .i64 (p : Int), .int .i64 (a : Int)] 97)).cell? ⟨wr.heap.size, 0, none⟩ = some (.bool false) := (World.cell?_alloc_new wr _ _ 0).trans rfl
          have f1 : (wr.alloc (.cells #[.bool false, .int .i64 (p : Int), .int .i64 (a : Int)] 97)).cell? ⟨wr.heap.size, 1, none⟩ = some (.int .i64 (p : Int)) := (World.cell?_alloc_new wr _ _ 1).trans rfl
          have f2 : (wr.alloc (.cells #[.bool false, .int .i64 (p : Int), .int .i64 (a : Int)] 97)).cell? ⟨wr.heap.size, 2, none⟩ = some (.int .i64 (a : Int)) := (World.cell?_alloc_new wr _ _ 2).trans rfl
          have HTB := Lib.hid (show Trj w sb nb (.slice (some ⟨gw, 0, none⟩) rl cap) m n ⟨S2, W, nt2⟩ _ from by have h1 := HTA.out.pop; rw [HRL.out] at h1; exact h1)
          clear e0 e1 e2 HTT HTA
          generalize wr.alloc _ = w3 at HTB f0 f1 f2 ⊢
          generalize wr.heap.size = xb at f0 f1 f2 ⊢
          go_wp2_with fail
          go_quiet (fail)
          go_wp2_with fail
          obtain ⟨hpm, han⟩ := hWx
          have HE0 := Lib.hid (MX.Ends.off (c' := ⟨S2, W, nt2⟩) (ph' := .go p a) rfl hE)
          have HX2 := Lib.hid (HTB.out.ext_ ((Ext.refl w3).drewN nq))
          clear f0 f1 f2
          generalize w3.drewN nq = w5 at HX2 ⊢
          go_loopg [12, 14, 15, 16] (MX.mu m n ⟨S2, W, nt2⟩ + 1) (fun k v12 x14 x15 x16 wr => ∃ c : MX.Cf, Trj w sb nb v12 m n c wr ∧ MX.WOk g m n c ∧ MX.mu m n c + 1 ≤ K0 ∧
            ((x16 = .bool true ∧ ∃ p a : Nat, x14 = .int .i64 (p : Int) ∧ x15 = .int .i64 (a : Int) ∧ p < m ∧ a < n ∧ MX.mu m n c + 1 ≤ k ∧ MX.Ends A c (.go p a) R) ∨
             (x16 = .bool false ∧ MX.mu m n c ≤ k ∧ MX.Ends A c .pop R)))
          case atStart => exact ⟨_, HX2.out, HW2.out, by have := HMU2.out; omega, .inl ⟨rfl, p, a, rfl, rfl, hpm, han, Nat.le_refl _, HE0.out⟩⟩
          case round =>
            obtain ⟨c, hTc, hWc, hmc, hor⟩ := hrel
            have HTc := Lib.hid hTc
            have HWc := Lib.hid hWc
            rcases hor with ⟨rfl, p2, a2, rfl, rfl, hp2, ha2, hm2, hE2⟩ | ⟨rfl, hm2, hE2⟩
            rotate_left
            · clear hTc hWc
              go_wp2_with fail
              go_roundg (MX.mu m n c)
              case measure => omega
              case rel => exact ⟨c, HTc.out, HWc.out, Nat.le_refl _, by omega, hE2⟩
            have hlp : p2 < prog.length := by rw [HPL.out]; exact hp2
            have hK := HKL.out p2 a2 hp2 ha2
            have hok := HOK.out c p2 a2 hWc hp2 (by have := HN.out; omega)
            have hnx := MX.next_go (A := A) (c := c) (pc := p2) (at_ := a2)
            obtain ⟨R1, hR1⟩ : ∃ R1, MX.step A c p2 a2 = R1 := ⟨_, rfl⟩
            have HRR := Lib.hid hR1
            rw [hR1] at hok hnx
            have HOKR := Lib.hid hok
            have HNXT := Lib.hid hnx
            have HE2 := Lib.hid hE2
            have hsee := hTc.see hp2 ha2
            have fse := hTc.fs (p2 * n + a2)
            obtain ⟨Aw2, cap2, rfl, -, -⟩ := hTc.formW
            have hq0 : p2 * n ≤ 300 * 1001 := Nat.mul_le_mul (by omega) hn1
            have hpb : 0 ≤ (p2 : Int) * (n : Int) ∧ (p2 : Int) * (n : Int) ≤ 300300 := by
              rw [← Int.natCast_mul]; omega
            obtain ⟨q, hq⟩ : ∃ q, p2 * n = q := ⟨_, rfl⟩
            obtain ⟨K, hKK⟩ : ∃ K, q + a2 = K := ⟨_, rfl⟩
            rw [hq, hKK] at hK hsee fse
            have s2 : IntKind.i64.wrap ((p2 : Int) * (n : Int)) = (q : Int) := by rw [IntWalk.i64_in _ (by omega), ← hq, Int.natCast_mul]
            have s3 : IntKind.i64.wrap ((q : Int) + (a2 : Int)) = (K : Int) := by rw [IntWalk.i64_in _ (by omega)]; omega
            have s6 : IntKind.i64.wrap ((p2 : Int) + 1) = (p2 : Int) + 1 := IntWalk.i64_in _ (by omega)
            have s7 : IntKind.i64.wrap ((a2 : Int) + 1) = (a2 : Int) + 1 := IntWalk.i64_in _ (by omega)
            have hKI : (K : Int) < (M : Int) := by omega
            have HCN := Lib.hid (show c.notes.length = j by rw [hWc.len]; exact HGG.out)
            clear hpb hq0 hok hnx hR1 hE2
            rcases hsn : c.seen p2 a2 with _ | _
            rotate_left
            · rw [hsn] at hsee
              have HF := Lib.hid (show R1 = (c, MX.Go.fail) by rw [← HRR.out]; unfold MX.step; rw [if_pos hsn])
              have hnx := HNXT.out
              rw [HF.out] at hnx
              have HE3 := Lib.hid (MX.Ends.off hnx HE2.out)
              clear hTc hWc hnx hsn hq hKK
              go_wp2_with fail
              go_roundg (MX.mu m n c)
              case measure => omega
              case rel => exact ⟨c, HTc.out, HWc.out, Nat.le_refl _, by omega, HE3.out⟩
            rw [hsn] at hsee
            have HSN := Lib.hid hsn
            have HT1 := Lib.hid (show Trj w sb nb _ m n ⟨MX.mark c.seen p2 a2, c.ways, c.notes⟩ (wr.setCell ⟨sb, K, none⟩ (.bool true)) from by have := HTc.out.mark hp2 ha2; rw [hq, hKK] at this; exact this)
            obtain ⟨gp, op_, hAp, -, pcs, ⟨vs, rfl, hvs⟩, -, hpc⟩ := SlR.at_ HMT.out.ins (List.getElem?_eq_getElem hlp)
            have hqc : ∀ (i : Nat) (u : Value), [Value.int .i64 prog[p2].op, .int .i64 prog[p2].x, .int .i64 prog[p2].y, .bool prog[p2].neg, vs][i]? = some u → w.cell? ⟨gp, op_ + p2 * 5 + i, none⟩ = some u := hpc
            have hops := HOPS.out p2 hlp
            have HINL := Lib.hid (HALL.out p2 hlp)
            have HACT2 := Lib.hid (HAA.out p2 hlp a2)
            have HXSL := Lib.hid (HSET.out _ (List.getElem_mem hlp))
            obtain ⟨x, hx⟩ : ∃ x, prog[p2] = x := ⟨_, rfl⟩
            rw [hx] at hops HINL HACT2 hvs hqc HXSL
            have HVS := Lib.hid hvs
            obtain ⟨Av, cv, rfl, -⟩ := id hvs
            subst hAp
            have m0 := hTc.ext.cell HMT.out.c0
            rw [HPL.out] at m0
            have x0 : wr.cell? ⟨gp, op_ + p2 * 5, none⟩ = _ := hTc.ext.cell (hqc 0 _ rfl)
            have x1 := hTc.ext.cell (hqc 1 _ rfl)
            have x2 := hTc.ext.cell (hqc 2 _ rfl)
            have x3 := hTc.ext.cell (hqc 3 _ rfl)
            have x4 := hTc.ext.cell (hqc 4 _ rfl)
            have hgs : gp ≠ sb := by
              intro e1
              have h1 := World.block_lt_of_cell? w _ (hqc 0 _ rfl)
              have h2 := hTc.los
              have h1 : gp < w.heap.size := h1
              omega
            have hsg := hgs.symm
            have hmbs : mb ≠ sb := by have := heap_lt HMT.out.box; have := hTc.los; omega
            have hsmb := hmbs.symm
            have hpI : (p2 : Int) < (m : Int) := by omega
            clear hq hsn hqc hvs hlp hx hKK hpc hTc hWc
            go_upto_region 18 with fail
            have HT2 := Lib.hid (HT1.out.ext_ ((Ext.refl _).alloc (.cells #[.int .i64 x.op, .int .i64 x.x, .int .i64 x.y, .bool x.neg, .slice Av x.set.length cv] 72)))
            have hn0 := heap_alloc_new (wr.setCell ⟨sb, K, none⟩ (.bool true)) (.cells #[.int .i64 x.op, .int .i64 x.x, .int .i64 x.y, .bool x.neg, .slice Av x.set.length cv] 72)
            rw [show (wr.setCell ⟨sb, K, none⟩ (.bool true)).heap.size = wr.heap.size by simp] at hn0
            clear hsee fse x0 x1 x2 x3 x4 HTc HT1 m0 HWc
            generalize (wr.setCell ⟨sb, K, none⟩ (.bool true)).alloc (.cells #[.int .i64 x.op, .int .i64 x.x, .int .i64 x.y, .bool x.neg, .slice Av x.set.length cv] 72) = w2 at HT2 hn0 ⊢
            generalize wr.heap.size = xb at hn0 ⊢
            have x0 : w2.cell? ⟨xb, 0, none⟩ = some (.int .i64 x.op) := cell_of_row w2 xb 0 _ _ _ hn0
            have x1 : w2.cell? ⟨xb, 1, none⟩ = some (.int .i64 x.x) := cell_of_row w2 xb 1 _ _ _ hn0
            have x2 : w2.cell? ⟨xb, 2, none⟩ = some (.int .i64 x.y) := cell_of_row w2 xb 2 _ _ _ hn0
            have x3 : w2.cell? ⟨xb, 3, none⟩ = some (.bool x.neg) := cell_of_row w2 xb 3 _ _ _ hn0
            have x4 : w2.cell? ⟨xb, 4, none⟩ = some (.slice Av x.set.length cv) := cell_of_row w2 xb 4 _ _ _ hn0
            have HN0 := Lib.hid hn0
            clear hn0 hgs hsg hmbs hsmb hKI hK
            have hcase : x.op = 0 ∨ x.op = 1 ∨ x.op = 2 ∨ x.op = 3 ∨ x.op = 4 ∨ x.op = 5 ∨ x.op = 6 := by omega
            clear hops
            rcases hcase with h | h | h | h | h | h | h
            · -- a set
              rw [h] at x0
              by_cases hlt : a2 < s.length
              · obtain ⟨bs, os, hAs, hsc⟩ := HSS.out.at_ hlt
                subst hAs
                have y0 := HT2.out.ext.cell hsc
                obtain ⟨rr, hr⟩ : ∃ rr, s[a2] = rr := ⟨_, rfl⟩
                rw [hr] at y0
                obtain ⟨I, hI⟩ : ∃ I, MX.isIn fold rr x = I := ⟨_, rfl⟩
                have HH := Lib.hid (show MX.hits fold s a2 x = I by unfold MX.hits; rw [List.getElem?_eq_getElem hlt, hr]; exact hI)
                have HIN := Lib.hid (fun w' (hx : Ext w w') => rof_any x rr (.slice Av x.set.length cv) mb g fold _ w' (hx.heap HMT.out.box) (SlC.ext (SlR.mono2 HVS.out fun _ _ _ h => h.2) hx) (Nat.le_trans HXSL.out (by decide)))
                rw [hI, h] at HIN
                have HX2 := Lib.hid HT2.out.ext
                have hltI : (a2 : Int) < (s.length : Int) := by omega
                have hltd : decide ((a2 : Int) < (s.length : Int)) = true := by simp; omega
                cases I with
                | false =>
                  have HF := Lib.hid (show R1 = (⟨MX.mark c.seen p2 a2, c.ways, c.notes⟩, MX.Go.fail) from by rw [← HRR.out]; exact (MX.step_fail HSN.out (by rw [HACT2.out, if_pos h, HH.out, if_neg (by decide)])))
                  have hkf := HOKR.out
                  have hnx := HNXT.out
                  rw [HF.out] at hkf hnx
                  obtain ⟨k1, k2, k3⟩ := hkf
                  have HK1 := Lib.hid k1
                  have HE3 := Lib.hid (MX.Ends.off hnx HE2.out)
                  clear k1 k3 hnx
                  clear h hr hI hsc
                  go_upto_region 22 with fail

                  go_region_held3 (fun w' => w'.cell? ⟨bs, os + a2, none⟩ = some (.int .i32 rr) ∧ w'.cell? ⟨xb, 0, none⟩ = some (.int .i64 0) ∧ w'.cell? ⟨xb, 1, none⟩ = some (.int .i64 x.x) ∧ w'.cell? ⟨xb, 2, none⟩ = some (.int .i64 x.y) ∧ w'.cell? ⟨xb, 3, none⟩ = some (.bool x.neg) ∧ w'.cell? ⟨xb, 4, none⟩ = some (.slice Av x.set.length cv))
                    (first | go_keep | (go_split_ands; refine ⟨?_, ?_, ?_, ?_, ?_, ?_⟩ <;> (refine Ext.cell (by assumption) ?_; assumption)))
                    (first | (go_at_call 47; go_loud (refine (HIN.out _ (HX2.out.trans ((Ext.refl _).drew))).mono ?_; rintro e3 w3 ⟨rfl, hE3⟩; have HT3 := Lib.hid (HT2.out.ext_ (((Ext.refl _).drew).trans hE3)))))
                  go_wp2_with fail
                  go_roundg (MX.mu m n ⟨MX.mark c.seen p2 a2, c.ways, c.notes⟩)
                  case measure => omega
                  case rel => exact ⟨⟨MX.mark c.seen p2 a2, c.ways, c.notes⟩, HT3.out, HK1.out, by omega, .inr ⟨rfl, Nat.le_refl _, HE3.out⟩⟩
                | true =>
                  have HF := Lib.hid (show R1 = (⟨MX.mark c.seen p2 a2, c.ways, c.notes⟩, MX.Go.to (p2 + 1) (a2 + 1)) from by rw [← HRR.out]; exact (MX.step_to HSN.out (by rw [HACT2.out, if_pos h, HH.out, if_pos rfl])))
                  have hkf := HOKR.out
                  have hnx := HNXT.out
                  rw [HF.out] at hkf hnx
                  obtain ⟨k1, k2, k3⟩ := hkf
                  have HK1 := Lib.hid k1
                  obtain ⟨k4, k5, k6⟩ := k3 (p2 + 1) (a2 + 1) rfl
                  have HE3 := Lib.hid (MX.Ends.off hnx HE2.out)
                  clear k1 k3 hnx
                  clear h hr hI hsc
                  go_upto_region 22 with fail

                  go_region_held3 (fun w' => w'.cell? ⟨bs, os + a2, none⟩ = some (.int .i32 rr) ∧ w'.cell? ⟨xb, 0, none⟩ = some (.int .i64 0) ∧ w'.cell? ⟨xb, 1, none⟩ = some (.int .i64 x.x) ∧ w'.cell? ⟨xb, 2, none⟩ = some (.int .i64 x.y) ∧ w'.cell? ⟨xb, 3, none⟩ = some (.bool x.neg) ∧ w'.cell? ⟨xb, 4, none⟩ = some (.slice Av x.set.length cv))
                    (first | go_keep | (go_split_ands; refine ⟨?_, ?_, ?_, ?_, ?_, ?_⟩ <;> (refine Ext.cell (by assumption) ?_; assumption)))
                    (first | (go_at_call 47; go_loud (refine (HIN.out _ (HX2.out.trans ((Ext.refl _).drew))).mono ?_; rintro e3 w3 ⟨rfl, hE3⟩; have HT3 := Lib.hid (HT2.out.ext_ (((Ext.refl _).drew).trans hE3)))))
                  go_wp2_with fail
                  go_roundg (MX.mu m n ⟨MX.mark c.seen p2 a2, c.ways, c.notes⟩ + 1)
                  case measure => omega
                  case rel => exact ⟨⟨MX.mark c.seen p2 a2, c.ways, c.notes⟩, HT3.out, HK1.out, by omega, .inl ⟨rfl, p2 + 1, a2 + 1, by go_num, by go_num, k4, k5, Nat.le_refl _, HE3.out⟩⟩
              · have hat : a2 = s.length := by have := HN.out; omega
                have HF := Lib.hid (show R1 = (⟨MX.mark c.seen p2 a2, c.ways, c.notes⟩, MX.Go.fail) from by rw [← HRR.out]; exact (MX.step_fail HSN.out (by rw [HACT2.out, if_pos h, if_neg (by unfold MX.hits; rw [List.getElem?_eq_none (by omega)]; simp)])))
                have hkf := HOKR.out
                have hnx := HNXT.out
                rw [HF.out] at hkf hnx
                obtain ⟨k1, k2, k3⟩ := hkf
                have HK1 := Lib.hid k1
                have HE3 := Lib.hid (MX.Ends.off hnx HE2.out)
                clear k1 k3 hnx
                have hltI : decide ((a2 : Int) < (s.length : Int)) = false := by simp; omega
                clear h hat
                go_wp2_with fail
                go_quiet (fail)
                go_wp2_with fail
                go_roundg (MX.mu m n ⟨MX.mark c.seen p2 a2, c.ways, c.notes⟩)
                case measure => omega
                case rel => exact ⟨⟨MX.mark c.seen p2 a2, c.ways, c.notes⟩, HT2.out.ext_ ((Ext.refl _).drewN _), HK1.out, by omega, .inr ⟨rfl, Nat.le_refl _, HE3.out⟩⟩
            · -- the beginning
              rw [h] at x0
              rcases hz : (((a2 : Int) == 0)) with _ | _
              · have HF := Lib.hid (show R1 = (⟨MX.mark c.seen p2 a2, c.ways, c.notes⟩, MX.Go.fail) from by rw [← HRR.out]; exact (MX.step_fail HSN.out (by rw [HACT2.out, if_neg (by omega), if_pos h, if_neg (by intro e; rw [e] at hz; simp at hz)])))
                have hkf := HOKR.out
                have hnx := HNXT.out
                rw [HF.out] at hkf hnx
                obtain ⟨k1, k2, k3⟩ := hkf
                have HK1 := Lib.hid k1

                have HE3 := Lib.hid (MX.Ends.off hnx HE2.out)
                clear k1 k3 hnx
                clear h
                go_wp2_with fail

                go_roundg (MX.mu m n ⟨MX.mark c.seen p2 a2, c.ways, c.notes⟩)
                case measure => omega
                case rel => exact ⟨⟨MX.mark c.seen p2 a2, c.ways, c.notes⟩, HT2.out, HK1.out, by omega, .inr ⟨rfl, Nat.le_refl _, HE3.out⟩⟩
              · have HF := Lib.hid (show R1 = (⟨MX.mark c.seen p2 a2, c.ways, c.notes⟩, MX.Go.to (p2 + 1) a2) from by rw [← HRR.out]; exact (MX.step_to HSN.out (by rw [HACT2.out, if_neg (by omega), if_pos h, if_pos (by simpa using hz)])))
                have hkf := HOKR.out
                have hnx := HNXT.out
                rw [HF.out] at hkf hnx
                obtain ⟨k1, k2, k3⟩ := hkf
                have HK1 := Lib.hid k1

                obtain ⟨k4, k5, k6⟩ := k3 (p2 + 1) (a2) rfl
                have HE3 := Lib.hid (MX.Ends.off hnx HE2.out)
                clear k1 k3 hnx
                clear h
                go_wp2_with fail

                go_roundg (MX.mu m n ⟨MX.mark c.seen p2 a2, c.ways, c.notes⟩ + 1)
                case measure => omega
                case rel => exact ⟨⟨MX.mark c.seen p2 a2, c.ways, c.notes⟩, HT2.out, HK1.out, by omega, .inl ⟨rfl, p2 + 1, a2, by go_num, by go_num, k4, k5, Nat.le_refl _, HE3.out⟩⟩
            · -- the end
              rw [h] at x0
              rcases hz : (((a2 : Int) == (s.length : Int))) with _ | _
              · have HF := Lib.hid (show R1 = (⟨MX.mark c.seen p2 a2, c.ways, c.notes⟩, MX.Go.fail) from by rw [← HRR.out]; exact (MX.step_fail HSN.out (by rw [HACT2.out, if_neg (by omega), if_neg (by omega), if_pos h, if_neg (by intro e; rw [e] at hz; simp at hz)])))
                have hkf := HOKR.out
                have hnx := HNXT.out
                rw [HF.out] at hkf hnx
                obtain ⟨k1, k2, k3⟩ := hkf
                have HK1 := Lib.hid k1

                have HE3 := Lib.hid (MX.Ends.off hnx HE2.out)
                clear k1 k3 hnx
                clear h
                go_wp2_with fail

                go_roundg (MX.mu m n ⟨MX.mark c.seen p2 a2, c.ways, c.notes⟩)
                case measure => omega
                case rel => exact ⟨⟨MX.mark c.seen p2 a2, c.ways, c.notes⟩, HT2.out, HK1.out, by omega, .inr ⟨rfl, Nat.le_refl _, HE3.out⟩⟩
              · have HF := Lib.hid (show R1 = (⟨MX.mark c.seen p2 a2, c.ways, c.notes⟩, MX.Go.to (p2 + 1) a2) from by rw [← HRR.out]; exact (MX.step_to HSN.out (by rw [HACT2.out, if_neg (by omega), if_neg (by omega), if_pos h, if_pos (by have := beq_iff_eq.1 hz; omega)])))
                have hkf := HOKR.out
                have hnx := HNXT.out
                rw [HF.out] at hkf hnx
                obtain ⟨k1, k2, k3⟩ := hkf
                have HK1 := Lib.hid k1

                obtain ⟨k4, k5, k6⟩ := k3 (p2 + 1) (a2) rfl
                have HE3 := Lib.hid (MX.Ends.off hnx HE2.out)
                clear k1 k3 hnx
                clear h
                go_wp2_with fail

                go_roundg (MX.mu m n ⟨MX.mark c.seen p2 a2, c.ways, c.notes⟩ + 1)
                case measure => omega
                case rel => exact ⟨⟨MX.mark c.seen p2 a2, c.ways, c.notes⟩, HT2.out, HK1.out, by omega, .inl ⟨rfl, p2 + 1, a2, by go_num, by go_num, k4, k5, Nat.le_refl _, HE3.out⟩⟩
            · -- a note
              rw [h] at x0
              have hin := HINL.out.save h
              obtain ⟨X, hX⟩ : ∃ X, x.x.toNat = X := ⟨_, rfl⟩
              have hxX : x.x = (X : Int) := by omega
              have hXl : X < c.notes.length := by rw [HCN.out, ← HGG.out]; omega
              have hXj : X < j := by rw [← HCN.out]; exact hXl
              have hXI : (X : Int) < (j : Int) := by omega
              rw [hxX] at x1
              have yn := HT2.out.nt (x := X) hXl
              obtain ⟨nv, hnv⟩ : ∃ nv, c.notes.getD X (-1) = nv := ⟨_, rfl⟩
              have hnv' : (⟨MX.mark c.seen p2 a2, c.ways, c.notes⟩ : MX.Cf).notes.getD X (-1) = nv := hnv
              rw [hnv'] at yn
              have HF := Lib.hid (show R1 = (⟨MX.mark c.seen p2 a2, .back X nv :: c.ways, c.notes.set X a2⟩, MX.Go.to (p2 + 1) a2) from by rw [← HRR.out]; exact (by rw [← hnv]; exact MX.step_save HSN.out (by rw [HACT2.out, if_neg (by omega), if_neg (by omega), if_neg (by omega), if_pos h, hX])))
              have hkf := HOKR.out
              have hnx := HNXT.out
              rw [HF.out] at hkf hnx
              obtain ⟨k1, k2, k3⟩ := hkf
              have HK1 := Lib.hid k1
              obtain ⟨k4, k5, k6⟩ := k3 (p2 + 1) (a2) rfl
              have HE3 := Lib.hid (MX.Ends.off hnx HE2.out)
              clear k1 k3 hnx
              obtain ⟨WL, hWL⟩ : ∃ WL, c.ways.reverse = WL := ⟨_, rfl⟩
              have hwlen : WL.length = c.ways.length := by rw [← hWL, List.length_reverse]
              have hwl : WL.length ≤ 1000000000 := by
                have : MX.mu m n c ≤ 700000 := by omega
                simp only [MX.mu] at this
                omega
              have hwl6 : WL.length ≤ 1000000 := by
                have : MX.mu m n c ≤ 700000 := by omega
                simp only [MX.mu] at this
                omega
              have hB : w.heap.size ≤ w2.heap.size := HT2.out.ext.size
              have hown : OwnB 97 3 Cw w.heap.size w2 (.slice Aw2 c.ways.length cap2) WL := by rw [← hWL]; exact HT2.out.ways
              have HOW := Lib.hid hown
              have HWL := Lib.hid hWL

              have HXB1 := Lib.hid (show (#[Value.int .i64 x.op, .int .i64 x.x, .int .i64 x.y, .bool x.neg, .slice Av x.set.length cv] : Array Value)[1]? = some (.int .i64 (X : Int)) by rw [hxX]; rfl)
              have HNV := Lib.hid (show some (Value.int .i64 (c.notes.getD X (-1))) = some (.int .i64 nv) by rw [hnv])
              clear h hin hX hxX hnv hnv' hown hWL hwlen
              go_upto_region 29 with fail
              have hbx := HN0.out
              have hS0 : w2.drew.cell? ⟨xb, 1, none⟩ = some (.int .i64 (X : Int)) ∧ w2.drew.cell? ⟨nb, X, none⟩ = some (.int .i64 nv) := ⟨x1, yn⟩
              refine wp_region_T (fun w' => w'.cell? ⟨xb, 1, none⟩ = some (.int .i64 (X : Int)) ∧ w'.cell? ⟨nb, X, none⟩ = some (.int .i64 nv)) 11 (by kernel_rfl) ?_
              refine wpAnyT_take 0 (v := ?_) rfl (by kernel_rfl) (fun _ _ _ h => h) hS0 rfl ?_ ?_
              rotate_left
              · intro w9 hSw
                obtain ⟨hS1, hS2⟩ := hSw
                go_simp
                try with_reducible rfl
              go_frame
              refine wpAnyT_take 1 (v := ?_) rfl (by kernel_rfl) (fun _ _ _ h => h) hS0 rfl ?_ ?_
              rotate_left
              · intro w9 hSw
                obtain ⟨hS1, hS2⟩ := hSw
                go_simp
                try with_reducible rfl
              go_frame
              refine wpAnyT_take 2 (v := ?_) rfl (by kernel_rfl) (fun _ _ _ h => h) hS0 rfl ?_ ?_
              rotate_left
              · intro w9 hSw
                obtain ⟨hS1, hS2⟩ := hSw
                go_simp
                try with_reducible rfl
              go_frame
              refine wpAnyT_take 3 (v := ?_) rfl (by kernel_rfl) (fun _ _ _ h => h) hS0 rfl ?_ ?_
              rotate_left
              · intro w9 hSw
                obtain ⟨hS1, hS2⟩ := hSw
                go_simp
                try with_reducible rfl
              go_frame
              refine wpAnyT_take 4 (v := ?_) rfl (by kernel_rfl) (fun _ _ _ h => h) hS0 rfl ?_ ?_
              rotate_left
              · intro w9 hSw
                obtain ⟨hS1, hS2⟩ := hSw
                go_simp
                try with_reducible rfl
              go_frame
              refine wpAnyT_take 5 (v := ?_) rfl (by kernel_rfl) (fun _ _ _ h => h) hS0 rfl ?_ ?_
              rotate_left
              · intro w9 hSw
                obtain ⟨hS1, hS2⟩ := hSw
                go_simp
                try with_reducible rfl
              go_frame
              refine wpAnyT_take 6 (v := ?_) rfl (by kernel_rfl) (fun _ _ _ h => h) hS0 rfl ?_ ?_
              rotate_left
              · intro w9 hSw
                obtain ⟨hS1, hS2⟩ := hSw
                go_simp
                try with_reducible rfl
              go_frame
              refine wpAnyT_take 7 (v := ?_) rfl (by kernel_rfl) (fun _ _ _ h => h) hS0 rfl ?_ ?_
              rotate_left
              · intro w9 hSw
                obtain ⟨hS1, hS2⟩ := hSw
                go_simp
                try with_reducible rfl
              go_frame
              refine wpAnyT_take 8 (v := ?_) rfl (by kernel_rfl) (fun _ _ _ h => h) hS0 rfl ?_ ?_
              rotate_left
              · intro w9 hSw
                obtain ⟨hS1, hS2⟩ := hSw
                go_simp
                try with_reducible rfl
              go_frame
              refine wpAnyT_one 9 (by kernel_rfl) rfl (fun K9 hK => ?_)
              go_simp
              refine hK.out _ _ (fun _ => ?_) ?_
              · obtain ⟨hS1, hS2⟩ := hS0
                exact ⟨(Ext.refl w2.drew).alloc _ |>.cell hS1, (Ext.refl w2.drew).alloc _ |>.cell hS2⟩
              clear hK K9
              refine wpAnyT_one 10 (by kernel_rfl) rfl (fun K9 hK => ?_)
              refine step_inst Tryz.underlying98 info_way rfl (by decide) (by decide) (keeps_w []) (by simp) rfl _ _ (by rfl) w.heap.size _ WL (.back X nv) [.bool true, .int .i64 (X : Int), .int .i64 nv] 97 (w := w2.drew) HOW.out rfl rfl (by simp [Value.oneCell']) (by rfl) w2.drew.heap.size (by rfl) rfl hwl hB ?_
              intro gg cap w5 h1 h2
              have HT5 := Lib.hid (HT2.out.ext_ (((Ext.refl w2).drew).alloc (.cells #[.bool true, .int .i64 (X : Int), .int .i64 nv] 97)))
              have hown6 : OwnB 97 3 Cw w.heap.size w5 (.slice (some ⟨gg, 0, none⟩) (WL.length + 1) cap) (c.ways.reverse ++ [.back X nv]) := by rw [HWL.out]; exact h1
              have HT6 := Lib.hid (HT5.out.push (x := .back X nv) hown6 h2)
              have hx6 := HT5.out.other h2 ((((Ext.refl w2).drew).alloc (.cells #[.bool true, .int .i64 (X : Int), .int .i64 nv] 97)).heap hbx) (by decide)
              have z1 := (cell_of_row w5 xb 1 _ _ _ hx6).trans HXB1.out
              have zn := (HT6.out.nt (x := X) hXl).trans HNV.out
              have hS5 : w5.cell? ⟨xb, 1, none⟩ = some (.int .i64 (X : Int)) ∧ w5.cell? ⟨nb, X, none⟩ = some (.int .i64 nv) := ⟨z1, zn⟩
              refine hK.out _ _ (fun _ => hS5) ?_
              clear hK K9 h1 h2 hx6 hown6 hS0 x0 x1 x2 x3 x4 yn
              go_frame
              refine wpAnyT_one 11 (by kernel_rfl) rfl (fun K9 hK => ?_)
              go_simp
              refine hK.out _ _ (fun _ => hS5) ?_
              clear hK K9
              refine wpAnyT_done (by kernel_rfl) ?_
              clear hS5
              have fn := HT6.out.fn X
              have HT7 := Lib.hid (HT6.out.note (x := X) (v := (a2 : Int)))
              go_wp2_with fail
              go_roundg (MX.mu m n ⟨MX.mark c.seen p2 a2, .back X nv :: c.ways, c.notes.set X a2⟩ + 1)
              case measure => omega
              case rel => exact ⟨⟨MX.mark c.seen p2 a2, .back X nv :: c.ways, c.notes.set X a2⟩, HT7.out, HK1.out, by omega, .inl ⟨rfl, p2 + 1, a2, by go_num, by go_num, k4, k5, Nat.le_refl _, HE3.out⟩⟩
            · -- two ways
              rw [h] at x0
              have hin := HINL.out.split h
              obtain ⟨X, hX⟩ : ∃ X, x.x.toNat = X := ⟨_, rfl⟩
              obtain ⟨Y, hY⟩ : ∃ Y, x.y.toNat = Y := ⟨_, rfl⟩
              have hxX : x.x = (X : Int) := by omega
              have hyY : x.y = (Y : Int) := by omega
              rw [hxX] at x1
              rw [hyY] at x2
              have HF := Lib.hid (show R1 = (⟨MX.mark c.seen p2 a2, .fwd Y a2 :: c.ways, c.notes⟩, MX.Go.to X a2) from by rw [← HRR.out]; exact (MX.step_split HSN.out (by rw [HACT2.out, if_neg (by omega), if_neg (by omega), if_neg (by omega), if_neg (by omega), if_pos h, hX, hY])))
              have hkf := HOKR.out
              have hnx := HNXT.out
              rw [HF.out] at hkf hnx
              obtain ⟨k1, k2, k3⟩ := hkf
              have HK1 := Lib.hid k1
              obtain ⟨k4, k5, k6⟩ := k3 (X) (a2) rfl
              have HE3 := Lib.hid (MX.Ends.off hnx HE2.out)
              clear k1 k3 hnx
              obtain ⟨WL, hWL⟩ : ∃ WL, c.ways.reverse = WL := ⟨_, rfl⟩
              have hwlen : WL.length = c.ways.length := by rw [← hWL, List.length_reverse]
              have hwl : WL.length ≤ 1000000000 := by
                have : MX.mu m n c ≤ 700000 := by omega
                simp only [MX.mu] at this
                omega
              have hwl6 : WL.length ≤ 1000000 := by
                have : MX.mu m n c ≤ 700000 := by omega
                simp only [MX.mu] at this
                omega
              have hB : w.heap.size ≤ w2.heap.size := HT2.out.ext.size
              have hown : OwnB 97 3 Cw w.heap.size w2 (.slice Aw2 c.ways.length cap2) WL := by rw [← hWL]; exact HT2.out.ways
              have HOW := Lib.hid hown
              have HWL := Lib.hid hWL

              have HXB1 := Lib.hid (show (#[Value.int .i64 x.op, .int .i64 x.x, .int .i64 x.y, .bool x.neg, .slice Av x.set.length cv] : Array Value)[1]? = some (.int .i64 (X : Int)) by rw [hxX]; rfl)
              have hbx := HN0.out
              clear h hin hX hxX hY hyY hown hWL hwlen
              go_upto_region 33 with (at_builtin; go_loud (refine app_one Tryz.underlying98 info_way rfl (by decide) (by decide) (keeps_w []) (by simp) rfl _ _ rfl w.heap.size _ WL (.fwd Y a2) [.bool false, .int .i64 (Y : Int), .int .i64 (a2 : Int)] 97 HOW.out rfl rfl (by simp [Value.oneCell']) rfl _ rfl (by simp) hwl6 hB ?_; intro v5 w5 h1 h2; have HT5 := Lib.hid (HT2.out.ext_ ((Ext.refl w2).alloc (.cells #[.bool false, .int .i64 (Y : Int), .int .i64 (a2 : Int)] 97))); have hown6 : OwnB 97 3 Cw w.heap.size w5 v5 (c.ways.reverse ++ [.fwd Y a2]) := (by rw [HWL.out]; exact h1); have HT6 := Lib.hid (HT5.out.push (x := .fwd Y a2) hown6 h2); have hx6 := HT5.out.other h2 (((Ext.refl w2).alloc (.cells #[.bool false, .int .i64 (Y : Int), .int .i64 (a2 : Int)] 97)).heap hbx) (by decide); have z1 := (cell_of_row w5 xb 1 _ _ _ hx6).trans HXB1.out; clear h1 h2 hx6 hown6))
              go_wp2_with fail
              go_roundg (MX.mu m n ⟨MX.mark c.seen p2 a2, .fwd Y a2 :: c.ways, c.notes⟩ + 1)
              case measure => omega
              case rel => exact ⟨⟨MX.mark c.seen p2 a2, .fwd Y a2 :: c.ways, c.notes⟩, HT6.out, HK1.out, by omega, .inl ⟨rfl, X, a2, by go_num, by go_num, k4, k5, Nat.le_refl _, HE3.out⟩⟩
            · -- a jump
              rw [h] at x0
              have hin := HINL.out.jump h
              obtain ⟨X, hX⟩ : ∃ X, x.x.toNat = X := ⟨_, rfl⟩
              have hxX : x.x = (X : Int) := by omega
              rw [hxX] at x1
              have HF := Lib.hid (show R1 = (⟨MX.mark c.seen p2 a2, c.ways, c.notes⟩, MX.Go.to X a2) from by rw [← HRR.out]; exact (MX.step_to HSN.out (by rw [HACT2.out, if_neg (by omega), if_neg (by omega), if_neg (by omega), if_neg (by omega), if_neg (by omega), if_pos h, hX])))
              have hkf := HOKR.out
              have hnx := HNXT.out
              rw [HF.out] at hkf hnx
              obtain ⟨k1, k2, k3⟩ := hkf
              have HK1 := Lib.hid k1
              obtain ⟨k4, k5, k6⟩ := k3 (X) (a2) rfl
              have HE3 := Lib.hid (MX.Ends.off hnx HE2.out)
              clear k1 k3 hnx

              clear h hin hX hxX
              go_wp2_with fail
              go_roundg (MX.mu m n ⟨MX.mark c.seen p2 a2, c.ways, c.notes⟩ + 1)
              case measure => omega
              case rel => exact ⟨⟨MX.mark c.seen p2 a2, c.ways, c.notes⟩, HT2.out, HK1.out, by omega, .inl ⟨rfl, X, a2, by go_num, by go_num, k4, k5, Nat.le_refl _, HE3.out⟩⟩
            · -- the end of all
              rw [h] at x0
              have HF := Lib.hid (show R1 = (⟨MX.mark c.seen p2 a2, c.ways, c.notes⟩, MX.Go.done) from by rw [← HRR.out]; exact MX.step_done HSN.out (by rw [HACT2.out, if_neg (by omega), if_neg (by omega), if_neg (by omega), if_neg (by omega), if_neg (by omega), if_neg (by omega)]))
              have hnx := HNXT.out
              rw [HF.out] at hnx
              have HF2 := Lib.hid (show R = .found c.notes from (MX.Ends.stop hnx HE2.out).symm)
              clear h hnx
              go_wp2_with fail
              refine bodyPost_ret (v := .tuple #[.slice (some ⟨nb, 0, none⟩) j j, .bool true]) (by simp [results, Tryz.results27, go_sem]) rfl ?_
              have h1 : MX.resOf S' (MX.blank g) r = .found c.notes := HR.out.trans HF2.out
              cases r with
              | some r =>
                injection h1 with e1
                subst e1
                exact ⟨HT2.out.ext, nb, by rw [HCN.out], HT2.out.lon, HT2.out.notes⟩
              | none => cases h1
end Go.Proofs.YtfblkahjefdmaaaGreat
