/- Walk: Find of the document's own matcher. -/
import Derived.Test.YtfblkahjefdmaaaGreatRmC
namespace Go.Proofs.YtfblkahjefdmaaaGreat
open Go.RowKit

set_option maxRecDepth 100000 in
set_option maxHeartbeats 2000000 in
theorem rfind_any {w : World} {mb : Nat} {sv vp : Value} {prog : List PG.Inst} {g e : Nat} {fold : Bool} {s : List Int} (hmade : PG.Made prog g e) (hset : ∀ x ∈ prog, x.set.length ≤ 1000) (hg : g ≤ 200)
    (hm : Rmt w mb vp prog g fold) (hs : SlC w sv s) (hsl : s.length ≤ 1000) (k : Nat) (hk : k ≤ s.length) :
    Calls Tryz.prog 13 #[.pointer (some ⟨mb, 0, none⟩), sv, .int .i64 (k : Int)] w (FindP (MX.act prog fold s) s.length (MX.blank g) k w) := by
  obtain ⟨r, hF, hFi⟩ := MX.find_all (nt := MX.blank g) (MX.valid_made hmade fold s) (by omega) k
  obtain ⟨As, cs, rfl, hsc, hscm, -⟩ := id hs
  obtain ⟨Ap, cp, rfl, hpl, hpcm, -⟩ := id hm.ins
  have hle := hmade.le
  have HTRY := Lib.hid (fun (sb : Nat) (S : MX.Seen) (we : World) (hx0 : Ext w we) (hlo : w.heap.size ≤ sb) (hsn : we.heap[sb]? = some (.cells ((MX.seenL (e + 2) (s.length + 1) S).map Value.bool).toArray 4 (0, 0))) (at_ : Nat) (ha : at_ ≤ s.length) (S' : MX.Seen) (o : Option (List Int)) (hx : MX.Exp (MX.act prog fold s) S 0 at_ (MX.blank g) S' o) =>
    rtry_any hmade hset hg hm hs hsl S we hx0 hlo hsn at_ ha S' o hx)
  have HF := Lib.hid hF
  have HFI := Lib.hid hFi
  have c0 := hm.c0
  rw [hmade.len] at c0
  obtain ⟨M, hM⟩ : ∃ M, (e + 2) * (s.length + 1) = M := ⟨_, rfl⟩
  have hMb : M ≤ 300 * 1001 := by rw [← hM]; exact Nat.mul_le_mul (by omega) (by omega)
  obtain ⟨n, hn⟩ : ∃ n, s.length + 1 = n := ⟨_, rfl⟩
  obtain ⟨m, hmm⟩ : ∃ m, e + 2 = m := ⟨_, rfl⟩
  have hpb : 0 ≤ (m : Int) * (n : Int) ∧ (m : Int) * (n : Int) ≤ 300300 := by
    rw [← Int.natCast_mul, ← hmm, ← hn, hM]; omega
  have s1 : IntKind.i64.wrap ((s.length : Int) + 1) = (n : Int) := by rw [IntWalk.i64_in _ (by omega)]; omega
  have s2 : IntKind.i64.wrap ((m : Int) * (n : Int)) = (M : Int) := by rw [IntWalk.i64_in _ (by omega), ← Int.natCast_mul, ← hM, ← hmm, ← hn]
  have d1 : decide ((1000 : Int) < (s.length : Int)) = false := by simp; omega
  have d2 : decide ((k : Int) < 0) = false := by simp
  have d3 : decide ((s.length : Int) < (k : Int)) = false := by simp; omega
  have d4 : decide (s.length < k) = false := by simp; omega
  have hmk := fun W => run_make_row' (P := Tryz.prog) 58 4 (.bool false) 1 Tryz.underlying58 info_b rfl .i64 .i64 M (by omega) (by omega) W
  rw [hmm] at c0
  rw [hM] at HTRY
  have HSN := Lib.hid (show (madeCells #[.bool false] M) = ((MX.seenL (e + 2) (s.length + 1) (fun _ _ => false)).map Value.bool).toArray by rw [← hM, made_rep, MX.seenL_none])
  rw [hmm, hn] at HTRY HSN
  have HN := Lib.hid hn
  have HB0 := Lib.hid (heap_alloc_new w (.cells (madeCells #[.bool false] M) 4))
  have HX0 := Lib.hid (show Ext w (w.alloc (.cells (madeCells #[.bool false] M) 4)) from (Ext.refl w).alloc _)
  clear hs hm hset hmade hF hFi hmm hn hM hpb hpl
  go_enter Tryz.func13, Tryz.ntmps13
  go_upto_region 4 with fail
  obtain ⟨sb, hsb⟩ : ∃ sb, w.heap.size = sb := ⟨_, rfl⟩
  have HSB := Lib.hid (show w.heap.size ≤ sb by omega)
  rw [hsb] at HB0 ⊢
  generalize w.alloc _ = w1 at HB0 HX0 ⊢
  clear hsb hmk c0 s2
  go_loopw [2] (fun x wr => ∃ (j : Nat) (S : MX.Seen), x = .int .i64 (j : Int) ∧ k ≤ j ∧ j ≤ s.length + 1 ∧ Ext w wr ∧ wr.heap[sb]? = some (.cells ((MX.seenL m n S).map Value.bool).toArray 4 (0, 0)) ∧ MX.Finds (MX.act prog fold s) s.length (MX.blank g) S j r) (fun x _ => s.length + 2 - (intOf x).toNat)
  case atStart => exact ⟨k, _, rfl, Nat.le_refl _, by omega, HX0.out, by rw [HB0.out, HSN.out], HF.out⟩
  case round =>
    obtain ⟨j, S, rfl, hkj, hj, hx, hsn, hfs⟩ := hrel
    have HX := Lib.hid hx
    have HS := Lib.hid hsn
    have s5 : IntKind.i64.wrap ((j : Int) + 1) = ((j + 1 : Nat) : Int) := by rw [IntWalk.i64_in _ (by omega)]; omega
    cases hfs with
    | out _ _ hlt =>
      have hd : decide ((j : Int) ≤ (s.length : Int)) = false := by simp; omega
      clear hx hsn
      go_wp2_with fail
      refine bodyPost_ret (v := .tuple #[.slice none 0 0, .bool false]) (by simp [results, Tryz.results13, go_sem]) rfl ?_
      exact ⟨HX.out, none, HFI.out, rfl⟩
    | hit _ S' _ r' hle2 hex =>
      have hd : decide ((j : Int) ≤ (s.length : Int)) = true := by simp; omega
      have HR := Lib.hid (HTRY.out _ S wr hx HSB.out hsn j hle2 S' (some r') hex)
      clear hx hex hsn
      go_wp2_with (go_at_call 27; go_loud (refine HR.out.mono ?_; rintro e4 w4 ⟨hx4, nb, rfl, hnb, hh4⟩; have HX4 := Lib.hid hx4; have HNB := Lib.hid hnb; have HH4 := Lib.hid hh4; clear hx4 hnb hh4))
      refine bodyPost_ret (v := .tuple #[.slice (some ⟨nb, 0, none⟩) r'.length r'.length, .bool true]) (by simp [results, Tryz.results13, go_sem]) rfl ?_
      exact ⟨HX4.out, some r', HFI.out, _, rfl, nb, rfl, HNB.out, HH4.out⟩
    | miss _ S' _ _ hle2 hex hnx =>
      have hd : decide ((j : Int) ≤ (s.length : Int)) = true := by simp; omega
      have HR := Lib.hid (HTRY.out _ S wr hx HSB.out hsn j hle2 S' none hex)
      have HNX := Lib.hid hnx
      clear hx hex hnx hsn
      go_wp2_with (go_at_call 27; go_loud (refine HR.out.mono ?_; rintro e4 w4 ⟨hx4, rfl, hh4⟩; have HX4 := Lib.hid hx4; have HH4 := Lib.hid hh4; clear hx4 hh4))
      go_roundw
      case rel => exact ⟨j + 1, _, rfl, by omega, by omega, HX4.out, HH4.out, HNX.out⟩
      case measure => simp [intOf]; omega
end Go.Proofs.YtfblkahjefdmaaaGreat
