/- Walk: Find of package rematch. -/
import Derived.Test.YtfblkahjefdmaaaGreatMxE
import Derived.Test.YtfblkahjefdmaaaGreatMxG
namespace Go.Proofs.YtfblkahjefdmaaaGreat
open Go.RowKit

theorem info_b : (Tryz.prog.info? 4).map (fun i => (i.zero, i.size, i.bytes)) = some (some (.bool false), 1, 1) := by kernel_rfl
theorem MX.seenL_none (m n : Nat) : (MX.seenL m n (fun _ _ => false)).map Value.bool = List.replicate (m * n) (.bool false) := by
  apply List.ext_getElem?
  intro k
  simp only [MX.seenL, List.getElem?_map, List.getElem?_replicate]
  rcases Nat.lt_or_ge k (m * n) with h | h
  · rw [List.getElem?_range h, if_pos h]; rfl
  · rw [List.getElem?_eq_none (by simpa using h), if_neg (by omega)]; rfl
/-- Notes that were found, as a slice of new memory. -/
def NtS (w : World) (w' : World) (v : Value) (r : List Int) : Prop := ∃ nb, v = .slice (some ⟨nb, 0, none⟩) r.length r.length ∧ w.heap.size ≤ nb ∧ w'.heap[nb]? = some (.cells (r.map (Value.int .i64)).toArray 3 (0, 0))
/-- What Find returns. -/
def FindP (A : Nat → Nat → MX.Act) (n : Nat) (nt : List Int) (k : Nat) (w : World) (e : Ending) (w' : World) : Prop :=
  Ext w w' ∧ ∃ r, MX.First A n nt k r ∧ match r with
    | some r' => ∃ v, e = .returned (.tuple #[v, .bool true]) ∧ NtS w w' v r'
    | none => e = .returned (.tuple #[.slice none 0 0, .bool false])
/-- The beginning of Find: nothing is seen yet. -/
theorem tri_new {w wr : World} {tb mb sb nb m n g : Nat} {sv : Value} (hx : Ext w wr) (h1 : w.heap.size ≤ tb) (h2 : w.heap.size ≤ sb) (h3 : w.heap.size ≤ nb)
    (hb : wr.heap[tb]? = some (.cells #[.pointer (some ⟨mb, 0, none⟩), sv, .slice (some ⟨sb, 0, none⟩) (m * n) (m * n), .slice none 0 0, .slice (some ⟨nb, 0, none⟩) (2 * g + 2) (2 * g + 2)] 62 (0, 0)))
    (hs : wr.heap[sb]? = some (.cells (madeCells #[.bool false] (m * n)) 4 (0, 0))) (hn : wr.heap[nb]? = some (.cells (List.replicate (2 * g + 2) (Value.int .i64 (-1))).toArray 3 (0, 0))) :
    Tri w tb mb sb nb sv (.slice none 0 0) m n ⟨fun _ _ => false, [], MX.blank g⟩ wr :=
  ⟨hx, h1, h2, h3, by simpa [MX.blank] using hb, by rw [hs, made_rep, MX.seenL_none], by rw [hn]; simp [MX.blank], OwnB.nil_⟩
set_option maxRecDepth 100000 in
set_option maxHeartbeats 4000000 in
theorem mfind_any {w : World} {mb : Nat} {sv vp : Value} {prog : List PG.Inst} {g e : Nat} {fold : Bool} {s : List Int} (hmade : PG.Made prog g e) (hset : ∀ x ∈ prog, x.set.length ≤ 1000) (hg : g ≤ 200)
    (hm : Mtc w mb vp prog g fold) (hs : SlC w sv s) (hsl : s.length ≤ 1000) (k : Nat) (hk : k ≤ s.length) :
    Calls Tryz.prog 12 #[.pointer (some ⟨mb, 0, none⟩), sv, .int .i64 (k : Int)] w (FindP (MX.act prog fold s) s.length (MX.blank g) k w) := by
  obtain ⟨r, hF, hFi⟩ := MX.find_all (nt := MX.blank g) (MX.valid_made hmade fold s) (by omega) k
  obtain ⟨As, cs, rfl, hsc, hscm, -⟩ := id hs
  obtain ⟨Ap, cp, rfl, hpl, hpcm, -⟩ := id hm.ins
  have hle := hmade.le
  have HRUN := Lib.hid (fun (tb sb nb : Nat) (vw : Value) (S : MX.Seen) (W0 : List MX.W) (wr : World) (T : Tri w tb mb sb nb (.slice As s.length cs) vw (e + 2) (s.length + 1) ⟨S, W0, MX.blank g⟩ wr) (at_ : Nat) (ha : at_ ≤ s.length) (S' : MX.Seen) (o : Option (List Int)) (hx : MX.Exp (MX.act prog fold s) S 0 at_ (MX.blank g) S' o) =>
    mrun_any hmade hset hm hs hsl S W0 (MX.blank g) wr (by simp [MX.blank]) T at_ ha S' o hx)
  have HF := Lib.hid hF
  have HFI := Lib.hid hFi
  have c0 := hm.c0
  have c1 := hm.c1
  rw [hmade.len] at c0
  obtain ⟨M, hM⟩ : ∃ M, (e + 2) * (s.length + 1) = M := ⟨_, rfl⟩
  obtain ⟨n, hn⟩ : ∃ n, s.length + 1 = n := ⟨_, rfl⟩
  obtain ⟨m, hmm⟩ : ∃ m, e + 2 = m := ⟨_, rfl⟩
  have hMb : M ≤ 300 * 1001 := by rw [← hM]; exact Nat.mul_le_mul (by omega) (by omega)
  have hpb : 0 ≤ (m : Int) * (n : Int) ∧ (m : Int) * (n : Int) ≤ 300300 := by
    rw [← Int.natCast_mul, ← hmm, ← hn, hM]; omega
  have s1 : IntKind.i64.wrap ((s.length : Int) + 1) = (n : Int) := by rw [IntWalk.i64_in _ (by omega)]; omega
  have s2 : IntKind.i64.wrap ((m : Int) * (n : Int)) = (M : Int) := by rw [IntWalk.i64_in _ (by omega), ← Int.natCast_mul, ← hM, ← hmm, ← hn]
  have s3 : IntKind.i64.wrap (2 * (g : Int)) = 2 * (g : Int) := IntWalk.i64_in _ (by omega)
  obtain ⟨G, hG⟩ : ∃ G, 2 * g + 2 = G := ⟨_, rfl⟩
  have s4 : IntKind.i64.wrap (2 * (g : Int) + 2) = (G : Int) := by rw [IntWalk.i64_in _ (by omega)]; omega
  have d1 : decide ((1000 : Int) < (s.length : Int)) = false := by simp; omega
  have d2 : decide ((k : Int) < 0) = false := by simp
  have d3 : decide ((s.length : Int) < (k : Int)) = false := by simp; omega
  have hmk := fun W => run_make_row' (P := Tryz.prog) 58 4 (.bool false) 1 Tryz.underlying58 info_b rfl .i64 .i64 M (by omega) (by omega) W
  have HREP := Lib.hid (fun (b o c : Nat) (w : World) (h : w.cell? ⟨b, o, none⟩ = some (.int .i64 (-1))) => repi_any G b o c w (by omega) (by omega) h)
  rw [hmm] at c0
  have HE := Lib.hid hmm
  have HN := Lib.hid hn
  have HMM := Lib.hid hM
  have HGG := Lib.hid hG
  have HSL := Lib.hid hsl
  clear hs hm hset hmade hF hFi hmm hn hM hG hpb hpl
  go_enter Tryz.func12, Tryz.ntmps12
  go_upto_region 3 with fail
  have hx0 : Ext w w.drew := (Ext.refl w).drew
  go_region_held3 (fun w' => w'.cell? ⟨mb, 0, none⟩ = some (.slice Ap m cp) ∧ w'.cell? ⟨mb, 1, none⟩ = some (.int .i64 (g : Int)))
    (first | go_keep | (go_split_ands; refine ⟨?_, ?_⟩ <;> (refine Ext.cell (by assumption) ?_; assumption)))
    (first | (go_at_call 25; go_loud (refine (HREP.out _ 0 1 _ (by first | exact cell_of_row _ _ 0 _ _ _ (heap_alloc_2 w.drew _ _) | exact cell_of_row _ _ 0 _ _ _ (heap_alloc_1 w.drew _ _) | exact cell_of_row _ _ 0 _ _ _ (heap_alloc_new w.drew _))).mono ?_; rintro e3 w3 ⟨hx3, rfl, hh3⟩)))
  · have HT0 := Lib.hid (show Tri w (w3.heap.size) mb (w.heap.size) (w.heap.size + 1 + 1) (.slice As s.length cs) (.slice none 0 0) (e + 2) (s.length + 1) ⟨fun _ _ => false, [], MX.blank g⟩ (w3.alloc (.cells #[.pointer (some ⟨mb, 0, none⟩), .slice As s.length cs, .slice (some ⟨w.heap.size, 0, none⟩) M M, .slice none 0 0, .slice (some ⟨w.heap.size + 1 + 1, 0, none⟩) G G] 62)) from by
      refine tri_new (g := g) (((((Ext.refl w).drew).alloc _).alloc _).trans hx3 |>.alloc _) (by have := hx3.size; simp at this; omega) (Nat.le_refl _) (by omega) ?_ ?_ ?_
      · rw [HMM.out, HGG.out]
        exact heap_alloc_new w3 _
      · rw [HMM.out]
        exact ((Ext.refl w3).alloc _).heap (hx3.heap (heap_alloc_1 w.drew _ _))
      · rw [HGG.out]
        exact ((Ext.refl w3).alloc _).heap (by simpa using hh3))
    generalize w3.alloc (.cells #[.pointer (some ⟨mb, 0, none⟩), .slice As s.length cs, .slice (some ⟨w.heap.size, 0, none⟩) M M, .slice none 0 0, .slice (some ⟨w.heap.size + 1 + 1, 0, none⟩) G G] 62) = W at HT0 ⊢
    generalize w3.heap.size = tb at HT0 ⊢
    clear hx3 hh3 c0 c1
    go_wp2_with fail
    go_loopw [9] (fun x wr => ∃ (j : Nat) (S : MX.Seen) (W0 : List MX.W) (vw : Value), x = .int .i64 (j : Int) ∧ k ≤ j ∧ j ≤ s.length + 1 ∧ Tri w tb mb (w.heap.size) (w.heap.size + 1 + 1) (.slice As s.length cs) vw (e + 2) (s.length + 1) ⟨S, W0, MX.blank g⟩ wr ∧ MX.Finds (MX.act prog fold s) s.length (MX.blank g) S j r) (fun x _ => s.length + 2 - (intOf x).toNat)
    case atStart => exact ⟨k, _, _, _, rfl, Nat.le_refl _, by omega, HT0.out, HF.out⟩
    case round =>
      obtain ⟨j, S, W0, vw, rfl, hkj, hj, hT, hfs⟩ := hrel
      have HT := Lib.hid hT
      have s5 : IntKind.i64.wrap ((j : Int) + 1) = ((j + 1 : Nat) : Int) := by rw [IntWalk.i64_in _ (by omega)]; omega
      cases hfs with
      | out _ _ hlt =>
        have hd : decide ((j : Int) ≤ (s.length : Int)) = false := by simp; omega
        clear hT
        go_wp2_with fail
        refine bodyPost_ret (v := .tuple #[.slice none 0 0, .bool false]) (by simp [results, Tryz.results12, go_sem]) rfl ?_
        exact ⟨HT.out.ext, none, HFI.out, rfl⟩
      | hit _ S' _ r' hle2 hex =>
        have hd : decide ((j : Int) ≤ (s.length : Int)) = true := by simp; omega
        have HR := Lib.hid (HRUN.out _ _ _ _ _ _ _ hT j hle2 S' (some r') hex)
        clear hT hex
        go_upto_region 8 with (go_at_call 26; go_loud (refine HR.out.mono ?_; rintro e4 w4 ⟨rfl, vw4, c4, hc4, hT4⟩; have HC4 := Lib.hid hc4; have HT4 := Lib.hid hT4; have b4 := hT4.b4; rw [hc4] at b4; clear hT4 hc4))
        go_wp2_with fail
        refine bodyPost_ret (v := .tuple #[.slice (some ⟨w.heap.size + 1 + 1, 0, none⟩) r'.length r'.length, .bool true]) (by simp [results, Tryz.results12, go_sem]) rfl ?_
        exact ⟨HT4.out.ext, some r', HFI.out, _, rfl, _, rfl, HT4.out.lon, by have := HT4.out.notes; rw [HC4.out] at this; exact this⟩
      | miss _ S' _ _ hle2 hex hnx =>
        have hd : decide ((j : Int) ≤ (s.length : Int)) = true := by simp; omega
        have HR := Lib.hid (HRUN.out _ _ _ _ _ _ _ hT j hle2 S' none hex)
        have HNX := Lib.hid hnx
        clear hT hex hnx
        go_wp2_with (go_at_call 26; go_loud (refine HR.out.mono ?_; rintro e4 w4 ⟨rfl, vw4, hT4⟩; have HT4 := Lib.hid hT4; clear hT4))
        go_roundw
        case rel => exact ⟨j + 1, _, _, _, rfl, by omega, by omega, HT4.out, HNX.out⟩
        case measure => simp [intOf]; omega
  · have HT0 := Lib.hid (show Tri w (w3.heap.size) mb (w.heap.size + 1) (w.heap.size + 1 + 1) (.slice As s.length cs) (.slice none 0 0) (e + 2) (s.length + 1) ⟨fun _ _ => false, [], MX.blank g⟩ (w3.alloc (.cells #[.pointer (some ⟨mb, 0, none⟩), .slice As s.length cs, .slice (some ⟨w.heap.size + 1, 0, none⟩) M M, .slice none 0 0, .slice (some ⟨w.heap.size + 1 + 1, 0, none⟩) G G] 62)) from by
      refine tri_new (g := g) (((((Ext.refl w).drew).alloc _).alloc _).trans hx3 |>.alloc _) (by have := hx3.size; simp at this; omega) (by omega) (by omega) ?_ ?_ ?_
      · rw [HMM.out, HGG.out]
        exact heap_alloc_new w3 _
      · rw [HMM.out]
        exact ((Ext.refl w3).alloc _).heap (hx3.heap (heap_alloc_2 w.drew _ _))
      · rw [HGG.out]
        exact ((Ext.refl w3).alloc _).heap (by simpa using hh3))
    generalize w3.alloc (.cells #[.pointer (some ⟨mb, 0, none⟩), .slice As s.length cs, .slice (some ⟨w.heap.size + 1, 0, none⟩) M M, .slice none 0 0, .slice (some ⟨w.heap.size + 1 + 1, 0, none⟩) G G] 62) = W at HT0 ⊢
    generalize w3.heap.size = tb at HT0 ⊢
    clear hx3 hh3 c0 c1
    go_wp2_with fail
    go_loopw [9] (fun x wr => ∃ (j : Nat) (S : MX.Seen) (W0 : List MX.W) (vw : Value), x = .int .i64 (j : Int) ∧ k ≤ j ∧ j ≤ s.length + 1 ∧ Tri w tb mb (w.heap.size + 1) (w.heap.size + 1 + 1) (.slice As s.length cs) vw (e + 2) (s.length + 1) ⟨S, W0, MX.blank g⟩ wr ∧ MX.Finds (MX.act prog fold s) s.length (MX.blank g) S j r) (fun x _ => s.length + 2 - (intOf x).toNat)
    case atStart => exact ⟨k, _, _, _, rfl, Nat.le_refl _, by omega, HT0.out, HF.out⟩
    case round =>
      obtain ⟨j, S, W0, vw, rfl, hkj, hj, hT, hfs⟩ := hrel
      have HT := Lib.hid hT
      have s5 : IntKind.i64.wrap ((j : Int) + 1) = ((j + 1 : Nat) : Int) := by rw [IntWalk.i64_in _ (by omega)]; omega
      cases hfs with
      | out _ _ hlt =>
        have hd : decide ((j : Int) ≤ (s.length : Int)) = false := by simp; omega
        clear hT
        go_wp2_with fail
        refine bodyPost_ret (v := .tuple #[.slice none 0 0, .bool false]) (by simp [results, Tryz.results12, go_sem]) rfl ?_
        exact ⟨HT.out.ext, none, HFI.out, rfl⟩
      | hit _ S' _ r' hle2 hex =>
        have hd : decide ((j : Int) ≤ (s.length : Int)) = true := by simp; omega
        have HR := Lib.hid (HRUN.out _ _ _ _ _ _ _ hT j hle2 S' (some r') hex)
        clear hT hex
        go_upto_region 8 with (go_at_call 26; go_loud (refine HR.out.mono ?_; rintro e4 w4 ⟨rfl, vw4, c4, hc4, hT4⟩; have HC4 := Lib.hid hc4; have HT4 := Lib.hid hT4; have b4 := hT4.b4; rw [hc4] at b4; clear hT4 hc4))
        go_wp2_with fail
        refine bodyPost_ret (v := .tuple #[.slice (some ⟨w.heap.size + 1 + 1, 0, none⟩) r'.length r'.length, .bool true]) (by simp [results, Tryz.results12, go_sem]) rfl ?_
        exact ⟨HT4.out.ext, some r', HFI.out, _, rfl, _, rfl, HT4.out.lon, by have := HT4.out.notes; rw [HC4.out] at this; exact this⟩
      | miss _ S' _ _ hle2 hex hnx =>
        have hd : decide ((j : Int) ≤ (s.length : Int)) = true := by simp; omega
        have HR := Lib.hid (HRUN.out _ _ _ _ _ _ _ hT j hle2 S' none hex)
        have HNX := Lib.hid hnx
        clear hT hex hnx
        go_wp2_with (go_at_call 26; go_loud (refine HR.out.mono ?_; rintro e4 w4 ⟨rfl, vw4, hT4⟩; have HT4 := Lib.hid hT4; clear hT4))
        go_roundw
        case rel => exact ⟨j + 1, _, _, _, rfl, by omega, by omega, HT4.out, HNX.out⟩
        case measure => simp [intOf]; omega
  · have HT0 := Lib.hid (show Tri w (w3.heap.size + 1) mb (w3.heap.size) (w.heap.size + 1) (.slice As s.length cs) (.slice none 0 0) (e + 2) (s.length + 1) ⟨fun _ _ => false, [], MX.blank g⟩ ((w3.alloc (.cells (madeCells #[.bool false] M) 4)).alloc (.cells #[.pointer (some ⟨mb, 0, none⟩), .slice As s.length cs, .slice (some ⟨w3.heap.size, 0, none⟩) M M, .slice none 0 0, .slice (some ⟨w.heap.size + 1, 0, none⟩) G G] 62)) from by
      refine tri_new (g := g) ((((Ext.refl w).drew).alloc _).trans hx3 |>.alloc _ |>.alloc _) (by have := hx3.size; simp at this; omega) (by have := hx3.size; simp at this; omega) (by omega) ?_ ?_ ?_
      · rw [HMM.out, HGG.out]
        exact heap_alloc_2 w3 _ _
      · rw [HMM.out]
        exact heap_alloc_1 w3 _ _
      · rw [HGG.out]
        exact (((Ext.refl w3).alloc _).alloc _).heap (by simpa using hh3))
    generalize (w3.alloc (.cells (madeCells #[.bool false] M) 4)).alloc (.cells #[.pointer (some ⟨mb, 0, none⟩), .slice As s.length cs, .slice (some ⟨w3.heap.size, 0, none⟩) M M, .slice none 0 0, .slice (some ⟨w.heap.size + 1, 0, none⟩) G G] 62) = W at HT0 ⊢
    generalize w3.heap.size + 1 = tb at HT0 ⊢
    clear hx3 hh3 c0 c1
    go_wp2_with fail
    go_loopw [9] (fun x wr => ∃ (j : Nat) (S : MX.Seen) (W0 : List MX.W) (vw : Value), x = .int .i64 (j : Int) ∧ k ≤ j ∧ j ≤ s.length + 1 ∧ Tri w tb mb (w3.heap.size) (w.heap.size + 1) (.slice As s.length cs) vw (e + 2) (s.length + 1) ⟨S, W0, MX.blank g⟩ wr ∧ MX.Finds (MX.act prog fold s) s.length (MX.blank g) S j r) (fun x _ => s.length + 2 - (intOf x).toNat)
    case atStart => exact ⟨k, _, _, _, rfl, Nat.le_refl _, by omega, HT0.out, HF.out⟩
    case round =>
      obtain ⟨j, S, W0, vw, rfl, hkj, hj, hT, hfs⟩ := hrel
      have HT := Lib.hid hT
      have s5 : IntKind.i64.wrap ((j : Int) + 1) = ((j + 1 : Nat) : Int) := by rw [IntWalk.i64_in _ (by omega)]; omega
      cases hfs with
      | out _ _ hlt =>
        have hd : decide ((j : Int) ≤ (s.length : Int)) = false := by simp; omega
        clear hT
        go_wp2_with fail
        refine bodyPost_ret (v := .tuple #[.slice none 0 0, .bool false]) (by simp [results, Tryz.results12, go_sem]) rfl ?_
        exact ⟨HT.out.ext, none, HFI.out, rfl⟩
      | hit _ S' _ r' hle2 hex =>
        have hd : decide ((j : Int) ≤ (s.length : Int)) = true := by simp; omega
        have HR := Lib.hid (HRUN.out _ _ _ _ _ _ _ hT j hle2 S' (some r') hex)
        clear hT hex
        go_upto_region 8 with (go_at_call 26; go_loud (refine HR.out.mono ?_; rintro e4 w4 ⟨rfl, vw4, c4, hc4, hT4⟩; have HC4 := Lib.hid hc4; have HT4 := Lib.hid hT4; have b4 := hT4.b4; rw [hc4] at b4; clear hT4 hc4))
        go_wp2_with fail
        refine bodyPost_ret (v := .tuple #[.slice (some ⟨w.heap.size + 1, 0, none⟩) r'.length r'.length, .bool true]) (by simp [results, Tryz.results12, go_sem]) rfl ?_
        exact ⟨HT4.out.ext, some r', HFI.out, _, rfl, _, rfl, HT4.out.lon, by have := HT4.out.notes; rw [HC4.out] at this; exact this⟩
      | miss _ S' _ _ hle2 hex hnx =>
        have hd : decide ((j : Int) ≤ (s.length : Int)) = true := by simp; omega
        have HR := Lib.hid (HRUN.out _ _ _ _ _ _ _ hT j hle2 S' none hex)
        have HNX := Lib.hid hnx
        clear hT hex hnx
        go_wp2_with (go_at_call 26; go_loud (refine HR.out.mono ?_; rintro e4 w4 ⟨rfl, vw4, hT4⟩; have HT4 := Lib.hid hT4; clear hT4))
        go_roundw
        case rel => exact ⟨j + 1, _, _, _, rfl, by omega, by omega, HT4.out, HNX.out⟩
        case measure => simp [intOf]; omega
end Go.Proofs.YtfblkahjefdmaaaGreat
