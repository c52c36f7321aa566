/- The document's own Scan, on the plain seat. -/
import Derived.Test.YtfblkahjefdmaaaTsA
namespace Go.Proofs.Ytfblkahjefdmaaa
open Go.RowKit
section
variable {w : World} {ops : Array Oper} {rest : List Oper} {o : Oper} {a : Act} {Q : Exit → Act → World → Prop}
end
end Go.Proofs.Ytfblkahjefdmaaa
namespace Go.Proofs.Ytfblkahjefdmaaa
open Go.RowKit
section
variable {w0 : World} {tb : Nat} {sv : Value} {ts : List Int} {w wr w' : World} {i j : Nat}
end
end Go.Proofs.Ytfblkahjefdmaaa
namespace Go.Proofs.Ytfblkahjefdmaaa
open Go.RowKit
section
variable {w0 : World} {tb : Nat} {sv : Value} {ts : List Int} {w wr w' : World} {i j : Nat}
variable {v v' : Value} {out out' : List Int}
end
end Go.Proofs.Ytfblkahjefdmaaa
namespace Go.Proofs.Ytfblkahjefdmaaa
open Go.RowKit
end Go.Proofs.Ytfblkahjefdmaaa
namespace Go.Proofs.Ytfblkahjefdmaaa
open Go.RowKit
/-- The call returned two values, and left what was there as it was. -/
def Ret2 (u v : Value) (w : World) (e : Ending) (w' : World) : Prop := e = .returned (.tuple #[u, v]) ∧ Ext w w'
theorem val_snoc (l : List Int) (c : Int) : FM.val (l ++ [c]) = 10 * FM.val l + (c - 48) := by simp [FM.val, List.foldl_append]
theorem digs_get : ∀ (l : List Int) (j : Nat) (h : j < FM.digs l), FM.isD (l[j]'(Nat.lt_of_lt_of_le h (FM.digs_le l))) = true
  | [], j, h => by simp [FM.digs] at h
  | c :: r, j, h => by
    unfold FM.digs at h
    split at h
    · rename_i hc
      cases j with
      | zero => exact hc
      | succ j => exact digs_get r j (by omega)
    · omega
end Go.Proofs.Ytfblkahjefdmaaa
namespace Go.Proofs.Ytfblkahjefdmaaa
open Go.RowKit
end Go.Proofs.Ytfblkahjefdmaaa
namespace Go.Proofs.Ytfblkahjefdmaaa
open Go.RowKit
def nbs : List ByteArray := [⟨#[117, 112, 99, 97, 115, 101]⟩, ⟨#[100, 111, 119, 110, 99, 97, 115, 101]⟩, ⟨#[99, 97, 112, 105, 116, 97, 108, 105, 122, 101]⟩, ⟨#[112, 97, 115, 99, 97, 108, 99, 97, 115, 101]⟩, ⟨#[99, 97, 109, 101, 108, 99, 97, 115, 101]⟩]
theorem nb_len : ∀ k, k < 5 → (nbs.getD k ⟨#[]⟩).size ≤ 10 := by decide
theorem name_len : ∀ k, k < 5 → 1 ≤ (FM.names.getD k []).length ∧ (FM.names.getD k []).length ≤ 10 := by decide
theorem casedL_step {l : List Int} : ∀ k, k < 5 → FM.casedL (FM.names.drop k) (1 + k) l = if l.take ((FM.names.getD k []).length + 1) = FM.names.getD k [] ++ [125] then some (1 + (k : Int), (FM.names.getD k []).length + 1) else FM.casedL (FM.names.drop (k + 1)) (1 + ((k + 1 : Nat) : Int)) l := by
  intro k hk
  match k, hk with
  | 0, _ => rfl
  | 1, _ => rfl
  | 2, _ => rfl
  | 3, _ => rfl
  | 4, _ => rfl
end Go.Proofs.Ytfblkahjefdmaaa
namespace Go.Proofs.Ytfblkahjefdmaaa
open Go.RowKit
theorem txt_esc {e : Int} {s acc : List Int} {k : Nat} (h : k + 1 < s.length) (h1 : s[k] = 92) (h2 : s[k + 1] ∈ FM.marks) : (FM.text e (s.drop k)).map (fun p => (acc ++ p.1, k + p.2)) = (FM.text e (s.drop (k + 2))).map (fun p => ((acc ++ [s[k + 1]]) ++ p.1, k + 2 + p.2)) := by
  rw [List.drop_eq_getElem_cons (by omega : k < s.length), List.drop_eq_getElem_cons h, h1, FM.text_esc h2, Option.map_map]
  congr 1
  funext p
  simp; omega
theorem txt_plain {e : Int} {s acc : List Int} {k : Nat} (h : k < s.length) (hc : s[k] ≠ e) (h1 : ¬ (s[k] = 92 ∧ ∃ hk : k + 1 < s.length, s[k + 1] ∈ FM.marks)) : (FM.text e (s.drop k)).map (fun p => (acc ++ p.1, k + p.2)) = (FM.text e (s.drop (k + 1))).map (fun p => ((acc ++ [s[k]]) ++ p.1, k + 1 + p.2)) := by
  rw [List.drop_eq_getElem_cons h, FM.text_plain hc, Option.map_map]
  · congr 1
    funext p
    simp; omega
  · rintro ⟨h2, d, r', h3, h4⟩
    refine h1 ⟨h2, ?_⟩
    have hk : k + 1 < s.length := by
      have := congrArg List.length h3
      rw [List.length_drop] at this
      simp at this; omega
    refine ⟨hk, ?_⟩
    rw [List.drop_eq_getElem_cons hk] at h3
    injection h3 with h3 _
    rw [h3]; exact h4
theorem txt_stop {e : Int} {s acc : List Int} {k : Nat} (h : k < s.length) (he : e ≠ 92) (hc : s[k] = e) : (FM.text e (s.drop k)).map (fun p => (acc ++ p.1, k + p.2)) = some (acc, k + 1) := by
  rw [List.drop_eq_getElem_cons h, hc, FM.text_stop he]; simp
theorem txt_end {e : Int} {s acc : List Int} {k : Nat} (h : s.length ≤ k) : (FM.text e (s.drop k)).map (fun p => (acc ++ p.1, k + p.2)) = none := by
  rw [List.drop_eq_nil_of_le h]; rfl
variable {w wr w' : World} {v v' : Value} {out out' : List Int}
end Go.Proofs.Ytfblkahjefdmaaa
namespace Go.Proofs.Ytfblkahjefdmaaa
open Go.RowKit
namespace FM
theorem text_le (e : Int) : ∀ (n : Nat) (l : List Int) (t : List Int) (k : Nat), l.length ≤ n → text e l = some (t, k) → 1 ≤ k ∧ k ≤ l.length
  | _, [], t, k, _, h => by cases h
  | _, [c], t, k, _, h => by
    rw [text] at h
    split at h
    · injection h with h; injection h with h1 h2; subst h1 h2; exact ⟨Nat.le_refl _, by simp⟩
    · cases h
  | 0, _ :: _ :: _, _, _, hn, _ => by simp at hn
  | n + 1, c :: d :: r, t, k, hn, h => by
    rw [text] at h
    split at h
    · rw [Option.map_eq_some_iff] at h
      obtain ⟨⟨t', k'⟩, h1, h2⟩ := h
      injection h2 with h2 h3
      subst h2 h3
      have := text_le e n r t' k' (by simp at hn; omega) h1
      exact ⟨by omega, by simp; omega⟩
    split at h
    · injection h with h; injection h with h1 h2; subst h1 h2; exact ⟨Nat.le_refl _, by simp⟩
    · rw [Option.map_eq_some_iff] at h
      obtain ⟨⟨t', k'⟩, h1, h2⟩ := h
      injection h2 with h2 h3
      subst h2 h3
      have := text_le e n (d :: r) t' k' (by simp at hn ⊢; omega) h1
      exact ⟨by omega, by have := this.2; simp at this ⊢; omega⟩
end FM
theorem txt_le {e : Int} {s t : List Int} {i k : Nat} (h : txt e s i = some (t, k)) (hi : i ≤ s.length) : i ≤ k ∧ k ≤ s.length := by
  unfold txt at h
  rw [Option.map_eq_some_iff] at h
  obtain ⟨⟨t', k'⟩, h1, h2⟩ := h
  injection h2 with h2 h3
  have := FM.text_le _ _ _ _ _ (Nat.le_refl _) h1
  rw [List.length_drop] at this
  simp only at h3; omega
def innA (g : Int) (s : List Int) (i : Nat) : Option (FM.Form × Nat) := (FM.inner g (s.drop i)).map fun p => (p.1, i + p.2)
section
variable {g : Int} {s : List Int} {i : Nat}
theorem inn_47 (h : s[i]? = some 47) : innA g s i = (FM.cased (s.drop (i + 1))).map fun p => (⟨1, g, p.1, [], []⟩, i + 1 + p.2) := by
  unfold innA FM.inner
  rw [List.head?_drop, if_pos h, List.tail_drop, Option.map_map]
  congr 1; funext p; simp; omega
theorem inn_43 (h : s[i]? = some 43) : innA g s i = (txt 125 s (i + 1)).map fun p => (⟨2, g, 0, p.1, []⟩, p.2) := by
  unfold innA FM.inner txt
  rw [List.head?_drop, h, if_neg (by decide), if_pos rfl, List.tail_drop, Option.map_map, Option.map_map]
  congr 1; funext p; simp; omega
theorem inn_63 (h : s[i]? = some 63) : innA g s i = (txt 58 s (i + 1)).bind fun p => (txt 125 s p.2).map fun q => (⟨4, g, 0, p.1, q.1⟩, q.2) := by
  unfold innA FM.inner txt
  rw [List.head?_drop, h, if_neg (by decide), if_neg (by decide), if_pos rfl, List.tail_drop]
  cases hq : FM.text 58 (s.drop (i + 1)) with
  | none => rfl
  | some p =>
    simp only [Option.map_some, Option.bind_some, List.drop_drop]
    rw [Option.map_map, Option.map_map]
    congr 1; funext q; simp; omega
theorem inn_45 (h : s[i]? = some 45) : innA g s i = (txt 125 s (i + 1)).map fun p => (⟨3, g, 0, [], p.1⟩, p.2) := by
  unfold innA FM.inner txt
  rw [List.head?_drop, h, if_neg (by decide), if_neg (by decide), if_neg (by decide), if_pos rfl, List.tail_drop, Option.map_map, Option.map_map]
  congr 1; funext p; simp; omega
theorem inn_no (h1 : s[i]? ≠ some 47) (h2 : s[i]? ≠ some 43) (h3 : s[i]? ≠ some 63) (h4 : s[i]? ≠ some 45) : innA g s i = (txt 125 s i).map fun p => (⟨3, g, 0, [], p.1⟩, p.2) := by
  unfold innA FM.inner txt
  rw [List.head?_drop, if_neg h1, if_neg h2, if_neg h3, if_neg h4, Option.map_map, Option.map_map]
  rfl
end
theorem Ext.setn {w W : World} {o : Nat} {u : Value} (h : Ext w W) : Ext w (W.setCell ⟨w.heap.size, o, none⟩ u) := h.set (Nat.le_refl _) u
theorem CF.mkW {w2 W : World} {nb B : Nat} {cur : Array Value} {k g c : Int} {vt ve : Value} {t e : List Int} (hb : w2.heap[nb]? = some (.cells cur 82 (0, 0))) (ho : Only w2 W nb) (ht : SlB 21 1 Cc B w2 vt t) (he : SlB 21 1 Cc B w2 ve e) :
    CF B W [.int .i64 k, .int .i64 g, .int .i64 c, vt, ve] ⟨k, g, c, t, e⟩ :=
  ⟨vt, ve, rfl, ht.keep (keeps_c []) (ho.keepT hb (by decide)) (ho.keepT hb (by decide)), he.keep (keeps_c []) (ho.keepT hb (by decide)) (ho.keepT hb (by decide))⟩
end Go.Proofs.Ytfblkahjefdmaaa
namespace Go.Proofs.Ytfblkahjefdmaaa
open Go.RowKit
def partA (s : List Int) (i : Nat) : Option (FM.Form × Nat) := (FM.part (s.drop (i + 1))).map fun p => (p.1, i + 1 + p.2)
section
variable {s : List Int} {i k : Nat} {n : Int}
theorem part_num (h : FM.number (s.drop (i + 1)) = some (n, k)) : partA s i = some (⟨1, n, 0, [], []⟩, i + 1 + k) := by
  unfold partA FM.part; rw [h]; rfl
theorem part_no (h : FM.number (s.drop (i + 1)) = none) (h1 : s[i + 1]? ≠ some 123) : partA s i = none := by
  unfold partA FM.part; rw [h]; simp only
  rw [List.head?_drop, if_neg h1]; rfl
theorem part_b0 (h : FM.number (s.drop (i + 1)) = none) (h1 : s[i + 1]? = some 123) (h2 : FM.number (s.drop (i + 2)) = none) : partA s i = none := by
  unfold partA FM.part; rw [h]; simp only
  rw [List.head?_drop, if_pos h1, List.tail_drop, h2]; rfl
theorem part_125 (h : FM.number (s.drop (i + 1)) = none) (h1 : s[i + 1]? = some 123) (h2 : FM.number (s.drop (i + 2)) = some (n, k)) (h3 : s[i + 2 + k]? = some 125) : partA s i = some (⟨1, n, 0, [], []⟩, i + 2 + k + 1) := by
  unfold partA FM.part; rw [h]; simp only
  rw [List.head?_drop, if_pos h1, List.tail_drop, h2]; simp only
  rw [List.drop_drop, List.head?_drop, show i + 1 + 1 + k = i + 2 + k by omega, if_pos h3]
  simp; omega
theorem part_58 (h : FM.number (s.drop (i + 1)) = none) (h1 : s[i + 1]? = some 123) (h2 : FM.number (s.drop (i + 2)) = some (n, k)) (h3 : s[i + 2 + k]? = some 58) : partA s i = innA n s (i + 2 + k + 1) := by
  unfold partA FM.part innA; rw [h]; simp only
  rw [List.head?_drop, if_pos h1, List.tail_drop, h2]; simp only
  rw [List.drop_drop, List.head?_drop, show i + 1 + 1 + k = i + 2 + k by omega, h3, if_neg (by decide), if_pos rfl, List.tail_drop, Option.map_map]
  congr 1; funext p; simp; omega
theorem part_oth (h : FM.number (s.drop (i + 1)) = none) (h1 : s[i + 1]? = some 123) (h2 : FM.number (s.drop (i + 2)) = some (n, k)) (h3 : s[i + 2 + k]? ≠ some 125) (h4 : s[i + 2 + k]? ≠ some 58) : partA s i = none := by
  unfold partA FM.part; rw [h]; simp only
  rw [List.head?_drop, if_pos h1, List.tail_drop, h2]; simp only
  rw [List.drop_drop, List.head?_drop, show i + 1 + 1 + k = i + 2 + k by omega, if_neg h3, if_neg h4]; rfl
end
theorem number_le {l : List Int} {n : Int} {k : Nat} (h : FM.number l = some (n, k)) : k ≤ l.length := (FM.number_ok h).2.2.2.2
end Go.Proofs.Ytfblkahjefdmaaa
namespace Go.Proofs.Ytfblkahjefdmaaa
open Go.RowKit
theorem info_form : (Try.prog.info? 82).map (fun i => (i.zero, i.size, i.bytes)) = some (some (.agg #[.int .i64 0, .int .i64 0, .int .i64 0, .slice none 0 0, .slice none 0 0]), 5, 72) := by kernel_rfl
theorem CF.cft {B : Nat} {w : World} {cs : List Value} {f : FM.Form} (h : CF B w cs f) : CFT B w.heap.size w cs f := by
  obtain ⟨vt, ve, h1, h2, h3⟩ := h
  exact ⟨vt, ve, h1, ⟨h2, h2.blo⟩, h3, h3.blo⟩
section
variable {w wr w' : World} {xb T : Nat} {vl vt vl' vt' : Value} {fs fs' : List FM.Form} {tx tx' : List Int}
end
section
variable {α : Type} {P : Program} {w : World} {ops : Array Oper} {rest : List Oper} {o : Oper} {a : Act} {Q : Exit → Act → World → Prop}
end
section
variable {w wr w' : World} {xb T : Nat} {vl vt vl' vt' v' : Value} {fs fs' : List FM.Form} {tx tx' : List Int}
end
end Go.Proofs.Ytfblkahjefdmaaa
namespace Go.Proofs.Ytfblkahjefdmaaa
open Go.RowKit
namespace FM
end FM
def scanK (s : List Int) (k : Nat) (fs : List FM.Form) (tx : List Int) : Option (List FM.Form × Nat) := FM.scan (s.length - k + 1) (s.drop k) fs tx k
theorem scanK_fuel {s : List Int} {k n : Nat} {fs : List FM.Form} {tx : List Int} (h : s.length - k < n) : FM.scan n (s.drop k) fs tx k = scanK s k fs tx := by
  refine FM.scan_fuel _ _ _ _ _ _ ?_ ?_
  · rw [List.length_drop]; exact h
  · rw [List.length_drop]; omega
section
variable {s : List Int} {k k' : Nat} {fs : List FM.Form} {tx : List Int} {f : FM.Form}
theorem sc_end (h : s.length ≤ k) : scanK s k fs tx = none := by
  unfold scanK; rw [List.drop_eq_nil_of_le h]; rfl
theorem sc_slash (h : k < s.length) (h1 : s[k] = 47) : scanK s k fs tx = some (FM.endT fs tx, k) := by
  unfold scanK; rw [List.drop_eq_getElem_cons h, h1, FM.scan, if_pos rfl]
theorem sc_part (h : k < s.length) (h1 : s[k] = 36) (h2 : partA s k = some (f, k')) : scanK s k fs tx = scanK s k' (FM.endT fs tx ++ [f]) [] := by
  unfold partA at h2
  rw [Option.map_eq_some_iff] at h2
  obtain ⟨⟨f', c⟩, h3, h4⟩ := h2
  injection h4 with h4 h5
  simp only at h4 h5
  subst h4 h5
  have e : scanK s k fs tx = FM.scan (s.length - k) ((s.drop (k + 1)).drop c) (FM.endT fs tx ++ [f']) [] (k + 1 + c) := by
    unfold scanK; rw [List.drop_eq_getElem_cons h, h1, FM.scan_part h3]
  rw [e, List.drop_drop]
  exact scanK_fuel (by omega)
theorem sc_esc (h : k + 1 < s.length) (h1 : s[k] = 92) (h2 : s[k + 1] ∈ FM.outer) : scanK s k fs tx = scanK s (k + 2) fs (tx ++ [s[k + 1]]) := by
  have e : scanK s k fs tx = FM.scan (s.length - k) (s.drop (k + 2)) fs (tx ++ [s[k + 1]]) (k + 2) := by
    unfold scanK; rw [List.drop_eq_getElem_cons (by omega : k < s.length), List.drop_eq_getElem_cons h, h1, FM.scan_esc h2]
  rw [e]
  exact scanK_fuel (by omega)
theorem sc_plain (h : k < s.length) (h1 : s[k] ≠ 47) (h2 : s[k] = 36 → partA s k = none) (h3 : ¬ (s[k] = 92 ∧ ∃ hk : k + 1 < s.length, s[k + 1] ∈ FM.outer)) : scanK s k fs tx = scanK s (k + 1) fs (tx ++ [s[k]]) := by
  have e : scanK s k fs tx = FM.scan (s.length - k) (s.drop (k + 1)) fs (tx ++ [s[k]]) (k + 1) := by
    unfold scanK
    rw [List.drop_eq_getElem_cons h, FM.scan_plain h1]
    · intro h4
      have := h2 h4
      unfold partA at this
      simpa using this
    · rintro ⟨h4, d, r', h5, h6⟩
      refine h3 ⟨h4, ?_⟩
      have hk : k + 1 < s.length := by
        have := congrArg List.length h5
        rw [List.length_drop] at this
        simp at this; omega
      refine ⟨hk, ?_⟩
      rw [List.drop_eq_getElem_cons hk] at h5
      injection h5 with h5 _
      rw [h5]; exact h6
  rw [e]
  exact scanK_fuel (by omega)
theorem partA_le (hs : s.all RX.isSign = true) (h : partA s k = some (f, k')) (hk : k < s.length) : k + 2 ≤ k' ∧ k' ≤ s.length := by
  unfold partA at h
  rw [Option.map_eq_some_iff] at h
  obtain ⟨⟨f', c⟩, h3, h4⟩ := h
  injection h4 with h4 h5
  have := FM.part_ok h3 (FM.all_drop hs _)
  rw [List.length_drop] at this
  simp only at h5; omega
end
def scanAt (s : List Int) (a : Int) : Option (List FM.Form × Nat) := if 0 ≤ a ∧ a ≤ s.length ∧ s.all RX.isSign = true then scanK s a.toNat [] [] else none
/-- Parts and the place behind them, or none. -/
def ScanP (R : Option (List FM.Form × Nat)) (w : World) (e : Ending) (w' : World) : Prop :=
  Ext w w' ∧ ((∃ l j A c, R = some (l, j) ∧ e = .returned (.tuple #[.slice A l.length c, .int .i64 (j : Int), .bool true]) ∧ SlB 82 5 (CF w.heap.size) w.heap.size w' (.slice A l.length c) l) ∨
    (R = none ∧ e = .returned (.tuple #[.slice none 0 0, .int .i64 0, .bool false])))
theorem CF.keepT {B : Nat} {w w' : World} {cs : List Value} {f : FM.Form} (h : CF B w cs f) (hk : KeepT [21] w w') : CF B w' cs f := by
  obtain ⟨vt, ve, h1, h2, h3⟩ := h
  exact ⟨vt, ve, h1, h2.keep (keeps_c []) (hk.sub (by simp)) hk, h3.keep (keeps_c []) (hk.sub (by simp)) hk⟩
/-- append(v, x) of one element, the new value spelled out. -/
theorem app_lit {α : Type} {P : Program} {w : World} {ops : Array Oper} {rest : List Oper} {o : Oper} {a : Act} {Q : Exit → Act → World → Prop} {t te sz bytes : Nat} {z : Value}
    (ht : P.underlying t = some (.slice te)) (hinf : (P.info? te).map (fun i => (i.zero, i.size, i.bytes)) = some (some z, sz, bytes)) (hzs : z.cells.size = sz) (hsz : 0 < sz) (hby : bytes ≤ 100)
    {T : List TypeId} {C : World → List Value → α → Prop} (hC : Keeps T C) (hT : te ∉ T)
    (hgd : o.guard = none) (s x : Operand) (ho : o.op = .call { callee := .builtin .append, args := #[s, x], argTypes := #[t, t] })
    (B : Nat) (v : Value) (xs : List α) (y : α) (cs : List Value) (tb : TypeId) (hown : OwnB te sz C B w v xs) (hy : C w cs y) (hcs : cs.length = sz) (h1 : ∀ u ∈ cs, u.oneCell' = true)
    (hs : a.eval s = v) (nb : Nat) (hx : a.eval x = .slice (some ⟨nb, 0, none⟩) 1 1) (hnb : nb = w.heap.size) (hn : xs.length ≤ 1000000000) (hB : B ≤ w.heap.size)
    (h : ∀ g cap w', OwnB te sz C B w' (.slice (some ⟨g, 0, none⟩) (xs.length + 1) cap) (xs ++ [y]) → (w.alloc (.cells cs.toArray tb)).grownBy w' v.ownBlock → wpList P ops Q rest (a.put o.dst (.slice (some ⟨g, 0, none⟩) (xs.length + 1) cap)) w') :
    wpList P ops Q (o :: rest) a (w.alloc (.cells cs.toArray tb)) := by
  subst hnb
  obtain ⟨i0, hi, hz0, hz1, hz2⟩ := info_parts hinf
  obtain ⟨flat, hr, h2⟩ := hown
  refine wpList_append_lies _ hgd s x t ho B te i0 z sz bytes ht hi hz0 hz1 hz2 hzs hsz v xs.length flat hs (World.ownsRow.alloc hr _) ⟨w.heap.size, 0, none⟩ 1 1 cs hx (by omega) (fun j u hu => news_all w cs tb j u hu) h1 (by decide) (by unfold maxLen; omega) (Nat.le_trans (Nat.mul_le_mul (show xs.length + 1 ≤ 1000000001 by omega) hby) (by omega)) (by simp; omega) _ rfl ?_
  intro g cap w' h3 h4 _ _
  refine h g cap w' (OwnB.snoc h2 hr.1 hC ?_ hy hcs h3) h4
  refine (KeepT.of_ext ((Ext.refl w).alloc _)).trans (KeepT.of_grown h4 (fun g hg => ?_))
  obtain ⟨cur, hh⟩ := own_type hr g hg
  exact ⟨cur, te, ((Ext.refl w).alloc _).heap hh, hT⟩
end Go.Proofs.Ytfblkahjefdmaaa
namespace Go.Proofs.Ytfblkahjefdmaaa
open Go.RowKit
end Go.Proofs.Ytfblkahjefdmaaa
namespace Go.Proofs.Ytfblkahjefdmaaa
open Go.RowKit
section
variable {w0 ws wr w' : World} {nb : Nat} {cs : List Value} {v v' : Value} {out out' : List Int}
theorem Pts.ext_ (h : Pts w0 ws nb cs v out wr) (hx : Ext wr w') : Pts w0 ws nb cs v out w' := ⟨h.acs.call hx, hx.heap h.box, h.keep.trans (KeepT.of_ext hx)⟩
end
end Go.Proofs.Ytfblkahjefdmaaa
namespace Go.Proofs.Ytfblkahjefdmaaa
open Go.RowKit
set_option maxHeartbeats 400000 in
theorem bsign_any (r : Int) (w : World) : Calls Try.prog 51 #[.int .i32 r] w (BoolP (RX.isSign r) w) := by
  by_cases h1 : 0 ≤ r <;> by_cases h2 : r ≤ 1114111 <;> by_cases h3 : r < 55296 <;> by_cases h4 : 57343 < r
  all_goals first | (exfalso; omega) | skip
  all_goals
    go_enter Try.func51, Try.ntmps51
    go_wp2_with fail
    go_ret
    exact ⟨ret_congr (by simp [RX.isSign]; omega), rfl⟩
section
variable {w0 : World} {tb : Nat} {sv : Value} {ts : List Int}
end
end Go.Proofs.Ytfblkahjefdmaaa
namespace Go.Proofs.Ytfblkahjefdmaaa
open Go.RowKit
end Go.Proofs.Ytfblkahjefdmaaa
namespace Go.Proofs.Ytfblkahjefdmaaa
open Go.RowKit
theorem signs_get {b : ByteArray} {k : Nat} (h : k < b.size) : (signs b)[k]? = some (b[k].toNat : Int) := by
  have h2 : k < (signs b).length := by rw [signs_len]; exact h
  rw [List.getElem?_eq_getElem h2]
  simp [signs]; rfl
theorem rdigit_any (r : Int) (w : World) : Calls Try.prog 129 #[.int .i32 r] w (BoolP (FM.isD r) w) := by
  by_cases h1 : 48 ≤ r <;> by_cases h2 : r ≤ 57
  all_goals
    go_enter Try.func129, Try.ntmps129
    go_wp2_with fail
    go_ret
    exact ⟨ret_congr (by simp [FM.isD]; omega), rfl⟩
set_option maxHeartbeats 1000000 in
theorem has_any (bs : ByteArray) (c : Int) (w : World) (hs : bs.size ≤ 1000) : Calls Try.prog 75 #[.string bs, .int .i32 c] w (BoolP (decide (c ∈ signs bs)) w) := by
  go_enter Try.func75, Try.ntmps75
  go_wp2_with fail
  go_loop [5] (fun i => ∃ k : Nat, k ≤ bs.size ∧ i = .int .i64 k ∧ ∀ j, j < k → (signs bs)[j]? ≠ some c) (fun i => bs.size - (intOf i).toNat)
  case atStart => exact ⟨0, Nat.zero_le _, rfl, by intro j hj; omega⟩
  case round =>
    obtain ⟨k, hk, rfl, hpre⟩ := hrel
    have HP := Lib.hid hpre
    clear hpre
    by_cases hlt : k < bs.size
    · have hg := signs_get hlt
      have hw := wrap_byte bs[k]
      by_cases he : (bs[k].toNat : Int) = c
      · have hb : (wrap32 (bs[k].toNat : Int) == c) = true := by rw [hw, he]; simp
        have hb2 : ((bs[k].toNat : Int) == c) = true := by rw [he]; simp
        have HM := Lib.hid (show decide (c ∈ signs bs) = true from decide_eq_true (List.mem_of_getElem? (by rw [hg, he])))
        clear he hg hw
        go_wp2_with fail
        go_ret
        exact ⟨by rw [HM.out]; rfl, rfl⟩
      · have hb : (wrap32 (bs[k].toNat : Int) == c) = false := by rw [hw]; simpa using he
        have hb2 : ((bs[k].toNat : Int) == c) = false := by simpa using he
        have HE := Lib.hid (show ∀ j, j < k + 1 → (signs bs)[j]? ≠ some c by
          intro j hj
          rcases Nat.lt_succ_iff_lt_or_eq.1 hj with h | rfl
          · exact HP.out j h
          · rw [hg]; intro e; injection e with e; exact he e)
        clear he hg hw
        go_wp2_with fail
        go_round
        case rel => exact ⟨k + 1, by omega, by go_num, HE.out⟩
        case measure => simp [intOf]; omega
    · have HM := Lib.hid (show decide (c ∈ signs bs) = false from decide_eq_false (by
        intro hm
        obtain ⟨j, hj, e⟩ := List.mem_iff_getElem.1 hm
        exact HP.out j (by rw [signs_len] at hj; omega) (by rw [List.getElem?_eq_getElem hj, e])))
      go_wp2_with fail
      go_ret
      exact ⟨by rw [HM.out]; rfl, rfl⟩
theorem has_marks (c : Int) (w : World) : Calls Try.prog 75 #[.string { data := #[92, 125, 58, 36, 47] }, .int .i32 c] w (BoolP (decide (c ∈ FM.marks)) w) := has_any ⟨#[92, 125, 58, 36, 47]⟩ c w (by decide)
theorem has_outer (c : Int) (w : World) : Calls Try.prog 75 #[.string { data := #[92, 36, 125, 47] }, .int .i32 c] w (BoolP (decide (c ∈ FM.outer)) w) := has_any ⟨#[92, 36, 125, 47]⟩ c w (by decide)
/-- Do these signs stand at a place? -/
def stB (s : List Int) (i : Nat) (t : List Int) : Bool := decide ((s.drop i).take t.length = t)
set_option maxHeartbeats 1000000 in
theorem stands_any (s : List Int) (vs : Value) (i : Nat) (t : ByteArray) (w : World) (hs : SlC w vs s) (hi : i ≤ s.length) (ht : t.size ≤ 1000) :
    Calls Try.prog 108 #[vs, .int .i64 (i : Int), .string t] w (RetD (.bool (stB s i (signs t))) w) := by
  have H := Lib.hid hs
  obtain ⟨A, ca, rfl, hlx, hcx, -⟩ := hs
  by_cases hfit : t.size ≤ s.length - i
  · have hd : decide ((s.length : Int) - (i : Int) < (t.size : Int)) = false := by simp; omega
    go_enter Try.func108, Try.ntmps108
    go_wp2_with fail
    go_loopw [7] (fun j wr => ∃ k : Nat, k ≤ t.size ∧ j = .int .i64 k ∧ (∀ j, j < k → (signs t)[j]? = s[i + j]?) ∧ ∃ m, wr = w.drewN m) (fun j _ => t.size - (intOf j).toNat)
    case atStart => exact ⟨0, Nat.zero_le _, rfl, by intro j hj; omega, 0, rfl⟩
    case round =>
      obtain ⟨k, hk, rfl, hpre, m, rfl⟩ := hrel
      have HP := Lib.hid hpre
      clear hpre
      by_cases hlt : k < t.size
      · have hg := signs_get hlt
        have hw := wrap_byte t[k]
        have hlt2 : i + k < s.length := by omega
        obtain ⟨b, o, rfl, hc⟩ := H.out.at_ hlt2
        have hlt3 : (i : Int) + (k : Int) < s.length := by omega
        have hwr : IntKind.i64.wrap ((i : Int) + (k : Int)) = (i : Int) + (k : Int) := IntWalk.i64_in _ (by omega)
        have hnn : 0 ≤ (i : Int) + (k : Int) := by omega
        have htn : ((i : Int) + (k : Int)).toNat = i + k := by omega
        have hgs := List.getElem?_eq_getElem hlt2
        generalize s[i + k] = y at hc hgs
        by_cases he : y = (t[k].toNat : Int)
        · have hb : (y != wrap32 (t[k].toNat : Int)) = false := by rw [hw]; simp [he]
          have hb2 : (y != (t[k].toNat : Int)) = false := by simp [he]
          have HE := Lib.hid (show ∀ j, j < k + 1 → (signs t)[j]? = s[i + j]? by
            intro j hj
            rcases Nat.lt_succ_iff_lt_or_eq.1 hj with h | rfl
            · exact HP.out j h
            · rw [hg, hgs, he])
          clear he hg hw hgs
          go_wp2_with fail
          go_quiet (fail)
          go_wp2_with fail
          go_roundw
          case rel => exact ⟨k + 1, by omega, by go_num, HE.out, _, rfl⟩
          case measure => simp [intOf]; omega
        · have hb : (y != wrap32 (t[k].toNat : Int)) = true := by rw [hw]; simpa using he
          have hb2 : (y != (t[k].toNat : Int)) = true := by simpa using he
          have HM := Lib.hid (show stB s i (signs t) = false from decide_eq_false (by
            intro h
            have h2 := congrArg (fun l => l[k]?) h
            simp only [List.getElem?_take, List.getElem?_drop] at h2
            rw [if_pos (by rw [signs_len]; exact hlt), hgs, hg] at h2
            injection h2 with h2
            exact he h2))
          clear he hg hw hgs
          go_wp2_with fail
          go_quiet (fail)
          go_wp2_with fail
          go_ret
          exact ⟨by rw [HM.out]; rfl, dd⟩
      · have HM := Lib.hid (show stB s i (signs t) = true from decide_eq_true (by
          apply List.ext_getElem?
          intro j
          rw [List.getElem?_take]
          split
          · rename_i h
            rw [signs_len] at h
            rw [List.getElem?_drop, HP.out j (by omega)]
          · rename_i h
            rw [List.getElem?_eq_none (by omega)]))
        go_wp2_with fail
        go_ret
        exact ⟨by rw [HM.out]; rfl, m, rfl⟩
  · have hd : decide ((s.length : Int) - (i : Int) < (t.size : Int)) = true := by simp; omega
    have HM := Lib.hid (show stB s i (signs t) = false from decide_eq_false (by
      intro h
      have h2 := congrArg List.length h
      rw [List.length_take, List.length_drop, signs_len] at h2
      omega))
    go_enter Try.func108, Try.ntmps108
    go_wp2_with fail
    go_ret
    exact ⟨by rw [HM.out]; rfl, 0, rfl⟩
theorem stB_one {s : List Int} {i : Nat} {a : Int} : stB s i [a] = decide (s[i]? = some a) := by
  unfold stB
  rw [decide_eq_decide]
  rcases Nat.lt_or_ge i s.length with h | h
  · rw [List.drop_eq_getElem_cons h, List.getElem?_eq_getElem h]
    show ([s[i]] = [a]) ↔ (some s[i] = some a)
    simp
  · rw [List.drop_eq_nil_of_le h, List.getElem?_eq_none h]; simp
theorem stB_two {s : List Int} {i : Nat} {a b : Int} : stB s i [a, b] = decide (s[i]? = some a ∧ s[i + 1]? = some b) := by
  unfold stB
  rw [decide_eq_decide]
  rcases Nat.lt_or_ge i s.length with h | h
  · rw [List.drop_eq_getElem_cons h, List.getElem?_eq_getElem h]
    rcases Nat.lt_or_ge (i + 1) s.length with h2 | h2
    · rw [List.drop_eq_getElem_cons h2, List.getElem?_eq_getElem h2]
      show ([s[i], s[i + 1]] = [a, b]) ↔ (some s[i] = some a ∧ some s[i + 1] = some b)
      simp
    · rw [List.drop_eq_nil_of_le h2, List.getElem?_eq_none h2]; simp
  · rw [List.drop_eq_nil_of_le h, List.getElem?_eq_none h]; simp
/-- The call returned a string, and nothing else. -/
def BoolS (b : ByteArray) (w : World) (e : Ending) (w' : World) : Prop := e = .returned (.string b) ∧ w = w'
theorem caseName_any (c : Int) (h1 : 1 ≤ c) (h2 : c ≤ 5) (w : World) : Calls Try.prog 109 #[.int .i64 c] w (BoolS (nbs.getD (c.toNat - 1) ⟨#[]⟩) w) := by
  have : c = 1 ∨ c = 2 ∨ c = 3 ∨ c = 4 ∨ c = 5 := by omega
  rcases this with rfl | rfl | rfl | rfl | rfl
  all_goals
    go_enter Try.func109, Try.ntmps109
    go_wp2_with fail
    go_ret
    exact ⟨rfl, rfl⟩
/-- A number and the place behind it; 0, 0: there is none. -/
def rnum (R : Option (Int × Nat)) (i : Nat) : Int × Int := match R with | some (n, k) => (n, ((i + k : Nat) : Int)) | none => (0, 0)
theorem val_three : ∀ l : List Int, l.length ≤ 3 → (∀ c ∈ l, 48 ≤ c ∧ c ≤ 57) → 0 ≤ FM.val l ∧ FM.val l ≤ 999
  | [], _, _ => by simp [FM.val]
  | [a], _, h => by have := h a (by simp); simp [FM.val]; omega
  | [a, b], _, h => by have := h a (by simp); have := h b (by simp); simp [FM.val]; omega
  | [a, b, c], _, h => by have := h a (by simp); have := h b (by simp); have := h c (by simp); simp [FM.val]; omega
  | _ :: _ :: _ :: _ :: _, h, _ => by simp at h
theorem digs_stop : ∀ l : List Int, ∀ hk : FM.digs l < l.length, FM.isD l[FM.digs l] = false := by
  intro l
  induction l with
  | nil => intro hk; simp at hk
  | cons c r ih =>
    intro hk
    by_cases hc : FM.isD c = true
    · have e : FM.digs (c :: r) = FM.digs r + 1 := by simp [FM.digs, hc]
      simp only [e]
      exact ih (by rw [e] at hk; simpa using hk)
    · have e : FM.digs (c :: r) = 0 := by simp [FM.digs, hc]
      simp only [e]
      simpa using hc
set_option maxRecDepth 100000 in
set_option maxHeartbeats 2000000 in
theorem rnumber_any (s : List Int) (vs : Value) (i : Nat) (w : World) (hs : SlC w vs s) (hi : i ≤ s.length) :
    Calls Try.prog 107 #[vs, .int .i64 (i : Int)] w (Ret2 (.int .i64 (rnum (FM.number (s.drop i)) i).1) (.int .i64 (rnum (FM.number (s.drop i)) i).2) w) := by
  have H := Lib.hid hs
  obtain ⟨A, ca, rfl, hlx, hcx, -⟩ := hs
  obtain ⟨R, hR⟩ : ∃ R, FM.number (s.drop i) = R := ⟨_, rfl⟩
  rw [hR]
  have HR := Lib.hid hR
  clear hR
  obtain ⟨D, hD⟩ : ∃ D, FM.digs (s.drop i) = D := ⟨_, rfl⟩
  have hDl : i + D ≤ s.length := by
    have := FM.digs_le (s.drop i)
    rw [hD, List.length_drop] at this; omega
  have HD := Lib.hid hD
  have HG := Lib.hid (show ∀ k (h : k < D), FM.isD (s[i + k]'(by omega)) = true by
    intro k h
    have := digs_get (s.drop i) k (by omega)
    simpa using this)
  have HS := Lib.hid (show ∀ (h : i + D < s.length), FM.isD s[i + D] = false by
    intro h
    have h2 := digs_stop (s.drop i) (by rw [hD, List.length_drop]; omega)
    have h3 : (s.drop i)[FM.digs (s.drop i)]'(by rw [hD, List.length_drop]; omega) = s[i + D] := by simp [hD]
    rw [h3] at h2
    exact h2)
  clear hD
  have HDG := Lib.hid rdigit_any
  obtain ⟨M, hM⟩ : ∃ M, min D 3 = M := ⟨_, rfl⟩
  have hM1 : M ≤ D := by omega
  have hM2 : M ≤ 3 := by omega
  have hM3 : M < 3 → M = D := by omega
  go_enter Try.func107, Try.ntmps107
  go_upto_block 0 with fail
  go_cut [6, 7] (fun n k wx => n = .int .i64 (FM.val ((s.drop i).take M)) ∧ k = .int .i64 (M : Int) ∧ wx = w)
  case first =>
    go_wp2_with fail
    go_loop [6, 7] (fun n x => ∃ k : Nat, k ≤ M ∧ n = .int .i64 (FM.val ((s.drop i).take k)) ∧ x = .int .i64 (k : Int)) (fun _ x => 3 - (intOf x).toNat)
    case atStart => exact ⟨0, Nat.zero_le _, rfl, rfl⟩
    case round =>
      obtain ⟨k, hk, rfl, rfl⟩ := hrel
      have hvr := val_three ((s.drop i).take k) (by rw [List.length_take]; omega) (by
        intro c hc
        obtain ⟨j, hj, rfl⟩ := List.mem_take_iff_getElem.1 hc
        have := HG.out j (by omega)
        simp only [List.getElem_drop]
        simpa [FM.isD] using this)
      obtain ⟨V, hV⟩ : ∃ V, FM.val ((s.drop i).take k) = V := ⟨_, rfl⟩
      have HV := Lib.hid hV
      rw [hV] at hvr
      rw [hV]
      obtain ⟨hv0, hv9⟩ := hvr
      clear hV
      by_cases hlt : i + k < s.length
      · obtain ⟨b, o, rfl, hc⟩ := H.out.at_ hlt
        have hlt2 : (i : Int) + (k : Int) < s.length := by omega
        by_cases hk3 : k < 3
        · have hk3i : (k : Int) < 3 := by omega
          by_cases hkd : k < D
          · have hkm : k < M := by omega
            have HB := Lib.hid (HG.out k hkd)
            have hv2 := val_snoc ((s.drop i).take k) s[i + k]
            have e : (s.drop i).take k ++ [s[i + k]] = (s.drop i).take (k + 1) := by
              rw [List.take_succ_eq_append_getElem (by rw [List.length_drop]; omega)]; simp
            rw [e, HV.out] at hv2
            have hdd : 48 ≤ s[i + k] ∧ s[i + k] ≤ 57 := by simpa [FM.isD] using HB.out
            generalize s[i + k] = x at hc HB hdd hv2
            have HV2 := Lib.hid hv2
            obtain ⟨hd1, hd2⟩ := hdd
            clear hv2 e
            go_wp2_with (go_at_call 129; go_loud (refine (HDG.out x _).mono ?_; rw [HB.out]; rintro e w2 ⟨rfl, rfl⟩))
            go_round
            case rel => exact ⟨k + 1, by omega, by rw [HV2.out], by go_num⟩
            case measure => simp [intOf]; omega
          · obtain rfl : k = D := by omega
            obtain rfl : k = M := by omega
            have HB := Lib.hid (HS.out hlt)
            generalize s[i + k] = x at hc HB
            go_wp2_with (go_at_call 129; go_loud (refine (HDG.out x _).mono ?_; rw [HB.out]; rintro e w2 ⟨rfl, rfl⟩))
            go_meet
            exact ⟨by rw [HV.out], rfl, rfl⟩
        · obtain rfl : k = M := by omega
          have hk3i : ¬ (k : Int) < 3 := by omega
          go_wp2_with fail
          go_meet
          exact ⟨by rw [HV.out], rfl, rfl⟩
      · obtain rfl : k = M := by omega
        have hlt2 : ¬ (i : Int) + (k : Int) < s.length := by omega
        go_wp2_with fail
        go_meet
        exact ⟨by rw [HV.out], rfl, rfl⟩
  case rest =>
    obtain ⟨rfl, rfl, hw⟩ := hcut
    subst hw
    by_cases h0 : M = 0
    · have HN := Lib.hid (show R = none by rw [← HR.out]; unfold FM.number; rw [HD.out, if_pos (by omega)])
      have e1 : ((M : Int) == 0) = true := by simp [h0]
      go_wp2_with fail
      go_ret2
      exact ⟨by rw [HN.out]; rfl, Ext.refl _⟩
    · have e1 : ((M : Int) == 0) = false := by simp; omega
      by_cases h3 : M = 3
      · have HN := Lib.hid (show R = none by rw [← HR.out]; unfold FM.number; rw [HD.out, if_pos (by omega)])
        have e3 : ((M : Int) == 3) = true := by simp [h3]
        go_wp2_with fail
        go_ret2
        exact ⟨by rw [HN.out]; rfl, Ext.refl _⟩
      · have e3 : ((M : Int) == 3) = false := by simp; omega
        have hMD := hM3 (by omega)
        have HN := Lib.hid (show R = some (FM.val ((s.drop i).take M), M) by rw [← HR.out]; unfold FM.number; rw [HD.out, if_neg (by omega), hMD])
        clear hMD
        go_wp2_with fail
        go_ret2
        exact ⟨by rw [HN.out]; rfl, Ext.refl _⟩
end Go.Proofs.Ytfblkahjefdmaaa
namespace Go.Proofs.Ytfblkahjefdmaaa
open Go.RowKit
/-- A text and the place behind it, or none. -/
def WordsP (R : Option (List Int × Nat)) (w : World) (en : Ending) (w' : World) : Prop :=
  Ext w w' ∧ ((∃ t k A c, R = some (t, k) ∧ en = .returned (.tuple #[.slice A t.length c, .int .i64 (k : Int)]) ∧ SlB 21 1 Cc w.heap.size w' (.slice A t.length c) t) ∨ (R = none ∧ en = .returned (.tuple #[.slice none 0 0, .int .i64 0])))
set_option maxRecDepth 100000 in
set_option maxHeartbeats 2000000 in
theorem words_any (e : Int) (he : e ≠ 92) (s : List Int) (vs : Value) (i : Nat) (w : World) (hs : SlC w vs s) (hsl : s.length ≤ 35184372088832) (hi : i ≤ s.length) :
    Calls Try.prog 110 #[vs, .int .i64 (i : Int), .int .i32 e] w (WordsP (txt e s i) w) := by
  have H := Lib.hid hs
  obtain ⟨A, ca, rfl, hlx, hcx, -⟩ := hs
  have HAM := Lib.hid has_marks
  have HE92 := Lib.hid he
  obtain ⟨R, hR⟩ : ∃ R, txt e s i = R := ⟨_, rfl⟩
  rw [hR]
  have HR := Lib.hid (show (FM.text e (s.drop i)).map (fun p => ([] ++ p.1, i + p.2)) = R from hR)
  clear hR he
  go_enter Try.func110, Try.ntmps110
  go_wp2_with fail
  go_loopw [1, 8] (fun a v wr => ∃ (k : Nat) (acc : List Int), k ≤ s.length ∧ a = .int .i64 k ∧ Acs w v acc wr ∧ acc.length ≤ k ∧ (FM.text e (s.drop k)).map (fun p => (acc ++ p.1, k + p.2)) = R) (fun a _ _ => s.length - (intOf a).toNat)
  case atStart => exact ⟨i, [], hi, rfl, ⟨OwnB.nil_, Ext.refl w⟩, Nat.zero_le _, HR.out⟩
  case round =>
    obtain ⟨k, acc, hk, rfl, hacs, hal, hT⟩ := hrel
    have HC := Lib.hid hacs
    have HT := Lib.hid hT
    obtain ⟨Ao, co, rfl, hco, hcm⟩ := hacs.own.form
    clear hT hacs
    by_cases hlt : k < s.length
    · obtain ⟨b, o, rfl, hc⟩ := (H.out.ext HC.out.ext).at_ hlt
      by_cases hce : s[k] = e
      · have hbe : (s[k] == e) = true := by simpa using hce
        have HT2 := Lib.hid ((txt_stop (acc := acc) hlt HE92.out hce).symm.trans HT.out)
        clear hce
        generalize s[k] = x at hc hbe
        go_wp2_with fail
        go_ret2
        exact ⟨HC.out.ext, .inl ⟨acc, k + 1, _, _, HT2.out.symm, rfl, HC.out.own.sl⟩⟩
      have hbe : (s[k] == e) = false := by simpa using hce
      by_cases h92 : s[k] = 92
      · have hb92 : (s[k] == 92) = true := by simpa using h92
        by_cases hk1 : k + 1 < s.length
        · have hk1i : (k : Int) + 1 < s.length := by omega
          obtain ⟨b', o', hbo, hc'⟩ := (H.out.ext HC.out.ext).at_ hk1
          injection hbo with hbo
          injection hbo with hb1 hb2
          subst hb1 hb2
          by_cases hm : s[k + 1] ∈ FM.marks
          · have HT2 := Lib.hid ((txt_esc (e := e) (acc := acc) hk1 h92 hm).symm.trans HT.out)
            have HM := Lib.hid (show decide (s[k + 1] ∈ FM.marks) = true from decide_eq_true hm)
            clear h92 hce hm
            generalize s[k] = x at hc hb92 hbe
            generalize s[k + 1] = y at hc' HM HT2
            go_wp2_with (first | (go_at_call 75; refine (HAM.out y _).mono ?_; rw [HM.out]; rintro e' w2 ⟨rfl, rfl⟩) | (at_builtin; go_loud (refine app_i32L rfl _ _ rfl w.heap.size _ acc [y] HC.out.own.allocs rfl ⟨wr.heap.size, 0, none⟩ 1 1 rfl rfl (one_cells rfl) ?hn ?hB ?_; (case hn => (simp only [List.length_cons, List.length_nil]; omega)); (case hB => exact Nat.le_trans HC.out.size (by simp)); intro v' w' h1 h2; generalize hl : acc ++ [y] = acc2 at h1; have HL := Lib.hid hl; have hl2 : acc2.length = acc.length + 1 := (by rw [← hl, List.length_append]; rfl); have HL2 := Lib.hid hl2; obtain ⟨A2, c2, rfl, -⟩ := h1.form; have HC := Lib.hid (Acs.app (Acs.alloc HC.out) h1 h2); clear h1 h2 hl hl2)))
            go_roundw
            case rel => exact ⟨k + 2, acc2, by omega, by go_num, HC.out, by have := HL2.out; omega, by rw [← HL.out]; exact HT2.out⟩
            case measure => simp [intOf]; omega
          · have HT2 := Lib.hid ((txt_plain (e := e) (acc := acc) hlt hce (fun h => by obtain ⟨_, _, h⟩ := h; exact hm h)).symm.trans HT.out)
            have HM := Lib.hid (show decide (s[k + 1] ∈ FM.marks) = false from decide_eq_false hm)
            clear h92 hce hm
            generalize s[k] = x at hc hb92 hbe HT2
            generalize s[k + 1] = y at hc' HM
            go_wp2_with (first | (go_at_call 75; refine (HAM.out y _).mono ?_; rw [HM.out]; rintro e' w2 ⟨rfl, rfl⟩) | (at_builtin; go_loud (refine app_i32L rfl _ _ rfl w.heap.size _ acc [x] HC.out.own.allocs rfl ⟨wr.heap.size, 0, none⟩ 1 1 rfl rfl (one_cells rfl) ?hn ?hB ?_; (case hn => (simp only [List.length_cons, List.length_nil]; omega)); (case hB => exact Nat.le_trans HC.out.size (by simp)); intro v' w' h1 h2; generalize hl : acc ++ [x] = acc2 at h1; have HL := Lib.hid hl; have hl2 : acc2.length = acc.length + 1 := (by rw [← hl, List.length_append]; rfl); have HL2 := Lib.hid hl2; obtain ⟨A2, c2, rfl, -⟩ := h1.form; have HC := Lib.hid (Acs.app (Acs.alloc HC.out) h1 h2); clear h1 h2 hl hl2)))
            go_roundw
            case rel => exact ⟨k + 1, acc2, by omega, by go_num, HC.out, by have := HL2.out; omega, by rw [← HL.out]; exact HT2.out⟩
            case measure => simp [intOf]; omega
        · have HT2 := Lib.hid ((txt_plain (e := e) (acc := acc) hlt hce (fun h => by obtain ⟨_, h, _⟩ := h; exact hk1 h)).symm.trans HT.out)
          have hk1i : ¬ (k : Int) + 1 < s.length := by omega
          clear h92 hce hk1
          generalize s[k] = x at hc hb92 hbe HT2
          go_wp2_with (at_builtin; go_loud (refine app_i32L rfl _ _ rfl w.heap.size _ acc [x] HC.out.own.allocs rfl ⟨wr.heap.size, 0, none⟩ 1 1 rfl rfl (one_cells rfl) ?hn ?hB ?_; (case hn => (simp only [List.length_cons, List.length_nil]; omega)); (case hB => exact Nat.le_trans HC.out.size (by simp)); intro v' w' h1 h2; generalize hl : acc ++ [x] = acc2 at h1; have HL := Lib.hid hl; have hl2 : acc2.length = acc.length + 1 := (by rw [← hl, List.length_append]; rfl); have HL2 := Lib.hid hl2; obtain ⟨A2, c2, rfl, -⟩ := h1.form; have HC := Lib.hid (Acs.app (Acs.alloc HC.out) h1 h2); clear h1 h2 hl hl2))
          go_roundw
          case rel => exact ⟨k + 1, acc2, by omega, by go_num, HC.out, by have := HL2.out; omega, by rw [← HL.out]; exact HT2.out⟩
          case measure => simp [intOf]; omega
      · have hb92 : (s[k] == 92) = false := by simpa using h92
        have HT2 := Lib.hid ((txt_plain (e := e) (acc := acc) hlt hce (fun h => h92 h.1)).symm.trans HT.out)
        clear h92 hce
        generalize s[k] = x at hc hb92 hbe HT2
        go_wp2_with (at_builtin; go_loud (refine app_i32L rfl _ _ rfl w.heap.size _ acc [x] HC.out.own.allocs rfl ⟨wr.heap.size, 0, none⟩ 1 1 rfl rfl (one_cells rfl) ?hn ?hB ?_; (case hn => (simp only [List.length_cons, List.length_nil]; omega)); (case hB => exact Nat.le_trans HC.out.size (by simp)); intro v' w' h1 h2; generalize hl : acc ++ [x] = acc2 at h1; have HL := Lib.hid hl; have hl2 : acc2.length = acc.length + 1 := (by rw [← hl, List.length_append]; rfl); have HL2 := Lib.hid hl2; obtain ⟨A2, c2, rfl, -⟩ := h1.form; have HC := Lib.hid (Acs.app (Acs.alloc HC.out) h1 h2); clear h1 h2 hl hl2))
        go_roundw
        case rel => exact ⟨k + 1, acc2, by omega, by go_num, HC.out, by have := HL2.out; omega, by rw [← HL.out]; exact HT2.out⟩
        case measure => simp [intOf]; omega
    · have HT2 := Lib.hid ((txt_end (e := e) (acc := acc) (by omega)).symm.trans HT.out)
      have hge : ¬ k < s.length := hlt
      clear hlt
      go_wp2_with fail
      go_ret2
      exact ⟨HC.out.ext, .inr ⟨HT2.out.symm, rfl⟩⟩
end Go.Proofs.Ytfblkahjefdmaaa
namespace Go.Proofs.Ytfblkahjefdmaaa
open Go.RowKit
theorem st_mk {s : List Int} {v : Value} {w : World} (H : SlC w v s) {i : Nat} (hi : i ≤ s.length) (t : ByteArray) (ht : t.size ≤ 1000) (b : Bool) (hb : stB s i (signs t) = b) (W : World) (hW : Ext w W) :
    Calls Try.prog 108 #[v, .int .i64 (i : Int), .string t] W (RetD (.bool b) W) := by
  subst hb; exact stands_any s v i t W (H.ext hW) hi ht
theorem caseName_k (k : Nat) (hk : k < 5) (W : World) : Calls Try.prog 109 #[.int .i64 (1 + (k : Int))] W (BoolS (nbs.getD k ⟨#[]⟩) W) := by
  have := caseName_any (1 + (k : Int)) (by omega) (by omega) W
  have e : (1 + (k : Int)).toNat - 1 = k := by omega
  rw [e] at this; exact this
theorem name_signs : ∀ k, k < 5 → signs (nbs.getD k ⟨#[]⟩ ++ ⟨#[125]⟩) = FM.names.getD k [] ++ [125] := by
  intro k hk
  match k, hk with
  | 0, _ => decide
  | 1, _ => decide
  | 2, _ => decide
  | 3, _ => decide
  | 4, _ => decide
theorem Two.set1 {g1 g2 o : Nat} {w a : World} {u : Value} (h : Two g1 g2 w a) : Two g1 g2 w (a.setCell ⟨g1, o, none⟩ u) := fun i h1 h2 => (heap_ne h1).trans (h i h1 h2)
theorem Two.set2 {g1 g2 o : Nat} {w a : World} {u : Value} (h : Two g1 g2 w a) : Two g1 g2 w (a.setCell ⟨g2, o, none⟩ u) := fun i h1 h2 => (heap_ne h2).trans (h i h1 h2)
theorem CF.mk2 {w2 W : World} {g1 g2 B : Nat} {c1 c2 : Array Value} {k g c : Int} {vt ve : Value} {t e : List Int} (h1 : w2.heap[g1]? = some (.cells c1 82 (0, 0))) (h2 : w2.heap[g2]? = some (.cells c2 82 (0, 0))) (ho : Two g1 g2 w2 W) (ht : SlB 21 1 Cc B w2 vt t) (he : SlB 21 1 Cc B w2 ve e) :
    CF B W [.int .i64 k, .int .i64 g, .int .i64 c, vt, ve] ⟨k, g, c, t, e⟩ := by
  have hk : KeepT [21] w2 W := by
    intro i cur ty hty hg
    simp only [List.mem_singleton] at hty
    subst hty
    refine (ho i (fun e => ?_) (fun e => ?_)).trans hg
    · subst e
      rw [hg] at h1
      injection h1 with h1
      injection h1 with _ h1 _
      exact absurd h1 (by decide)
    · subst e
      rw [hg] at h2
      injection h2 with h2
      injection h2 with _ h2 _
      exact absurd h2 (by decide)
  exact ⟨vt, ve, rfl, ht.keep (keeps_c []) (hk.sub (by simp)) hk, he.keep (keeps_c []) (hk.sub (by simp)) hk⟩
theorem KeepT.setF {w : World} {g o : Nat} {cur : Array Value} {u : Value} (h : w.heap[g]? = some (.cells cur 82 (0, 0))) : KeepT [21] w (w.setCell ⟨g, o, none⟩ u) :=
  Only.keepT (w' := w.setCell ⟨g, o, none⟩ u) ((Only.refl w g).set u) h (by decide)
theorem SlB.keep1 {B : Nat} {w w' : World} {v : Value} {xs : List Int} (h : SlB 21 1 Cc B w v xs) (hk : KeepT [21] w w') : SlB 21 1 Cc B w' v xs := h.keep (keeps_c []) (hk.sub (by simp)) hk
theorem Ext.setb {w W : World} {g o : Nat} {u : Value} (hg : w.heap.size ≤ g) (h : Ext w W) : Ext w (W.setCell ⟨g, o, none⟩ u) := h.set (p := ⟨g, o, none⟩) hg u
/-- Where the ways of part meet: the part's box, the result's box, the place behind or 0. -/
def CutP (R : Option (FM.Form × Nat)) (n : Int) (nb : Nat) (w : World) (s9 : Value) (wx : World) : Prop :=
  ∃ (K : Int) (At : Option Addr) (lt ct : Nat) (Ae : Option Addr) (le ce : Nat), wx.heap[nb]? = some (.cells #[.int .i64 K, .int .i64 n, .int .i64 0, .slice At lt ct, .slice Ae le ce] 82 (0, 0)) ∧
    wx.heap[w.heap.size]? = some (.cells #[.int .i64 0, .int .i64 0, .int .i64 0, .slice none 0 0, .slice none 0 0] 82 (0, 0)) ∧ Ext w wx ∧
    ((R = none ∧ s9 = .int .i64 0) ∨ ∃ (t e : List Int) (k : Nat), R = some (⟨K, n, 0, t, e⟩, k) ∧ 1 ≤ k ∧ s9 = .int .i64 (k : Int) ∧ SlB 21 1 Cc w.heap.size wx (.slice At lt ct) t ∧ SlB 21 1 Cc w.heap.size wx (.slice Ae le ce) e)
/-- A part and the place behind it; zeros: none. -/
def RPartP (R : Option (FM.Form × Nat)) (w : World) (e : Ending) (w' : World) : Prop :=
  Ext w w' ∧ ((∃ f k cs, R = some (f, k) ∧ e = .returned (.tuple #[.agg cs.toArray, .int .i64 (k : Int)]) ∧ CF w.heap.size w' cs f) ∨
    (R = none ∧ e = .returned (.tuple #[.agg #[.int .i64 0, .int .i64 0, .int .i64 0, .slice none 0 0, .slice none 0 0], .int .i64 0])))
set_option maxRecDepth 100000 in
set_option maxHeartbeats 4000000 in
theorem rpart_any (s : List Int) (vs : Value) (i : Nat) (w : World) (hs : SlC w vs s) (hsl : s.length ≤ 35184372088832) (hi : i < s.length) :
    Calls Try.prog 77 #[vs, .int .i64 (i : Int)] w (RPartP (partA s i) w) := by
  have H := Lib.hid hs
  obtain ⟨R, hR⟩ : ∃ R, partA s i = R := ⟨_, rfl⟩
  rw [hR]
  have HR := Lib.hid hR
  clear hR
  obtain ⟨A, ca, rfl, hlx, hcx, -⟩ := hs
  have HNU := Lib.hid (fun (j : Nat) (hj : j ≤ s.length) (W : World) (hW : Ext w W) => rnumber_any s _ j W (H.out.ext hW) hj)
  have HST := Lib.hid (fun (j : Nat) (hj : j ≤ s.length) (t : ByteArray) (ht : t.size ≤ 1000) (b : Bool) (hb : stB s j (signs t) = b) => st_mk H.out hj t ht b hb)
  have HWD := Lib.hid (fun (e : Int) (he : e ≠ 92) (j : Nat) (hj : j ≤ s.length) (W : World) (hW : Ext w W) => words_any e he s _ j W (H.out.ext hW) hsl hj)
  have tok1 : True := trivial
  have tok2 : True := trivial
  obtain ⟨N1, hN1⟩ : ∃ N, FM.number (s.drop (i + 1)) = N := ⟨_, rfl⟩
  have HNA := Lib.hid (HNU.out (i + 1) (by omega))
  rw [hN1] at HNA
  cases N1 with
  | some q =>
    obtain ⟨n, k⟩ := q
    have HQ := Lib.hid (part_num hN1)
    have hpos : decide ((0 : Int) < ((i + 1 + k : Nat) : Int)) = true := by simp; omega
    have hpos2 : decide ((0 : Int) < (i : Int) + 1 + (k : Int)) = true := by simp; omega
    have HNA := Lib.hid (show ∀ W, Ext w W → Calls Try.prog 107 #[.slice A s.length ca, .int .i64 ((i : Int) + 1)] W (Ret2 (.int .i64 n) (.int .i64 ((i + 1 + k : Nat) : Int)) W) from HNA.out)
    clear hN1
    go_enter Try.func77, Try.ntmps77
    go_wp2_with (go_at_call 107; go_loud (refine (HNA.out _ ((Ext.refl w).alloc _)).mono ?_; rintro e w2 ⟨rfl, hx⟩; have hb := hx.heap (heap_alloc_new w _); have d0 := cell_of_row w2 w.heap.size 0 _ _ _ hb; have d1 := cell_of_row w2 w.heap.size 1 _ _ _ hb; have d2 := cell_of_row w2 w.heap.size 2 _ _ _ hb; have d3 := cell_of_row w2 w.heap.size 3 _ _ _ hb; have d4 := cell_of_row w2 w.heap.size 4 _ _ _ hb; have f0 := frozen_of_row w2 w.heap.size 0 _ _ hb; have f1 := frozen_of_row w2 w.heap.size 1 _ _ hb; have f2 := frozen_of_row w2 w.heap.size 2 _ _ hb; have f3 := frozen_of_row w2 w.heap.size 3 _ _ hb; have f4 := frozen_of_row w2 w.heap.size 4 _ _ hb; have HB := Lib.hid hb; have HX := Lib.hid (((Ext.refl w).alloc _).trans hx); clear hb hx))
    refine bodyPost_ret (v := .tuple #[.agg #[.int .i64 1, .int .i64 n, .int .i64 0, .slice none 0 0, .slice none 0 0], .int .i64 ((i : Int) + 1 + (k : Int))]) (by simp [results, Try.results77, go_sem, d0, d1, d2, d3, d4]) rfl ?_
    exact ⟨by (focus (repeat (first | with_reducible exact HX.out | with_reducible apply Ext.setn | with_reducible apply Ext.drewN))), .inl ⟨⟨1, n, 0, [], []⟩, i + 1 + k, [.int .i64 1, .int .i64 n, .int .i64 0, .slice none 0 0, .slice none 0 0], by rw [← HR.out, HQ.out], rfl, CF.mkW HB.out (by (focus (repeat (first | apply Only.set | exact Only.refl _ _)))) SlB.nil_ SlB.nil_⟩⟩
  | none =>
    have HNA := Lib.hid (show ∀ W, Ext w W → Calls Try.prog 107 #[.slice A s.length ca, .int .i64 ((i : Int) + 1)] W (Ret2 (.int .i64 0) (.int .i64 0) W) from HNA.out)
    by_cases h1 : s[i + 1]? = some 123
    rotate_left
    · have HQ := Lib.hid (part_no hN1 h1)
      have HSA := Lib.hid (show ∀ W, Ext w W → Calls Try.prog 108 #[.slice A s.length ca, .int .i64 ((i : Int) + 1), .string { data := #[123] }] W (RetD (.bool false) W) from HST.out (i + 1) (by omega) ⟨#[123]⟩ (by decide) false (stB_one.trans (decide_eq_false h1)))
      clear hN1 h1
      go_enter Try.func77, Try.ntmps77
      go_wp2_with (first
        | (go_at_call 107; have _t := tok1; go_loud (refine (HNA.out _ ((Ext.refl w).alloc _)).mono ?_; rintro e wa ⟨rfl, hx⟩; have HBA := Lib.hid (hx.heap (heap_alloc_new w _)); have HXA := Lib.hid (((Ext.refl w).alloc _).trans hx); clear hx tok1 _t))
        | (go_at_call 108; go_loud (refine (HSA.out _ HXA.out).mono ?_; rintro e ws ⟨rfl, ns, rfl⟩; have hb := HBA.out; have d0 := cell_of_row wa w.heap.size 0 _ _ _ hb; have d1 := cell_of_row wa w.heap.size 1 _ _ _ hb; have d2 := cell_of_row wa w.heap.size 2 _ _ _ hb; have d3 := cell_of_row wa w.heap.size 3 _ _ _ hb; have d4 := cell_of_row wa w.heap.size 4 _ _ _ hb; have f0 := frozen_of_row wa w.heap.size 0 _ _ hb; have f1 := frozen_of_row wa w.heap.size 1 _ _ hb; have f2 := frozen_of_row wa w.heap.size 2 _ _ hb; have f3 := frozen_of_row wa w.heap.size 3 _ _ hb; have f4 := frozen_of_row wa w.heap.size 4 _ _ hb; clear hb)))
      refine bodyPost_ret (v := .tuple #[.agg #[.int .i64 0, .int .i64 0, .int .i64 0, .slice none 0 0, .slice none 0 0], .int .i64 0]) (by simp [results, Try.results77, go_sem, d0, d1, d2, d3, d4]) rfl ?_
      exact ⟨by (focus (repeat (first | with_reducible exact HXA.out | with_reducible apply Ext.setn | with_reducible apply Ext.drewN))), .inr ⟨by rw [← HR.out, HQ.out], rfl⟩⟩
    have hlt := (List.getElem?_eq_some_iff.1 h1).1
    have HSA := Lib.hid (show ∀ W, Ext w W → Calls Try.prog 108 #[.slice A s.length ca, .int .i64 ((i : Int) + 1), .string { data := #[123] }] W (RetD (.bool true) W) from HST.out (i + 1) (by omega) ⟨#[123]⟩ (by decide) true (stB_one.trans (decide_eq_true h1)))
    obtain ⟨N2, hN2⟩ : ∃ N, FM.number (s.drop (i + 2)) = N := ⟨_, rfl⟩
    have HNB := Lib.hid (HNU.out (i + 2) (by omega))
    rw [hN2] at HNB
    cases N2 with
    | none =>
      have HQ := Lib.hid (part_b0 hN1 h1 hN2)
      have HNB := Lib.hid (show ∀ W, Ext w W → Calls Try.prog 107 #[.slice A s.length ca, .int .i64 ((i : Int) + 2)] W (Ret2 (.int .i64 0) (.int .i64 0) W) from HNB.out)
      clear hN1 h1 hN2
      go_enter Try.func77, Try.ntmps77
      go_wp2_with (first
        | (go_at_call 107; have _t := tok1; go_loud (refine (HNA.out _ ((Ext.refl w).alloc _)).mono ?_; rintro e wa ⟨rfl, hx⟩; have HBA := Lib.hid (hx.heap (heap_alloc_new w _)); have HXA := Lib.hid (((Ext.refl w).alloc _).trans hx); clear hx tok1 _t))
        | (go_at_call 108; have _t := tok2; go_loud (refine (HSA.out _ HXA.out).mono ?_; rintro e ws ⟨rfl, ns, rfl⟩; clear tok2 _t))
        | (go_at_call 107; go_loud (refine (HNB.out _ (HXA.out.drewN _)).mono ?_; rintro e w2 ⟨rfl, hx⟩; have hb := hx.heap HBA.out; have d0 := cell_of_row w2 w.heap.size 0 _ _ _ hb; have d1 := cell_of_row w2 w.heap.size 1 _ _ _ hb; have d2 := cell_of_row w2 w.heap.size 2 _ _ _ hb; have d3 := cell_of_row w2 w.heap.size 3 _ _ _ hb; have d4 := cell_of_row w2 w.heap.size 4 _ _ _ hb; have f0 := frozen_of_row w2 w.heap.size 0 _ _ hb; have f1 := frozen_of_row w2 w.heap.size 1 _ _ hb; have f2 := frozen_of_row w2 w.heap.size 2 _ _ hb; have f3 := frozen_of_row w2 w.heap.size 3 _ _ hb; have f4 := frozen_of_row w2 w.heap.size 4 _ _ hb; have HX := Lib.hid ((HXA.out.drewN _).trans hx); clear hb hx)))
      refine bodyPost_ret (v := .tuple #[.agg #[.int .i64 0, .int .i64 0, .int .i64 0, .slice none 0 0, .slice none 0 0], .int .i64 0]) (by simp [results, Try.results77, go_sem, d0, d1, d2, d3, d4]) rfl ?_
      exact ⟨by (focus (repeat (first | with_reducible exact HX.out | with_reducible apply Ext.setn | with_reducible apply Ext.drewN))), .inr ⟨by rw [← HR.out, HQ.out], rfl⟩⟩
    | some q =>
      obtain ⟨n, k⟩ := q
      have hkl := number_le hN2
      rw [List.length_drop] at hkl
      obtain ⟨o, ho⟩ : ∃ o, i + 2 + k = o := ⟨_, rfl⟩
      have HNB := Lib.hid (show ∀ W, Ext w W → Calls Try.prog 107 #[.slice A s.length ca, .int .i64 ((i : Int) + 2)] W (Ret2 (.int .i64 n) (.int .i64 (o : Int)) W) from by subst ho; exact HNB.out)
      have hol : o ≤ s.length := by omega
      have ho2 : 2 ≤ o := by omega
      have ho0 : ((o : Int) == 0) = false := by simp; omega
      have HP125 := Lib.hid (fun (h : s[o]? = some 125) => part_125 hN1 h1 hN2 (by rw [ho]; exact h))
      have HP58 := Lib.hid (fun (h : s[o]? = some 58) => part_58 hN1 h1 hN2 (by rw [ho]; exact h))
      have HPO := Lib.hid (fun (h : s[o]? ≠ some 125) (h2 : s[o]? ≠ some 58) => part_oth hN1 h1 hN2 (by rw [ho]; exact h) (by rw [ho]; exact h2))
      rw [ho] at HP125 HP58
      clear hN1 h1 hN2 ho hkl hlt
      go_enter Try.func77, Try.ntmps77
      go_upto_block 0 with (first | (go_at_call 107; have _t := tok1; go_loud (refine (HNA.out _ ((Ext.refl w).alloc _)).mono ?_; rintro e wa ⟨rfl, hx⟩; have HBA := Lib.hid (hx.heap (heap_alloc_new w _)); have HXA := Lib.hid (((Ext.refl w).alloc _).trans hx); clear hx tok1 _t)) | (go_at_call 108; have _t := tok2; go_loud (refine (HSA.out _ HXA.out).mono ?_; rintro e ws ⟨rfl, ns, rfl⟩; clear tok2 _t)) | (go_at_call 107; go_loud (refine (HNB.out _ (HXA.out.drewN _)).mono ?_; rintro e w2 ⟨rfl, hx⟩; have HB := Lib.hid (hx.heap HBA.out); have hbs := heap_lt HB.out; have HX := Lib.hid ((HXA.out.drewN _).trans hx); clear hx)))
      have HXS := Lib.hid HX.out.size
      obtain ⟨nb, hnb⟩ : ∃ nb, nb = w2.heap.size := ⟨_, rfl⟩
      have HF := Lib.hid (show (w2.alloc (.cells #[.int .i64 1, .int .i64 n, .int .i64 0, .slice none 0 0, .slice none 0 0] 82)).heap[nb]? = some (.cells #[.int .i64 1, .int .i64 n, .int .i64 0, .slice none 0 0, .slice none 0 0] 82 (0, 0)) by rw [hnb]; exact heap_alloc_new w2 _)
      have hE4 := (Ext.refl w2).alloc (.cells #[.int .i64 1, .int .i64 n, .int .i64 0, .slice none 0 0, .slice none 0 0] 82)
      have HB := Lib.hid (hE4.heap HB.out)
      have HNBL := Lib.hid (show w.heap.size ≤ nb by rw [hnb]; exact HX.out.size)
      have HNE := Lib.hid (show w.heap.size ≠ nb by omega)
      have HX := Lib.hid (HX.out.trans hE4)
      rw [← hnb]
      clear hE4 hnb hbs HNA HNB HSA HBA HXA
      generalize w2.alloc (.cells #[.int .i64 1, .int .i64 n, .int .i64 0, .slice none 0 0, .slice none 0 0] 82) = w4 at HF HB HX ⊢
      have hne : nb ≠ w.heap.size := fun e => HNE.out e.symm
      have hne' : w.heap.size ≠ nb := HNE.out
      have HXS := Lib.hid HX.out.size
      go_cut [9] (fun s9 wx => CutP R n nb w s9 wx)
      case rest =>
        obtain ⟨K, At, lt, ct, Ae, le, ce, hf, hb, hx, hcase⟩ := hcut
        have q0 := cell_of_row wc nb 0 _ _ _ hf
        have q1 := cell_of_row wc nb 1 _ _ _ hf
        have q2 := cell_of_row wc nb 2 _ _ _ hf
        have q3 := cell_of_row wc nb 3 _ _ _ hf
        have q4 := cell_of_row wc nb 4 _ _ _ hf
        have r0 := frozen_of_row wc nb 0 _ _ hf
        have r1 := frozen_of_row wc nb 1 _ _ hf
        have r2 := frozen_of_row wc nb 2 _ _ hf
        have r3 := frozen_of_row wc nb 3 _ _ hf
        have r4 := frozen_of_row wc nb 4 _ _ hf
        have d0 := cell_of_row wc w.heap.size 0 _ _ _ hb
        have d1 := cell_of_row wc w.heap.size 1 _ _ _ hb
        have d2 := cell_of_row wc w.heap.size 2 _ _ _ hb
        have d3 := cell_of_row wc w.heap.size 3 _ _ _ hb
        have d4 := cell_of_row wc w.heap.size 4 _ _ _ hb
        have f0 := frozen_of_row wc w.heap.size 0 _ _ hb
        have f1 := frozen_of_row wc w.heap.size 1 _ _ hb
        have f2 := frozen_of_row wc w.heap.size 2 _ _ hb
        have f3 := frozen_of_row wc w.heap.size 3 _ _ hb
        have f4 := frozen_of_row wc w.heap.size 4 _ _ hb
        have hnl := heap_lt hf
        have hbl := heap_lt hb
        rcases hcase with ⟨hR, rfl⟩ | ⟨t, e, k9, hR, hk9, rfl, ht, he⟩
        · have HRR := Lib.hid hR
          have HX9 := Lib.hid hx
          clear hf hb hx hR
          go_wp2_with fail
          refine bodyPost_ret (v := .tuple #[.agg #[.int .i64 0, .int .i64 0, .int .i64 0, .slice none 0 0, .slice none 0 0], .int .i64 0]) (by simp [results, Try.results77, go_sem, d0, d1, d2, d3, d4]) rfl ?_
          exact ⟨by (focus (repeat (first | with_reducible exact HX9.out | with_reducible apply Ext.setn | with_reducible apply Ext.setb HNBL.out | with_reducible apply Ext.drewN))), .inr ⟨HRR.out, rfl⟩⟩
        · have HRR := Lib.hid hR
          have HX9 := Lib.hid hx
          have HF9 := Lib.hid hf
          have HB9 := Lib.hid hb
          have HT9 := Lib.hid ht
          have HE9 := Lib.hid he
          have h90 : ((k9 : Int) == 0) = false := by simp; omega
          clear hf hb hx hR ht he
          go_wp2_with fail
          refine bodyPost_ret (v := .tuple #[.agg #[.int .i64 K, .int .i64 n, .int .i64 0, .slice At lt ct, .slice Ae le ce], .int .i64 (k9 : Int)]) (by simp [results, Try.results77, go_sem, d0, d1, d2, d3, d4]) rfl ?_
          exact ⟨by (focus (repeat (first | with_reducible exact HX9.out | with_reducible apply Ext.setn | with_reducible apply Ext.setb HNBL.out | with_reducible apply Ext.drewN))), .inl ⟨⟨K, n, 0, t, e⟩, k9, [.int .i64 K, .int .i64 n, .int .i64 0, .slice At lt ct, .slice Ae le ce], HRR.out, rfl, CF.mk2 HB9.out HF9.out (by (focus (repeat (first | with_reducible exact Two.refl _ _ _ | with_reducible apply Two.set1 | with_reducible apply Two.set2 | with_reducible apply Two.drewN)))) HT9.out HE9.out⟩⟩
      have q0 := cell_of_row w4 nb 0 _ _ _ HF.out
      have q1 := cell_of_row w4 nb 1 _ _ _ HF.out
      have q2 := cell_of_row w4 nb 2 _ _ _ HF.out
      have q3 := cell_of_row w4 nb 3 _ _ _ HF.out
      have q4 := cell_of_row w4 nb 4 _ _ _ HF.out
      have r0 := frozen_of_row w4 nb 0 _ _ HF.out
      have r1 := frozen_of_row w4 nb 1 _ _ HF.out
      have r2 := frozen_of_row w4 nb 2 _ _ HF.out
      have r3 := frozen_of_row w4 nb 3 _ _ HF.out
      have r4 := frozen_of_row w4 nb 4 _ _ HF.out
      have d0 := cell_of_row w4 w.heap.size 0 _ _ _ HB.out
      have d1 := cell_of_row w4 w.heap.size 1 _ _ _ HB.out
      have d2 := cell_of_row w4 w.heap.size 2 _ _ _ HB.out
      have d3 := cell_of_row w4 w.heap.size 3 _ _ _ HB.out
      have d4 := cell_of_row w4 w.heap.size 4 _ _ _ HB.out
      have f0 := frozen_of_row w4 w.heap.size 0 _ _ HB.out
      have f1 := frozen_of_row w4 w.heap.size 1 _ _ HB.out
      have f2 := frozen_of_row w4 w.heap.size 2 _ _ HB.out
      have f3 := frozen_of_row w4 w.heap.size 3 _ _ HB.out
      have f4 := frozen_of_row w4 w.heap.size 4 _ _ HB.out
      have hnl := heap_lt HF.out
      have HXS := Lib.hid HX.out.size
      have hbl := heap_lt HB.out
      by_cases h125 : s[o]? = some 125
      · have HQ := Lib.hid (HP125.out h125)
        have HS1 := Lib.hid (HST.out o hol ⟨#[125]⟩ (by decide) true (stB_one.trans (decide_eq_true h125)))
        clear h125
        go_wp2_with (go_at_call 108; go_loud (refine (HS1.out _ HX.out).mono ?_; rintro e ws ⟨rfl, ns, rfl⟩))
        refine bodyPost_ret (v := .tuple #[.agg #[.int .i64 1, .int .i64 n, .int .i64 0, .slice none 0 0, .slice none 0 0], .int .i64 ((o : Int) + 1)]) (by simp [results, Try.results77, go_sem, d0, d1, d2, d3, d4]) rfl ?_
        exact ⟨by (focus (repeat (first | with_reducible exact HX.out | with_reducible apply Ext.setn | with_reducible apply Ext.setb HNBL.out | with_reducible apply Ext.drewN))), .inl ⟨⟨1, n, 0, [], []⟩, o + 1, [.int .i64 1, .int .i64 n, .int .i64 0, .slice none 0 0, .slice none 0 0], by rw [← HR.out, HQ.out], rfl, CF.mk2 HB.out HF.out (by (focus (repeat (first | with_reducible exact Two.refl _ _ _ | with_reducible apply Two.set1 | with_reducible apply Two.set2 | with_reducible apply Two.drewN)))) SlB.nil_ SlB.nil_⟩⟩
      have HS1 := Lib.hid (HST.out o hol ⟨#[125]⟩ (by decide) false (stB_one.trans (decide_eq_false h125)))
      by_cases h58 : s[o]? = some 58
      rotate_left
      · have HQ := Lib.hid (HPO.out h125 h58)
        have hno : ∀ x, ¬ (s[o]? = some 58 ∧ s[o + 1]? = some x) := fun x h => h58 h.1
        have HS2 := Lib.hid (HST.out o hol ⟨#[58, 47]⟩ (by decide) false (stB_two.trans (decide_eq_false (hno 47))))
        have HS3 := Lib.hid (HST.out o hol ⟨#[58, 43]⟩ (by decide) false (stB_two.trans (decide_eq_false (hno 43))))
        have HS4 := Lib.hid (HST.out o hol ⟨#[58, 63]⟩ (by decide) false (stB_two.trans (decide_eq_false (hno 63))))
        have HS5 := Lib.hid (HST.out o hol ⟨#[58, 45]⟩ (by decide) false (stB_two.trans (decide_eq_false (hno 45))))
        have HS6 := Lib.hid (HST.out o hol ⟨#[58]⟩ (by decide) false (stB_one.trans (decide_eq_false h58)))
        clear h125 h58 hno
        go_wp2_with (go_at_call 108; go_loud ((first | (with_reducible refine (HS1.out _ ?hX).mono ?_; (case hX => (focus (repeat (first | with_reducible exact HX.out | with_reducible apply Ext.drewN))))) | (with_reducible refine (HS2.out _ ?hX).mono ?_; (case hX => (focus (repeat (first | with_reducible exact HX.out | with_reducible apply Ext.drewN))))) | (with_reducible refine (HS3.out _ ?hX).mono ?_; (case hX => (focus (repeat (first | with_reducible exact HX.out | with_reducible apply Ext.drewN))))) | (with_reducible refine (HS4.out _ ?hX).mono ?_; (case hX => (focus (repeat (first | with_reducible exact HX.out | with_reducible apply Ext.drewN))))) | (with_reducible refine (HS5.out _ ?hX).mono ?_; (case hX => (focus (repeat (first | with_reducible exact HX.out | with_reducible apply Ext.drewN))))) | (with_reducible refine (HS6.out _ ?hX).mono ?_; (case hX => (focus (repeat (first | with_reducible exact HX.out | with_reducible apply Ext.drewN)))))); rintro e ws ⟨rfl, ns, rfl⟩))
        go_meet
        exact ⟨1, none, 0, 0, none, 0, 0, HF.out, HB.out, by (focus (repeat (first | with_reducible exact HX.out | with_reducible apply Ext.setn | with_reducible apply Ext.setb HNBL.out | with_reducible apply Ext.drewN))), .inl ⟨by rw [← HR.out, HQ.out], rfl⟩⟩
      have HQ := Lib.hid (HP58.out h58)
      have ho1 : o + 1 ≤ s.length := (List.getElem?_eq_some_iff.1 h58).1
      by_cases h47 : s[o + 1]? = some 47
      · have HI := Lib.hid (show innA n s (o + 1) = (FM.cased (s.drop (o + 2))).map (fun p => (⟨1, n, p.1, [], []⟩, o + 2 + p.2)) from inn_47 h47)
        have HS2 := Lib.hid (HST.out o hol ⟨#[58, 47]⟩ (by decide) true (stB_two.trans (decide_eq_true ⟨h58, h47⟩)))
        have hol2 : o + 2 ≤ s.length := (List.getElem?_eq_some_iff.1 h47).1
        obtain ⟨Q, hQ⟩ : ∃ Q, FM.cased (s.drop (o + 2)) = Q := ⟨_, rfl⟩
        have HI := Lib.hid (show R = Q.map (fun p => (⟨1, n, p.1, [], []⟩, o + 2 + p.2)) by rw [← HR.out, HQ.out, HI.out, hQ])
        have HQ0 := Lib.hid (show FM.casedL (FM.names.drop 0) (1 + ((0 : Nat) : Int)) (s.drop (o + 2)) = Q from hQ)
        have HCN := Lib.hid caseName_k
        clear h47 h58 h125 hQ
        go_upto_region 14 with (go_at_call 108; go_loud ((first | (with_reducible refine (HS1.out _ ?hX).mono ?_; (case hX => (focus (repeat (first | with_reducible exact HX.out | with_reducible apply Ext.drewN))))) | (with_reducible refine (HS2.out _ ?hX).mono ?_; (case hX => (focus (repeat (first | with_reducible exact HX.out | with_reducible apply Ext.drewN)))))); rintro e ws ⟨rfl, ns, rfl⟩))
        go_wp2_with fail
        go_loopw [11] (fun x wr => ∃ k : Nat, k ≤ 5 ∧ x = .int .i64 (1 + (k : Int)) ∧ (∃ m, wr = w4.drewN m) ∧ FM.casedL (FM.names.drop k) (1 + (k : Int)) (s.drop (o + 2)) = Q) (fun x _ => 6 - (intOf x).toNat)
        case atStart => exact ⟨0, by omega, rfl, ⟨_, rfl⟩, HQ0.out⟩
        case round =>
          obtain ⟨k, hk, rfl, ⟨m, rfl⟩, hT⟩ := hrel
          have HT := Lib.hid hT
          clear hT
          by_cases hlt : k < 5
          · have hnl := name_len k hlt
            have hsg := name_signs k hlt
            have hnbl := nb_len k hlt
            have hst := casedL_step (l := s.drop (o + 2)) k hlt
            have HCK := Lib.hid (HCN.out k hlt)
            generalize nbs.getD k ⟨#[]⟩ = nm at hsg HCK hnbl
            generalize FM.names.getD k [] = ns at hnl hsg hst
            have hsz : (nm ++ ⟨#[125]⟩).size = ns.length + 1 := by rw [← signs_len, hsg]; simp
            have hle5 : (1 : Int) + (k : Int) ≤ 5 := by omega
            have HSZ := Lib.hid hsz
            obtain ⟨tt, htt⟩ : ∃ tt, nm ++ ⟨#[125]⟩ = tt := ⟨_, rfl⟩
            have HTT := Lib.hid htt
            rw [htt] at hsg hsz
            obtain ⟨hn1, hn2⟩ := hnl
            by_cases heq : (s.drop (o + 2)).take (ns.length + 1) = ns ++ [125]
            · have HSB := Lib.hid (HST.out (o + 2) hol2 tt (by omega) true (by rw [hsg]; exact decide_eq_true (by rw [List.length_append]; exact heq)))
              have HRR := Lib.hid (show Q = some (1 + (k : Int), ns.length + 1) by rw [← HT.out, hst, if_pos heq])
              have hszi : (tt.size : Int) = (ns.length : Int) + 1 := by omega
              clear hst heq hsg htt HSZ
              go_wp2_with (first
                | (go_at_call 109; go_loud (refine (HCK.out _).mono ?_; rintro e wc ⟨rfl, rfl⟩))
                | (go_at_call 108; go_loud (rw [HTT.out]; refine (HSB.out _ ?hX).mono ?_; (case hX => (focus (repeat (first | with_reducible exact HX.out | with_reducible apply Ext.drewN)))); rintro e ws ⟨rfl, ns2, rfl⟩)))
              refine bodyPost_ret (v := .tuple #[.agg #[.int .i64 1, .int .i64 n, .int .i64 (1 + (k : Int)), .slice none 0 0, .slice none 0 0], .int .i64 ((o : Int) + 2 + ((ns.length : Int) + 1))]) (by simp [results, Try.results77, go_sem, d0, d1, d2, d3, d4]) rfl ?_
              exact ⟨by (focus (repeat (first | with_reducible exact HX.out | with_reducible apply Ext.setn | with_reducible apply Ext.setb HNBL.out | with_reducible apply Ext.drewN))), .inl ⟨⟨1, n, 1 + (k : Int), [], []⟩, o + 2 + (ns.length + 1), [.int .i64 1, .int .i64 n, .int .i64 (1 + (k : Int)), .slice none 0 0, .slice none 0 0], by rw [HI.out, HRR.out]; rfl, rfl, CF.mk2 HB.out HF.out (by (focus (repeat (first | with_reducible exact Two.refl _ _ _ | with_reducible apply Two.set1 | with_reducible apply Two.set2 | with_reducible apply Two.drewN)))) SlB.nil_ SlB.nil_⟩⟩
            · have HSB := Lib.hid (HST.out (o + 2) hol2 tt (by omega) false (by rw [hsg]; exact decide_eq_false (by rw [List.length_append]; exact heq)))
              have HRR := Lib.hid (show FM.casedL (FM.names.drop (k + 1)) (1 + ((k + 1 : Nat) : Int)) (s.drop (o + 2)) = Q by rw [← HT.out, hst, if_neg heq])
              clear hst heq hsg htt HSZ
              go_wp2_with (first
                | (go_at_call 109; go_loud (refine (HCK.out _).mono ?_; rintro e wc ⟨rfl, rfl⟩))
                | (go_at_call 108; go_loud (rw [HTT.out]; refine (HSB.out _ ?hX).mono ?_; (case hX => (focus (repeat (first | with_reducible exact HX.out | with_reducible apply Ext.drewN)))); rintro e ws ⟨rfl, ns2, rfl⟩)))
              go_roundw
              case rel => exact ⟨k + 1, by omega, by go_num, ⟨_, rfl⟩, HRR.out⟩
              case measure => simp [intOf]; omega
          · have HRR := Lib.hid (show Q = none by rw [← HT.out, show k = 5 by omega]; rfl)
            have hle5 : ¬ (1 : Int) + (k : Int) ≤ 5 := by omega
            go_wp2_with fail
            refine bodyPost_ret (v := .tuple #[.agg #[.int .i64 0, .int .i64 0, .int .i64 0, .slice none 0 0, .slice none 0 0], .int .i64 0]) (by simp [results, Try.results77, go_sem, d0, d1, d2, d3, d4]) rfl ?_
            exact ⟨by (focus (repeat (first | with_reducible exact HX.out | with_reducible apply Ext.setn | with_reducible apply Ext.setb HNBL.out | with_reducible apply Ext.drewN))), .inr ⟨by rw [HI.out, HRR.out]; rfl, rfl⟩⟩
      have HS2 := Lib.hid (HST.out o hol ⟨#[58, 47]⟩ (by decide) false (stB_two.trans (decide_eq_false (fun h => h47 h.2))))
      by_cases h43 : s[o + 1]? = some 43
      · have HI := Lib.hid (show innA n s (o + 1) = (txt 125 s (o + 2)).map (fun p => (⟨2, n, 0, p.1, []⟩, p.2)) from inn_43 h43)
        have HS3 := Lib.hid (HST.out o hol ⟨#[58, 43]⟩ (by decide) true (stB_two.trans (decide_eq_true ⟨h58, h43⟩)))
        have hol2 : o + 2 ≤ s.length := (List.getElem?_eq_some_iff.1 h43).1
        clear h43 h47 h58 h125
        obtain ⟨T, hT⟩ : ∃ T, txt 125 s (o + 2) = T := ⟨_, rfl⟩
        have HT := Lib.hid hT
        cases T with
        | none =>
          clear hT
          go_wp2_with (first
            | (go_at_call 108; go_loud ((first | (with_reducible refine (HS1.out _ ?hX).mono ?_; (case hX => (focus (repeat (first | with_reducible exact HX.out | with_reducible apply Ext.drewN))))) | (with_reducible refine (HS2.out _ ?hX).mono ?_; (case hX => (focus (repeat (first | with_reducible exact HX.out | with_reducible apply Ext.drewN))))) | (with_reducible refine (HS3.out _ ?hX).mono ?_; (case hX => (focus (repeat (first | with_reducible exact HX.out | with_reducible apply Ext.drewN)))))); rintro e ws ⟨rfl, ns, rfl⟩))
            | (go_at_call 110; go_loud (refine (HWD.out 125 (by decide) (o + 2) (by omega) _ ?hX).mono ?_; (case hX => (focus (repeat (first | with_reducible exact HX.out | with_reducible apply Ext.setn | with_reducible apply Ext.setb HNBL.out | with_reducible apply Ext.drewN)))); rw [HT.out]; rintro e w3 ⟨hx, hx2⟩; have hf : w3.heap[nb]? = some (.cells #[.int .i64 2, .int .i64 n, .int .i64 0, .slice none 0 0, .slice none 0 0] 82 (0, 0)) := hx.heap (heap_set (o := 0) (u := .int .i64 2) HF.out); have hb := hx.heap ((heap_ne HNE.out).trans HB.out); have hX3 : Ext w w3 := Ext.trans (by (focus (repeat (first | with_reducible exact HX.out | with_reducible apply Ext.setn | with_reducible apply Ext.setb HNBL.out | with_reducible apply Ext.drewN)))) hx; clear q0 q1 q2 q3 q4 r0 r1 r2 r3 r4 d0 d1 d2 d3 d4 f0 f1 f2 f3 f4; have q0 := cell_of_row w3 nb 0 _ _ _ hf; have q1 := cell_of_row w3 nb 1 _ _ _ hf; have q2 := cell_of_row w3 nb 2 _ _ _ hf; have q3 := cell_of_row w3 nb 3 _ _ _ hf; have q4 := cell_of_row w3 nb 4 _ _ _ hf; have r0 := frozen_of_row w3 nb 0 _ _ hf; have r1 := frozen_of_row w3 nb 1 _ _ hf; have r2 := frozen_of_row w3 nb 2 _ _ hf; have r3 := frozen_of_row w3 nb 3 _ _ hf; have r4 := frozen_of_row w3 nb 4 _ _ hf; have d0 := cell_of_row w3 w.heap.size 0 _ _ _ hb; have d1 := cell_of_row w3 w.heap.size 1 _ _ _ hb; have d2 := cell_of_row w3 w.heap.size 2 _ _ _ hb; have d3 := cell_of_row w3 w.heap.size 3 _ _ _ hb; have d4 := cell_of_row w3 w.heap.size 4 _ _ _ hb; have f0 := frozen_of_row w3 w.heap.size 0 _ _ hb; have f1 := frozen_of_row w3 w.heap.size 1 _ _ hb; have f2 := frozen_of_row w3 w.heap.size 2 _ _ hb; have f3 := frozen_of_row w3 w.heap.size 3 _ _ hb; have f4 := frozen_of_row w3 w.heap.size 4 _ _ hb; have hnl3 := heap_lt hf; have hbl3 := heap_lt hb; have HF3 := Lib.hid hf; have HB3 := Lib.hid hb; have HX3 := Lib.hid hX3; clear hf hb hx hX3; rcases hx2 with ⟨t', k3', At, ct, hq, -, -⟩ | ⟨-, rfl⟩; (exact absurd hq (by simp)))))
          go_meet
          exact ⟨2, none, 0, 0, none, 0, 0, heap_set (o := 3) (u := .slice none 0 0) HF3.out, (heap_ne HNE.out).trans HB3.out, by (focus (repeat (first | with_reducible exact HX3.out | with_reducible apply Ext.setn | with_reducible apply Ext.setb HNBL.out | with_reducible apply Ext.drewN))), .inl ⟨by rw [← HR.out, HQ.out, HI.out, HT.out]; rfl, rfl⟩⟩
        | some p =>
          obtain ⟨t, k3⟩ := p
          have hk3 := txt_le hT (by omega)
          have hk30 : ((k3 : Int) == 0) = false := by simp; omega
          obtain ⟨hk3a, hk3b⟩ := hk3
          clear hT
          go_wp2_with (first
            | (go_at_call 108; go_loud ((first | (with_reducible refine (HS1.out _ ?hX).mono ?_; (case hX => (focus (repeat (first | with_reducible exact HX.out | with_reducible apply Ext.drewN))))) | (with_reducible refine (HS2.out _ ?hX).mono ?_; (case hX => (focus (repeat (first | with_reducible exact HX.out | with_reducible apply Ext.drewN))))) | (with_reducible refine (HS3.out _ ?hX).mono ?_; (case hX => (focus (repeat (first | with_reducible exact HX.out | with_reducible apply Ext.drewN)))))); rintro e ws ⟨rfl, ns, rfl⟩))
            | (go_at_call 110; go_loud (refine (HWD.out 125 (by decide) (o + 2) (by omega) _ ?hX).mono ?_; (case hX => (focus (repeat (first | with_reducible exact HX.out | with_reducible apply Ext.setn | with_reducible apply Ext.setb HNBL.out | with_reducible apply Ext.drewN)))); rw [HT.out]; rintro e w3 ⟨hx, hx2⟩; have hf : w3.heap[nb]? = some (.cells #[.int .i64 2, .int .i64 n, .int .i64 0, .slice none 0 0, .slice none 0 0] 82 (0, 0)) := hx.heap (heap_set (o := 0) (u := .int .i64 2) HF.out); have hb := hx.heap ((heap_ne HNE.out).trans HB.out); have hX3 : Ext w w3 := Ext.trans (by (focus (repeat (first | with_reducible exact HX.out | with_reducible apply Ext.setn | with_reducible apply Ext.setb HNBL.out | with_reducible apply Ext.drewN)))) hx; clear q0 q1 q2 q3 q4 r0 r1 r2 r3 r4 d0 d1 d2 d3 d4 f0 f1 f2 f3 f4; have q0 := cell_of_row w3 nb 0 _ _ _ hf; have q1 := cell_of_row w3 nb 1 _ _ _ hf; have q2 := cell_of_row w3 nb 2 _ _ _ hf; have q3 := cell_of_row w3 nb 3 _ _ _ hf; have q4 := cell_of_row w3 nb 4 _ _ _ hf; have r0 := frozen_of_row w3 nb 0 _ _ hf; have r1 := frozen_of_row w3 nb 1 _ _ hf; have r2 := frozen_of_row w3 nb 2 _ _ hf; have r3 := frozen_of_row w3 nb 3 _ _ hf; have r4 := frozen_of_row w3 nb 4 _ _ hf; have d0 := cell_of_row w3 w.heap.size 0 _ _ _ hb; have d1 := cell_of_row w3 w.heap.size 1 _ _ _ hb; have d2 := cell_of_row w3 w.heap.size 2 _ _ _ hb; have d3 := cell_of_row w3 w.heap.size 3 _ _ _ hb; have d4 := cell_of_row w3 w.heap.size 4 _ _ _ hb; have f0 := frozen_of_row w3 w.heap.size 0 _ _ hb; have f1 := frozen_of_row w3 w.heap.size 1 _ _ hb; have f2 := frozen_of_row w3 w.heap.size 2 _ _ hb; have f3 := frozen_of_row w3 w.heap.size 3 _ _ hb; have f4 := frozen_of_row w3 w.heap.size 4 _ _ hb; have hnl3 := heap_lt hf; have hbl3 := heap_lt hb; have HF3 := Lib.hid hf; have HB3 := Lib.hid hb; have HX3 := Lib.hid hX3; clear hf hb hx hX3; rcases hx2 with ⟨t', k3', At, ct, hq, rfl, hv⟩ | ⟨hq, -⟩; rotate_left; (exact absurd hq (by simp)); injection hq with hq; injection hq with hq1 hq2; subst hq1 hq2)))
          go_meet
          have hkt := KeepT.setF (o := 3) (u := .slice At t.length ct) HF3.out
          have hv3 := hv.keep1 hkt
          exact ⟨2, At, t.length, ct, none, 0, 0, heap_set (o := 3) (u := .slice At t.length ct) HF3.out, (heap_ne HNE.out).trans HB3.out, by (focus (repeat (first | with_reducible exact HX3.out | with_reducible apply Ext.setn | with_reducible apply Ext.setb HNBL.out | with_reducible apply Ext.drewN))), .inr ⟨t, [], k3, by rw [← HR.out, HQ.out, HI.out, HT.out]; rfl, by omega, rfl, (hv3.weaken (by simpa using HXS.out)), SlB.nil_⟩⟩
      have HS3 := Lib.hid (HST.out o hol ⟨#[58, 43]⟩ (by decide) false (stB_two.trans (decide_eq_false (fun h => h43 h.2))))
      by_cases h63 : s[o + 1]? = some 63
      · have HI := Lib.hid (show innA n s (o + 1) = (txt 58 s (o + 2)).bind (fun p => (txt 125 s p.2).map fun q => (⟨4, n, 0, p.1, q.1⟩, q.2)) from inn_63 h63)
        have HS4 := Lib.hid (HST.out o hol ⟨#[58, 63]⟩ (by decide) true (stB_two.trans (decide_eq_true ⟨h58, h63⟩)))
        have hol2 : o + 2 ≤ s.length := (List.getElem?_eq_some_iff.1 h63).1
        clear h63 h43 h47 h58 h125
        obtain ⟨T, hT⟩ : ∃ T, txt 58 s (o + 2) = T := ⟨_, rfl⟩
        have HT := Lib.hid hT
        cases T with
        | none =>
          clear hT
          go_wp2_with (first
            | (go_at_call 108; go_loud ((first | (with_reducible refine (HS1.out _ ?hX).mono ?_; (case hX => (focus (repeat (first | with_reducible exact HX.out | with_reducible apply Ext.drewN))))) | (with_reducible refine (HS2.out _ ?hX).mono ?_; (case hX => (focus (repeat (first | with_reducible exact HX.out | with_reducible apply Ext.drewN))))) | (with_reducible refine (HS3.out _ ?hX).mono ?_; (case hX => (focus (repeat (first | with_reducible exact HX.out | with_reducible apply Ext.drewN))))) | (with_reducible refine (HS4.out _ ?hX).mono ?_; (case hX => (focus (repeat (first | with_reducible exact HX.out | with_reducible apply Ext.drewN)))))); rintro e ws ⟨rfl, ns, rfl⟩))
            | (go_at_call 110; go_loud (refine (HWD.out 58 (by decide) (o + 2) (by omega) _ ?hX).mono ?_; (case hX => (focus (repeat (first | with_reducible exact HX.out | with_reducible apply Ext.setn | with_reducible apply Ext.setb HNBL.out | with_reducible apply Ext.drewN)))); rw [HT.out]; rintro e w3 ⟨hx, hx2⟩; have hf : w3.heap[nb]? = some (.cells #[.int .i64 4, .int .i64 n, .int .i64 0, .slice none 0 0, .slice none 0 0] 82 (0, 0)) := hx.heap (heap_set (o := 0) (u := .int .i64 4) HF.out); have hb := hx.heap ((heap_ne HNE.out).trans HB.out); have hX3 : Ext w w3 := Ext.trans (by (focus (repeat (first | with_reducible exact HX.out | with_reducible apply Ext.setn | with_reducible apply Ext.setb HNBL.out | with_reducible apply Ext.drewN)))) hx; clear q0 q1 q2 q3 q4 r0 r1 r2 r3 r4 d0 d1 d2 d3 d4 f0 f1 f2 f3 f4; have q0 := cell_of_row w3 nb 0 _ _ _ hf; have q1 := cell_of_row w3 nb 1 _ _ _ hf; have q2 := cell_of_row w3 nb 2 _ _ _ hf; have q3 := cell_of_row w3 nb 3 _ _ _ hf; have q4 := cell_of_row w3 nb 4 _ _ _ hf; have r0 := frozen_of_row w3 nb 0 _ _ hf; have r1 := frozen_of_row w3 nb 1 _ _ hf; have r2 := frozen_of_row w3 nb 2 _ _ hf; have r3 := frozen_of_row w3 nb 3 _ _ hf; have r4 := frozen_of_row w3 nb 4 _ _ hf; have d0 := cell_of_row w3 w.heap.size 0 _ _ _ hb; have d1 := cell_of_row w3 w.heap.size 1 _ _ _ hb; have d2 := cell_of_row w3 w.heap.size 2 _ _ _ hb; have d3 := cell_of_row w3 w.heap.size 3 _ _ _ hb; have d4 := cell_of_row w3 w.heap.size 4 _ _ _ hb; have f0 := frozen_of_row w3 w.heap.size 0 _ _ hb; have f1 := frozen_of_row w3 w.heap.size 1 _ _ hb; have f2 := frozen_of_row w3 w.heap.size 2 _ _ hb; have f3 := frozen_of_row w3 w.heap.size 3 _ _ hb; have f4 := frozen_of_row w3 w.heap.size 4 _ _ hb; have hnl3 := heap_lt hf; have hbl3 := heap_lt hb; have HF3 := Lib.hid hf; have HB3 := Lib.hid hb; have HX3 := Lib.hid hX3; clear hf hb hx hX3; rcases hx2 with ⟨t', k3', At, ct, hq, -, -⟩ | ⟨-, rfl⟩; (exact absurd hq (by simp)))))
          go_meet
          exact ⟨4, none, 0, 0, none, 0, 0, heap_set (o := 3) (u := .slice none 0 0) HF3.out, (heap_ne HNE.out).trans HB3.out, by (focus (repeat (first | with_reducible exact HX3.out | with_reducible apply Ext.setn | with_reducible apply Ext.setb HNBL.out | with_reducible apply Ext.drewN))), .inl ⟨by rw [← HR.out, HQ.out, HI.out, HT.out]; rfl, rfl⟩⟩
        | some p =>
          obtain ⟨t, k3⟩ := p
          have HK3 := Lib.hid (txt_le hT (by omega))
          have hk3a := HK3.out.1
          have hpos : decide ((0 : Int) < (k3 : Int)) = true := by simp; omega
          clear hT
          obtain ⟨T2, hT2⟩ : ∃ T, txt 125 s k3 = T := ⟨_, rfl⟩
          have HT2 := Lib.hid hT2
          have tok3 : True := trivial
          cases T2 with
          | none =>
            clear hT2
            go_wp2_with (first
              | (go_at_call 108; go_loud ((first | (with_reducible refine (HS1.out _ ?hX).mono ?_; (case hX => (focus (repeat (first | with_reducible exact HX.out | with_reducible apply Ext.drewN))))) | (with_reducible refine (HS2.out _ ?hX).mono ?_; (case hX => (focus (repeat (first | with_reducible exact HX.out | with_reducible apply Ext.drewN))))) | (with_reducible refine (HS3.out _ ?hX).mono ?_; (case hX => (focus (repeat (first | with_reducible exact HX.out | with_reducible apply Ext.drewN))))) | (with_reducible refine (HS4.out _ ?hX).mono ?_; (case hX => (focus (repeat (first | with_reducible exact HX.out | with_reducible apply Ext.drewN)))))); rintro e ws ⟨rfl, ns, rfl⟩))
              | (go_at_call 110; have _t := tok3;go_loud (refine (HWD.out 58 (by decide) (o + 2) (by omega) _ ?hX).mono ?_; (case hX => (focus (repeat (first | with_reducible exact HX.out | with_reducible apply Ext.setn | with_reducible apply Ext.setb HNBL.out | with_reducible apply Ext.drewN)))); rw [HT.out]; rintro e w3 ⟨hx, hx2⟩; have hf : w3.heap[nb]? = some (.cells #[.int .i64 4, .int .i64 n, .int .i64 0, .slice none 0 0, .slice none 0 0] 82 (0, 0)) := hx.heap (heap_set (o := 0) (u := .int .i64 4) HF.out); have hb := hx.heap ((heap_ne HNE.out).trans HB.out); have hX3 : Ext w w3 := Ext.trans (by (focus (repeat (first | with_reducible exact HX.out | with_reducible apply Ext.setn | with_reducible apply Ext.setb HNBL.out | with_reducible apply Ext.drewN)))) hx; clear q0 q1 q2 q3 q4 r0 r1 r2 r3 r4 d0 d1 d2 d3 d4 f0 f1 f2 f3 f4; have q0 := cell_of_row w3 nb 0 _ _ _ hf; have q1 := cell_of_row w3 nb 1 _ _ _ hf; have q2 := cell_of_row w3 nb 2 _ _ _ hf; have q3 := cell_of_row w3 nb 3 _ _ _ hf; have q4 := cell_of_row w3 nb 4 _ _ _ hf; have r0 := frozen_of_row w3 nb 0 _ _ hf; have r1 := frozen_of_row w3 nb 1 _ _ hf; have r2 := frozen_of_row w3 nb 2 _ _ hf; have r3 := frozen_of_row w3 nb 3 _ _ hf; have r4 := frozen_of_row w3 nb 4 _ _ hf; have d0 := cell_of_row w3 w.heap.size 0 _ _ _ hb; have d1 := cell_of_row w3 w.heap.size 1 _ _ _ hb; have d2 := cell_of_row w3 w.heap.size 2 _ _ _ hb; have d3 := cell_of_row w3 w.heap.size 3 _ _ _ hb; have d4 := cell_of_row w3 w.heap.size 4 _ _ _ hb; have f0 := frozen_of_row w3 w.heap.size 0 _ _ hb; have f1 := frozen_of_row w3 w.heap.size 1 _ _ hb; have f2 := frozen_of_row w3 w.heap.size 2 _ _ hb; have f3 := frozen_of_row w3 w.heap.size 3 _ _ hb; have f4 := frozen_of_row w3 w.heap.size 4 _ _ hb; have hnl3 := heap_lt hf; have hbl3 := heap_lt hb; have HF3 := Lib.hid hf; have HB3 := Lib.hid hb; have HX3 := Lib.hid hX3; clear hf hb hx hX3; rcases hx2 with ⟨t', k3', At, ct, hq, rfl, hv⟩ | ⟨hq, -⟩; rotate_left; (exact absurd hq (by simp)); injection hq with hq; injection hq with hq1 hq2; subst hq1 hq2; have HV3 := Lib.hid hv; have HXS3 := Lib.hid HX3.out.size; clear hv; clear tok3 _t))
              | (go_at_call 110; go_loud (refine (HWD.out 125 (by decide) k3 HK3.out.2 _ ?hX).mono ?_; (case hX => (focus (repeat (first | with_reducible exact HX3.out | with_reducible apply Ext.setn | with_reducible apply Ext.setb HNBL.out | with_reducible apply Ext.drewN)))); rw [HT2.out]; rintro e w5 ⟨hx, hx2⟩; have hf : w5.heap[nb]? = some (.cells #[.int .i64 4, .int .i64 n, .int .i64 0, .slice At t.length ct, .slice none 0 0] 82 (0, 0)) := hx.heap (heap_set (o := 3) (u := .slice At t.length ct) HF3.out); have hb := hx.heap ((heap_ne HNE.out).trans HB3.out); have hv5 := HV3.out.keep1 ((KeepT.setF HF3.out).trans (KeepT.of_ext hx)); have HV5 := Lib.hid hv5; have hX4 : Ext w w5 := Ext.trans (by (focus (repeat (first | with_reducible exact HX3.out | with_reducible apply Ext.setn | with_reducible apply Ext.setb HNBL.out | with_reducible apply Ext.drewN)))) hx; clear q0 q1 q2 q3 q4 r0 r1 r2 r3 r4 d0 d1 d2 d3 d4 f0 f1 f2 f3 f4; have q0 := cell_of_row w5 nb 0 _ _ _ hf; have q1 := cell_of_row w5 nb 1 _ _ _ hf; have q2 := cell_of_row w5 nb 2 _ _ _ hf; have q3 := cell_of_row w5 nb 3 _ _ _ hf; have q4 := cell_of_row w5 nb 4 _ _ _ hf; have r0 := frozen_of_row w5 nb 0 _ _ hf; have r1 := frozen_of_row w5 nb 1 _ _ hf; have r2 := frozen_of_row w5 nb 2 _ _ hf; have r3 := frozen_of_row w5 nb 3 _ _ hf; have r4 := frozen_of_row w5 nb 4 _ _ hf; have d0 := cell_of_row w5 w.heap.size 0 _ _ _ hb; have d1 := cell_of_row w5 w.heap.size 1 _ _ _ hb; have d2 := cell_of_row w5 w.heap.size 2 _ _ _ hb; have d3 := cell_of_row w5 w.heap.size 3 _ _ _ hb; have d4 := cell_of_row w5 w.heap.size 4 _ _ _ hb; have f0 := frozen_of_row w5 w.heap.size 0 _ _ hb; have f1 := frozen_of_row w5 w.heap.size 1 _ _ hb; have f2 := frozen_of_row w5 w.heap.size 2 _ _ hb; have f3 := frozen_of_row w5 w.heap.size 3 _ _ hb; have f4 := frozen_of_row w5 w.heap.size 4 _ _ hb; have hnl5 := heap_lt hf; have hbl5 := heap_lt hb; have HF4 := Lib.hid hf; have HB4 := Lib.hid hb; have HX4 := Lib.hid hX4; clear hf hb hx hX4 hv5; rcases hx2 with ⟨t', k3', At, ct, hq, -, -⟩ | ⟨-, rfl⟩; (exact absurd hq (by simp)))))
            go_meet
            exact ⟨4, At, t.length, ct, none, 0, 0, heap_set (o := 4) (u := .slice none 0 0) HF4.out, (heap_ne HNE.out).trans HB4.out, by (focus (repeat (first | with_reducible exact HX4.out | with_reducible apply Ext.setn | with_reducible apply Ext.setb HNBL.out | with_reducible apply Ext.drewN))), .inl ⟨by rw [← HR.out, HQ.out, HI.out, HT.out, Option.bind_some, HT2.out]; rfl, rfl⟩⟩
          | some p =>
            obtain ⟨t2, k5⟩ := p
            have hk5 := txt_le hT2 HK3.out.2
            have hk50 : ((k5 : Int) == 0) = false := by simp; omega
            obtain ⟨hk5a, hk5b⟩ := hk5
            clear hT2
            go_wp2_with (first
              | (go_at_call 108; go_loud ((first | (with_reducible refine (HS1.out _ ?hX).mono ?_; (case hX => (focus (repeat (first | with_reducible exact HX.out | with_reducible apply Ext.drewN))))) | (with_reducible refine (HS2.out _ ?hX).mono ?_; (case hX => (focus (repeat (first | with_reducible exact HX.out | with_reducible apply Ext.drewN))))) | (with_reducible refine (HS3.out _ ?hX).mono ?_; (case hX => (focus (repeat (first | with_reducible exact HX.out | with_reducible apply Ext.drewN))))) | (with_reducible refine (HS4.out _ ?hX).mono ?_; (case hX => (focus (repeat (first | with_reducible exact HX.out | with_reducible apply Ext.drewN)))))); rintro e ws ⟨rfl, ns, rfl⟩))
              | (go_at_call 110; have _t := tok3;go_loud (refine (HWD.out 58 (by decide) (o + 2) (by omega) _ ?hX).mono ?_; (case hX => (focus (repeat (first | with_reducible exact HX.out | with_reducible apply Ext.setn | with_reducible apply Ext.setb HNBL.out | with_reducible apply Ext.drewN)))); rw [HT.out]; rintro e w3 ⟨hx, hx2⟩; have hf : w3.heap[nb]? = some (.cells #[.int .i64 4, .int .i64 n, .int .i64 0, .slice none 0 0, .slice none 0 0] 82 (0, 0)) := hx.heap (heap_set (o := 0) (u := .int .i64 4) HF.out); have hb := hx.heap ((heap_ne HNE.out).trans HB.out); have hX3 : Ext w w3 := Ext.trans (by (focus (repeat (first | with_reducible exact HX.out | with_reducible apply Ext.setn | with_reducible apply Ext.setb HNBL.out | with_reducible apply Ext.drewN)))) hx; clear q0 q1 q2 q3 q4 r0 r1 r2 r3 r4 d0 d1 d2 d3 d4 f0 f1 f2 f3 f4; have q0 := cell_of_row w3 nb 0 _ _ _ hf; have q1 := cell_of_row w3 nb 1 _ _ _ hf; have q2 := cell_of_row w3 nb 2 _ _ _ hf; have q3 := cell_of_row w3 nb 3 _ _ _ hf; have q4 := cell_of_row w3 nb 4 _ _ _ hf; have r0 := frozen_of_row w3 nb 0 _ _ hf; have r1 := frozen_of_row w3 nb 1 _ _ hf; have r2 := frozen_of_row w3 nb 2 _ _ hf; have r3 := frozen_of_row w3 nb 3 _ _ hf; have r4 := frozen_of_row w3 nb 4 _ _ hf; have d0 := cell_of_row w3 w.heap.size 0 _ _ _ hb; have d1 := cell_of_row w3 w.heap.size 1 _ _ _ hb; have d2 := cell_of_row w3 w.heap.size 2 _ _ _ hb; have d3 := cell_of_row w3 w.heap.size 3 _ _ _ hb; have d4 := cell_of_row w3 w.heap.size 4 _ _ _ hb; have f0 := frozen_of_row w3 w.heap.size 0 _ _ hb; have f1 := frozen_of_row w3 w.heap.size 1 _ _ hb; have f2 := frozen_of_row w3 w.heap.size 2 _ _ hb; have f3 := frozen_of_row w3 w.heap.size 3 _ _ hb; have f4 := frozen_of_row w3 w.heap.size 4 _ _ hb; have hnl3 := heap_lt hf; have hbl3 := heap_lt hb; have HF3 := Lib.hid hf; have HB3 := Lib.hid hb; have HX3 := Lib.hid hX3; clear hf hb hx hX3; rcases hx2 with ⟨t', k3', At, ct, hq, rfl, hv⟩ | ⟨hq, -⟩; rotate_left; (exact absurd hq (by simp)); injection hq with hq; injection hq with hq1 hq2; subst hq1 hq2; have HV3 := Lib.hid hv; have HXS3 := Lib.hid HX3.out.size; clear hv; clear tok3 _t))
              | (go_at_call 110; go_loud (refine (HWD.out 125 (by decide) k3 HK3.out.2 _ ?hX).mono ?_; (case hX => (focus (repeat (first | with_reducible exact HX3.out | with_reducible apply Ext.setn | with_reducible apply Ext.setb HNBL.out | with_reducible apply Ext.drewN)))); rw [HT2.out]; rintro e w5 ⟨hx, hx2⟩; have hf : w5.heap[nb]? = some (.cells #[.int .i64 4, .int .i64 n, .int .i64 0, .slice At t.length ct, .slice none 0 0] 82 (0, 0)) := hx.heap (heap_set (o := 3) (u := .slice At t.length ct) HF3.out); have hb := hx.heap ((heap_ne HNE.out).trans HB3.out); have hv5 := HV3.out.keep1 ((KeepT.setF HF3.out).trans (KeepT.of_ext hx)); have HV5 := Lib.hid hv5; have hX4 : Ext w w5 := Ext.trans (by (focus (repeat (first | with_reducible exact HX3.out | with_reducible apply Ext.setn | with_reducible apply Ext.setb HNBL.out | with_reducible apply Ext.drewN)))) hx; clear q0 q1 q2 q3 q4 r0 r1 r2 r3 r4 d0 d1 d2 d3 d4 f0 f1 f2 f3 f4; have q0 := cell_of_row w5 nb 0 _ _ _ hf; have q1 := cell_of_row w5 nb 1 _ _ _ hf; have q2 := cell_of_row w5 nb 2 _ _ _ hf; have q3 := cell_of_row w5 nb 3 _ _ _ hf; have q4 := cell_of_row w5 nb 4 _ _ _ hf; have r0 := frozen_of_row w5 nb 0 _ _ hf; have r1 := frozen_of_row w5 nb 1 _ _ hf; have r2 := frozen_of_row w5 nb 2 _ _ hf; have r3 := frozen_of_row w5 nb 3 _ _ hf; have r4 := frozen_of_row w5 nb 4 _ _ hf; have d0 := cell_of_row w5 w.heap.size 0 _ _ _ hb; have d1 := cell_of_row w5 w.heap.size 1 _ _ _ hb; have d2 := cell_of_row w5 w.heap.size 2 _ _ _ hb; have d3 := cell_of_row w5 w.heap.size 3 _ _ _ hb; have d4 := cell_of_row w5 w.heap.size 4 _ _ _ hb; have f0 := frozen_of_row w5 w.heap.size 0 _ _ hb; have f1 := frozen_of_row w5 w.heap.size 1 _ _ hb; have f2 := frozen_of_row w5 w.heap.size 2 _ _ hb; have f3 := frozen_of_row w5 w.heap.size 3 _ _ hb; have f4 := frozen_of_row w5 w.heap.size 4 _ _ hb; have hnl5 := heap_lt hf; have hbl5 := heap_lt hb; have HF4 := Lib.hid hf; have HB4 := Lib.hid hb; have HX4 := Lib.hid hX4; clear hf hb hx hX4 hv5; rcases hx2 with ⟨t', k3', At2, ct2, hq, rfl, hv2⟩ | ⟨hq, -⟩; rotate_left; (exact absurd hq (by simp)); injection hq with hq; injection hq with hq1 hq2; subst hq1 hq2)))
            go_meet
            have hkt := KeepT.setF (o := 4) (u := .slice At2 t2.length ct2) HF4.out
            have hv5 := HV5.out.keep1 hkt
            have hv6 := hv2.keep1 hkt
            exact ⟨4, At, t.length, ct, At2, t2.length, ct2, heap_set (o := 4) (u := .slice At2 t2.length ct2) HF4.out, (heap_ne HNE.out).trans HB4.out, by (focus (repeat (first | with_reducible exact HX4.out | with_reducible apply Ext.setn | with_reducible apply Ext.setb HNBL.out | with_reducible apply Ext.drewN))), .inr ⟨t, t2, k5, by rw [← HR.out, HQ.out, HI.out, HT.out, Option.bind_some, HT2.out]; rfl, by omega, rfl, hv5.weaken (by simpa using HXS.out), hv6.weaken (by simpa using HXS3.out)⟩⟩
      have HS4 := Lib.hid (HST.out o hol ⟨#[58, 63]⟩ (by decide) false (stB_two.trans (decide_eq_false (fun h => h63 h.2))))
      by_cases h45 : s[o + 1]? = some 45
      · have HI := Lib.hid (show innA n s (o + 1) = (txt 125 s (o + 2)).map (fun p => (⟨3, n, 0, [], p.1⟩, p.2)) from inn_45 h45)
        have HS5 := Lib.hid (HST.out o hol ⟨#[58, 45]⟩ (by decide) true (stB_two.trans (decide_eq_true ⟨h58, h45⟩)))
        have hol2 : o + 2 ≤ s.length := (List.getElem?_eq_some_iff.1 h45).1
        clear h45 h63 h43 h47 h58 h125
        obtain ⟨T, hT⟩ : ∃ T, txt 125 s (o + 2) = T := ⟨_, rfl⟩
        have HT := Lib.hid hT
        cases T with
        | none =>
          clear hT
          go_wp2_with (first
            | (go_at_call 108; go_loud ((first | (with_reducible refine (HS1.out _ ?hX).mono ?_; (case hX => (focus (repeat (first | with_reducible exact HX.out | with_reducible apply Ext.drewN))))) | (with_reducible refine (HS2.out _ ?hX).mono ?_; (case hX => (focus (repeat (first | with_reducible exact HX.out | with_reducible apply Ext.drewN))))) | (with_reducible refine (HS3.out _ ?hX).mono ?_; (case hX => (focus (repeat (first | with_reducible exact HX.out | with_reducible apply Ext.drewN))))) | (with_reducible refine (HS4.out _ ?hX).mono ?_; (case hX => (focus (repeat (first | with_reducible exact HX.out | with_reducible apply Ext.drewN))))) | (with_reducible refine (HS5.out _ ?hX).mono ?_; (case hX => (focus (repeat (first | with_reducible exact HX.out | with_reducible apply Ext.drewN)))))); rintro e ws ⟨rfl, ns, rfl⟩))
            | (go_at_call 110; go_loud (refine (HWD.out 125 (by decide) (o + 2) (by omega) _ ?hX).mono ?_; (case hX => (focus (repeat (first | with_reducible exact HX.out | with_reducible apply Ext.setn | with_reducible apply Ext.setb HNBL.out | with_reducible apply Ext.drewN)))); rw [HT.out]; rintro e w3 ⟨hx, hx2⟩; have hf : w3.heap[nb]? = some (.cells #[.int .i64 3, .int .i64 n, .int .i64 0, .slice none 0 0, .slice none 0 0] 82 (0, 0)) := hx.heap (heap_set (o := 0) (u := .int .i64 3) HF.out); have hb := hx.heap ((heap_ne HNE.out).trans HB.out); have hX3 : Ext w w3 := Ext.trans (by (focus (repeat (first | with_reducible exact HX.out | with_reducible apply Ext.setn | with_reducible apply Ext.setb HNBL.out | with_reducible apply Ext.drewN)))) hx; clear q0 q1 q2 q3 q4 r0 r1 r2 r3 r4 d0 d1 d2 d3 d4 f0 f1 f2 f3 f4; have q0 := cell_of_row w3 nb 0 _ _ _ hf; have q1 := cell_of_row w3 nb 1 _ _ _ hf; have q2 := cell_of_row w3 nb 2 _ _ _ hf; have q3 := cell_of_row w3 nb 3 _ _ _ hf; have q4 := cell_of_row w3 nb 4 _ _ _ hf; have r0 := frozen_of_row w3 nb 0 _ _ hf; have r1 := frozen_of_row w3 nb 1 _ _ hf; have r2 := frozen_of_row w3 nb 2 _ _ hf; have r3 := frozen_of_row w3 nb 3 _ _ hf; have r4 := frozen_of_row w3 nb 4 _ _ hf; have d0 := cell_of_row w3 w.heap.size 0 _ _ _ hb; have d1 := cell_of_row w3 w.heap.size 1 _ _ _ hb; have d2 := cell_of_row w3 w.heap.size 2 _ _ _ hb; have d3 := cell_of_row w3 w.heap.size 3 _ _ _ hb; have d4 := cell_of_row w3 w.heap.size 4 _ _ _ hb; have f0 := frozen_of_row w3 w.heap.size 0 _ _ hb; have f1 := frozen_of_row w3 w.heap.size 1 _ _ hb; have f2 := frozen_of_row w3 w.heap.size 2 _ _ hb; have f3 := frozen_of_row w3 w.heap.size 3 _ _ hb; have f4 := frozen_of_row w3 w.heap.size 4 _ _ hb; have hnl3 := heap_lt hf; have hbl3 := heap_lt hb; have HF3 := Lib.hid hf; have HB3 := Lib.hid hb; have HX3 := Lib.hid hX3; clear hf hb hx hX3; rcases hx2 with ⟨t', k3', At, ct, hq, -, -⟩ | ⟨-, rfl⟩; (exact absurd hq (by simp)))))
          go_meet
          exact ⟨3, none, 0, 0, none, 0, 0, heap_set (o := 4) (u := .slice none 0 0) HF3.out, (heap_ne HNE.out).trans HB3.out, by (focus (repeat (first | with_reducible exact HX3.out | with_reducible apply Ext.setn | with_reducible apply Ext.setb HNBL.out | with_reducible apply Ext.drewN))), .inl ⟨by rw [← HR.out, HQ.out, HI.out, HT.out]; rfl, rfl⟩⟩
        | some p =>
          obtain ⟨t, k3⟩ := p
          have hk3 := txt_le hT (by omega)
          have hk30 : ((k3 : Int) == 0) = false := by simp; omega
          obtain ⟨hk3a, hk3b⟩ := hk3
          clear hT
          go_wp2_with (first
            | (go_at_call 108; go_loud ((first | (with_reducible refine (HS1.out _ ?hX).mono ?_; (case hX => (focus (repeat (first | with_reducible exact HX.out | with_reducible apply Ext.drewN))))) | (with_reducible refine (HS2.out _ ?hX).mono ?_; (case hX => (focus (repeat (first | with_reducible exact HX.out | with_reducible apply Ext.drewN))))) | (with_reducible refine (HS3.out _ ?hX).mono ?_; (case hX => (focus (repeat (first | with_reducible exact HX.out | with_reducible apply Ext.drewN))))) | (with_reducible refine (HS4.out _ ?hX).mono ?_; (case hX => (focus (repeat (first | with_reducible exact HX.out | with_reducible apply Ext.drewN))))) | (with_reducible refine (HS5.out _ ?hX).mono ?_; (case hX => (focus (repeat (first | with_reducible exact HX.out | with_reducible apply Ext.drewN)))))); rintro e ws ⟨rfl, ns, rfl⟩))
            | (go_at_call 110; go_loud (refine (HWD.out 125 (by decide) (o + 2) (by omega) _ ?hX).mono ?_; (case hX => (focus (repeat (first | with_reducible exact HX.out | with_reducible apply Ext.setn | with_reducible apply Ext.setb HNBL.out | with_reducible apply Ext.drewN)))); rw [HT.out]; rintro e w3 ⟨hx, hx2⟩; have hf : w3.heap[nb]? = some (.cells #[.int .i64 3, .int .i64 n, .int .i64 0, .slice none 0 0, .slice none 0 0] 82 (0, 0)) := hx.heap (heap_set (o := 0) (u := .int .i64 3) HF.out); have hb := hx.heap ((heap_ne HNE.out).trans HB.out); have hX3 : Ext w w3 := Ext.trans (by (focus (repeat (first | with_reducible exact HX.out | with_reducible apply Ext.setn | with_reducible apply Ext.setb HNBL.out | with_reducible apply Ext.drewN)))) hx; clear q0 q1 q2 q3 q4 r0 r1 r2 r3 r4 d0 d1 d2 d3 d4 f0 f1 f2 f3 f4; have q0 := cell_of_row w3 nb 0 _ _ _ hf; have q1 := cell_of_row w3 nb 1 _ _ _ hf; have q2 := cell_of_row w3 nb 2 _ _ _ hf; have q3 := cell_of_row w3 nb 3 _ _ _ hf; have q4 := cell_of_row w3 nb 4 _ _ _ hf; have r0 := frozen_of_row w3 nb 0 _ _ hf; have r1 := frozen_of_row w3 nb 1 _ _ hf; have r2 := frozen_of_row w3 nb 2 _ _ hf; have r3 := frozen_of_row w3 nb 3 _ _ hf; have r4 := frozen_of_row w3 nb 4 _ _ hf; have d0 := cell_of_row w3 w.heap.size 0 _ _ _ hb; have d1 := cell_of_row w3 w.heap.size 1 _ _ _ hb; have d2 := cell_of_row w3 w.heap.size 2 _ _ _ hb; have d3 := cell_of_row w3 w.heap.size 3 _ _ _ hb; have d4 := cell_of_row w3 w.heap.size 4 _ _ _ hb; have f0 := frozen_of_row w3 w.heap.size 0 _ _ hb; have f1 := frozen_of_row w3 w.heap.size 1 _ _ hb; have f2 := frozen_of_row w3 w.heap.size 2 _ _ hb; have f3 := frozen_of_row w3 w.heap.size 3 _ _ hb; have f4 := frozen_of_row w3 w.heap.size 4 _ _ hb; have hnl3 := heap_lt hf; have hbl3 := heap_lt hb; have HF3 := Lib.hid hf; have HB3 := Lib.hid hb; have HX3 := Lib.hid hX3; clear hf hb hx hX3; rcases hx2 with ⟨t', k3', At, ct, hq, rfl, hv⟩ | ⟨hq, -⟩; rotate_left; (exact absurd hq (by simp)); injection hq with hq; injection hq with hq1 hq2; subst hq1 hq2)))
          go_meet
          have hkt := KeepT.setF (o := 4) (u := .slice At t.length ct) HF3.out
          have hv3 := hv.keep1 hkt
          exact ⟨3, none, 0, 0, At, t.length, ct, heap_set (o := 4) (u := .slice At t.length ct) HF3.out, (heap_ne HNE.out).trans HB3.out, by (focus (repeat (first | with_reducible exact HX3.out | with_reducible apply Ext.setn | with_reducible apply Ext.setb HNBL.out | with_reducible apply Ext.drewN))), .inr ⟨[], t, k3, by rw [← HR.out, HQ.out, HI.out, HT.out]; rfl, by omega, rfl, SlB.nil_, (hv3.weaken (by simpa using HXS.out))⟩⟩
      have HS5 := Lib.hid (HST.out o hol ⟨#[58, 45]⟩ (by decide) false (stB_two.trans (decide_eq_false (fun h => h45 h.2))))
      have HI := Lib.hid (show innA n s (o + 1) = (txt 125 s (o + 1)).map (fun p => (⟨3, n, 0, [], p.1⟩, p.2)) from inn_no h47 h43 h63 h45)
      have HS6 := Lib.hid (HST.out o hol ⟨#[58]⟩ (by decide) true (stB_one.trans (decide_eq_true h58)))
      clear h45 h63 h43 h47 h58 h125
      obtain ⟨T, hT⟩ : ∃ T, txt 125 s (o + 1) = T := ⟨_, rfl⟩
      have HT := Lib.hid hT
      cases T with
      | none =>
        clear hT
        go_wp2_with (first
          | (go_at_call 108; go_loud ((first | (with_reducible refine (HS1.out _ ?hX).mono ?_; (case hX => (focus (repeat (first | with_reducible exact HX.out | with_reducible apply Ext.drewN))))) | (with_reducible refine (HS2.out _ ?hX).mono ?_; (case hX => (focus (repeat (first | with_reducible exact HX.out | with_reducible apply Ext.drewN))))) | (with_reducible refine (HS3.out _ ?hX).mono ?_; (case hX => (focus (repeat (first | with_reducible exact HX.out | with_reducible apply Ext.drewN))))) | (with_reducible refine (HS4.out _ ?hX).mono ?_; (case hX => (focus (repeat (first | with_reducible exact HX.out | with_reducible apply Ext.drewN))))) | (with_reducible refine (HS5.out _ ?hX).mono ?_; (case hX => (focus (repeat (first | with_reducible exact HX.out | with_reducible apply Ext.drewN))))) | (with_reducible refine (HS6.out _ ?hX).mono ?_; (case hX => (focus (repeat (first | with_reducible exact HX.out | with_reducible apply Ext.drewN)))))); rintro e ws ⟨rfl, ns, rfl⟩))
          | (go_at_call 110; go_loud (refine (HWD.out 125 (by decide) (o + 1) (by omega) _ ?hX).mono ?_; (case hX => (focus (repeat (first | with_reducible exact HX.out | with_reducible apply Ext.setn | with_reducible apply Ext.setb HNBL.out | with_reducible apply Ext.drewN)))); rw [HT.out]; rintro e w3 ⟨hx, hx2⟩; have hf : w3.heap[nb]? = some (.cells #[.int .i64 3, .int .i64 n, .int .i64 0, .slice none 0 0, .slice none 0 0] 82 (0, 0)) := hx.heap (heap_set (o := 0) (u := .int .i64 3) HF.out); have hb := hx.heap ((heap_ne HNE.out).trans HB.out); have hX3 : Ext w w3 := Ext.trans (by (focus (repeat (first | with_reducible exact HX.out | with_reducible apply Ext.setn | with_reducible apply Ext.setb HNBL.out | with_reducible apply Ext.drewN)))) hx; clear q0 q1 q2 q3 q4 r0 r1 r2 r3 r4 d0 d1 d2 d3 d4 f0 f1 f2 f3 f4; have q0 := cell_of_row w3 nb 0 _ _ _ hf; have q1 := cell_of_row w3 nb 1 _ _ _ hf; have q2 := cell_of_row w3 nb 2 _ _ _ hf; have q3 := cell_of_row w3 nb 3 _ _ _ hf; have q4 := cell_of_row w3 nb 4 _ _ _ hf; have r0 := frozen_of_row w3 nb 0 _ _ hf; have r1 := frozen_of_row w3 nb 1 _ _ hf; have r2 := frozen_of_row w3 nb 2 _ _ hf; have r3 := frozen_of_row w3 nb 3 _ _ hf; have r4 := frozen_of_row w3 nb 4 _ _ hf; have d0 := cell_of_row w3 w.heap.size 0 _ _ _ hb; have d1 := cell_of_row w3 w.heap.size 1 _ _ _ hb; have d2 := cell_of_row w3 w.heap.size 2 _ _ _ hb; have d3 := cell_of_row w3 w.heap.size 3 _ _ _ hb; have d4 := cell_of_row w3 w.heap.size 4 _ _ _ hb; have f0 := frozen_of_row w3 w.heap.size 0 _ _ hb; have f1 := frozen_of_row w3 w.heap.size 1 _ _ hb; have f2 := frozen_of_row w3 w.heap.size 2 _ _ hb; have f3 := frozen_of_row w3 w.heap.size 3 _ _ hb; have f4 := frozen_of_row w3 w.heap.size 4 _ _ hb; have hnl3 := heap_lt hf; have hbl3 := heap_lt hb; have HF3 := Lib.hid hf; have HB3 := Lib.hid hb; have HX3 := Lib.hid hX3; clear hf hb hx hX3; rcases hx2 with ⟨t', k3', At, ct, hq, -, -⟩ | ⟨-, rfl⟩; (exact absurd hq (by simp)))))
        go_meet
        exact ⟨3, none, 0, 0, none, 0, 0, heap_set (o := 4) (u := .slice none 0 0) HF3.out, (heap_ne HNE.out).trans HB3.out, by (focus (repeat (first | with_reducible exact HX3.out | with_reducible apply Ext.setn | with_reducible apply Ext.setb HNBL.out | with_reducible apply Ext.drewN))), .inl ⟨by rw [← HR.out, HQ.out, HI.out, HT.out]; rfl, rfl⟩⟩
      | some p =>
        obtain ⟨t, k3⟩ := p
        have hk3 := txt_le hT (by omega)
        have hk30 : ((k3 : Int) == 0) = false := by simp; omega
        obtain ⟨hk3a, hk3b⟩ := hk3
        clear hT
        go_wp2_with (first
          | (go_at_call 108; go_loud ((first | (with_reducible refine (HS1.out _ ?hX).mono ?_; (case hX => (focus (repeat (first | with_reducible exact HX.out | with_reducible apply Ext.drewN))))) | (with_reducible refine (HS2.out _ ?hX).mono ?_; (case hX => (focus (repeat (first | with_reducible exact HX.out | with_reducible apply Ext.drewN))))) | (with_reducible refine (HS3.out _ ?hX).mono ?_; (case hX => (focus (repeat (first | with_reducible exact HX.out | with_reducible apply Ext.drewN))))) | (with_reducible refine (HS4.out _ ?hX).mono ?_; (case hX => (focus (repeat (first | with_reducible exact HX.out | with_reducible apply Ext.drewN))))) | (with_reducible refine (HS5.out _ ?hX).mono ?_; (case hX => (focus (repeat (first | with_reducible exact HX.out | with_reducible apply Ext.drewN))))) | (with_reducible refine (HS6.out _ ?hX).mono ?_; (case hX => (focus (repeat (first | with_reducible exact HX.out | with_reducible apply Ext.drewN)))))); rintro e ws ⟨rfl, ns, rfl⟩))
          | (go_at_call 110; go_loud (refine (HWD.out 125 (by decide) (o + 1) (by omega) _ ?hX).mono ?_; (case hX => (focus (repeat (first | with_reducible exact HX.out | with_reducible apply Ext.setn | with_reducible apply Ext.setb HNBL.out | with_reducible apply Ext.drewN)))); rw [HT.out]; rintro e w3 ⟨hx, hx2⟩; have hf : w3.heap[nb]? = some (.cells #[.int .i64 3, .int .i64 n, .int .i64 0, .slice none 0 0, .slice none 0 0] 82 (0, 0)) := hx.heap (heap_set (o := 0) (u := .int .i64 3) HF.out); have hb := hx.heap ((heap_ne HNE.out).trans HB.out); have hX3 : Ext w w3 := Ext.trans (by (focus (repeat (first | with_reducible exact HX.out | with_reducible apply Ext.setn | with_reducible apply Ext.setb HNBL.out | with_reducible apply Ext.drewN)))) hx; clear q0 q1 q2 q3 q4 r0 r1 r2 r3 r4 d0 d1 d2 d3 d4 f0 f1 f2 f3 f4; have q0 := cell_of_row w3 nb 0 _ _ _ hf; have q1 := cell_of_row w3 nb 1 _ _ _ hf; have q2 := cell_of_row w3 nb 2 _ _ _ hf; have q3 := cell_of_row w3 nb 3 _ _ _ hf; have q4 := cell_of_row w3 nb 4 _ _ _ hf; have r0 := frozen_of_row w3 nb 0 _ _ hf; have r1 := frozen_of_row w3 nb 1 _ _ hf; have r2 := frozen_of_row w3 nb 2 _ _ hf; have r3 := frozen_of_row w3 nb 3 _ _ hf; have r4 := frozen_of_row w3 nb 4 _ _ hf; have d0 := cell_of_row w3 w.heap.size 0 _ _ _ hb; have d1 := cell_of_row w3 w.heap.size 1 _ _ _ hb; have d2 := cell_of_row w3 w.heap.size 2 _ _ _ hb; have d3 := cell_of_row w3 w.heap.size 3 _ _ _ hb; have d4 := cell_of_row w3 w.heap.size 4 _ _ _ hb; have f0 := frozen_of_row w3 w.heap.size 0 _ _ hb; have f1 := frozen_of_row w3 w.heap.size 1 _ _ hb; have f2 := frozen_of_row w3 w.heap.size 2 _ _ hb; have f3 := frozen_of_row w3 w.heap.size 3 _ _ hb; have f4 := frozen_of_row w3 w.heap.size 4 _ _ hb; have hnl3 := heap_lt hf; have hbl3 := heap_lt hb; have HF3 := Lib.hid hf; have HB3 := Lib.hid hb; have HX3 := Lib.hid hX3; clear hf hb hx hX3; rcases hx2 with ⟨t', k3', At, ct, hq, rfl, hv⟩ | ⟨hq, -⟩; rotate_left; (exact absurd hq (by simp)); injection hq with hq; injection hq with hq1 hq2; subst hq1 hq2)))
        go_meet
        have hkt := KeepT.setF (o := 4) (u := .slice At t.length ct) HF3.out
        have hv3 := hv.keep1 hkt
        exact ⟨3, none, 0, 0, At, t.length, ct, heap_set (o := 4) (u := .slice At t.length ct) HF3.out, (heap_ne HNE.out).trans HB3.out, by (focus (repeat (first | with_reducible exact HX3.out | with_reducible apply Ext.setn | with_reducible apply Ext.setb HNBL.out | with_reducible apply Ext.drewN))), .inr ⟨[], t, k3, by rw [← HR.out, HQ.out, HI.out, HT.out]; rfl, by omega, rfl, SlB.nil_, (hv3.weaken (by simpa using HXS.out))⟩⟩
end Go.Proofs.Ytfblkahjefdmaaa
namespace Go.Proofs.Ytfblkahjefdmaaa
open Go.RowKit
theorem keeps_raw (T : List TypeId) : Keeps T Raw := fun _ _ _ _ _ h => h
section
variable {w wr w' : World} {T : Nat} {vl vt vl' vt' v' : Value} {cf : List (List Value)} {fs : List FM.Form} {tx : List Int}
theorem Rcs.ext_ (h : Rcs w T vl vt cf fs tx wr) (hx : Ext wr w') : Rcs w T vl vt cf fs tx w' :=
  ⟨h.ext.trans hx, h.lo, Nat.le_trans h.top hx.size, h.fit.imp (fun _ _ hc => hc.keep (fun _ _ _ hg => hx.heap hg)), h.own.keepG (fun _ _ hc => hc) (fun _ _ _ hg => hx.heap hg), h.txt.keepG (fun _ _ hc => hc) (fun _ _ _ hg => hx.heap hg), h.nt⟩
theorem tl_len (cf : List (List Value)) (fs : List FM.Form) (tx : List Int) (vt : Value) (h : cf.length = fs.length) : (cf ++ tl tx vt).length = (FM.endT fs tx).length := by
  unfold tl FM.endT
  split <;> simp [h]
theorem Rcs.done (h : Rcs w T vl vt cf fs tx wr) : SlB 82 5 (CF w.heap.size) w.heap.size wr vl (FM.endT fs tx) :=
  ((h.own.parts h.fits).sl).imp (fun _ _ hc => hc.cf)
/-- Behind an append of a new text of one sign. -/
theorem Rcs.new {r : Int} {nb : Nat} (h : Rcs w T vl vt cf fs [] wr) (hnb : nb = wr.heap.size) (w1 : World) (hw1 : w1 = wr.alloc (.cells #[.int .i32 r] 21)) (w2 : World) (hx2 : Ext w1 w2)
    (h1 : OwnB 82 5 Raw w.heap.size w' v' (cf ++ [tcs (.slice (some ⟨nb, 0, none⟩) 1 1)])) (h2 : w2.grownBy w' vl.ownBlock) :
    Rcs w nb v' (.slice (some ⟨nb, 0, none⟩) 1 1) cf fs [r] w' := by
  subst hnb hw1
  have hlt := fun k hk => (h.own.lt k hk).1
  have hx1 : Ext wr w2 := ((Ext.refl wr).alloc _).trans hx2
  have hke : ∀ (g : Nat) (cur : Array Value), w2.heap[g]? = some (.cells cur 21 (0, 0)) → w'.heap[g]? = some (.cells cur 21 (0, 0)) := by
    intro g cur hg
    refine (h2.block g (heap_lt hg) (fun e => ?_)).trans hg
    obtain ⟨cur2, h4⟩ := h.own.type g e.symm
    have h5 := hx1.heap h4
    rw [hg] at h5
    injection h5 with h5
    injection h5 with _ h5 _
    exact absurd h5 (by decide)
  refine ⟨(h.ext.trans hx1).grown h2 hlt, h.ext.size, Nat.le_trans hx1.size h2.size, h.fit.imp (fun _ _ hc => (hc.mono h.top).keep (fun g cur _ hg => hke g cur (hx1.heap hg))), h1, ?_, h.nt⟩
  have h3 : OwnB 21 1 Cc wr.heap.size (wr.alloc (.cells #[.int .i32 r] 21)) (.slice (some ⟨wr.heap.size, 0, none⟩) 1 1) [r] := lit_c wr [r] (Nat.le_refl _) (by simp)
  exact h3.keepG (fun _ _ hc => hc) (fun g cur _ hg => hke g cur (hx2.heap hg))
end
end Go.Proofs.Ytfblkahjefdmaaa
namespace Go.Proofs.Ytfblkahjefdmaaa
open Go.RowKit
set_option maxHeartbeats 1000000 in
theorem rmay_any (s : List Int) (vs : Value) (w : World) (hs : SlC w vs s) : Calls Try.prog 74 #[vs] w (BoolP (s.all RX.isSign) w) := by
  have H := Lib.hid hs
  obtain ⟨A, ca, rfl, hlx, hcx, -⟩ := hs
  have HSG := Lib.hid bsign_any
  go_enter Try.func74, Try.ntmps74
  go_wp2_with fail
  go_loop [3] (fun i => ∃ k : Nat, k ≤ s.length ∧ i = .int .i64 k ∧ (s.take k).all RX.isSign = true) (fun i => s.length - (intOf i).toNat)
  case atStart => exact ⟨0, Nat.zero_le _, rfl, rfl⟩
  case round =>
    obtain ⟨k, hk, rfl, hpre⟩ := hrel
    have HP := Lib.hid hpre
    clear hpre
    by_cases hlt : k < s.length
    · obtain ⟨b, o, rfl, hc⟩ := H.out.at_ hlt
      have HX := Lib.hid (List.getElem?_eq_getElem hlt)
      have HT := Lib.hid (show (s.take (k + 1)).all RX.isSign = RX.isSign s[k] by rw [List.take_succ_eq_append_getElem hlt, List.all_append, HP.out]; simp)
      have HF := Lib.hid (show RX.isSign s[k] = false → s.all RX.isSign = false from fun h => by
        rw [List.all_eq_false]
        exact ⟨s[k], List.getElem_mem hlt, by simp [h]⟩)
      generalize s[k] = x at hc HT HF HX
      rcases hx : RX.isSign x with _ | _
      · have HM := Lib.hid (HF.out hx)
        have HB := Lib.hid hx
        clear hx
        go_wp2_with (go_at_call 51; go_loud (refine (HSG.out x _).mono ?_; rw [HB.out]; rintro e w2 ⟨rfl, rfl⟩))
        go_ret
        exact ⟨by rw [HM.out]; rfl, rfl⟩
      · have HT2 := Lib.hid (HT.out.trans hx)
        have HB := Lib.hid hx
        clear hx
        go_wp2_with (go_at_call 51; go_loud (refine (HSG.out x _).mono ?_; rw [HB.out]; rintro e w2 ⟨rfl, rfl⟩))
        go_round
        case rel => exact ⟨k + 1, by omega, by go_num, HT2.out⟩
        case measure => simp [intOf]; omega
    · have HM := Lib.hid (show s.all RX.isSign = true by have := HP.out; rwa [List.take_of_length_le (by omega)] at this)
      go_wp2_with fail
      go_ret
      exact ⟨by rw [HM.out]; rfl, rfl⟩
/-- Behind laid: a sign more. -/
def LaidP (w : World) (cf : List (List Value)) (fs : List FM.Form) (tx : List Int) (e : Ending) (w' : World) : Prop :=
  ∃ (T : Nat) (A : Option Addr) (n c : Nat) (vt : Value), e = .returned (.slice A n c) ∧ n = cf.length + 1 ∧ Rcs w T (.slice A n c) vt cf fs tx w'
theorem Rcs.boxM {w wr w' : World} {T g : Nat} {vl vt : Value} {cf : List (List Value)} {fs : List FM.Form} {tx : List Int} {cur : Array Value} (h : Rcs w T vl vt cf fs tx wr) (hg : wr.heap[g]? = some (.cells cur 82 (0, 0))) (h2 : wr.grownBy w' vt.ownBlock) : w'.heap[g]? = some (.cells cur 82 (0, 0)) := by
  refine (h2.block g (heap_lt hg) (fun e => ?_)).trans hg
  obtain ⟨cur2, h4⟩ := h.txt.type g e.symm
  rw [hg] at h4
  injection h4 with h4
  injection h4 with _ h4 _
  exact absurd h4 (by decide)
set_option maxRecDepth 100000 in
set_option maxHeartbeats 2000000 in
theorem laid_any (w : World) (T : Nat) (vl vt : Value) (cf : List (List Value)) (fs : List FM.Form) (tx : List Int) (r : Int) (wr : World) (h : Rcs w T vl vt cf fs tx wr) (hn : fs.length ≤ 1000000000) (ht : tx.length ≤ 1000000000) :
    Calls Try.prog 76 #[vl, .int .i32 r] wr (LaidP w cf fs (tx ++ [r])) := by
  have HC := Lib.hid h
  have HCL := Lib.hid (show cf.length ≤ 1000000000 by rw [h.fit.1]; exact hn)
  obtain ⟨A, c, rfl, hnc, hcm⟩ := h.own.form
  by_cases htx : tx = []
  · subst htx
    have HOWN := Lib.hid (show OwnB 82 5 Raw w.heap.size (wr.alloc (.cells #[.int .i32 r] 21)) (.slice A (cf ++ tl [] vt).length c) cf from by
      have h9 := (h.ext_ ((Ext.refl wr).alloc (.cells #[.int .i32 r] 21))).own
      rw [show tl ([] : List Int) vt = [] from rfl, List.append_nil] at h9
      rw [show tl ([] : List Int) vt = [] from rfl, List.append_nil]; exact h9)
    have hle : (cf ++ tl [] vt).length = cf.length := by rw [show tl ([] : List Int) vt = [] from rfl, List.append_nil]
    rw [hle] at HOWN hnc HC ⊢
    rcases List.eq_nil_or_concat cf with hcf | ⟨cf', cs, hcf⟩
    · subst hcf
      clear h hle ht hn hnc
      go_enter Try.func76, Try.ntmps76
      go_wp2_with (at_builtin; go_loud (refine app_lit Try.underlying70 info_form rfl (by decide) (by decide) (keeps_raw []) (by simp) rfl _ _ rfl w.heap.size _ [] (tcs (.slice (some ⟨wr.heap.size, 0, none⟩) 1 1)) (tcs (.slice (some ⟨wr.heap.size, 0, none⟩) 1 1)) 82 HOWN.out ⟨rfl, rfl⟩ rfl (by simp [Value.oneCell', tcs]) rfl (wr.heap.size + 1) rfl (by simp) HCL.out ?hB ?_; (case hB => exact Nat.le_trans HC.out.ext.size (by simp)); intro gg cap w1 h1 h2; have HF := Lib.hid (Rcs.new HC.out rfl _ rfl _ ((Ext.refl _).alloc _) h1 h2); clear h1 h2))
      go_ret
      exact ⟨_, _, _, _, _, rfl, rfl, HF.out⟩
    · have hlast : cf.getLast? = some cs := by rw [hcf]; simp
      obtain ⟨f, vt9, ve9, hf1, hcs⟩ := h.fit.kind hlast
      have hk := h.nt f hf1
      have hb0 : (f.kind == 0) = false := by simpa using hk
      have hown := HOWN.out
      rw [hcf] at hown
      rw [List.concat_eq_append] at hown
      have hlen : cf.length = cf'.length + 1 := by rw [hcf]; simp
      have hml : (cf'.concat cs).length = cf'.length + 1 := by simp
      obtain ⟨g, cur, hA, hb, -, -, hh, hcells, -⟩ := (show OwnB 82 5 Raw w.heap.size wr (.slice A cf.length c) (cf' ++ [cs]) from by
        have h9 := h.own
        rw [hle, show tl ([] : List Int) vt = [] from rfl, List.append_nil] at h9
        rw [← List.concat_eq_append, ← hcf]; exact h9).lastRaw
      subst hA
      have c0 := cell_of_row wr g (cf'.length * 5) _ _ _ hh
      rw [show cur[cf'.length * 5]? = some (.int .i64 f.kind) from hcells 0 _ (by rw [hcs]; rfl)] at c0
      obtain ⟨m, hm⟩ : ∃ m, cf'.length = m := ⟨_, rfl⟩
      rw [hm] at c0 hlen
      have HLEN := Lib.hid hlen
      have hgl := heap_lt hh
      have hnc2 : m + 1 ≤ c := by omega
      have hpos : decide ((0 : Int) ≤ (m : Int)) = true := by simp
      rw [hlen] at HC HOWN ⊢
      clear h hle ht hn hnc hcf hlast hf1 hcs hk hown hml hh hcells hm hlen
      go_enter Try.func76, Try.ntmps76
      go_wp2_with (at_builtin; go_loud (refine app_lit Try.underlying70 info_form rfl (by decide) (by decide) (keeps_raw []) (by simp) rfl _ _ rfl w.heap.size _ cf (tcs (.slice (some ⟨wr.heap.size, 0, none⟩) 1 1)) (tcs (.slice (some ⟨wr.heap.size, 0, none⟩) 1 1)) 82 HOWN.out ⟨rfl, rfl⟩ rfl (by simp [Value.oneCell', tcs]) rfl (wr.heap.size + 1) rfl (by simp) HCL.out ?hB ?_; (case hB => exact Nat.le_trans HC.out.ext.size (by simp)); intro gg cap w1 h1 h2; have HF := Lib.hid (Rcs.new HC.out rfl _ rfl _ ((Ext.refl _).alloc _) h1 h2); clear h1 h2))
      go_ret
      exact ⟨_, _, _, _, _, rfl, (by first | rfl | rw [HLEN.out]), HF.out⟩
  · have hown := h.own
    rw [show tl tx vt = [tcs vt] from if_neg htx] at hown hnc HC ⊢
    obtain ⟨g, cur, hA, hb, -, -, hh, hcells, -⟩ := hown.lastRaw
    subst hA
    have hlen : (cf ++ [tcs vt]).length = cf.length + 1 := by simp
    rw [hlen] at hnc HC ⊢
    obtain ⟨m, hm⟩ : ∃ m, cf.length = m := ⟨_, rfl⟩
    have HM := Lib.hid hm
    rw [hm] at hcells hnc HC ⊢
    obtain ⟨Av, cv, rfl, hv1, hv2⟩ := h.txt.form
    have c0 := cell_of_row wr g (m * 5) _ _ _ hh
    rw [show cur[m * 5]? = some (.int .i64 0) from hcells 0 _ rfl] at c0
    have c3 := cell_of_row wr g (m * 5 + 3) _ _ _ hh
    rw [show cur[m * 5 + 3]? = some (.slice Av tx.length cv) from hcells 3 _ rfl] at c3
    have HH := Lib.hid hh
    have HC3 := Lib.hid (show cur[m * 5 + 3]? = some (.slice Av tx.length cv) from hcells 3 _ rfl)
    have hgl := heap_lt hh
    have hpos : decide ((0 : Int) ≤ (m : Int)) = true := by simp
    have HNE := Lib.hid htx
    clear h hn hown hlen hh hcells hm htx
    go_enter Try.func76, Try.ntmps76
    go_wp2_with (at_builtin; go_loud (have HCD := Lib.hid (HC.out.ext_ ((Ext.refl wr).alloc (.cells #[.int .i32 r] 21))); refine app_lit Try.underlying23 info_c rfl (by decide) (by decide) (keeps_c []) (by simp) rfl _ _ rfl T _ tx r [.int .i32 r] 21 HC.out.txt rfl rfl (by simp [Value.oneCell']) rfl wr.heap.size rfl rfl ht HC.out.top ?_; intro gg cap w1 h1 h2; have hb := HCD.out.boxM (((Ext.refl wr).alloc _).heap HH.out) h2; have d3 := (cell_of_row w1 g (m * 5 + 3) _ _ _ hb).trans HC3.out; have e3 := frozen_of_row w1 g (m * 5 + 3) _ _ hb; have HF := Lib.hid (Rcs.more HCD.out HNE.out rfl (show m * 5 + 3 = cf.length * 5 + 3 by rw [HM.out]) h1 h2); clear hb h1 h2))
    go_ret
    exact ⟨_, _, _, _, _, rfl, by rw [HM.out], HF.out⟩
end Go.Proofs.Ytfblkahjefdmaaa
namespace Go.Proofs.Ytfblkahjefdmaaa
open Go.RowKit
theorem partA_kind {s : List Int} {k k' : Nat} {f : FM.Form} (hs : s.all RX.isSign = true) (h : partA s k = some (f, k')) : f.kind ≠ 0 := by
  unfold partA at h
  rw [Option.map_eq_some_iff] at h
  obtain ⟨⟨f', c⟩, h3, h4⟩ := h
  injection h4 with h4 h5
  simp only at h4
  subst h4
  exact (FM.part_ok h3 (FM.all_drop hs _)).2.1
theorem Rcs.len {w wr : World} {T n c : Nat} {A : Option Addr} {vt : Value} {cf : List (List Value)} {fs : List FM.Form} {tx : List Int} (h : Rcs w T (.slice A n c) vt cf fs tx wr) : n = (FM.endT fs tx).length := by
  obtain ⟨A', c', hv, _⟩ := h.done.form
  injection hv
set_option maxRecDepth 100000 in
set_option maxHeartbeats 4000000 in
theorem rscan_any (s : List Int) (vs : Value) (a : Int) (w : World) (hs : SlC w vs s) (hsl : s.length ≤ 900000000) :
    Calls Try.prog 42 #[vs, .int .i64 a] w (ScanP (scanAt s a) w) := by
  have H := Lib.hid hs
  have HMS := Lib.hid (rmay_any s vs w hs)
  obtain ⟨A, ca, rfl, hlx, hcx, -⟩ := hs
  obtain ⟨R, hR⟩ : ∃ R, scanAt s a = R := ⟨_, rfl⟩
  rw [hR]
  have HR := Lib.hid hR
  clear hR
  by_cases ha0 : a < 0
  · have HN := Lib.hid (show R = none by rw [← HR.out]; unfold scanAt; rw [if_neg (by omega)])
    go_enter Try.func42, Try.ntmps42
    go_wp2_with fail
    go_ret3
    exact ⟨Ext.refl _, .inr ⟨HN.out, rfl⟩⟩
  by_cases ha1 : (s.length : Int) < a
  · have HN := Lib.hid (show R = none by rw [← HR.out]; unfold scanAt; rw [if_neg (by omega)])
    go_enter Try.func42, Try.ntmps42
    go_wp2_with fail
    go_ret3
    exact ⟨Ext.refl _, .inr ⟨HN.out, rfl⟩⟩
  obtain ⟨i, rfl⟩ : ∃ i : Nat, a = i := ⟨a.toNat, by omega⟩
  have hd0 : decide ((i : Int) < 0) = false := by simp
  have hd1 : decide ((s.length : Int) < (i : Int)) = false := by simp; omega
  have hd2 : decide (s.length < i) = false := by simp; omega
  have hil : i ≤ s.length := by omega
  rcases hsg : s.all RX.isSign with _ | _
  · have HN := Lib.hid (show R = none by rw [← HR.out]; unfold scanAt; rw [if_neg (by rw [hsg]; simp)])
    rw [hsg] at HMS
    clear hsg ha0 ha1
    go_enter Try.func42, Try.ntmps42
    go_wp2_with (go_at_call 74; refine HMS.out.mono ?_; rintro e w' ⟨rfl, rfl⟩)
    go_ret3
    exact ⟨Ext.refl _, .inr ⟨HN.out, rfl⟩⟩
  have HS := Lib.hid (show scanK s i [] [] = R by rw [← HR.out]; unfold scanAt; rw [if_pos ⟨by omega, by omega, hsg⟩]; rfl)
  have HSG := Lib.hid hsg
  rw [hsg] at HMS
  clear hsg ha0 ha1
  have HAM := Lib.hid has_outer
  have HPT := Lib.hid (fun (j : Nat) (hj : j < s.length) (W : World) (hW : Ext w W) => rpart_any s _ j W (H.out.ext hW) (by omega) hj)
  go_enter Try.func42, Try.ntmps42
  go_wp2_with (go_at_call 74; refine HMS.out.mono ?_; rintro e w' ⟨rfl, rfl⟩)
  go_loopw [1, 7] (fun x v wr => ∃ (k T : Nat) (A1 : Option Addr) (n1 c1 : Nat) (vt : Value) (cf : List (List Value)) (fs : List FM.Form) (tx : List Int), k ≤ s.length ∧ x = .int .i64 (k : Int) ∧ v = .slice A1 n1 c1 ∧ Rcs w T (.slice A1 n1 c1) vt cf fs tx wr ∧ fs.length ≤ k ∧ tx.length ≤ k ∧ scanK s k fs tx = R) (fun x _ _ => s.length - (intOf x).toNat)
  case atStart => exact ⟨i, _, _, _, _, _, [], [], [], hil, rfl, rfl, Rcs.start w, Nat.zero_le _, Nat.zero_le _, HS.out⟩
  case round =>
    obtain ⟨k, T, A1, n1, c1, vt, cf, fs, tx, hk, rfl, rfl, hcs, hfl, htl, hT⟩ := hrel
    have HC := Lib.hid hcs
    have HT := Lib.hid hT
    obtain ⟨At, nt, ct, hv, hnc, hcm⟩ := hcs.form
    injection hv with e1 e2 e3
    subst e1 e2 e3
    have HLD := Lib.hid (fun (r : Int) (W : World) (hW : Rcs w T (.slice A1 n1 c1) vt cf fs tx W) => laid_any w T _ vt cf fs tx r W hW (by omega) (by omega))
    clear hcs hT
    by_cases hlt : k < s.length
    rotate_left
    · have HN := Lib.hid (show R = none by rw [← HT.out, sc_end (by omega)])
      go_wp2_with fail
      go_ret3
      exact ⟨HC.out.ext, .inr ⟨HN.out, rfl⟩⟩
    obtain ⟨b, o, rfl, hc⟩ := (H.out.ext HC.out.ext).at_ hlt
    by_cases h47 : s[k] = 47
    · have HN := Lib.hid (show R = some (FM.endT fs tx, k) by rw [← HT.out, sc_slash hlt h47])
      rw [h47] at hc
      clear h47
      have HLN := Lib.hid HC.out.len
      go_wp2_with fail
      go_ret3
      refine ⟨HC.out.ext, .inl ⟨_, k, A1, c1, HN.out, by rw [← HLN.out]; rfl, ?_⟩⟩
      rw [← HLN.out]; exact HC.out.done
    by_cases h36 : s[k] = 36
    · obtain ⟨F, hF⟩ : ∃ F, partA s k = F := ⟨_, rfl⟩
      have HF0 := Lib.hid hF
      have HP := Lib.hid (HPT.out k hlt _ HC.out.ext)
      have hc36 := hc
      rw [h36] at hc36
      cases F with
      | none =>
        have HN := Lib.hid ((sc_plain (fs := fs) (tx := tx) hlt h47 (fun _ => hF) (fun h => absurd (h36.symm.trans h.1) (by decide))).symm.trans HT.out)
        rw [h36] at HN
        clear h47 h36 hF hc
        go_upto_region 12 with (go_at_call 77; go_loud (refine HP.out.mono ?_; rw [HF0.out]; rintro e w2 ⟨hx, hx2⟩; have HC := Lib.hid (HC.out.ext_ hx); have hc36 := hx.cell hc36; clear hx; rcases hx2 with ⟨f, k3, cs, hq, -, -⟩ | ⟨hq, rfl⟩; (exact absurd hq (by simp))))
        have hE3 := (Ext.refl w2).alloc (.cells #[.int .i64 0, .int .i64 0, .int .i64 0, .slice none 0 0, .slice none 0 0] 82)
        have HC := Lib.hid (HC.out.ext_ hE3)
        have hc36 := hE3.cell hc36
        clear hE3
        generalize w2.alloc (.cells #[.int .i64 0, .int .i64 0, .int .i64 0, .slice none 0 0, .slice none 0 0] 82) = w4 at HC hc36 ⊢
        go_wp2_with (go_at_call 76; go_loud (refine (HLD.out 36 _ HC.out).mono ?_; rintro e w3 ⟨T3, A3, n3, c3, vt3, rfl, hn3, hc3⟩; have HC3 := Lib.hid hc3; have HN3 := Lib.hid hn3; clear hc3 hn3))
        go_roundw
        case rel => exact ⟨k + 1, T3, _, _, _, vt3, cf, fs, _, by omega, by go_num, rfl, HC3.out, by omega, by rw [List.length_append]; simp; omega, HN.out⟩
        case measure => simp [intOf]; omega
      | some q =>
        obtain ⟨f, k'⟩ := q
        have hle := partA_le HSG.out hF hlt
        have HK := Lib.hid (partA_kind HSG.out hF)
        have HN := Lib.hid ((sc_part (fs := fs) (tx := tx) hlt h36 hF).symm.trans HT.out)
        clear h47 h36 hF hc
        obtain ⟨hle1, hle2⟩ := hle
        have hpos : decide ((0 : Int) < (k' : Int)) = true := by simp; omega
        go_upto_region 12 with (go_at_call 77; go_loud (refine HP.out.mono ?_; rw [HF0.out]; rintro e w2 ⟨hx, hx2⟩; rcases hx2 with ⟨f', k3, cs, hq, rfl, vt', ve', rfl, ht, he⟩ | ⟨hq, -⟩; rotate_left; (exact absurd hq (by simp)); injection hq with hq; injection hq with hq1 hq2; subst hq1 hq2; obtain ⟨At', ct', rfl, -⟩ := ht.form; obtain ⟨Ae', ce', rfl, -⟩ := he.form; have HCF := Lib.hid (CF.weaken ⟨_, _, rfl, ht, he⟩ HC.out.ext.size : CF w.heap.size w2 [.int .i64 f.kind, .int .i64 f.group, .int .i64 f.cas, .slice At' f.text.length ct', .slice Ae' f.els.length ce'] f); have HC := Lib.hid (HC.out.ext_ hx); clear hx ht he))
        have hE3 := (Ext.refl w2).alloc (.cells #[.int .i64 f.kind, .int .i64 f.group, .int .i64 f.cas, .slice At' f.text.length ct', .slice Ae' f.els.length ce'] 82)
        have HC := Lib.hid (HC.out.ext_ hE3)
        have HCF := Lib.hid (HCF.out.keepT (KeepT.of_ext hE3))
        have hb9 := heap_alloc_new w2 (.cells #[.int .i64 f.kind, .int .i64 f.group, .int .i64 f.cas, .slice At' f.text.length ct', .slice Ae' f.els.length ce'] 82)
        clear hE3 hc36
        generalize w2.alloc (.cells #[.int .i64 f.kind, .int .i64 f.group, .int .i64 f.cas, .slice At' f.text.length ct', .slice Ae' f.els.length ce'] 82) = w4 at HC HCF hb9 ⊢
        generalize w2.heap.size = nb at hb9 ⊢
        have d0 := cell_of_row w4 nb 0 _ _ _ hb9
        have d1 := cell_of_row w4 nb 1 _ _ _ hb9
        have d2 := cell_of_row w4 nb 2 _ _ _ hb9
        have d3 := cell_of_row w4 nb 3 _ _ _ hb9
        have d4 := cell_of_row w4 nb 4 _ _ _ hb9
        have hcl : (cf ++ tl tx vt).length ≤ 1000000000 := by rw [tl_len cf fs tx vt HC.out.fit.1]; unfold FM.endT; split <;> first | omega | (simp; omega)
        have HCL := Lib.hid hcl
        have HLE := Lib.hid (show (FM.endT fs tx ++ [f]).length ≤ k' by rw [List.length_append]; unfold FM.endT; split <;> first | omega | (simp; omega))
        clear hb9 hcl
        go_wp2_with (at_builtin; go_loud (have HCD := Lib.hid (HC.out.ext_ ((Ext.refl w4).alloc (.cells #[.int .i64 f.kind, .int .i64 f.group, .int .i64 f.cas, .slice At' f.text.length ct', .slice Ae' f.els.length ce'] 82))); refine app_lit Try.underlying70 info_form rfl (by decide) (by decide) (keeps_raw []) (by simp) rfl _ _ rfl w.heap.size _ (cf ++ tl tx vt) [.int .i64 f.kind, .int .i64 f.group, .int .i64 f.cas, .slice At' f.text.length ct', .slice Ae' f.els.length ce'] [.int .i64 f.kind, .int .i64 f.group, .int .i64 f.cas, .slice At' f.text.length ct', .slice Ae' f.els.length ce'] 82 HC.out.own ⟨rfl, rfl⟩ rfl (by simp [Value.oneCell']) rfl w4.heap.size rfl rfl HCL.out HC.out.ext.size ?_; intro gg cap w1 h1 h2; generalize (cf ++ tl tx vt).length + 1 = nn at h1 ⊢; have HF := Lib.hid (Rcs.part HCD.out ((HCF.out.keepT (KeepT.of_ext ((Ext.refl w4).alloc _))).cft) HK.out h1 h2); clear h1 h2))
        go_roundw
        case rel => exact ⟨k', _, _, _, _, _, _, FM.endT fs tx ++ [f], [], hle2, rfl, rfl, HF.out, HLE.out, Nat.zero_le _, HN.out⟩
        case measure => simp [intOf]; omega
    by_cases h92 : s[k] = 92
    · have b1 : (s[k] == 47) = false := by simpa using h47
      have b3 : (s[k] == 92) = true := by simpa using h92
      have b2 : (s[k] == 36) = false := by simpa using h36
      by_cases hk1 : k + 1 < s.length
      · have hk1i : (k : Int) + 1 < s.length := by omega
        obtain ⟨b', o', hbo, hc'⟩ := (H.out.ext HC.out.ext).at_ hk1
        injection hbo with hbo
        injection hbo with hb1 hb2
        subst hb1 hb2
        by_cases hm : s[k + 1] ∈ FM.outer
        · have HN := Lib.hid ((sc_esc (fs := fs) (tx := tx) hk1 h92 hm).symm.trans HT.out)
          have HMM := Lib.hid (show decide (s[k + 1] ∈ FM.outer) = true from decide_eq_true hm)
          clear h92 h47 h36 hm
          generalize s[k] = x at hc b1 b2 b3
          generalize s[k + 1] = y at hc' HMM HN
          go_wp2_with (first | (go_at_call 75; refine (HAM.out y _).mono ?_; rw [HMM.out]; rintro e' w2 ⟨rfl, rfl⟩) | (go_at_call 76; go_loud (refine (HLD.out y _ HC.out).mono ?_; rintro e w3 ⟨T3, A3, n3, c3, vt3, rfl, hn3, hc3⟩; have HC3 := Lib.hid hc3; have HN3 := Lib.hid hn3; clear hc3 hn3)))
          go_roundw
          case rel => exact ⟨k + 2, T3, _, _, _, vt3, cf, fs, _, by omega, by go_num, rfl, HC3.out, by omega, by rw [List.length_append]; simp; omega, HN.out⟩
          case measure => simp [intOf]; omega
        · have HN := Lib.hid ((sc_plain (fs := fs) (tx := tx) hlt h47 (fun h => absurd h h36) (fun h => by obtain ⟨_, _, h⟩ := h; exact hm h)).symm.trans HT.out)
          have HMM := Lib.hid (show decide (s[k + 1] ∈ FM.outer) = false from decide_eq_false hm)
          clear h92 h47 h36 hm
          generalize s[k] = x at hc b1 b2 b3 HN
          generalize s[k + 1] = y at hc' HMM
          go_wp2_with (first | (go_at_call 75; refine (HAM.out y _).mono ?_; rw [HMM.out]; rintro e' w2 ⟨rfl, rfl⟩) | (go_at_call 76; go_loud (refine (HLD.out x _ HC.out).mono ?_; rintro e w3 ⟨T3, A3, n3, c3, vt3, rfl, hn3, hc3⟩; have HC3 := Lib.hid hc3; have HN3 := Lib.hid hn3; clear hc3 hn3)))
          go_roundw
          case rel => exact ⟨k + 1, T3, _, _, _, vt3, cf, fs, _, by omega, by go_num, rfl, HC3.out, by omega, by rw [List.length_append]; simp; omega, HN.out⟩
          case measure => simp [intOf]; omega
      · have HN := Lib.hid ((sc_plain (fs := fs) (tx := tx) hlt h47 (fun h => absurd h h36) (fun h => by obtain ⟨_, h, _⟩ := h; exact hk1 h)).symm.trans HT.out)
        have hk1i : ¬ (k : Int) + 1 < s.length := by omega
        clear h92 h47 h36 hk1
        generalize s[k] = x at hc b1 b2 b3 HN
        go_wp2_with (go_at_call 76; go_loud (refine (HLD.out x _ HC.out).mono ?_; rintro e w3 ⟨T3, A3, n3, c3, vt3, rfl, hn3, hc3⟩; have HC3 := Lib.hid hc3; have HN3 := Lib.hid hn3; clear hc3 hn3))
        go_roundw
        case rel => exact ⟨k + 1, T3, _, _, _, vt3, cf, fs, _, by omega, by go_num, rfl, HC3.out, by omega, by rw [List.length_append]; simp; omega, HN.out⟩
        case measure => simp [intOf]; omega
    have HN := Lib.hid ((sc_plain (fs := fs) (tx := tx) hlt h47 (fun h => absurd h h36) (fun h => h92 h.1)).symm.trans HT.out)
    have b1 : (s[k] == 47) = false := by simpa using h47
    have b2 : (s[k] == 36) = false := by simpa using h36
    have b3 : (s[k] == 92) = false := by simpa using h92
    clear h47 h36 h92
    generalize s[k] = x at hc b1 b2 b3 HN
    go_wp2_with (go_at_call 76; go_loud (refine (HLD.out x _ HC.out).mono ?_; rintro e w3 ⟨T3, A3, n3, c3, vt3, rfl, hn3, hc3⟩; have HC3 := Lib.hid hc3; have HN3 := Lib.hid hn3; clear hc3 hn3))
    go_roundw
    case rel => exact ⟨k + 1, T3, _, _, _, vt3, cf, fs, _, by omega, by go_num, rfl, HC3.out, by omega, by rw [List.length_append]; simp; omega, HN.out⟩
    case measure => simp [intOf]; omega
end Go.Proofs.Ytfblkahjefdmaaa
