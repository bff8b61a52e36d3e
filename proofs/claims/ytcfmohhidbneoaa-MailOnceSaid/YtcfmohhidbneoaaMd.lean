/- The contract of slices.Delete of one packet. -/
import Derived.Test.YtcfmohhidbneoaaMc
import Derived.Deep.RegionLaw
import Derived.Laws.IdiomCopy
import Derived.Lib.SliceRun
namespace Go.Proofs.Ytcfmohhidbneoaa.Md
open Go.RowKit Go.Proofs.Ytcfmohhidbneoaa.Ma Go.Proofs.Ytcfmohhidbneoaa.Mw Go.Proofs.Ytcfmohhidbneoaa.Ms Go.Proofs.Ytcfmohhidbneoaa.Mc
set_option linter.unusedSimpArgs false
set_option linter.unusedVariables false
theorem setCells_far {b : Nat} {k : Nat} (hk : k ≠ b) : ∀ (vs : List Value) (o : Nat) (w : World), (w.setCells b o vs).heap[k]? = w.heap[k]?
  | [], o, w => rfl
  | v :: vs, o, w => by
    show ((w.setCell ⟨b, o, none⟩ v).setCells b (o + 1) vs).heap[k]? = _
    rw [setCells_far hk vs (o + 1) _, Below.heap_setCell _ _ _ _ hk]
theorem setCells_at {b : Nat} {t : TypeId} {fr : Nat × Nat} : ∀ (vs : List Value) (o : Nat) (w : World) (cur : Array Value), w.heap[b]? = some (.cells cur t fr) → o + vs.length ≤ cur.size →
    ∃ cur', (w.setCells b o vs).heap[b]? = some (.cells cur' t fr) ∧ cur'.size = cur.size ∧ cur'.toList = cur.toList.take o ++ vs ++ cur.toList.drop (o + vs.length)
  | [], o, w, cur, h, _ => ⟨cur, h, rfl, by simp⟩
  | v :: vs, o, w, cur, h, hs => by
    have h1 := block_set (i := o) h v
    obtain ⟨cur', h2, h3, h4⟩ := setCells_at vs (o + 1) _ _ h1 (by simp at hs ⊢; omega)
    refine ⟨cur', h2, by rw [h3]; simp, ?_⟩
    rw [h4]
    have hl : o < cur.toList.length := by simp at hs ⊢; omega
    have e1 : (cur.setIfInBounds o v).toList = cur.toList.take o ++ v :: cur.toList.drop (o + 1) := by
      rw [Array.toList_setIfInBounds, List.set_eq_take_append_cons_drop, if_pos hl]
    have hlt : (cur.toList.take o).length = o := by rw [List.length_take]; omega
    rw [e1]
    rw [List.take_append, List.drop_append, hlt]
    simp only [List.length_cons]
    rw [show o + 1 - o = 1 by omega, show o + 1 + vs.length - o = vs.length + 1 by omega, List.take_of_length_le (by omega), List.drop_of_length_le (l := cur.toList.take o) (by omega)]
    simp
    omega
theorem setCells_size (b : Nat) : ∀ (vs : List Value) (o : Nat) (w : World), (w.setCells b o vs).heap.size = w.heap.size
  | [], o, w => rfl
  | v :: vs, o, w => by
    show ((w.setCell ⟨b, o, none⟩ v).setCells b (o + 1) vs).heap.size = _
    rw [setCells_size b vs]; simp [World.setCell]
theorem setCells_only {S : Nat → Prop} {w w1 : World} {b : Nat} (hb : w.heap.size ≤ b ∨ S b) : ∀ (vs : List Value) (o : Nat) (w1 : World), Only S w w1 → Only S w (w1.setCells b o vs)
  | [], o, w1, h => h
  | v :: vs, o, w1, h => setCells_only (w1 := w1) hb vs (o + 1) _ (h.setCell (p := ⟨b, o, none⟩) hb v)
theorem pcs_take (l : List Pk) (i : Nat) (hi : i ≤ l.length) : pcs (l.take i) = (pcs l).take (i * 4) := by
  have : pcs l = pcs (l.take i) ++ pcs (l.drop i) := by rw [← pcs_append, List.take_append_drop]
  rw [this, List.take_left']
  rw [pcs_length, List.length_take]; omega
theorem pcs_drop (l : List Pk) (i : Nat) (hi : i ≤ l.length) : pcs (l.drop i) = (pcs l).drop (i * 4) := by
  have : pcs l = pcs (l.take i) ++ pcs (l.drop i) := by rw [← pcs_append, List.take_append_drop]
  rw [this, List.drop_left']
  rw [pcs_length, List.length_take]; omega
/-- What Delete leaves. -/
def Gone (g cap : Nat) (l : List Pk) (i : Nat) (w : World) (e : Ending) (w' : World) : Prop :=
  e = .returned (.slice (some ⟨g, 0, none⟩) (l.length - 1) cap) ∧ Row w' (.slice (some ⟨g, 0, none⟩) (l.eraseIdx i).length cap) (l.eraseIdx i) ∧ Only (fun k => k = g) w w'
theorem gone_of {g cap i : Nat} {l : List Pk} {w : World} (hi : i < l.length) (h : Row w (.slice (some ⟨g, 0, none⟩) l.length cap) l) (n : Nat) :
    Row (((w.drewN n).setCells g (i * 4) (pcs (l.drop (i + 1)))).setCells g ((l.length - 1) * 4) Pk.zero.cells) (.slice (some ⟨g, 0, none⟩) (l.eraseIdx i).length cap) (l.eraseIdx i) := by
  rcases h.form with ⟨h0, _⟩ | ⟨g', cap', cur, hv, h1, h2, h3, h4, h5⟩
  · cases h0
  cases hv
  have hp : (pcs (l.drop (i + 1))).length = (l.length - (i + 1)) * 4 := by rw [pcs_length, List.length_drop]
  have hh : (w.drewN n).heap[g]? = some (.cells cur 27 (0, 0)) := h1
  obtain ⟨c1, k1, k2, k3⟩ := setCells_at (pcs (l.drop (i + 1))) (i * 4) _ _ hh (by rw [hp]; omega)
  obtain ⟨c2, m1, m2, m3⟩ := setCells_at Pk.zero.cells ((l.length - 1) * 4) _ _ k1 (by rw [k2]; simp [Pk.cells]; omega)
  have el : (l.eraseIdx i).length = l.length - 1 := by rw [List.length_eraseIdx]; simp [hi]
  refine Row.mk m1 (by omega) h3 (by rw [m2, k2, h4]) ?_
  rw [el, m3, List.append_assoc, List.take_left' (by rw [List.length_take]; simp [k2]; omega), k3, List.append_assoc]
  have e1 : cur.toList.take (i * 4) = pcs (l.take i) := by
    rw [pcs_take l i (by omega), ← h5, List.take_take, show min (i * 4) (l.length * 4) = i * 4 by omega]
  have e2 : (pcs (l.take i) ++ pcs (l.drop (i + 1))).length = (l.length - 1) * 4 := by
    rw [← pcs_append, pcs_length, List.length_append, List.length_take, List.length_drop]; omega
  rw [e1, ← List.append_assoc, List.take_left' e2, ← pcs_append, List.eraseIdx_eq_take_drop_succ]
theorem zero27 (w : World) : (zeroValue 27).run Try.prog w = .ok (Value.agg #[.int .i64 0, .int .i64 0, .int .i64 0, .string ⟨#[]⟩]) w := by kernel_rfl
theorem run_clear_one (w : World) (g o c n : Nat) (hn : n = 1) (hc : ∀ j, j < 4 → (w.cell? ⟨g, o + j, none⟩).isSome = true) (hf : ∀ j, j < 4 → w.frozen? ⟨g, o + j, none⟩ = false) :
    (Builtin.clear_ #[33] 0 #[.slice (some ⟨g, o, none⟩) n c]).run Try.prog w = .ok (.tuple #[]) (w.setCells g o Pk.zero.cells) := by
  subst hn
  have hzc : (Builtin.zeroCells (Value.agg #[.int .i64 0, .int .i64 0, .int .i64 0, .string ⟨#[]⟩]).cells 1).toList = Pk.zero.cells := by kernel_rfl
  have hst := run_storeCells_cells (P := Try.prog) g o Pk.zero.cells 0 w (by simpa [Pk.cells] using hc) (by simpa [Pk.cells] using hf) (by intro v hv; simp [Pk.cells] at hv; rcases hv with rfl | rfl | rfl | rfl <;> rfl)
  simp only [Nat.add_zero] at hst
  simp [Builtin.clear_, run_underlying Try.underlying33, zero27, hzc, hst]
set_option maxHeartbeats 1600000 in
set_option maxRecDepth 100000 in
theorem delete_any (g cap : Nat) (l : List Pk) (i : Nat) (w : World) (hl : l.length ≤ 256) (hi : i < l.length) (h : Row w (.slice (some ⟨g, 0, none⟩) l.length cap) l) :
    Calls Try.prog 26 #[.slice (some ⟨g, 0, none⟩) l.length cap, .int .i64 i, .int .i64 (i + 1)] w (Gone g cap l i w) := by
  obtain ⟨i0, hi0, hz0, hz1, hz2⟩ := info_parts info27
  have hcap : l.length ≤ cap ∧ cap ≤ maxLen := by
    rcases h.form with ⟨h0, _⟩ | ⟨g', cap', cur, hv, h1, h2, h3, h4, h5⟩
    · cases h0
    · cases hv; exact ⟨h2, h3⟩
  obtain ⟨hc1, hc2⟩ := hcap
  unfold maxLen at hc2
  have HH := Lib.hid h
  clear h
  have hwr : IntKind.i64.wrap ((i : Int) + 1) = (i : Int) + 1 := by rw [IntKind.wrap_i64]; omega
  have hp0 : (0 : Int) ≤ (i : Int) + 1 := by omega
  have hp1 : (i : Int) + 1 ≤ (l.length : Int) := by omega
  have hp2 : ((i : Int) + 1).toNat = i + 1 := by omega
  have hne : ((i : Int) == (i : Int) + 1) = false := by simp; omega
  go_enter Try.func26, Try.ntmps26
  have hml : (pcs (l.drop (i + 1))).length = (l.length - (i + 1)) * 4 := by rw [pcs_length, List.length_drop]
  obtain ⟨A, hA, hnews⟩ : ∃ A : Addr, (if cap = i + 1 then some (⟨g, 0, none⟩ : Addr) else some ⟨g, (i + 1) * 4, none⟩) = some A ∧ Hid (∀ j u, (pcs (l.drop (i + 1)))[j]? = some u → w.drew.cell? (A.add j) = some u) := by
    by_cases h : cap = i + 1
    · refine ⟨⟨g, 0, none⟩, by simp [h], fun j u hu => ?_⟩
      have h0 : (pcs (l.drop (i + 1))).length = 0 := by rw [hml]; omega
      rw [List.length_eq_zero_iff.1 h0] at hu
      simp at hu
    · refine ⟨⟨g, (i + 1) * 4, none⟩, by simp [h], fun j u hu => ?_⟩
      rw [pcs_drop l (i + 1) (by omega), List.getElem?_drop] at hu
      have := HH.out.cells (g := g) rfl ((i + 1) * 4 + j) u hu
      rw [Addr.add_lit] at this ⊢
      simpa using this
  have s1 := Lib.hid hml
  have s2 : Hid (∀ u ∈ pcs (l.drop (i + 1)), u.oneCell' = true) := pcs_one _
  have hcells : ∀ k, k < l.length * 4 → (w.cell? ⟨g, k, none⟩).isSome = true := by
    intro k hk
    have hk' : k < (pcs l).length := by rw [pcs_length]; exact hk
    have := HH.out.cells (g := g) rfl k _ (List.getElem?_eq_getElem hk')
    rw [Addr.add_lit] at this
    simp at this
    rw [this]; rfl
  have s3 : Hid (∀ j, j < (pcs (l.drop (i + 1))).length → (w.drew.cell? ⟨g, 0 + i * 4 + j, none⟩).isSome = true ∧ w.drew.frozen? ⟨g, 0 + i * 4 + j, none⟩ = false) := by
    intro j hj
    rw [hml] at hj
    exact ⟨hcells _ (by omega), HH.out.free _⟩
  have hcl : (Builtin.clear_ #[33] 0 #[.slice (some ⟨g, (i + (l.length - (i + 1))) * 4, none⟩) (l.length - (i + (l.length - (i + 1)))) (cap - (i + (l.length - (i + 1))))]).run Try.prog (w.drew.setCells g (i * 4) (pcs (l.drop (i + 1)))) =
      .ok (.tuple #[]) ((w.drew.setCells g (i * 4) (pcs (l.drop (i + 1)))).setCells g ((i + (l.length - (i + 1))) * 4) Pk.zero.cells) := by
    rcases HH.out.form with ⟨h0, _⟩ | ⟨g', cap', cur, hv, h1, h2, h3, h4, h5⟩
    · cases h0
    cases hv
    have hh : w.drew.heap[g]? = some (.cells cur 27 (0, 0)) := h1
    obtain ⟨c1, k1, k2, k3⟩ := setCells_at (pcs (l.drop (i + 1))) (i * 4) _ _ hh (by rw [hml]; omega)
    refine run_clear_one _ _ _ _ _ (by omega) (fun j hj => ?_) (fun j hj => free_of k1 _)
    rw [cell_of k1]
    have : (i + (l.length - (i + 1))) * 4 + j < c1.size := by rw [k2]; omega
    simp [this]
  have hic : i ≤ cap := by omega
  clear hml hcells
  go_wp2_with fail
  go_region_law (refine step_append_room rfl (.tmp 22) (.tmp 25) 33 rfl 27 i0 4 Try.underlying33 hi0 hz1 g 0 i cap (by simp [Act.eval, Act.put]) A (l.length - (i + 1)) (cap - (i + 1)) (pcs (l.drop (i + 1))) (by simp [Act.eval, Act.put]) s1.out hnews.out s2.out (by omega) s3.out ?_)
  all_goals go_wp2
  all_goals go_ret
  all_goals
    rw [show i + (l.length - (i + 1)) = l.length - 1 by omega]
    refine ⟨rfl, gone_of hi HH.out 1, ?_⟩
    exact setCells_only (S := fun k => k = g) (w1 := w) (.inr rfl) _ _ _ (setCells_only (S := fun k => k = g) (w1 := w) (.inr rfl) _ _ _ (Only.refl _ _).drew)
end Go.Proofs.Ytcfmohhidbneoaa.Md
