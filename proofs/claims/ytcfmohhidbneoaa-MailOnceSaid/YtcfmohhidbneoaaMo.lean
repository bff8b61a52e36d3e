/- A slice of deeds that came in, opened: the deeds as they lie, and as they are. -/
import Derived.Test.YtcfmohhidbneoaaMi
import Derived.ProofKit
import Derived.OpenShut
import Derived.Deep.Slices
import Derived.Deep.Strs
import Derived.Deep.Fields
import Derived.ChangeOld
namespace Go.Proofs.Ytcfmohhidbneoaa.Mo
open Go.RowKit Go.ChangeShapes Go.WideShapes Go.Deep Go.Proofs.Ytcfmohhidbneoaa.Ma Go.Proofs.Ytcfmohhidbneoaa.Mw Go.Proofs.Ytcfmohhidbneoaa.Ms Go.Proofs.Ytcfmohhidbneoaa.Mf Go.Proofs.Ytcfmohhidbneoaa.Mg Go.Proofs.Ytcfmohhidbneoaa.Mh
set_option linter.unusedSimpArgs false
set_option linter.unusedVariables false
variable {H : Type} {enc : TypeId × Value → H} {w : World} {spare : Nat → Bool} {held : Bool}
theorem cells32 : Try.prog.cellsOf 32 = 5 := by kernel_rfl
theorem cells9 : Try.prog.cellsOf 9 = 1 := by kernel_rfl
theorem cells3 : Try.prog.cellsOf 3 = 1 := by kernel_rfl
theorem cells30 : Try.prog.cellsOf 30 = 1 := by kernel_rfl
/-- A slice of texts. -/
theorem texts_open {n : Nat} {v : Value} {y : DataW H × List MemPlace} (h : DataW.trod enc Try.prog w 0 spare held n 30 [v] = some y) :
    ∃ a c L, v = .slice a (List.length L) c ∧ L.length ≤ c ∧ Texts w w.heap.size a L := by
  rcases open_strs Try.underlying30 Try.underlying9 cells9 h with ⟨hcs, _⟩ | ⟨a, len, cap, m, Sx, hcs, _, hl, hm, hmm, _, hx⟩
  · simp at hcs
    exact ⟨none, 0, [], hcs, Nat.le_refl _, ⟨.inl rfl, ⟨(fun b off e => .inl rfl), (by simp)⟩⟩⟩
  · simp at hcs
    have hlm : len ≤ m := by rw [hmm]; split <;> omega
    refine ⟨some a, cap, (List.range len).map Sx, by rw [hcs]; simp, by simpa using hl, ?_, ?_, ?_⟩
    · by_cases h0 : len = 0
      · left; rw [h0]; rfl
      · obtain ⟨b, off, spot⟩ := a
        have c0 := (hx 0 (by omega)).1
        have hspot : spot = none := by simpa [Addr.add] using World.cell?_spot c0
        subst hspot
        refine .inr ⟨b, off, rfl, fun i hi => ?_⟩
        simp at hi
        have := (hx i (by omega)).1
        rw [Addr.add_lit] at this
        simpa using this
    · intro b off e
      by_cases h0 : len = 0
      · left; rw [h0]; rfl
      · right
        have c0 := (hx 0 (by omega)).1
        cases e
        exact World.block_lt_of_cell? _ _ (by simpa using c0)
    · intro s hs
      simp at hs
      obtain ⟨i, hi, rfl⟩ := hs
      have := (hx i (by omega)).2
      unfold maxLen at this
      omega
theorem deed_open {n : Nat} {cs : List Value} {y : DataW H × List MemPlace} (h : DataW.trod enc Try.prog w 0 spare held n 32 cs = some y) :
    ∃ (d : DV) (x : Dd), cs = d.cells ∧ Fits w w.heap.size d x := by
  obtain ⟨xs, n', _, _, hlen, hxl, hg⟩ := DataW.trod_struct Try.underlying32 h
  rw [cells32] at hlen
  have ex (j : Nat) (hj : j < 5) : ∃ z, xs[j]? = some z := ⟨xs[j]'(by rw [hxl]; exact hj), List.getElem?_eq_getElem _⟩
  obtain ⟨z0, e0⟩ := ex 0 (by omega)
  obtain ⟨z1, e1⟩ := ex 1 (by omega)
  obtain ⟨z2, e2⟩ := ex 2 (by omega)
  obtain ⟨z3, e3⟩ := ex 3 (by omega)
  obtain ⟨z4, e4⟩ := ex 4 (by omega)
  match cs, hlen with
  | [c0, c1, c2, c3, c4], _ =>
    have g0 := (hg 0 _ rfl).trans e0
    have g1 := (hg 1 _ rfl).trans e1
    have g2 := (hg 2 _ rfl).trans e2
    have g3 := (hg 3 _ rfl).trans e3
    have g4 := (hg 4 _ rfl).trans e4
    simp [cells3, cells30] at g0 g1 g2 g3 g4
    obtain ⟨k, h0, _, _⟩ := DataW.trod_int Try.underlying3 g0
    obtain ⟨n, h1, _, _⟩ := DataW.trod_int Try.underlying3 g1
    obtain ⟨d, h2, _, _⟩ := DataW.trod_int Try.underlying3 g2
    obtain ⟨f, h3, _, _⟩ := DataW.trod_int Try.underlying3 g3
    obtain ⟨a, c, L, h4, h5, h6⟩ := texts_open g4
    simp at h0 h1 h2 h3
    subst h0 h1 h2 h3 h4
    exact ⟨⟨k, n, d, f, a, L.length, c⟩, ⟨k, n, d, f, L⟩, rfl, rfl, rfl, rfl, rfl, rfl, h5, h6⟩
/-- The argument. -/
theorem deeds_open {v : Value} {D : DataW H} {ps : List MemPlace} (h : DataW.Trod enc Try.prog w 0 (fun _ => true) true 22 v D ps) (hv : ∃ a len cap, v = .slice a len cap) :
    ∃ (A : Option Addr) (c : Nat) (rl : List DV) (ds : List Dd), v = .slice A rl.length c ∧ rl.length ≤ c ∧ rl.length ≤ 9223372036854775807 ∧ RawAt w A rl ∧ AllFit w w.heap.size rl ds := by
  obtain ⟨a, len, cap, rfl⟩ := hv
  obtain ⟨fuel, hf⟩ := h
  have hf' : DataW.trod enc Try.prog w 0 (fun _ => true) true fuel 22 [.slice a len cap] = some (D, ps) := by simpa [Value.cells] using hf
  rcases open_slice Try.underlying22 hf' with ⟨hcs, _⟩ | ⟨b, len', cap', m, n, D', Pl, hcs, _, hl, hm, hmm, _, hx⟩
  · simp at hcs
    obtain ⟨rfl, rfl, rfl⟩ := hcs
    exact ⟨none, 0, [], [], rfl, Nat.le_refl _, by simp, .inl rfl, rfl, fun i hi => by simp at hi⟩
  · simp at hcs
    obtain ⟨rfl, rfl, rfl⟩ := hcs
    have hlm : len ≤ m := by rw [hmm]; split <;> omega
    have each : ∀ i, i < len → ∃ (q : DV × Dd), (∀ j u, q.1.cells[j]? = some u → w.cell? ((b.add (i * 5)).add j) = some u) ∧ Fits w w.heap.size q.1 q.2 := by
      intro i hi
      obtain ⟨cs', h1, h2⟩ := hx i (by omega)
      rw [cells32] at h1
      obtain ⟨d, x, rfl, h3⟩ := deed_open h2
      obtain ⟨_, h4, h5⟩ := World.cells?_some h1
      refine ⟨⟨d, x⟩, fun j u hu => ?_, h3⟩
      have hj : j < 5 := by
        have := (List.getElem?_eq_some_iff.1 hu).1
        simpa [DV.cells] using this
      rw [h5 j hj, hu]
    haveI : Inhabited (DV × Dd) := ⟨⟨⟨0, 0, 0, 0, none, 0, 0⟩, ⟨0, 0, 0, 0, []⟩⟩⟩
    obtain ⟨q, hq⟩ := choose_lt each
    unfold maxLen at hm
    refine ⟨some b, cap, (List.range len).map (fun i => (q i).1), (List.range len).map (fun i => (q i).2), by simp, by simpa using hl, by simp; omega, ?_, by simp, fun i hi hi' => ?_⟩
    · by_cases h0 : len = 0
      · left; simp [h0]
      · obtain ⟨b, off, spot⟩ := b
        have c0 := (hq 0 (by omega)).1 0 _ rfl
        have hspot : spot = none := by simpa [Addr.add] using World.cell?_spot c0
        subst hspot
        refine .inr ⟨b, off, rfl, fun i hi => ?_⟩
        simp at hi
        have g := (hq i hi).1
        have e (j : Nat) : ((⟨b, off, none⟩ : Addr).add (i * 5)).add j = ⟨b, off + i * 5 + j, none⟩ := by rw [Addr.add_lit, Addr.add_lit]
        simp only [e] at g
        have t0 := g 0 _ rfl
        have t1 := g 1 _ rfl
        have t2 := g 2 _ rfl
        have t3 := g 3 _ rfl
        have t4 := g 4 _ rfl
        simp only [List.getElem_map, List.getElem_range]
        exact ⟨t0, t1, t2, t3, t4⟩
    · simp at hi
      simp only [List.getElem_map, List.getElem_range]
      exact (hq i hi).2
/-- A slice of texts as an argument. -/
theorem texts_arg {v : Value} {D : DataW H} {ps : List MemPlace} (h : DataW.Trod enc Try.prog w 0 (fun _ => true) true 30 v D ps) (hv : ∃ a len cap, v = .slice a len cap) :
    ∃ (A : Option Addr) (c : Nat) (T : List ByteArray), v = .slice A T.length c ∧ T.length ≤ c ∧ T.length ≤ 9223372036854775807 ∧ Texts w w.heap.size A T := by
  obtain ⟨a, len, cap, rfl⟩ := hv
  obtain ⟨fuel, hf⟩ := h
  have hf' : DataW.trod enc Try.prog w 0 (fun _ => true) true fuel 30 [.slice a len cap] = some (D, ps) := by simpa [Value.cells] using hf
  have hb : cap ≤ maxLen := by
    rcases open_strs Try.underlying30 Try.underlying9 cells9 hf' with ⟨hcs, _⟩ | ⟨a, len, cap, m, Sx, hcs, _, hl, hm, _⟩
    · simp at hcs
      rw [hcs.2.2]; exact Nat.zero_le _
    · simp at hcs
      rw [hcs.2.2]; exact hm
  obtain ⟨A, c, T, e, h1, h2⟩ := texts_open hf'
  injection e with e1 e2 e3
  subst e1 e2 e3
  unfold maxLen at hb
  exact ⟨_, _, T, rfl, h1, by omega, h2⟩
end Go.Proofs.Ytcfmohhidbneoaa.Mo
