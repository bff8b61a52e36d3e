/- Plain facts for MailOnce: what a deed leaves are old packets and new ones, whose numbers go on from what was sent; a number that was taken is not there. -/
import Derived.Test.YtcfmohhidbneoaaMi
namespace Go.Proofs.Ytcfmohhidbneoaa.Mn
open Go.RowKit Go.Proofs.Ytcfmohhidbneoaa.Ma Go.Proofs.Ytcfmohhidbneoaa.Mw Go.Proofs.Ytcfmohhidbneoaa.Ms Go.Proofs.Ytcfmohhidbneoaa.Mu Go.Proofs.Ytcfmohhidbneoaa.Mg Go.Proofs.Ytcfmohhidbneoaa.Mh Go.Proofs.Ytcfmohhidbneoaa.Mi
set_option linter.unusedSimpArgs false
set_option linter.unusedVariables false
/-- Old ones, then new ones. -/
structure Parts (st st' : St) (o : Nat) : Prop where
  le : o ≤ st'.l.length
  sent : st'.sent = st.sent + ((st'.l.length - o : Nat) : Int)
  old : ∀ i (h : i < st'.l.length), i < o → st'.l[i] ∈ st.l
  new : ∀ i (h : i < st'.l.length), o ≤ i → st'.l[i].n = st.sent + 1 + ((i - o : Nat) : Int)
theorem mk_num {t f : Int} : ∀ {L : List ByteArray} {n : Int} {i : Nat} (h : i < (mk t f n L).length), (mk t f n L)[i].n = n + 1 + i
  | s :: L, n, 0, _ => by simp [mk]
  | s :: L, n, i + 1, h => by
    simp only [mk, List.getElem_cons_succ]
    rw [mk_num]; omega
theorem parts_send (st : St) (dd ff : Int) (L : List ByteArray) : ∃ o, Parts st (sendS st dd ff L) o := by
  unfold sendS
  split
  · exact ⟨st.l.length, Nat.le_refl _, by simp, fun i h _ => List.getElem_mem h, fun i h q => by omega⟩
  · split
    · exact ⟨st.l.length, Nat.le_refl _, by simp, fun i h _ => List.getElem_mem h, fun i h q => by omega⟩
    · refine ⟨st.l.length, by simp, by simp [mk_length], fun i h q => ?_, fun i h q => ?_⟩
      · simp only [List.getElem_append_left q]; exact List.getElem_mem q
      · simp only [List.getElem_append_right q]
        rw [mk_num]
theorem parts_take (st : St) (p : Int) : ∃ o, Parts st (takeS st p) o := by
  unfold takeS
  split
  · refine ⟨(st.l.eraseIdx p.toNat).length, Nat.le_refl _, by simp, fun i h _ => List.mem_of_mem_eraseIdx (List.getElem_mem h), fun i h q => ?_⟩
    exact absurd h (by simp only []; omega)
  · exact ⟨st.l.length, Nat.le_refl _, by simp, fun i h _ => List.getElem_mem h, fun i h q => by omega⟩
theorem parts_does (st : St) (x : Dd) : ∃ o, Parts st (doesS st x) o := by
  unfold doesS
  split
  · exact parts_send _ _ _ _
  · split
    · exact parts_take _ _
    · unfold twiceS
      split
      · exact parts_send _ _ _ _
      · exact ⟨st.l.length, Nat.le_refl _, by simp, fun i h _ => List.getElem_mem h, fun i h q => by omega⟩
/-- What 'last' holds behind j packets. -/
def lastAt (st : St) (o j : Nat) : Int := st.sent + ((j - o : Nat) : Int)
theorem last_step {st st' : St} {o : Nat} (h : Parts st st' o) (hg : GoodSt st) (j : Nat) (hj : j < st'.l.length) :
    (st'.l[j].n ≤ lastAt st o j ∧ lastAt st o (j + 1) = lastAt st o j) ∨ (lastAt st o j < st'.l[j].n ∧ st'.l[j].n = lastAt st o j + 1 ∧ lastAt st o (j + 1) = st'.l[j].n) := by
  by_cases hjo : j < o
  · left
    have := (hg.1 _ (h.old j hj hjo)).2.2
    unfold lastAt
    refine ⟨by omega, by omega⟩
  · right
    have := h.new j hj (by omega)
    unfold lastAt
    refine ⟨by omega, by omega, by omega⟩
theorem rising {st : St} (h : GoodSt st) {i j : Nat} (hj : j < st.l.length) (hij : i < j) : st.l[i].n < st.l[j].n := List.pairwise_iff_getElem.1 h.2.1 i j (by omega) hj hij
/-- What was taken: none of it is there, nor will be. -/
def Gone1 (st : St) (tk : List Int) : Prop := ∀ t ∈ tk, t ≤ st.sent ∧ ∀ x ∈ st.l, x.n ≠ t
theorem mem_parts {st st' : St} {o : Nat} (h : Parts st st' o) {x : Pk} (hx : x ∈ st'.l) : x ∈ st.l ∨ st.sent < x.n := by
  obtain ⟨i, hi, rfl⟩ := List.mem_iff_getElem.1 hx
  by_cases hio : i < o
  · exact .inl (h.old i hi hio)
  · right; have := h.new i hi (by omega); omega
theorem gone_keep {st : St} {tk : List Int} (h : Gone1 st tk) (x : Dd) : Gone1 (doesS st x) tk := by
  obtain ⟨o, hp⟩ := parts_does st x
  intro t ht
  obtain ⟨h1, h2⟩ := h t ht
  refine ⟨by have := hp.sent; omega, fun y hy => ?_⟩
  rcases mem_parts hp hy with q | q
  · exact h2 y q
  · omega
theorem took {st : St} (hg : GoodSt st) {x : Dd} (hb : doesB st x = true) : doesP st x ∈ st.l ∧ ∀ y ∈ (doesS st x).l, y.n ≠ (doesP st x).n := by
  have hs : ¬ isSend x.k := by intro q; simp [doesB, q] at hb
  have ht : isTake x.k := by
    by_cases q : isTake x.k
    · exact q
    · simp [doesB, hs, q] at hb
  obtain ⟨e1, e2, e3⟩ := does_take (st := st) ht
  rw [e3] at hb
  have hp : 0 ≤ x.n ∧ x.n < st.l.length := by
    by_cases q : 0 ≤ x.n ∧ x.n < st.l.length
    · exact q
    · simp [takeR, q] at hb
  obtain ⟨q, hq⟩ := Int.eq_ofNat_of_zero_le hp.1
  have hql : q < st.l.length := by omega
  have eP : takeP st x.n = st.l[q] := by
    unfold takeP
    rw [if_pos hp, hq]
    simp [List.getD, hql]
  have eS : takeS st x.n = ⟨st.sent, st.l.eraseIdx q⟩ := by
    unfold takeS
    rw [if_pos hp, hq]; rfl
  rw [e1, e2, eP, eS]
  refine ⟨List.getElem_mem hql, fun y hy => ?_⟩
  obtain ⟨i, hi, rfl⟩ := List.mem_iff_getElem.1 hy
  simp only at hi
  have hil : i < st.l.length - 1 := by rw [List.length_eraseIdx] at hi; simp [hql] at hi; exact hi
  simp only [List.getElem_eraseIdx]
  split
  · rename_i h1
    have := rising hg hql h1; omega
  · rename_i h1
    have := rising hg (i := q) (j := i + 1) (by omega) (by omega); omega
theorem gone_more {st : St} {tk : List Int} (hg : GoodSt st) (h : Gone1 st tk) {x : Dd} (hb : doesB st x = true) : (∀ t ∈ tk, t ≠ (doesP st x).n) ∧ Gone1 (doesS st x) (tk ++ [(doesP st x).n]) := by
  obtain ⟨h1, h2⟩ := took hg hb
  refine ⟨fun t ht e => (h t ht).2 _ h1 e.symm, fun t ht => ?_⟩
  rcases List.mem_append.1 ht with q | q
  · exact gone_keep h x t q
  · simp at q
    subst q
    obtain ⟨o, hp⟩ := parts_does st x
    refine ⟨?_, h2⟩
    have := (hg.1 _ h1).2.2
    have := hp.sent
    omega
end Go.Proofs.Ytcfmohhidbneoaa.Mn
