/- Plain facts on the states that deeds lead to: packets are valid, numbers rise, none is above what was sent. -/
import Derived.Test.YtcfmohhidbneoaaMh
namespace Go.Proofs.Ytcfmohhidbneoaa.Mi
open Go.RowKit Go.Proofs.Ytcfmohhidbneoaa.Ma Go.Proofs.Ytcfmohhidbneoaa.Mw Go.Proofs.Ytcfmohhidbneoaa.Ms Go.Proofs.Ytcfmohhidbneoaa.Mu Go.Proofs.Ytcfmohhidbneoaa.Mg Go.Proofs.Ytcfmohhidbneoaa.Mh
set_option linter.unusedSimpArgs false
set_option linter.unusedVariables false
def Ok1 (x : Pk) : Prop := whoB x.d = true ∧ whoB x.f = true ∧ longB x.s = false
/-- Valid packets, rising numbers from 1 on, none above what was sent. -/
def GoodSt (st : St) : Prop := (∀ x ∈ st.l, Ok1 x ∧ 1 ≤ x.n ∧ x.n ≤ st.sent) ∧ st.l.Pairwise (fun a b => a.n < b.n) ∧ 0 ≤ st.sent
theorem mk_good {dd ff : Int} : ∀ {L : List ByteArray} {n : Int}, whoB dd = true → whoB ff = true → L.any longB = false → 0 ≤ n →
    (∀ x ∈ mk dd ff n L, Ok1 x ∧ n + 1 ≤ x.n ∧ x.n ≤ n + L.length) ∧ (mk dd ff n L).Pairwise (fun a b => a.n < b.n)
  | [], n, _, _, _, _ => by simp [mk]
  | s :: L, n, h1, h2, h3, h4 => by
    simp only [List.any_cons, Bool.or_eq_false_iff] at h3
    obtain ⟨i1, i2⟩ := mk_good (n := n + 1) h1 h2 h3.2 (by omega)
    simp only [mk]
    refine ⟨fun x hx => ?_, List.pairwise_cons.2 ⟨fun x hx => ?_, i2⟩⟩
    · rcases List.mem_cons.1 hx with rfl | hx
      · exact ⟨⟨h1, h2, h3.1⟩, by simp, by simp; omega⟩
      · obtain ⟨a, b, c⟩ := i1 x hx
        exact ⟨a, by omega, by simp; omega⟩
    · have := (i1 x hx).2.1; show n + 1 < x.n; omega
theorem good_send {st : St} (h : GoodSt st) (dd ff : Int) (L : List ByteArray) : GoodSt (sendS st dd ff L) := by
  unfold sendS
  split
  · exact h
  · rename_i hb
    split
    · exact h
    · obtain ⟨h1, h2, h3⟩ := h
      have hb' : sendBad dd ff L = false := by cases e : sendBad dd ff L <;> simp_all
      simp only [sendBad, Bool.or_eq_false_iff, Bool.not_eq_false'] at hb'
      obtain ⟨m1, m2⟩ := mk_good (n := st.sent) hb'.1.1 hb'.1.2 hb'.2 h3
      refine ⟨fun x hx => ?_, List.pairwise_append.2 ⟨h2, m2, fun a ha b hb => ?_⟩, by show 0 ≤ st.sent + (L.length : Int); omega⟩
      · show Ok1 x ∧ 1 ≤ x.n ∧ x.n ≤ st.sent + (L.length : Int)
        rcases List.mem_append.1 hx with hx | hx
        · obtain ⟨a, b, c⟩ := h1 x hx; exact ⟨a, b, by omega⟩
        · obtain ⟨a, b, c⟩ := m1 x hx; exact ⟨a, by omega, c⟩
      · have := (h1 a ha).2.2; have := (m1 b hb).2.1; omega
theorem good_take {st : St} (h : GoodSt st) (p : Int) : GoodSt (takeS st p) := by
  unfold takeS
  split
  · exact ⟨fun x hx => h.1 x (List.mem_of_mem_eraseIdx hx), h.2.1.sublist (List.eraseIdx_sublist _ _), h.2.2⟩
  · exact h
theorem good_twice {st : St} (h : GoodSt st) (p : Int) : GoodSt (twiceS st p) := by
  unfold twiceS
  split
  · exact good_send h _ _ _
  · exact h
theorem good_does {st : St} (h : GoodSt st) (x : Dd) : GoodSt (doesS st x) := by
  unfold doesS
  split
  · exact good_send h _ _ _
  · split
    · exact good_take h _
    · exact good_twice h _
theorem good_run (l : List Dd) : ∀ {st : St}, GoodSt st → GoodSt (run st l) := by
  induction l with
  | nil => intro st h; exact h
  | cons x l ih => intro st h; exact ih (good_does h x)
theorem good_empty : GoodSt ⟨0, []⟩ := ⟨by simp, by simp, by simp⟩
theorem fine_empty : Fine ⟨0, []⟩ 0 := ⟨by simp, by simp, by simp, by simp⟩
/-- A packet that is there can be sent again: nothing is wrong with it. -/
theorem bad_again {x : Pk} (h : Ok1 x) : sendBad x.d x.f [x.s] = false := by
  obtain ⟨h1, h2, h3⟩ := h
  simp [sendBad, h1, h2, h3]
theorem twice_at {st : St} {q : Nat} (hq : q < st.l.length) : twiceR st q = sendR st st.l[q].d st.l[q].f [st.l[q].s] ∧ twiceS st q = sendS st st.l[q].d st.l[q].f [st.l[q].s] := by
  have hx : st.l.getD q Pk.zero = st.l[q] := by simp [List.getD, hq]
  have hp : 0 ≤ (q : Int) ∧ (q : Int) < st.l.length := by omega
  unfold twiceR twiceS
  rw [if_pos hp, if_pos hp, show ((q : Nat) : Int).toNat = q by omega, hx]
  exact ⟨rfl, rfl⟩
theorem twice_full {st : St} (h : GoodSt st) {q : Nat} (hq : q < st.l.length) (hf : st.l.length = 256) : twiceR st q = 5 ∧ twiceS st q = st := by
  obtain ⟨e1, e2⟩ := twice_at hq
  have hb := bad_again (h.1 _ (List.getElem_mem hq)).1
  rw [e1, e2]
  have hl : 256 < st.l.length + [st.l[q].s].length := by simp; omega
  simp only [sendR, sendS, hb, Bool.false_eq_true, if_false, if_pos hl]
  exact ⟨trivial, trivial⟩
theorem twice_room {st : St} (h : GoodSt st) {q : Nat} (hq : q < st.l.length) (hf : st.l.length < 256) : twiceR st q = 0 ∧ twiceS st q = ⟨st.sent + 1, st.l ++ [⟨st.sent + 1, st.l[q].d, st.l[q].f, st.l[q].s⟩]⟩ := by
  obtain ⟨e1, e2⟩ := twice_at hq
  have hb := bad_again (h.1 _ (List.getElem_mem hq)).1
  rw [e1, e2]
  have hl : ¬ 256 < st.l.length + [st.l[q].s].length := by simp; omega
  simp only [sendR, sendS, hb, Bool.false_eq_true, if_false, if_neg hl]
  exact ⟨trivial, rfl⟩
end Go.Proofs.Ytcfmohhidbneoaa.Mi
