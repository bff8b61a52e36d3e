/- Two objects side by side, the mail and the document's: what a loop over both keeps, and each method's contract in these words. -/
import Derived.Test.YtcfmohhidbneoaaMi
namespace Go.Proofs.Ytcfmohhidbneoaa.Mj
open Go.RowKit Go.Proofs.Ytcfmohhidbneoaa.Ma Go.Proofs.Ytcfmohhidbneoaa.Mw Go.Proofs.Ytcfmohhidbneoaa.Ms Go.Proofs.Ytcfmohhidbneoaa.Mc Go.Proofs.Ytcfmohhidbneoaa.Mt Go.Proofs.Ytcfmohhidbneoaa.Mu Go.Proofs.Ytcfmohhidbneoaa.Mr Go.Proofs.Ytcfmohhidbneoaa.Mq Go.Proofs.Ytcfmohhidbneoaa.Mf Go.Proofs.Ytcfmohhidbneoaa.Mg Go.Proofs.Ytcfmohhidbneoaa.Mh
set_option linter.unusedSimpArgs false
set_option linter.unusedVariables false
structure PInv (w2 : World) (m rb : Nat) (st sr : St) (v vr : Value) (wr : World) : Prop where
  mail : MailAt wr m st.sent v st.l
  ref : RefAt wr rb sr.sent vr sr.l
  only : Only (fun b => b = m ∨ b = rb) w2 wr
  row : ∀ b, v.ownBlock = some b → w2.heap.size ≤ b
  rrow : ∀ b, vr.ownBlock = some b → w2.heap.size ≤ b
  apart : ∀ b, v.ownBlock = some b → vr.ownBlock ≠ some b
  ne : m ≠ rb
variable {w2 wr w' : World} {m rb : Nat} {st sr st' : St} {v vr r : Value} {e : Ending}
theorem PInv.foot (h : PInv w2 m rb st sr v vr wr) {b : Nat} (hb : b < w2.heap.size) (hm : b ≠ m) : ¬ foot m v b := by
  rintro (q | q)
  · exact hm q
  · have := h.row b q; omega
theorem PInv.rfoot (h : PInv w2 m rb st sr v vr wr) {b : Nat} (hb : b < w2.heap.size) (hm : b ≠ rb) : ¬ Ms.foot rb vr b := by
  rintro (q | q)
  · exact hm q
  · have := h.rrow b q; omega
theorem PInv.later (h : PInv w2 m rb st sr v vr wr) (hq : Only (fun _ => False) wr w') : PInv w2 m rb st sr v vr w' :=
  ⟨⟨hq.same h.mail.1 (fun q => q), h.mail.2.only hq (fun _ _ q => q)⟩, ⟨hq.same h.ref.1 (fun q => q), h.ref.2.only hq (fun _ _ q => q)⟩, h.only.trans hq (fun _ _ q => q.elim), h.row, h.rrow, h.apart, h.ne⟩
theorem PInv.did (h : PInv w2 m rb st sr v vr wr) (hrb : rb < w2.heap.size) (hd : Did m v r st' wr e w') : ∃ v', e = .returned r ∧ PInv w2 m rb st' sr v' vr w' ∧ Only (Ms.foot m v) wr w' := by
  obtain ⟨he, v', h1, h2, h3⟩ := hd
  refine ⟨v', he, ⟨h1, ⟨h2.same h.ref.1 ?_, h.ref.2.only h2 (fun b hb q => ?_)⟩, h.only.trans h2 (fun b hb q => ?_), fun b hb => ?_, h.rrow, fun b hb q => ?_, h.ne⟩, h2⟩
  · exact h.foot hrb (fun e => h.ne e.symm)
  · rcases q with q | q
    · have := h.rrow b hb
      have hm := lt_of_block h.mail.1
      subst q
      exact h.ref.2.apart h.mail.1 (by decide) hb
    · exact h.apart b q hb
  · rcases q with q | q
    · exact .inl q
    · have := h.row b q; omega
  · rcases h3 b hb with q | q
    · exact h.row b q
    · have := h.only.size; omega
  · rcases h3 b hb with k | k
    · exact h.apart b k q
    · have := h.ref.2.lt q; omega
theorem PInv.rdid (h : PInv w2 m rb st sr v vr wr) (hm : m < w2.heap.size) (hd : RDid rb vr r st' wr e w') : ∃ v', e = .returned r ∧ PInv w2 m rb st st' v v' w' ∧ Only (Ms.foot rb vr) wr w' := by
  obtain ⟨he, v', h1, h2, h3⟩ := hd
  refine ⟨v', he, ⟨⟨h2.same h.mail.1 ?_, h.mail.2.only h2 (fun b hb q => ?_)⟩, h1, h.only.trans h2 (fun b hb q => ?_), h.row, fun b hb => ?_, fun b hb q => ?_, h.ne⟩, h2⟩
  · exact h.rfoot hm h.ne
  · rcases q with q | q
    · subst q
      exact h.mail.2.apart h.ref.1 (by decide) hb
    · exact h.apart b hb q
  · rcases q with q | q
    · exact .inr q
    · have := h.rrow b q; omega
  · rcases h3 b hb with q | q
    · exact h.rrow b q
    · have := h.only.size; omega
  · rcases h3 b q with k | k
    · exact h.apart b hb k
    · have := h.mail.2.lt hb; omega
theorem PInv.lt (h : PInv w2 m rb st sr v vr wr) : (∀ b, Ms.foot m v b → b < wr.heap.size) ∧ ∀ b, Ms.foot rb vr b → b < wr.heap.size := by
  refine ⟨fun b q => ?_, fun b q => ?_⟩
  · rcases q with q | q
    · rw [q]; exact lt_of_block h.mail.1
    · exact h.mail.2.lt q
  · rcases q with q | q
    · rw [q]; exact lt_of_block h.ref.1
    · exact h.ref.2.lt q
/-- A cell of a block that the call does not turn. -/
theorem only_cell {S : Nat → Prop} {w w' : World} (h : Only S w w') {b o : Nat} {u : Value} (hc : w.cell? ⟨b, o, none⟩ = some u) (hb : ¬ S b) : w'.cell? ⟨b, o, none⟩ = some u :=
  (World.cell?_of_block (w := w) (h.block b (World.block_lt_of_cell? _ _ hc) hb)).trans hc
end Go.Proofs.Ytcfmohhidbneoaa.Mj
