/- The reference's tests are the program's, on logs that are good. -/
import Derived.Test.YtcehlajkpnhdiaaQb
namespace Go.Proofs.Ytcehlajkpnhdiaa.Ra
open Go.Proofs.Ytcehlajkpnhdiaa.Rw Go.Proofs.Ytcehlajkpnhdiaa.Rp
set_option linter.unusedSimpArgs false
set_option linter.unusedVariables false
variable {N : Nat} {s : St} {E : Int} {G : Int → List Cp} {C : List Cp}
theorem has_endE {mine his : List Cp} (h1 : Good E G mine) (h2 : Good E G his) (hk : 0 < mine.length) : hasTo his (lastE mine) his.length = (endE his (lastE mine) == lastE mine) := by
  have hp : 1 ≤ lastE mine := h1.pos (mine.length - 1) (by omega)
  have hle := endN_le his (lastE mine)
  rw [Bool.eq_iff_iff, hasTo_iff, beq_iff_eq]
  constructor
  · rintro ⟨j, hj, he⟩
    have h3 : j + 1 ≤ endN his (lastE mine) := endN_ge hj (by rw [he]; exact Int.le_refl _)
    have h4 := endN_at (l := his) (e := lastE mine) (by omega)
    have h5 := h2.mono' (i := j) (endN his (lastE mine) - 1) (by omega) (by omega)
    rw [endE_eq (by omega)]
    omega
  · intro he
    by_cases hz : endN his (lastE mine) = 0
    · unfold endE at he
      rw [if_pos hz] at he
      omega
    · rw [endE_eq (by omega)] at he
      exact ⟨endN his (lastE mine) - 1, by omega, he⟩
theorem ref_cut {mine his : List Cp} (h1 : Good E G mine) (h2 : Good E G his) (hk : 0 < mine.length) : cuts mine his = (!(hasTo his (lastE mine) his.length) || decide (endN his (lastE mine) < mine.length)) := by
  have hb := has_endE h1 h2 hk
  have hd : decide (0 < mine.length) = true := by simp; omega
  unfold cuts
  rw [hd, Bool.true_and, hb]
  cases hq : (endE his (lastE mine) == lastE mine) with
  | false => rfl
  | true =>
    have he : endE his (lastE mine) = lastE mine := by simpa using hq
    have hown : mine.length - 1 + 1 ≤ endN mine (lastE mine) := endN_ge (by omega) (Int.le_refl _)
    have hle := endN_le mine (lastE mine)
    have hc : cutTo mine his = min (endN his (lastE mine)) mine.length := by
      unfold cutTo
      rw [he]; omega
    rw [hc]
    have : (min (endN his (lastE mine)) mine.length < mine.length) ↔ (endN his (lastE mine) < mine.length) := by omega
    simp [this]
theorem ref_to0 {mine his : List Cp} (h : endN his (lastE mine) = 0) : cutTo mine his = 0 := by unfold cutTo; omega
theorem ref_to {mine his : List Cp} (h : 0 < endN his (lastE mine)) : cutTo mine his = min (endN his (lastE mine)) (endN mine (ep his (endN his (lastE mine) - 1))) := by
  unfold cutTo; rw [endE_eq h]
theorem took_ins {n : Nat} {l : List Cp} (hh : s.high ≤ s.his.length) : (if s.high ≤ l.length ∧ l.length = s.his.length then upd s.ins n true else s.ins) = upd s.ins n (s.ins n || decide (l.length = s.his.length)) := by
  funext j
  by_cases h : l.length = s.his.length
  · rw [if_pos ⟨by omega, h⟩, decide_eq_true h, Bool.or_true]
  · rw [if_neg (fun q => h q.2), decide_eq_false h, Bool.or_false]
    unfold upd; split
    · rename_i e; rw [e]
    · rfl
end Go.Proofs.Ytcehlajkpnhdiaa.Ra
