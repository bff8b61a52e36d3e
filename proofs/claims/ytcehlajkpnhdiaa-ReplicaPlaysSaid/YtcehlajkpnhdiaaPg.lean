/- Log matching, on the plain machine: for each epoch there is one log that all logs with an entry of that epoch agree with. -/
import Derived.Test.YtcehlajkpnhdiaaPi
namespace Go.Proofs.Ytcehlajkpnhdiaa.Ra
open Go.Proofs.Ytcehlajkpnhdiaa.Rw Go.Proofs.Ytcehlajkpnhdiaa.Rp
set_option linter.unusedSimpArgs false
set_option linter.unusedVariables false
variable {N : Nat} {s : St}
def ep (l : List Cp) (k : Nat) : Int := (l.getD k cz).1
theorem ep_take {l : List Cp} {j k : Nat} (h : k < j) : ep (l.take j) k = ep l k := by
  unfold ep
  simp only [List.getD_eq_getElem?_getD]
  rw [List.getElem?_take_of_lt h]
theorem ep_app {l : List Cp} {x : Cp} {k : Nat} (h : k < l.length) : ep (l ++ [x]) k = ep l k := by
  unfold ep
  simp only [List.getD_eq_getElem?_getD]
  rw [List.getElem?_append_left h]
theorem ep_last (l : List Cp) (x : Cp) : ep (l ++ [x]) l.length = x.1 := by
  unfold ep
  simp [List.getD_eq_getElem?_getD]
structure Good (E : Int) (G : Int → List Cp) (l : List Cp) : Prop where
  mono : ∀ k, k + 1 < l.length → ep l k ≤ ep l (k + 1)
  pos : ∀ k, k < l.length → 1 ≤ ep l k
  le : ∀ k, k < l.length → ep l k ≤ E
  same : ∀ k, k < l.length → l.take (k + 1) = (G (ep l k)).take (k + 1)
variable {E : Int} {G : Int → List Cp} {l : List Cp}
theorem Good.nil : Good E G [] := ⟨fun k h => by simp at h, fun k h => by simp at h, fun k h => by simp at h, fun k h => by simp at h⟩
theorem Good.take (h : Good E G l) (j : Nat) : Good E G (l.take j) := by
  have hl : (l.take j).length = min j l.length := List.length_take
  refine ⟨fun k hk => ?_, fun k hk => ?_, fun k hk => ?_, fun k hk => ?_⟩
  · rw [hl] at hk
    rw [ep_take (by omega), ep_take (by omega)]
    exact h.mono k (by omega)
  · rw [hl] at hk
    rw [ep_take (by omega)]
    exact h.pos k (by omega)
  · rw [hl] at hk
    rw [ep_take (by omega)]
    exact h.le k (by omega)
  · rw [hl] at hk
    rw [ep_take (by omega), List.take_take, show min (k + 1) j = k + 1 by omega]
    exact h.same k (by omega)
theorem Good.mono' (h : Good E G l) {i : Nat} : ∀ j, i ≤ j → j < l.length → ep l i ≤ ep l j
  | 0, hi, _ => by
    have : i = 0 := by omega
    rw [this]; exact Int.le_refl _
  | j + 1, hi, hj => by
    by_cases e : i = j + 1
    · rw [e]; exact Int.le_refl _
    · exact Int.le_trans (Good.mono' h j (by omega) (by omega)) (h.mono j hj)
theorem endTo_ge (l : List Cp) (e : Int) : ∀ n k, k < n → ep l k ≤ e → k + 1 ≤ endTo l e n
  | 0, k, h, _ => by omega
  | n + 1, k, h, he => by
    unfold endTo
    by_cases q : e < (l.getD n cz).1
    · rw [if_pos q]
      refine endTo_ge l e n k ?_ he
      by_cases e' : k = n
      · subst e'; unfold ep at he; omega
      · omega
    · rw [if_neg q]; omega
theorem endTo_at (l : List Cp) (e : Int) : ∀ n, 0 < endTo l e n → ep l (endTo l e n - 1) ≤ e
  | 0, h => by simp [endTo] at h
  | n + 1, h => by
    unfold endTo at h ⊢
    by_cases q : e < (l.getD n cz).1
    · rw [if_pos q] at h ⊢; exact endTo_at l e n h
    · rw [if_neg q]
      show ep l n ≤ e
      unfold ep; omega
theorem endN_ge {l : List Cp} {e : Int} {k : Nat} (h : k < l.length) (he : ep l k ≤ e) : k + 1 ≤ endN l e := endTo_ge l e _ k h he
theorem endN_at {l : List Cp} {e : Int} (h : 0 < endN l e) : ep l (endN l e - 1) ≤ e := endTo_at l e _ h
theorem endE_eq {l : List Cp} {e : Int} (h : 0 < endN l e) : endE l e = ep l (endN l e - 1) := by
  unfold endE; rw [if_neg (by omega)]; rfl
/-- What is not cut off is the beginning of the leader's log. -/
theorem not_cut {mine his : List Cp} (h1 : Good E G mine) (h2 : Good E G his) (hc : cuts mine his = false) : mine.length ≤ his.length ∧ mine = his.take mine.length := by
  by_cases hk : mine.length = 0
  · have : mine = [] := List.length_eq_zero_iff.1 hk
    subst this
    exact ⟨Nat.zero_le _, by simp⟩
  · unfold cuts at hc
    have hd : decide (0 < mine.length) = true := by simp; omega
    rw [hd, Bool.true_and, Bool.or_eq_false_iff] at hc
    obtain ⟨q1, q2⟩ := hc
    have q1' : endE his (lastE mine) = lastE mine := by simpa using q1
    have q2' : mine.length ≤ cutTo mine his := by simpa using q2
    have hat : mine.length ≤ endN his (lastE mine) := by unfold cutTo at q2'; omega
    have hle := endN_le his (lastE mine)
    have hE : ep his (endN his (lastE mine) - 1) = lastE mine := by rw [← endE_eq (by omega), q1']
    have e1 := h2.same (endN his (lastE mine) - 1) (by omega)
    rw [hE, show endN his (lastE mine) - 1 + 1 = endN his (lastE mine) by omega] at e1
    have e2 := h1.same (mine.length - 1) (by omega)
    rw [show mine.length - 1 + 1 = mine.length by omega, List.take_length, show ep mine (mine.length - 1) = lastE mine from rfl] at e2
    refine ⟨by omega, ?_⟩
    have e3 : (his.take (endN his (lastE mine))).take mine.length = ((G (lastE mine)).take (endN his (lastE mine))).take mine.length := by rw [e1]
    rw [List.take_take, List.take_take, show min mine.length (endN his (lastE mine)) = mine.length by omega] at e3
    rw [e3]; exact e2
theorem take_more {mine his : List Cp} (h : mine = his.take mine.length) (hl : mine.length ≤ his.length) : mine ++ more mine his = his.take (mine.length + 3) := by
  unfold more
  rw [List.take_add, ← h]
/-- The ghost: an epoch's log. -/
structure GInv (N : Nat) (s : St) (G : Int → List Cp) : Prop where
  logs : ∀ j, j < N → Good s.epoch G (s.logs j)
  lead : s.lead ≠ 0 → G s.epoch = s.his
  le : s.lead ≤ N
  pos : 1 ≤ s.epoch
theorem GInv.init (h1 : 1 ≤ N) : GInv N init (fun _ => []) := ⟨fun _ _ => Good.nil, fun _ => rfl, h1, Int.le_refl _⟩
theorem Good.put (h : Good E G l) (his : List Cp) (hG : G E = his) (x : Cp) (hx : x.1 = E) : Good E (fun e => if e = E then his ++ [x] else G e) l := by
  refine ⟨h.mono, h.pos, h.le, fun k hk => ?_⟩
  have := h.same k hk
  rw [this]
  by_cases q : ep l k = E
  · have hlen := congrArg List.length this
    rw [q, hG, List.length_take, List.length_take] at hlen
    rw [if_pos q, q, hG, List.take_append_of_le_length (by omega)]
  · rw [if_neg q]
theorem Good.up (h : Good E G l) (x : List Cp) : Good (E + 1) (fun e => if e = E + 1 then x else G e) l := by
  refine ⟨h.mono, h.pos, fun k hk => by have := h.le k hk; omega, fun k hk => ?_⟩
  rw [h.same k hk, if_neg (by have := h.le k hk; omega)]
theorem Good.app (h : Good E G l) (hG : G E = l) (hE : 1 ≤ E) (x : Cp) (hx : x.1 = E) : Good E (fun e => if e = E then l ++ [x] else G e) (l ++ [x]) := by
  have hl : (l ++ [x]).length = l.length + 1 := by simp
  have hp := h.put l hG x hx
  refine ⟨fun k hk => ?_, fun k hk => ?_, fun k hk => ?_, fun k hk => ?_⟩
  · by_cases q : k + 1 < l.length
    · rw [ep_app (by omega), ep_app q]; exact h.mono k q
    · rw [ep_app (by omega), show k + 1 = l.length by omega, ep_last, hx]
      exact h.le k (by omega)
  · by_cases q : k < l.length
    · rw [ep_app q]; exact h.pos k q
    · rw [show k = l.length by omega, ep_last, hx]; exact hE
  · by_cases q : k < l.length
    · rw [ep_app q]; exact h.le k q
    · rw [show k = l.length by omega, ep_last, hx]; exact Int.le_refl _
  · by_cases q : k < l.length
    · rw [ep_app q, List.take_append_of_le_length (by omega)]
      exact hp.same k q
    · rw [show k = l.length by omega, ep_last, hx]
      simp
/-- The logs alone matter; the leader's log is as it was. -/
theorem GInv.keep {s' : St} (h : GInv N s G) (h1 : s'.logs = s.logs) (h2 : s'.epoch = s.epoch) (h3 : s'.lead = s.lead ∨ s'.lead = 0) : GInv N s' G := by
  refine ⟨fun j hj => by rw [h1, h2]; exact h.logs j hj, fun q => ?_, ?_, by rw [h2]; exact h.pos⟩
  · rcases h3 with e | e
    · rw [h2]; unfold St.his; rw [h1, e]; exact h.lead (by rw [← e]; exact q)
    · exact absurd e q
  · rcases h3 with e | e
    · rw [e]; exact h.le
    · rw [e]; exact Nat.zero_le _
/-- One log other than the leader's is another one. -/
theorem GInv.log {s' : St} (h : GInv N s G) {n : Nat} (x : List Cp) (hx : Good s.epoch G x) (hn : n + 1 ≠ s.lead) (h1 : s'.logs = upd s.logs n x) (h2 : s'.epoch = s.epoch) (h3 : s'.lead = s.lead) : GInv N s' G := by
  refine ⟨fun j hj => ?_, fun q => ?_, by rw [h3]; exact h.le, by rw [h2]; exact h.pos⟩
  · rw [h1, h2]
    by_cases e : j = n
    · rw [e, upd_same]; exact hx
    · rw [upd_other _ _ _ e]; exact h.logs j hj
  · rw [h3] at q
    rw [h2]; unfold St.his; rw [h1, h3, upd_other _ _ _ (by omega)]
    exact h.lead q
theorem GInv.step {s' : St} (h : GInv N s G) (hs : Step N s s') : ∃ G', GInv N s' G' := by
  cases hs with
  | stay => exact ⟨G, h⟩
  | put h0 hl v =>
    have hlN : s.lead - 1 < N := by have := h.le; omega
    refine ⟨fun e => if e = s.epoch then s.his ++ [(s.epoch, v)] else G e, fun j hj => ?_, fun q => ?_, h.le, h.pos⟩
    · show Good s.epoch _ (upd s.logs (s.lead - 1) (s.his ++ [(s.epoch, v)]) j)
      by_cases e : j = s.lead - 1
      · rw [e, upd_same]
        exact (h.logs _ hlN).app (h.lead h0) h.pos _ rfl
      · rw [upd_other _ _ _ e]
        exact (h.logs j hj).put s.his (h.lead h0) _ rfl
    · show (if s.epoch = s.epoch then s.his ++ [(s.epoch, v)] else G s.epoch) = upd s.logs (s.lead - 1) (s.his ++ [(s.epoch, v)]) (s.lead - 1)
      rw [if_pos rfl, upd_same]
  | cut h0 n hn hu hne hc => exact ⟨G, h.log _ ((h.logs n hn).take _) hne rfl rfl rfl⟩
  | take h0 n hn hu hne hc =>
    have hlN : s.lead - 1 < N := by have := h.le; omega
    obtain ⟨h1, h2⟩ := not_cut (h.logs n hn) (h.logs _ hlN) hc
    refine ⟨G, h.log (n := n) (s.logs n ++ more (s.logs n) s.his) ?_ hne rfl rfl rfl⟩
    have hm : s.logs n ++ more (s.logs n) s.his = s.his.take ((s.logs n).length + 3) := take_more h2 h1
    rw [hm]
    exact (h.logs _ hlN).take _
  | failL n hn hu he => exact ⟨G, h.keep rfl rfl (.inr rfl)⟩
  | failI h0 n hn hu hne hi => exact ⟨G, h.keep rfl rfl (.inl rfl)⟩
  | failO n hn hu hne hi => exact ⟨G, h.keep rfl rfl (.inl rfl)⟩
  | elect h0 i hi hu hin =>
    refine ⟨fun e => if e = s.epoch + 1 then s.logs i else G e, fun j hj => (h.logs j hj).up _, fun q => ?_, by show i + 1 ≤ N; omega, by show 1 ≤ s.epoch + 1; have := h.pos; omega⟩
    show (if s.epoch + 1 = s.epoch + 1 then s.logs i else G (s.epoch + 1)) = s.logs i
    rw [if_pos rfl]
  | begin n hn hu => exact ⟨G, h.keep rfl rfl (.inl rfl)⟩
  | shrink h0 n hn hne hi => exact ⟨G, h.keep rfl rfl (.inl rfl)⟩
/-- Two logs that have an entry of one epoch at one place are the same up to there. -/
theorem GInv.agree (h : GInv N s G) {i j k : Nat} (hi : i < N) (hj : j < N) (h1 : k < (s.logs i).length) (h2 : k < (s.logs j).length) (he : ep (s.logs i) k = ep (s.logs j) k) : (s.logs i).take (k + 1) = (s.logs j).take (k + 1) := by
  rw [(h.logs i hi).same k h1, (h.logs j hj).same k h2, he]
end Go.Proofs.Ytcehlajkpnhdiaa.Ra
