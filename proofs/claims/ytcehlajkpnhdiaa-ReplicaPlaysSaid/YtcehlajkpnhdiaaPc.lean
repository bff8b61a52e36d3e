/- All catch up, on the plain machine: each fetch brings a replica nearer. -/
import Derived.Test.YtcehlajkpnhdiaaPk
import Derived.Test.YtcehlajkpnhdiaaRm
namespace Go.Proofs.Ytcehlajkpnhdiaa.Ra
open Go.Proofs.Ytcehlajkpnhdiaa.Rw Go.Proofs.Ytcehlajkpnhdiaa.Rp
set_option linter.unusedSimpArgs false
set_option linter.unusedVariables false
variable {N : Nat} {s : St} {E : Int} {G : Int → List Cp} {C : List Cp}
theorem cut_lt {mine his : List Cp} (h1 : Good E G mine) (hc : cuts mine his = true) : cutTo mine his < mine.length := by
  unfold cuts at hc
  rw [Bool.and_eq_true] at hc
  obtain ⟨q0, q1⟩ := hc
  have hk : 0 < mine.length := by simpa using q0
  by_cases h2 : cutTo mine his < mine.length
  · exact h2
  · have hne : endE his (lastE mine) ≠ lastE mine := by
      intro e
      rw [e] at q1
      simp at q1
      exact h2 q1
    have hp : 1 ≤ lastE mine := h1.pos (mine.length - 1) (by omega)
    by_cases hz : endN his (lastE mine) = 0
    · unfold cutTo; omega
    · have hlt : endE his (lastE mine) < lastE mine := by
        have := endN_at (l := his) (e := lastE mine) (by omega)
        rw [← endE_eq (by omega)] at this
        omega
      have hown := endN_le mine (endE his (lastE mine))
      by_cases hq : endN mine (endE his (lastE mine)) = mine.length
      · have := endN_at (l := mine) (e := endE his (lastE mine)) (by omega)
        rw [hq] at this
        have : lastE mine ≤ endE his (lastE mine) := this
        omega
      · unfold cutTo; omega
def Pre (mine his : List Cp) : Prop := mine.length ≤ his.length ∧ mine = his.take mine.length
def DoneOf (l his : List Cp) (b : Bool) (m : Nat) : Prop := l = his ∧ b = true ∧ m = his.length
instance (a b : List Cp) : Decidable (Pre a b) := by unfold Pre; exact inferInstance
instance (l his : List Cp) (b : Bool) (m : Nat) : Decidable (DoneOf l his b m) := by unfold DoneOf; exact inferInstance
def nuOf (l his : List Cp) (b : Bool) (m : Nat) : Nat := if DoneOf l his b m then 0 else if Pre l his then 1 + (his.length - l.length) else 202 + l.length
/-- How far a replica is from having all. -/
def nu (s : St) (n : Nat) : Nat := nuOf (s.logs n) s.his (s.ins n) (s.mat n)
theorem nuOf_done {l his : List Cp} {b : Bool} {m : Nat} (h : DoneOf l his b m) : nuOf l his b m = 0 := by unfold nuOf; rw [if_pos h]
theorem nuOf_pre {l his : List Cp} {b : Bool} {m : Nat} (h : Pre l his) : nuOf l his b m ≤ 1 + (his.length - l.length) := by
  unfold nuOf; rw [if_pos h]; split
  · omega
  · exact Nat.le_refl _
theorem nuOf_any (l his : List Cp) (b : Bool) (m : Nat) (h : his.length ≤ 200) : nuOf l his b m ≤ 202 + l.length := by
  unfold nuOf; split
  · omega
  · split <;> omega
theorem nuOf_is {l his : List Cp} {b : Bool} {m : Nat} (h : nuOf l his b m = 0) : DoneOf l his b m := by
  unfold nuOf at h
  by_cases q : DoneOf l his b m
  · exact q
  · rw [if_neg q] at h
    split at h <;> omega
theorem nu_le (h1 : s.his.length ≤ 200) (n : Nat) (h2 : (s.logs n).length ≤ 200) : nu s n ≤ 402 := by
  have := nuOf_any (s.logs n) s.his (s.ins n) (s.mat n) h1
  unfold nu; omega
theorem doIt_fetch (p : Nat) (hp : p < N) : doIt N s ⟨2, (p : Int) + 1, 0⟩ = fetch N s p := by
  have hq := isN_succ N p hp
  have e : ((p : Int) + 1).toNat - 1 = p := by omega
  unfold doIt
  simp [hq, e]
theorem doIt_begin (p : Nat) (hp : p < N) : doIt N s ⟨4, (p : Int) + 1, 0⟩ = begin_ s p := by
  have hq := isN_succ N p hp
  have e : ((p : Int) + 1).toNat - 1 = p := by omega
  unfold doIt
  simp [hq, e]
theorem doIt_elect : doIt N s ⟨6, 0, 0⟩ = elect N s := by
  unfold doIt
  simp
/-- What one fetch brings. -/
theorem fetch_near (h : All N s C) (h0 : s.lead ≠ 0) {p : Nat} (hp : p < N) (hu : s.ups p = true) (hne : p + 1 ≠ s.lead) :
    (fetch N s p).2.lead = s.lead ∧ (fetch N s p).2.ups = s.ups ∧ nu (fetch N s p).2 p ≤ nu s p - 1 ∧ ∀ n, n ≠ p → nu (fetch N s p).2 n = nu s n := by
  obtain ⟨G, hG⟩ := h.g
  have hlN := hG.le
  have hne' : s.lead - 1 ≠ p := by omega
  have hgm := hG.logs p hp
  have hgh : Good s.epoch G s.his := hG.logs (s.lead - 1) (by omega)
  have h200 := h.fit.logs p hp
  have h200' : s.his.length ≤ 200 := h.fit.logs (s.lead - 1) (by omega)
  have hhigh : s.high ≤ s.his.length := h.k.toKPre.high_le (i := s.lead - 1) (by omega) (h.ok h0).1
  unfold fetch
  rw [if_neg (by simp [h0, hu]), if_neg hne]
  cases hc : cuts (s.logs p) s.his with
  | true =>
    rw [if_pos rfl]
    have hx : St.his { s with logs := upd s.logs p ((s.logs p).take (cutTo (s.logs p) s.his)) } = s.his := upd_other _ _ _ hne'
    have hlt := cut_lt hgm hc
    have hnp : ¬ Pre (s.logs p) s.his := fun q => by
      have := prefix_not_cut hgh q.1 q.2
      rw [hc] at this; cases this
    have hnd : ¬ DoneOf (s.logs p) s.his (s.ins p) (s.mat p) := fun q => hnp ⟨by rw [q.1]; exact Nat.le_refl _, by rw [q.1, List.take_length]⟩
    have hnu : nu s p = 202 + (s.logs p).length := by unfold nu nuOf; rw [if_neg hnd, if_neg hnp]
    refine ⟨rfl, rfl, ?_, fun n hn => ?_⟩
    · rw [hnu]
      show nuOf (upd s.logs p ((s.logs p).take (cutTo (s.logs p) s.his)) p) (St.his { s with logs := upd s.logs p ((s.logs p).take (cutTo (s.logs p) s.his)) }) (s.ins p) (s.mat p) ≤ _
      rw [hx, upd_same]
      have := nuOf_any ((s.logs p).take (cutTo (s.logs p) s.his)) s.his (s.ins p) (s.mat p) h200'
      rw [List.length_take] at this
      omega
    · show nuOf (upd s.logs p ((s.logs p).take (cutTo (s.logs p) s.his)) n) (St.his { s with logs := upd s.logs p ((s.logs p).take (cutTo (s.logs p) s.his)) }) (s.ins n) (s.mat n) = nuOf (s.logs n) s.his (s.ins n) (s.mat n)
      rw [hx, upd_other _ _ _ hn]
  | false =>
    rw [if_neg (by decide)]
    obtain ⟨p1, p2⟩ := not_cut hgm hgh hc
    have hm : s.logs p ++ more (s.logs p) s.his = s.his.take ((s.logs p).length + 3) := take_more p2 p1
    rw [hm]
    obtain ⟨l', hl'⟩ : ∃ l', l' = s.his.take ((s.logs p).length + 3) := ⟨_, rfl⟩
    rw [← hl']
    have hlen : l'.length = min ((s.logs p).length + 3) s.his.length := by rw [hl', List.length_take]
    have hx : (took N s p l').his = s.his := upd_other _ _ _ hne'
    refine ⟨rfl, rfl, ?_, fun n hn => ?_⟩
    · have hlp : (took N s p l').logs p = l' := upd_same _ _ _
      have hmp : (took N s p l').mat p = l'.length := upd_same _ _ _
      show nuOf ((took N s p l').logs p) (took N s p l').his ((took N s p l').ins p) ((took N s p l').mat p) ≤ _
      by_cases hfull : (s.logs p).length = s.his.length
      · have e : l' = s.his := by rw [hl', List.take_of_length_le (by omega)]
        have hd : DoneOf ((took N s p l').logs p) (took N s p l').his ((took N s p l').ins p) ((took N s p l').mat p) := by
          rw [hx, hlp, hmp]
          refine ⟨e, ?_, by rw [e]⟩
          show (if s.high ≤ l'.length ∧ l'.length = s.his.length then upd s.ins p true else s.ins) p = true
          rw [if_pos ⟨by rw [e]; exact hhigh, by rw [e]⟩, upd_same]
        rw [nuOf_done hd]; exact Nat.zero_le _
      · have hnd : ¬ DoneOf (s.logs p) s.his (s.ins p) (s.mat p) := fun q => hfull (by rw [q.1])
        have hnu : nu s p = 1 + (s.his.length - (s.logs p).length) := by unfold nu nuOf; rw [if_neg hnd, if_pos (show Pre (s.logs p) s.his from ⟨p1, p2⟩)]
        have hpre : Pre l' s.his := by
          refine ⟨by omega, ?_⟩
          rw [hlen, hl']
          by_cases q : (s.logs p).length + 3 ≤ s.his.length
          · rw [Nat.min_eq_left q]
          · rw [List.take_of_length_le (by omega), List.take_of_length_le (by omega)]
        have := nuOf_pre (b := (took N s p l').ins p) (m := (took N s p l').mat p) hpre
        rw [hx, hlp, hnu]
        have p1' : (s.logs p).length ≤ s.his.length := p1
        omega
    · have hl : (took N s p l').logs n = s.logs n := upd_other _ _ _ hn
      have hm' : (took N s p l').mat n = s.mat n := upd_other _ _ _ hn
      have hi' : (took N s p l').ins n = s.ins n := by
        show (if s.high ≤ l'.length ∧ l'.length = s.his.length then upd s.ins p true else s.ins) n = s.ins n
        split
        · exact upd_other _ _ _ hn
        · rfl
      show nuOf ((took N s p l').logs n) (took N s p l').his ((took N s p l').ins n) ((took N s p l').mat n) = nuOf (s.logs n) s.his (s.ins n) (s.mat n)
      rw [hx, hl, hm', hi']
theorem first_some : ∀ (k i j : Nat), i ≤ j → j < i + k → s.ups j = true → s.ins j = true → ∃ x, first s i k = some x
  | 0, i, j, h1, h2, _, _ => by omega
  | k + 1, i, j, h1, h2, h3, h4 => by
    unfold first
    by_cases q : s.ups i = true ∧ s.ins i = true
    · exact ⟨i, by rw [if_pos q]⟩
    · rw [if_neg q]
      refine first_some k (i + 1) j ?_ (by omega) h3 h4
      by_cases e : i = j
      · subst e; exact absurd ⟨h3, h4⟩ q
      · omega
theorem commF_some : ∀ (k i j : Nat), i ≤ j → j < i + k → hasIt s j → ∃ x, commF s i k = some x
  | 0, i, j, h1, h2, _ => by omega
  | k + 1, i, j, h1, h2, h3 => by
    unfold commF
    by_cases q : hasIt s i
    · exact ⟨i, by rw [if_pos q]⟩
    · rw [if_neg q]
      refine commF_some k (i + 1) j ?_ (by omega) h3
      by_cases e : i = j
      · subst e; exact absurd h3 q
      · omega
/-- A leader is found where all are up. -/
theorem elect_ok (h : All N s C) (h0 : s.lead = 0) (hu : ∀ j, j < N → s.ups j = true) : (elect N s).1 = 0 ∧ (elect N s).2.lead ≠ 0 ∧ (elect N s).2.ups = s.ups := by
  obtain ⟨j, hj, hi⟩ := h.k.one
  obtain ⟨x, hx⟩ := first_some N 0 j (by omega) (by omega) (hu j hj) hi
  unfold elect
  rw [if_neg (by simp [h0]), hx]
  exact ⟨rfl, by show x + 1 ≠ 0; omega, rfl⟩
/-- The end: all have all. -/
theorem all_done (h : All N s C) (h0 : s.lead ≠ 0) (hd : ∀ n, n < N → n + 1 ≠ s.lead → nu s n = 0) : (∀ n, n < N → s.logs n = s.his ∧ s.ins n = true) ∧ s.high = s.his.length := by
  obtain ⟨G, hG⟩ := h.g
  have hlN := hG.le
  have hD : ∀ n, n < N → n + 1 ≠ s.lead → DoneOf (s.logs n) s.his (s.ins n) (s.mat n) := fun n hn hne => nuOf_is (hd n hn hne)
  have hhigh : s.high ≤ s.his.length := h.k.toKPre.high_le (i := s.lead - 1) (by omega) (h.ok h0).1
  have hge := leastTo_ge s s.his.length (Nat.le_refl _) N (fun i hi hin => by
    by_cases e : i + 1 = s.lead
    · have := h.k.leadMat h0
      rw [show i = s.lead - 1 by omega, this]; exact Nat.le_refl _
    · rw [(hD i hi e).2.2]; exact Nat.le_refl _)
  have hle := h.k.least h0
  refine ⟨fun n hn => ?_, by omega⟩
  by_cases e : n + 1 = s.lead
  · have e' : n = s.lead - 1 := by omega
    rw [e']
    exact ⟨rfl, (h.ok h0).1⟩
  · exact ⟨(hD n hn e).1, (hD n hn e).2.1⟩
theorem begin_ups (p : Nat) (hu : s.ups p = false) : (begin_ s p).2.ups = upd s.ups p true := by
  unfold begin_
  rw [if_neg (by rw [hu]; decide)]
end Go.Proofs.Ytcehlajkpnhdiaa.Ra
