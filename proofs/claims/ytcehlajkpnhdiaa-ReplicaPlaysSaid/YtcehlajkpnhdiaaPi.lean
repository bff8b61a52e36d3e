/- The steps of the plain machine, one by one; what holds of the leader. -/
import Derived.Test.YtcehlajkpnhdiaaRi
namespace Go.Proofs.Ytcehlajkpnhdiaa.Ra
open Go.Proofs.Ytcehlajkpnhdiaa.Rw Go.Proofs.Ytcehlajkpnhdiaa.Rp
set_option linter.unusedSimpArgs false
set_option linter.unusedVariables false
variable {N : Nat} {s : St}
inductive Step (N : Nat) (s : St) : St → Prop
  | stay : Step N s s
  | put (h0 : s.lead ≠ 0) (hl : s.his.length < 200) (v : Int) : Step N s (rise N (rowed s (s.epoch, v)))
  | cut (h0 : s.lead ≠ 0) (n : Nat) (hn : n < N) (hu : s.ups n = true) (hne : n + 1 ≠ s.lead) (hc : cuts (s.logs n) s.his = true) : Step N s { s with logs := upd s.logs n ((s.logs n).take (cutTo (s.logs n) s.his)) }
  | take (h0 : s.lead ≠ 0) (n : Nat) (hn : n < N) (hu : s.ups n = true) (hne : n + 1 ≠ s.lead) (hc : cuts (s.logs n) s.his = false) : Step N s (rise N (tookPre s n (s.logs n ++ more (s.logs n) s.his)))
  | failL (n : Nat) (hn : n < N) (hu : s.ups n = true) (he : n + 1 = s.lead) : Step N s { s with ups := upd s.ups n false, lead := 0 }
  | failI (h0 : s.lead ≠ 0) (n : Nat) (hn : n < N) (hu : s.ups n = true) (hne : n + 1 ≠ s.lead) (hi : s.ins n = true) : Step N s (rise N { s with ups := upd s.ups n false, ins := upd s.ins n false })
  | failO (n : Nat) (hn : n < N) (hu : s.ups n = true) (hne : n + 1 ≠ s.lead) (hi : ¬ (s.lead ≠ 0 ∧ s.ins n = true)) : Step N s { s with ups := upd s.ups n false }
  | elect (h0 : s.lead = 0) (i : Nat) (hi : i < N) (hu : s.ups i = true) (hin : s.ins i = true) : Step N s (rise N (crown0 s i))
  | begin (n : Nat) (hn : n < N) (hu : s.ups n = false) : Step N s { s with ups := upd s.ups n true }
  | shrink (h0 : s.lead ≠ 0) (n : Nat) (hn : n < N) (hne : n + 1 ≠ s.lead) (hi : s.ins n = true) : Step N s (rise N { s with ins := upd s.ins n false })
theorem first_is : ∀ (k i j : Nat), first s i k = some j → s.ups j = true ∧ s.ins j = true
  | 0, i, j, h => by cases h
  | k + 1, i, j, h => by
    unfold first at h
    split at h
    · cases h; assumption
    · exact first_is k (i + 1) j h
theorem step_do (N : Nat) (s : St) (d : Deed) : Step N s (doIt N s d).2 := by
  unfold doIt
  by_cases k1 : d.kind = 1
  · rw [if_pos k1]
    unfold put
    by_cases h0 : s.lead = 0
    · rw [if_pos h0]; exact .stay
    · rw [if_neg h0]
      by_cases hl : 200 ≤ s.his.length
      · rw [if_pos hl]; exact .stay
      · rw [if_neg hl]; exact .put h0 (by omega) d.v
  rw [if_neg k1]
  by_cases k6 : d.kind = 6
  · rw [if_pos k6]
    unfold Rp.elect
    by_cases h0 : s.lead = 0
    · rw [if_neg (by simp [h0])]
      cases hf : first s 0 N with
      | none => exact .stay
      | some i =>
        have h1 := first_lt _ _ _ hf
        have h2 := first_is _ _ _ hf
        exact .elect h0 i (by omega) h2.1 h2.2
    · rw [if_pos h0]; exact .stay
  rw [if_neg k6]
  split
  case isFalse => exact .stay
  case isTrue =>
    split
    · exact .stay
    · rename_i hq
      have hq' : isN N d.n = true := by rw [Bool.not_eq_false] at hq; exact hq
      obtain ⟨n, hn, hnN⟩ := isN_form hq'
      have e : d.n.toNat - 1 = n := by omega
      rw [e]
      split
      · unfold fetch
        by_cases q0 : s.lead = 0 ∨ s.ups n = false
        · rw [if_pos q0]; exact .stay
        · rw [if_neg q0]
          have h0 : s.lead ≠ 0 := fun q => q0 (.inl q)
          have hu : s.ups n = true := by
            cases h : s.ups n with
            | true => rfl
            | false => exact absurd (.inr h) q0
          by_cases hne : n + 1 = s.lead
          · rw [if_pos hne]; exact .stay
          · rw [if_neg hne]
            cases hc : cuts (s.logs n) s.his with
            | true => exact .cut h0 n hnN hu hne hc
            | false => exact .take h0 n hnN hu hne hc
      · split
        · unfold fail
          cases hu : s.ups n with
          | false => exact .stay
          | true =>
            rw [if_neg (by decide)]
            by_cases hne : n + 1 = s.lead
            · rw [if_pos hne]; exact .failL n hnN hu hne
            · rw [if_neg hne]
              by_cases hi : s.lead ≠ 0 ∧ s.ins n = true
              · rw [if_pos hi]; exact .failI hi.1 n hnN hu hne hi.2
              · rw [if_neg hi]; exact .failO n hnN hu hne hi
        · split
          · unfold begin_
            cases hu : s.ups n with
            | true => exact .stay
            | false => exact .begin n hnN hu
          · unfold shrink
            by_cases h0 : s.lead = 0
            · rw [if_pos h0]; exact .stay
            · rw [if_neg h0]
              by_cases q : n + 1 = s.lead ∨ s.ins n = false
              · rw [if_pos q]; exact .stay
              · rw [if_neg q]
                exact .shrink h0 n hnN (fun e => q (.inl e)) (by
                  cases h : s.ins n with
                  | true => rfl
                  | false => exact absurd (.inr h) q)
/-- The leader is up and in sync. -/
def LeadOk (s : St) : Prop := s.lead ≠ 0 → s.ins (s.lead - 1) = true ∧ s.ups (s.lead - 1) = true
theorem leadOk_init : LeadOk init := fun _ => ⟨rfl, rfl⟩
theorem leadOk_step {s' : St} (h : LeadOk s) (hs : Step N s s') : LeadOk s' := by
  cases hs with
  | stay => exact h
  | put h0 hl v => exact h
  | cut h0 n hn hu hne hc => exact h
  | take h0 n hn hu hne hc =>
    intro q
    obtain ⟨h1, h2⟩ := h q
    refine ⟨?_, h2⟩
    show (if _ then upd s.ins n true else s.ins) (s.lead - 1) = true
    split
    · unfold upd; split
      · rfl
      · exact h1
    · exact h1
  | failL n hn hu he => intro q; exact absurd rfl q
  | failI h0 n hn hu hne hi =>
    intro q
    obtain ⟨h1, h2⟩ := h q
    have e : s.lead - 1 ≠ n := by omega
    exact ⟨(upd_other _ _ _ e).trans h1, (upd_other _ _ _ e).trans h2⟩
  | failO n hn hu hne hi =>
    intro q
    obtain ⟨h1, h2⟩ := h q
    have q' : s.lead ≠ 0 := q
    have e : s.lead - 1 ≠ n := by omega
    exact ⟨h1, (upd_other _ _ _ e).trans h2⟩
  | elect h0 i hi hu hin =>
    intro q
    show (s.ins i && s.ups i) = true ∧ s.ups i = true
    rw [hu, hin]
    exact ⟨rfl, rfl⟩
  | begin n hn hu =>
    intro q
    obtain ⟨h1, h2⟩ := h q
    refine ⟨h1, ?_⟩
    show upd s.ups n true (s.lead - 1) = true
    unfold upd; split
    · rfl
    · exact h2
  | shrink h0 n hn hne hi =>
    intro q
    obtain ⟨h1, h2⟩ := h q
    have e : s.lead - 1 ≠ n := by omega
    exact ⟨(upd_other _ _ _ e).trans h1, h2⟩
theorem lead_step {s' : St} (hs : Step N s s') (h : s'.lead ≠ 0) : s'.lead = s.lead ∨ s'.epoch = s.epoch + 1 := by
  cases hs with
  | failL n hn hu he => exact absurd rfl h
  | elect h0 i hi hu hin => exact .inr rfl
  | _ => exact .inl rfl
end Go.Proofs.Ytcehlajkpnhdiaa.Ra
