/- What is committed is kept, on the plain machine. -/
import Derived.Test.YtcehlajkpnhdiaaPg
namespace Go.Proofs.Ytcehlajkpnhdiaa.Ra
open Go.Proofs.Ytcehlajkpnhdiaa.Rw Go.Proofs.Ytcehlajkpnhdiaa.Rp
set_option linter.unusedSimpArgs false
set_option linter.unusedVariables false
variable {N : Nat} {s : St} {E : Int} {G : Int → List Cp} {C : List Cp}
theorem leastTo_his (s : St) : ∀ k, leastTo s k ≤ s.his.length
  | 0 => Nat.le_refl _
  | k + 1 => by
    have := leastTo_his s k
    unfold leastTo; split
    · omega
    · exact this
theorem leastTo_mat (s : St) {i : Nat} (hi : s.ins i = true) : ∀ k, i < k → leastTo s k ≤ s.mat i
  | 0, h => by omega
  | k + 1, h => by
    unfold leastTo
    by_cases e : i = k
    · subst e; rw [if_pos hi]; omega
    · have := leastTo_mat s hi k (by omega)
      split
      · omega
      · exact this
theorem leastTo_ext (s s' : St) (h1 : s'.his.length = s.his.length) : ∀ k, (∀ i, i < k → s'.ins i = s.ins i ∧ s'.mat i = s.mat i) → leastTo s' k = leastTo s k
  | 0, _ => h1
  | k + 1, h => by
    have ih := leastTo_ext s s' h1 k (fun i hi => h i (by omega))
    unfold leastTo
    rw [(h k (by omega)).1, (h k (by omega)).2, ih]
theorem leastTo_ge (s : St) (j : Nat) (h0 : j ≤ s.his.length) : ∀ k, (∀ i, i < k → s.ins i = true → j ≤ s.mat i) → j ≤ leastTo s k
  | 0, _ => h0
  | k + 1, h => by
    have ih := leastTo_ge s j h0 k (fun i hi => h i (by omega))
    unfold leastTo
    split
    · rename_i q
      have := h k (by omega) q
      omega
    · exact ih
theorem ep_of_take {a b : List Cp} {h k : Nat} (e : a.take h = b.take h) (hk : k < h) : ep a k = ep b k := by
  rw [← ep_take hk, e, ep_take hk]
/-- What both begin with is not cut off. -/
theorem cut_keeps {mine his : List Cp} (h1 : Good E G mine) (h2 : Good E G his) {h : Nat} (e : mine.take h = his.take h) (hm : h ≤ mine.length) (hh : h ≤ his.length) : h ≤ cutTo mine his := by
  by_cases h0 : h = 0
  · omega
  · have hc : ep mine (h - 1) = ep his (h - 1) := ep_of_take e (by omega)
    have he : ep mine (h - 1) ≤ lastE mine := h1.mono' (i := h - 1) (mine.length - 1) (by omega) (by omega)
    have hat : h - 1 + 1 ≤ endN his (lastE mine) := endN_ge (by omega) (by rw [← hc]; exact he)
    have hle := endN_le his (lastE mine)
    have hE : ep his (h - 1) ≤ endE his (lastE mine) := by
      rw [endE_eq (by omega)]
      exact h2.mono' (i := h - 1) _ (by omega) (by omega)
    have hown : h - 1 + 1 ≤ endN mine (endE his (lastE mine)) := endN_ge (by omega) (by rw [hc]; exact hE)
    unfold cutTo
    omega
/-- A beginning of the leader's log is not cut. -/
theorem prefix_not_cut {mine his : List Cp} (h1 : Good E G his) (hl : mine.length ≤ his.length) (e : mine = his.take mine.length) : cuts mine his = false := by
  by_cases hk : mine.length = 0
  · unfold cuts; rw [hk]; rfl
  · have hc : ep mine (mine.length - 1) = ep his (mine.length - 1) := by
      have e' : mine.take mine.length = his.take mine.length := by rw [List.take_length]; exact e
      exact ep_of_take e' (by omega)
    have hle : lastE mine = ep his (mine.length - 1) := hc
    have hat : mine.length - 1 + 1 ≤ endN his (lastE mine) := endN_ge (by omega) (by rw [hle]; exact Int.le_refl _)
    have hel := endN_le his (lastE mine)
    have hE : endE his (lastE mine) = lastE mine := by
      rw [endE_eq (by omega)]
      have q1 := endN_at (l := his) (e := lastE mine) (by omega)
      have q2 := h1.mono' (i := mine.length - 1) (endN his (lastE mine) - 1) (by omega) (by omega)
      rw [← hle] at q2
      omega
    have hown : mine.length - 1 + 1 ≤ endN mine (lastE mine) := endN_ge (by omega) (Int.le_refl _)
    unfold cuts cutTo
    rw [hE]
    simp
    intro _
    omega
/-- Ahead of rise. -/
structure KPre (N : Nat) (s : St) (C : List Cp) : Prop where
  len : C.length = s.high
  ins : ∀ i, i < N → s.ins i = true → (s.logs i).take s.high = C
  mat : s.lead ≠ 0 → ∀ i, i < N → s.mat i = 0 ∨ (s.logs i = s.his.take (s.logs i).length ∧ s.mat i ≤ (s.logs i).length ∧ (s.logs i).length ≤ s.his.length)
  leadMat : s.lead ≠ 0 → s.mat (s.lead - 1) = s.his.length
  one : ∃ i, i < N ∧ s.ins i = true
structure KInv (N : Nat) (s : St) (C : List Cp) : Prop extends KPre N s C where
  least : s.lead ≠ 0 → leastTo s N ≤ s.high
theorem KPre.high_le (h : KPre N s C) {i : Nat} (hi : i < N) (hin : s.ins i = true) : s.high ≤ (s.logs i).length := by
  have := congrArg List.length (h.ins i hi hin)
  rw [List.length_take, h.len] at this
  omega
theorem KPre.risen (h : KPre N s C) (h0 : s.lead ≠ 0) (hl : s.lead ≤ N) (hok : s.ins (s.lead - 1) = true) : ∃ C', KInv N (rise N s) C' ∧ C'.take C.length = C := by
  have hll : s.lead - 1 < N := by omega
  have hr : leastTo (rise N s) N = leastTo s N := leastTo_ext s (rise N s) rfl N (fun _ _ => ⟨rfl, rfl⟩)
  by_cases hT : leastTo s N ≤ s.high
  · have e : max s.high (leastTo s N) = s.high := by omega
    refine ⟨C, ⟨⟨?_, ?_, h.mat, h.leadMat, h.one⟩, fun _ => ?_⟩, List.take_length⟩
    · show C.length = max s.high (leastTo s N)
      rw [e]; exact h.len
    · intro i hi hin
      show (s.logs i).take (max s.high (leastTo s N)) = C
      rw [e]; exact h.ins i hi hin
    · rw [hr]; show leastTo s N ≤ max s.high (leastTo s N); omega
  · have e : max s.high (leastTo s N) = leastTo s N := by omega
    have hle := leastTo_his s N
    refine ⟨s.his.take (leastTo s N), ⟨⟨?_, ?_, h.mat, h.leadMat, h.one⟩, fun _ => ?_⟩, ?_⟩
    · show (s.his.take (leastTo s N)).length = max s.high (leastTo s N)
      rw [e, List.length_take]; omega
    · intro i hi hin
      show (s.logs i).take (max s.high (leastTo s N)) = s.his.take (leastTo s N)
      rw [e]
      have hm := leastTo_mat s hin N hi
      rcases h.mat h0 i hi with q | ⟨q1, q2, q3⟩
      · omega
      · rw [q1, List.take_take, show min (leastTo s N) (s.logs i).length = leastTo s N by omega]
    · rw [hr]; show leastTo s N ≤ max s.high (leastTo s N); omega
    · rw [List.take_take, h.len, show min s.high (leastTo s N) = s.high by omega]
      exact h.ins _ hll hok
theorem KInv.start (h1 : 1 ≤ N) : KInv N init [] := by
  refine ⟨⟨rfl, fun _ _ _ => rfl, fun _ i _ => .inl rfl, fun _ => rfl, ⟨0, by omega, rfl⟩⟩, fun _ => ?_⟩
  have := leastTo_his init N
  exact this
theorem KInv.step {s' : St} (h : KInv N s C) (hg : GInv N s G) (hk : LeadOk s) (hs : Step N s s') : ∃ C', KInv N s' C' ∧ C'.take C.length = C := by
  have hlN := hg.le
  have hhis : s.lead ≠ 0 → s.his.take s.high = C ∧ s.high ≤ s.his.length := fun h0 =>
    ⟨h.ins _ (by omega) (hk h0).1, h.toKPre.high_le (by omega) (hk h0).1⟩
  cases hs with
  | stay => exact ⟨C, h, List.take_length⟩
  | put h0 hl v =>
    obtain ⟨e1, e2⟩ := hhis h0
    have hh' : (rowed s (s.epoch, v)).his = s.his ++ [(s.epoch, v)] := by
      show upd s.logs (s.lead - 1) (s.his ++ [(s.epoch, v)]) (s.lead - 1) = _
      rw [upd_same]
    have hp : KPre N (rowed s (s.epoch, v)) C := by
      refine ⟨h.len, ?_, ?_, ?_, h.one⟩
      · intro i hi hin
        show (upd s.logs (s.lead - 1) (s.his ++ [(s.epoch, v)]) i).take s.high = C
        by_cases e : i = s.lead - 1
        · rw [e, upd_same, List.take_append_of_le_length e2]; exact e1
        · rw [upd_other _ _ _ e]; exact h.ins i hi hin
      · intro _ i hi
        rw [hh']
        show upd s.mat (s.lead - 1) (s.his.length + 1) i = 0 ∨ (upd s.logs (s.lead - 1) (s.his ++ [(s.epoch, v)]) i = (s.his ++ [(s.epoch, v)]).take (upd s.logs (s.lead - 1) (s.his ++ [(s.epoch, v)]) i).length ∧ upd s.mat (s.lead - 1) (s.his.length + 1) i ≤ (upd s.logs (s.lead - 1) (s.his ++ [(s.epoch, v)]) i).length ∧ (upd s.logs (s.lead - 1) (s.his ++ [(s.epoch, v)]) i).length ≤ (s.his ++ [(s.epoch, v)]).length)
        by_cases e : i = s.lead - 1
        · right
          rw [e, upd_same, upd_same]
          exact ⟨by rw [List.take_length], by simp, Nat.le_refl _⟩
        · rw [upd_other _ _ _ e, upd_other _ _ _ e]
          rcases h.mat h0 i hi with q | ⟨q1, q2, q3⟩
          · exact .inl q
          · refine .inr ⟨?_, q2, by simp; omega⟩
            rw [List.take_append_of_le_length q3]; exact q1
      · intro _
        rw [hh']
        show upd s.mat (s.lead - 1) (s.his.length + 1) (s.lead - 1) = _
        rw [upd_same]; simp
    exact hp.risen h0 hlN (hk h0).1
  | cut h0 n hn hu hne hc =>
    have hne' : s.lead - 1 ≠ n := by omega
    obtain ⟨e1, e2⟩ := hhis h0
    have hx : ∀ x, St.his { s with logs := upd s.logs n x } = s.his := fun x => upd_other _ _ _ hne'
    refine ⟨C, ⟨⟨h.len, ?_, ?_, ?_, h.one⟩, ?_⟩, List.take_length⟩
    · intro i hi hin
      show (upd s.logs n ((s.logs n).take (cutTo (s.logs n) s.his)) i).take s.high = C
      by_cases e : i = n
      · have hin' : s.ins n = true := by rw [← e]; exact hin
        have q1 := h.ins n hn hin'
        have q2 := h.toKPre.high_le hn hin'
        have q3 := cut_keeps (hg.logs n hn) (hg.logs (s.lead - 1) (by omega)) (h := s.high) (by rw [q1]; exact e1.symm) q2 e2
        rw [e, upd_same, List.take_take, show min s.high (cutTo (s.logs n) s.his) = s.high from Nat.min_eq_left q3]
        exact q1
      · rw [upd_other _ _ _ e]; exact h.ins i hi hin
    · intro _ i hi
      rw [hx]
      show s.mat i = 0 ∨ (upd s.logs n ((s.logs n).take (cutTo (s.logs n) s.his)) i = s.his.take (upd s.logs n ((s.logs n).take (cutTo (s.logs n) s.his)) i).length ∧ s.mat i ≤ (upd s.logs n ((s.logs n).take (cutTo (s.logs n) s.his)) i).length ∧ (upd s.logs n ((s.logs n).take (cutTo (s.logs n) s.his)) i).length ≤ s.his.length)
      by_cases e : i = n
      · left
        rcases h.mat h0 n hn with q | ⟨q1, q2, q3⟩
        · rw [e]; exact q
        · have := prefix_not_cut (hg.logs (s.lead - 1) (by omega)) q3 q1
          have hc' : cuts (s.logs n) (s.logs (s.lead - 1)) = true := hc
          rw [this] at hc'
          cases hc'
      · rw [upd_other _ _ _ e]; exact h.mat h0 i hi
    · intro _
      rw [hx]; exact h.leadMat h0
    · intro _
      have e : leastTo { s with logs := upd s.logs n ((s.logs n).take (cutTo (s.logs n) s.his)) } N = leastTo s N := leastTo_ext s _ (by rw [hx]) N (fun _ _ => ⟨rfl, rfl⟩)
      exact Nat.le_trans (Nat.le_of_eq e) (h.least h0)
  | take h0 n hn hu hne hc =>
    have hne' : s.lead - 1 ≠ n := by omega
    obtain ⟨e1, e2⟩ := hhis h0
    obtain ⟨p1, p2⟩ := not_cut (hg.logs n hn) (hg.logs (s.lead - 1) (by omega)) hc
    have hm : s.logs n ++ more (s.logs n) s.his = s.his.take ((s.logs n).length + 3) := take_more p2 p1
    rw [hm]
    have hx : ∀ x, (tookPre s n x).his = s.his := fun x => upd_other _ _ _ hne'
    obtain ⟨l', hl'⟩ : ∃ l', l' = s.his.take ((s.logs n).length + 3) := ⟨_, rfl⟩
    have hlen : l'.length = min ((s.logs n).length + 3) s.his.length := by rw [hl', List.length_take]
    have p1' : (s.logs n).length ≤ s.his.length := p1
    have hself : l' = s.his.take l'.length := by
      rw [hlen, hl']
      by_cases q : (s.logs n).length + 3 ≤ s.his.length
      · rw [Nat.min_eq_left q]
      · rw [List.take_of_length_le (by omega), List.take_of_length_le (by omega)]
    have hCl : s.high ≤ l'.length → l'.take s.high = C := by
      intro q
      rw [hself, List.take_take, Nat.min_eq_left q]; exact e1
    rw [← hl']
    have hinsn : (tookPre s n l').ins n = true → s.high ≤ l'.length := by
      intro hin
      have hin' : (if s.high ≤ l'.length ∧ l'.length = s.his.length then upd s.ins n true else s.ins) n = true := hin
      split at hin'
      · rename_i q; exact q.1
      · have := h.toKPre.high_le hn hin'
        omega
    have hinso : ∀ i, i ≠ n → (tookPre s n l').ins i = s.ins i := by
      intro i hi
      show (if s.high ≤ l'.length ∧ l'.length = s.his.length then upd s.ins n true else s.ins) i = s.ins i
      split
      · exact upd_other _ _ _ hi
      · rfl
    have hp : KPre N (tookPre s n l') C := by
      refine ⟨h.len, ?_, ?_, ?_, ?_⟩
      · intro i hi hin
        show (upd s.logs n l' i).take s.high = C
        by_cases e : i = n
        · rw [e] at hin
          rw [e, upd_same]; exact hCl (hinsn hin)
        · rw [upd_other _ _ _ e]
          rw [hinso i e] at hin
          exact h.ins i hi hin
      · intro _ i hi
        rw [hx]
        show upd s.mat n l'.length i = 0 ∨ (upd s.logs n l' i = s.his.take (upd s.logs n l' i).length ∧ upd s.mat n l'.length i ≤ (upd s.logs n l' i).length ∧ (upd s.logs n l' i).length ≤ s.his.length)
        by_cases e : i = n
        · rw [e, upd_same, upd_same]
          exact .inr ⟨hself, Nat.le_refl _, by omega⟩
        · rw [upd_other _ _ _ e, upd_other _ _ _ e]; exact h.mat h0 i hi
      · intro _
        rw [hx]
        show upd s.mat n l'.length (s.lead - 1) = _
        rw [upd_other _ _ _ hne']; exact h.leadMat h0
      · exact ⟨s.lead - 1, by omega, by rw [hinso _ hne']; exact (hk h0).1⟩
    exact hp.risen h0 hlN (by show (tookPre s n l').ins (s.lead - 1) = true; rw [hinso _ hne']; exact (hk h0).1)
  | failL n hn hu he =>
    exact ⟨C, ⟨⟨h.len, h.ins, fun q => absurd rfl q, fun q => absurd rfl q, h.one⟩, fun q => absurd rfl q⟩, List.take_length⟩
  | failI h0 n hn hu hne hi =>
    have hne' : s.lead - 1 ≠ n := by omega
    have hp : KPre N { s with ups := upd s.ups n false, ins := upd s.ins n false } C := by
      refine ⟨h.len, ?_, h.mat, h.leadMat, ⟨s.lead - 1, by omega, (upd_other _ _ _ hne').trans (hk h0).1⟩⟩
      intro i hi hin
      have hin' : upd s.ins n false i = true := hin
      refine h.ins i hi ?_
      by_cases e : i = n
      · rw [e, upd_same] at hin'; cases hin'
      · rwa [upd_other _ _ _ e] at hin'
    exact hp.risen h0 hlN ((upd_other _ _ _ hne').trans (hk h0).1)
  | failO n hn hu hne hi =>
    exact ⟨C, ⟨⟨h.len, h.ins, h.mat, h.leadMat, h.one⟩, fun q => Nat.le_trans (Nat.le_of_eq (leastTo_ext s { s with ups := upd s.ups n false } rfl N (fun _ _ => ⟨rfl, rfl⟩))) (h.least q)⟩, List.take_length⟩
  | elect h0 i hi hu hin =>
    have hp : KPre N (crown0 s i) C := by
      refine ⟨h.len, ?_, ?_, ?_, ⟨i, hi, by show (s.ins i && s.ups i) = true; rw [hu, hin]; rfl⟩⟩
      · intro j hj hjn
        have hjn' : (s.ins j && s.ups j) = true := hjn
        refine h.ins j hj ?_
        cases q : s.ins j with
        | true => rfl
        | false => rw [q] at hjn'; cases hjn'
      · intro _ j hj
        show upd (fun _ => 0) i (s.logs i).length j = 0 ∨ (s.logs j = (s.logs i).take (s.logs j).length ∧ upd (fun _ => 0) i (s.logs i).length j ≤ (s.logs j).length ∧ (s.logs j).length ≤ (s.logs i).length)
        by_cases e : j = i
        · rw [e, upd_same]
          exact .inr ⟨by rw [List.take_length], Nat.le_refl _, Nat.le_refl _⟩
        · rw [upd_other _ _ _ e]; exact .inl rfl
      · intro _
        show upd (fun _ => 0) i (s.logs i).length i = (s.logs i).length
        rw [upd_same]
    exact hp.risen (by show i + 1 ≠ 0; omega) (by show i + 1 ≤ N; omega) (by show (s.ins i && s.ups i) = true; rw [hu, hin]; rfl)
  | begin n hn hu =>
    exact ⟨C, ⟨⟨h.len, h.ins, h.mat, h.leadMat, h.one⟩, fun q => Nat.le_trans (Nat.le_of_eq (leastTo_ext s { s with ups := upd s.ups n true } rfl N (fun _ _ => ⟨rfl, rfl⟩))) (h.least q)⟩, List.take_length⟩
  | shrink h0 n hn hne hi =>
    have hne' : s.lead - 1 ≠ n := by omega
    have hp : KPre N { s with ins := upd s.ins n false } C := by
      refine ⟨h.len, ?_, h.mat, h.leadMat, ⟨s.lead - 1, by omega, (upd_other _ _ _ hne').trans (hk h0).1⟩⟩
      intro i hi hin
      have hin' : upd s.ins n false i = true := hin
      refine h.ins i hi ?_
      by_cases e : i = n
      · rw [e, upd_same] at hin'; cases hin'
      · rwa [upd_other _ _ _ e] at hin'
    exact hp.risen h0 hlN ((upd_other _ _ _ hne').trans (hk h0).1)
theorem high_step {s' : St} (hs : Step N s s') : s.high ≤ s'.high ∧ (s'.lead = 0 → s'.high = s.high) := by
  cases hs with
  | put h0 hl v => exact ⟨Nat.le_max_left _ _, fun q => absurd q h0⟩
  | take h0 n hn hu hne hc => exact ⟨Nat.le_max_left _ _, fun q => absurd q h0⟩
  | failI h0 n hn hu hne hi => exact ⟨Nat.le_max_left _ _, fun q => absurd q h0⟩
  | elect h0 i hi hu hin => exact ⟨Nat.le_max_left _ _, fun q => by cases q⟩
  | shrink h0 n hn hne hi => exact ⟨Nat.le_max_left _ _, fun q => absurd q h0⟩
  | _ => exact ⟨Nat.le_refl _, fun _ => rfl⟩
/-- All together: what holds of each state that can be reached. -/
structure All (N : Nat) (s : St) (C : List Cp) : Prop where
  fit : Fit N s
  ok : LeadOk s
  g : ∃ G, GInv N s G
  k : KInv N s C
theorem All.start (h1 : 1 ≤ N) (h5 : N ≤ 5) : All N init [] := ⟨fit_init h1 h5, leadOk_init, ⟨_, GInv.init h1⟩, KInv.start h1⟩
theorem All.next (h : All N s C) (d : Deed) : ∃ C', All N (doIt N s d).2 C' ∧ C'.take C.length = C := by
  obtain ⟨G, hG⟩ := h.g
  obtain ⟨C', h1, h2⟩ := h.k.step hG h.ok (step_do N s d)
  exact ⟨C', ⟨fit_do h.fit d, leadOk_step h.ok (step_do N s d), hG.step (step_do N s d), h1⟩, h2⟩
end Go.Proofs.Ytcehlajkpnhdiaa.Ra
