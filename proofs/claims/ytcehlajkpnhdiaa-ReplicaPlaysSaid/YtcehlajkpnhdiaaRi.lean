/- What a law keeps of the set: RInv; each call under it. The bounds hold whatever is done. -/
import Derived.Test.YtcehlajkpnhdiaaRd
import Derived.Test.YtcehlajkpnhdiaaRn
import Derived.Test.YtcehlajkpnhdiaaRm
import Derived.Test.YtcehlajkpnhdiaaRs
namespace Go.Proofs.Ytcehlajkpnhdiaa.Ra
open Go.RowKit Go.Proofs.Ytcehlajkpnhdiaa.Rw Go.Proofs.Ytcehlajkpnhdiaa.Rp
set_option linter.unusedSimpArgs false
set_option linter.unusedVariables false
variable {w w0 w1 : World} {m bn bi bm N : Nat} {vs : Nat → Value} {s : St}
theorem fit_rise (h : Fit N s) (h0 : s.lead ≠ 0) : Fit N (rise N s) := by
  have hl := h.lead
  have hle : s.his.length ≤ 200 := h.logs _ (by omega)
  have := leastTo_le s hle N
  have hh := h.high
  exact ⟨h.n1, h.n5, h.lead, h.logs, h.mat, by show max s.high (leastTo s N) ≤ 200; omega, h.ep⟩
theorem fit_set (h : Fit N s) (f g : Nat → Bool) : Fit N { s with ups := f, ins := g } := ⟨h.n1, h.n5, h.lead, h.logs, h.mat, h.high, h.ep⟩
theorem first_lt : ∀ (k i j : Nat), first s i k = some j → i ≤ j ∧ j < i + k
  | 0, i, j, h => by cases h
  | k + 1, i, j, h => by
    unfold first at h
    split at h
    · cases h; omega
    · have := first_lt k (i + 1) j h; omega
theorem more_len (mine his : List Cp) (h1 : mine.length ≤ 200) (h2 : his.length ≤ 200) : (mine ++ more mine his).length ≤ 200 := by
  unfold more
  rw [List.length_append, List.length_take, List.length_drop]
  omega
theorem fit_do (h : Fit N s) (d : Deed) : Fit N (doIt N s d).2 := by
  have hl := h.lead
  unfold doIt
  by_cases k1 : d.kind = 1
  · rw [if_pos k1]
    unfold put
    by_cases h0 : s.lead = 0
    · rw [if_pos h0]; exact h
    · rw [if_neg h0]
      split
      · exact h
      · exact fit_rise (h.rowed (s.epoch, d.v) (by show (s.logs (s.lead - 1)).length < 200; rename_i q; exact Nat.lt_of_not_le q)) h0
  rw [if_neg k1]
  by_cases k6 : d.kind = 6
  · rw [if_pos k6]
    unfold elect
    split
    · exact h
    · split
      · exact h
      · rename_i i hi
        have := first_lt _ _ _ hi
        exact fit_rise (h.crown0 i (by omega)) (by show i + 1 ≠ 0; omega)
  rw [if_neg k6]
  split
  case isFalse => exact h
  case isTrue =>
    split
    · exact h
    · rename_i hq
      have hq' : isN N d.n = true := by rw [Bool.not_eq_false] at hq; exact hq
      obtain ⟨n, hn, hnN⟩ := isN_form hq'
      have e : d.n.toNat - 1 = n := by omega
      rw [e]
      split
      · unfold fetch
        split
        · exact h
        · rename_i q0
          have h0 : s.lead ≠ 0 := fun q => q0 (.inl q)
          split
          · exact h
          · split
            · refine ⟨h.n1, h.n5, h.lead, ?_, h.mat, h.high, h.ep⟩
              intro i hi
              show (upd s.logs n _ i).length ≤ 200
              by_cases e : i = n
              · subst e; rw [upd_same, List.length_take]; have := h.logs i hi; omega
              · rw [upd_other _ _ _ e]; exact h.logs i hi
            · exact fit_rise (h.tookPre n _ (more_len _ _ (h.logs n hnN) (h.logs _ (by omega)))) h0
      · split
        · unfold fail
          split
          · exact h
          · split
            · exact ⟨h.n1, h.n5, Nat.zero_le _, h.logs, h.mat, h.high, h.ep⟩
            · split
              · rename_i q
                exact fit_rise (fit_set h _ _) q.1
              · exact fit_set h _ s.ins
        · split
          · unfold begin_
            split
            · exact h
            · exact fit_set h _ s.ins
          · unfold shrink
            split
            · exact h
            · rename_i q0
              split
              · exact h
              · exact fit_rise (fit_set h s.ups _) q0
theorem put_ep (v : Int) : (put N s v).2.epoch = s.epoch := by unfold put; split; rfl; split <;> rfl
theorem fetch_ep (n : Nat) : (fetch N s n).2.epoch = s.epoch := by unfold fetch; split; rfl; split; rfl; split <;> rfl
theorem fail_ep (n : Nat) : (fail N s n).2.epoch = s.epoch := by unfold fail; split; rfl; split; rfl; split <;> rfl
theorem begin_ep (n : Nat) : (begin_ s n).2.epoch = s.epoch := by unfold begin_; split <;> rfl
theorem shrink_ep (n : Nat) : (shrink N s n).2.epoch = s.epoch := by unfold shrink; split; rfl; split <;> rfl
theorem elect_ep : (elect N s).2.epoch = s.epoch ∨ (elect N s).2.epoch = s.epoch + 1 := by
  unfold elect
  split
  · exact .inl rfl
  · split
    · exact .inl rfl
    · exact .inr rfl
theorem epoch_do (s : St) (d : Deed) : s.epoch ≤ (doIt N s d).2.epoch ∧ (doIt N s d).2.epoch ≤ s.epoch + 1 := by
  have key : (doIt N s d).2.epoch = s.epoch ∨ (doIt N s d).2.epoch = s.epoch + 1 := by
    unfold doIt
    split
    · exact .inl (put_ep _)
    · split
      · exact elect_ep
      · split
        · split
          · exact .inl rfl
          · split
            · exact .inl (fetch_ep _)
            · split
              · exact .inl (fail_ep _)
              · split
                · exact .inl (begin_ep _)
                · exact .inl (shrink_ep _)
        · exact .inl rfl
  omega
theorem fit_init (h1 : 1 ≤ N) (h5 : N ≤ 5) : Fit N init := ⟨h1, h5, h1, fun _ _ => by simp [init], fun _ _ => by simp [init], by simp [init], by simp [init]⟩
/-- The set stands at m, and all its blocks are younger than w0; of w0 nothing has turned. -/
def RInv (w0 : World) (m bn bi bm N : Nat) (s : St) (w : World) : Prop := ∃ vs, Box w m bn bi bm N vs s ∧ Only (fun _ => False) w0 w ∧ ∀ k, Ft m bn bi bm N vs k → w0.heap.size ≤ k
theorem RInv.new {r : Value} (h : Newed N w0 r w) : ∃ m bn bi bm, r = .pointer (some ⟨m, 0, none⟩) ∧ RInv w0 m bn bi bm N init w := by
  obtain ⟨m, bn, bi, bm, h1, h2, h3, h4⟩ := h
  exact ⟨m, bn, bi, bm, h1, _, h2, h3, h4⟩
theorem RInv.later (h : RInv w0 m bn bi bm N s w) (ho : Only (fun _ => False) w w1) : RInv w0 m bn bi bm N s w1 := by
  obtain ⟨vs, h1, h2, h3⟩ := h
  exact ⟨vs, h1.only ho (fun _ _ q => q), h2.trans ho (fun _ _ q => q), h3⟩
theorem RInv.m_lt (h : RInv w0 m bn bi bm N s w) : m < w.heap.size ∧ w0.heap.size ≤ m := by
  obtain ⟨vs, h1, h2, h3⟩ := h
  exact ⟨lt_of_block h1.obj, h3 m (.inl rfl)⟩
theorem RInv.only (h : RInv w0 m bn bi bm N s w) : Only (fun _ => False) w0 w := by
  obtain ⟨vs, h1, h2, h3⟩ := h
  exact h2
theorem RInv.do_ (h : RInv w0 m bn bi bm N s w) (hf : Fit N s) (he : s.epoch ≤ 1000000) (d : Deed) : Calls Try.prog 11 #[.pointer (some ⟨m, 0, none⟩), dv d] w fun e w' => e = .returned (.int .i64 (doIt N s d).1) ∧ RInv w0 m bn bi bm N (doIt N s d).2 w' := by
  obtain ⟨vs, h1, h2, h3⟩ := h
  refine (do_any h1 hf he d).mono ?_
  rintro e w' ⟨rfl, vs', k1, k2, k3⟩
  refine ⟨rfl, vs', k1, h2.trans k2 (fun b hb q => by have := h3 b q; omega), ?_⟩
  rintro k (rfl | rfl | rfl | rfl | ⟨i, hi, hg⟩)
  · exact h3 _ (.inl rfl)
  · exact h3 _ (.inr (.inl rfl))
  · exact h3 _ (.inr (.inr (.inl rfl)))
  · exact h3 _ (.inr (.inr (.inr (.inl rfl))))
  · rcases k3 i k hi hg with q | q
    · exact h3 _ (.inr (.inr (.inr (.inr ⟨i, hi, q⟩))))
    · exact Nat.le_trans h2.size q
theorem RInv.leader (h : RInv w0 m bn bi bm N s w) : Calls Try.prog 13 #[.pointer (some ⟨m, 0, none⟩)] w fun e w' => e = .returned (.tuple #[.int .i64 s.lead, .int .i64 s.epoch]) ∧ Only (fun _ => False) w w' := by
  obtain ⟨vs, h1, h2, h3⟩ := h
  refine (leader_any h1).mono ?_
  rintro e w' ⟨rfl, n, rfl⟩
  exact ⟨rfl, (Only.refl _ _).drewN n⟩
theorem RInv.high (h : RInv w0 m bn bi bm N s w) : Calls Try.prog 17 #[.pointer (some ⟨m, 0, none⟩)] w fun e w' => e = .returned (.int .i64 s.high) ∧ w' = w := by
  obtain ⟨vs, h1, h2, h3⟩ := h
  exact high_any h1
theorem RInv.log (h : RInv w0 m bn bi bm N s w) (hf : Fit N s) (n : Nat) (hn : n < N) : Calls Try.prog 14 #[.pointer (some ⟨m, 0, none⟩), .int .i64 ((n : Int) + 1)] w fun e w' => ∃ u, e = .returned u ∧ Fresh w (s.logs n) u w' := by
  obtain ⟨vs, h1, h2, h3⟩ := h
  exact log_any h1 hf.n5 n hn (hf.logs n hn)
theorem RInv.logNot (h : RInv w0 m bn bi bm N s w) (hf : Fit N s) (n : Int) (hn : isN N n = false) : Calls Try.prog 14 #[.pointer (some ⟨m, 0, none⟩), .int .i64 n] w fun e w' => e = .returned (.slice none 0 0) ∧ w' = w := by
  obtain ⟨vs, h1, h2, h3⟩ := h
  exact log_not h1 hf.n5 n hn
theorem RInv.up (h : RInv w0 m bn bi bm N s w) (hf : Fit N s) (n : Nat) (hn : n < N) : Calls Try.prog 12 #[.pointer (some ⟨m, 0, none⟩), .int .i64 ((n : Int) + 1)] w fun e w' => e = .returned (.bool (s.ups n)) ∧ w' = w := by
  obtain ⟨vs, h1, h2, h3⟩ := h
  exact up_any h1 hf.n5 n hn
theorem RInv.upNot (h : RInv w0 m bn bi bm N s w) (hf : Fit N s) (n : Int) (hn : isN N n = false) : Calls Try.prog 12 #[.pointer (some ⟨m, 0, none⟩), .int .i64 n] w fun e w' => e = .returned (.bool false) ∧ w' = w := by
  obtain ⟨vs, h1, h2, h3⟩ := h
  exact up_not h1 hf.n5 n hn
theorem RInv.ins (h : RInv w0 m bn bi bm N s w) (hf : Fit N s) : Calls Try.prog 18 #[.pointer (some ⟨m, 0, none⟩)] w fun e w' => ∃ u, e = .returned u ∧ IRow w' w.heap.size u (inTo s N) ∧ Only (fun _ => False) w w' := by
  obtain ⟨vs, h1, h2, h3⟩ := h
  exact in_any h1 hf.n5
theorem RInv.comm (h : RInv w0 m bn bi bm N s w) (hf : Fit N s) : Calls Try.prog 16 #[.pointer (some ⟨m, 0, none⟩)] w (Comm s N w) := by
  obtain ⟨vs, h1, h2, h3⟩ := h
  exact comm_any h1 hf
/-- What a deed does to the bounds, together. -/
theorem fit_next (hf : Fit N s) (d : Deed) : Fit N (doIt N s d).2 ∧ s.epoch ≤ (doIt N s d).2.epoch ∧ (doIt N s d).2.epoch ≤ s.epoch + 1 := ⟨fit_do hf d, epoch_do s d⟩
end Go.Proofs.Ytcehlajkpnhdiaa.Ra
