/- The set and a slice of copies that is not the set's: both are kept. -/
import Derived.Test.YtcehlajkpnhdiaaMo
import Derived.Test.YtcehlajkpnhdiaaPk
namespace Go.Proofs.Ytcehlajkpnhdiaa.Ra
open Go.RowKit Go.Proofs.Ytcehlajkpnhdiaa.Rw Go.Proofs.Ytcehlajkpnhdiaa.Rp
set_option linter.unusedSimpArgs false
set_option linter.unusedVariables false
variable {w w0 w1 : World} {m bn bi bm N : Nat} {vs : Nat → Value} {s : St} {v : Value} {l : List Cp}
def RHold (w0 : World) (m bn bi bm N : Nat) (s : St) (v : Value) (l : List Cp) (w : World) : Prop :=
  ∃ vs, Box w m bn bi bm N vs s ∧ Only (fun _ => False) w0 w ∧ (∀ k, Ft m bn bi bm N vs k → w0.heap.size ≤ k) ∧ Row w v l ∧ ∀ g, v.ownBlock = some g → ¬ Ft m bn bi bm N vs g
theorem RHold.inv (h : RHold w0 m bn bi bm N s v l w) : RInv w0 m bn bi bm N s w := by
  obtain ⟨vs, h1, h2, h3, _⟩ := h
  exact ⟨vs, h1, h2, h3⟩
theorem RHold.row (h : RHold w0 m bn bi bm N s v l w) : Row w v l := by
  obtain ⟨vs, h1, h2, h3, h4, _⟩ := h
  exact h4
theorem RHold.nil (h : RInv w0 m bn bi bm N s w) : RHold w0 m bn bi bm N s (.slice none 0 0) [] w := by
  obtain ⟨vs, h1, h2, h3⟩ := h
  exact ⟨vs, h1, h2, h3, Row.nil _, fun g hg => by cases hg⟩
theorem RHold.later (h : RHold w0 m bn bi bm N s v l w) (ho : Only (fun _ => False) w w1) : RHold w0 m bn bi bm N s v l w1 := by
  obtain ⟨vs, h1, h2, h3, h4, h5⟩ := h
  exact ⟨vs, h1.only ho (fun _ _ q => q), h2.trans ho (fun _ _ q => q), h3, h4.only ho (fun _ _ q => q), h5⟩
theorem RHold.do_ (h : RHold w0 m bn bi bm N s v l w) (hf : Fit N s) (he : s.epoch ≤ 1000000) (d : Deed) : Calls Try.prog 11 #[.pointer (some ⟨m, 0, none⟩), dv d] w fun e w' => e = .returned (.int .i64 (doIt N s d).1) ∧ RHold w0 m bn bi bm N (doIt N s d).2 v l w' := by
  obtain ⟨vs, h1, h2, h3, h4, h5⟩ := h
  refine (do_any h1 hf he d).mono ?_
  rintro e w' ⟨rfl, vs', k1, k2, k3⟩
  refine ⟨rfl, vs', k1, h2.trans k2 (fun b hb q => by have := h3 b q; omega), ?_, h4.only k2 h5, ?_⟩
  · rintro k (rfl | rfl | rfl | rfl | ⟨i, hi, hg⟩)
    · exact h3 _ (.inl rfl)
    · exact h3 _ (.inr (.inl rfl))
    · exact h3 _ (.inr (.inr (.inl rfl)))
    · exact h3 _ (.inr (.inr (.inr (.inl rfl))))
    · rcases k3 i k hi hg with q | q
      · exact h3 _ (.inr (.inr (.inr (.inr ⟨i, hi, q⟩))))
      · exact Nat.le_trans h2.size q
  · intro g hg hF
    have hlt := h4.lt hg
    rcases hF with q | q | q | q | ⟨i, hi, q⟩
    · exact h5 g hg (.inl q)
    · exact h5 g hg (.inr (.inl q))
    · exact h5 g hg (.inr (.inr (.inl q)))
    · exact h5 g hg (.inr (.inr (.inr (.inl q))))
    · rcases k3 i g hi q with z | z
      · exact h5 g hg (.inr (.inr (.inr (.inr ⟨i, hi, z⟩))))
      · omega
theorem RInv.hold {u : Value} (h : RInv w0 m bn bi bm N s w) (hf : Fresh w l u w1) : RHold w0 m bn bi bm N s u l w1 := by
  obtain ⟨vs, h1, h2, h3⟩ := h
  refine ⟨vs, h1.only hf.2.1 (fun _ _ q => q), h2.trans hf.2.1 (fun _ _ q => q), h3, hf.1, fun g hg hF => ?_⟩
  have := hf.2.2 g hg
  have := h1.lt hF
  omega
theorem RHold.cut {a : Option Addr} {n c : Nat} (h : RHold w0 m bn bi bm N s (.slice a n c) l w) (k : Nat) (hk : k ≤ l.length) : RHold w0 m bn bi bm N s (.slice a k c) (l.take k) w := by
  obtain ⟨vs, h1, h2, h3, h4, h5⟩ := h
  rcases h4 with ⟨q, q'⟩ | ⟨g, cap, cur, q, q1, q2, q3⟩
  · cases q
    subst q'
    have : k = 0 := by simpa using hk
    rw [this]
    exact ⟨vs, h1, h2, h3, by simpa using Row.nil w, fun g hg => by cases hg⟩
  · cases q
    exact ⟨vs, h1, h2, h3, Row.cut (.inr ⟨g, _, cur, rfl, q1, q2, q3⟩) k c hk (by omega) (Nat.le_refl _), fun b hb => h5 b (by cases hb; rfl)⟩
end Go.Proofs.Ytcehlajkpnhdiaa.Ra
