/- Both sets together: what ReplicaPlays keeps. -/
import Derived.Test.YtcehlajkpnhdiaaQd
import Derived.Test.YtcehlajkpnhdiaaQn
import Derived.Test.YtcehlajkpnhdiaaQs
namespace Go.Proofs.Ytcehlajkpnhdiaa.Ra
open Go.RowKit Go.Proofs.Ytcehlajkpnhdiaa.Rw Go.Proofs.Ytcehlajkpnhdiaa.Rp
set_option linter.unusedSimpArgs false
set_option linter.unusedVariables false
variable {w w0 w1 : World} {m bn bi bm m2 bs N cap : Nat} {s sr : St} {C : List Cp}
def RB (m2 bs N : Nat) (vs2 : Nat → Value) (k : Nat) : Prop := k = m2 ∨ k = bs ∨ ∃ i, i < N ∧ (vs2 i).ownBlock = some k
def PInv (w0 : World) (m bn bi bm m2 bs N cap : Nat) (s sr : St) (w : World) : Prop :=
  ∃ vs vs2, Box w m bn bi bm N vs s ∧ RBox w m2 bs N cap vs2 sr ∧ Only (fun _ => False) w0 w ∧ (∀ k, Ft m bn bi bm N vs k → w0.heap.size ≤ k) ∧ (∀ k, RB m2 bs N vs2 k → w0.heap.size ≤ k ∧ ¬ Ft m bn bi bm N vs k)
theorem PInv.only (h : PInv w0 m bn bi bm m2 bs N cap s sr w) : Only (fun _ => False) w0 w := by
  obtain ⟨_, _, _, _, h3, _⟩ := h
  exact h3
theorem PInv.later (h : PInv w0 m bn bi bm m2 bs N cap s sr w) (ho : Only (fun _ => False) w w1) : PInv w0 m bn bi bm m2 bs N cap s sr w1 := by
  obtain ⟨vs, vs2, h1, h2, h3, h4, h5⟩ := h
  exact ⟨vs, vs2, h1.only ho (fun _ _ q => q), h2.only ho (fun _ _ q => q), h3.trans ho (fun _ _ q => q), h4, h5⟩
theorem PInv.new {r r2 : Value} (h : Newed N w0 r w) (h2 : RNewed N w r2 w1) : ∃ m bn bi bm m2 bs cap, r = .pointer (some ⟨m, 0, none⟩) ∧ r2 = .pointer (some ⟨m2, 0, none⟩) ∧ PInv w0 m bn bi bm m2 bs N cap init init w1 := by
  obtain ⟨m, bn, bi, bm, e1, k1, k2, k3⟩ := h
  obtain ⟨m2, bs, cap, e2, j1, j2, j3, j4⟩ := h2
  refine ⟨m, bn, bi, bm, m2, bs, cap, e1, e2, _, _, k1.only j2 (fun _ _ q => q), j1, k2.trans j2 (fun _ _ q => q), k3, ?_⟩
  have hs := k2.size
  rintro k (rfl | rfl | ⟨i, hi, hg⟩)
  · exact ⟨by omega, fun q => by have := k1.lt q; omega⟩
  · exact ⟨by omega, fun q => by have := k1.lt q; omega⟩
  · cases hg
theorem PInv.do1 (h : PInv w0 m bn bi bm m2 bs N cap s sr w) (hf : Fit N s) (he : s.epoch ≤ 1000000) (d : Deed) : Calls Try.prog 11 #[.pointer (some ⟨m, 0, none⟩), dv d] w fun e w' => e = .returned (.int .i64 (doIt N s d).1) ∧ PInv w0 m bn bi bm m2 bs N cap (doIt N s d).2 sr w' := by
  obtain ⟨vs, vs2, h1, h2, h3, h4, h5⟩ := h
  refine (do_any h1 hf he d).mono ?_
  rintro e w' ⟨rfl, vs', k1, k2, k3⟩
  have hold : ∀ k, Ft m bn bi bm N vs' k → Ft m bn bi bm N vs k ∨ w.heap.size ≤ k := by
    rintro k (q | q | q | q | ⟨i, hi, hg⟩)
    · exact .inl (.inl q)
    · exact .inl (.inr (.inl q))
    · exact .inl (.inr (.inr (.inl q)))
    · exact .inl (.inr (.inr (.inr (.inl q))))
    · rcases k3 i k hi hg with z | z
      · exact .inl (.inr (.inr (.inr (.inr ⟨i, hi, z⟩))))
      · exact .inr z
  refine ⟨rfl, vs', vs2, k1, h2.only k2 (fun k hk => (h5 k hk).2), h3.trans k2 (fun b hb q => by have := h4 b q; omega), ?_, ?_⟩
  · intro k hk
    rcases hold k hk with q | q
    · exact h4 k q
    · exact Nat.le_trans h3.size q
  · intro k hk
    refine ⟨(h5 k hk).1, fun q => ?_⟩
    rcases hold k q with z | z
    · exact (h5 k hk).2 z
    · have := h2.lt hk; omega
theorem PInv.do2 (h : PInv w0 m bn bi bm m2 bs N cap s sr w) (ha : All N sr C) (he : sr.epoch ≤ 1000000) (d : Deed) : Calls Try.prog 22 #[.pointer (some ⟨m2, 0, none⟩), dv d] w fun e w' => e = .returned (.int .i64 (doIt N sr d).1) ∧ PInv w0 m bn bi bm m2 bs N cap s (doIt N sr d).2 w' := by
  obtain ⟨vs, vs2, h1, h2, h3, h4, h5⟩ := h
  refine (rdo_any h2 ha he d).mono ?_
  rintro e w' ⟨rfl, vs', k1, k2, k3⟩
  have hR : ∀ k, RFt m2 bs k → RB m2 bs N vs2 k := by
    rintro k (q | q)
    · exact .inl q
    · exact .inr (.inl q)
  refine ⟨rfl, vs, vs', h1.only k2 (fun k hk q => (h5 k (hR k q)).2 hk), k1, h3.trans k2 (fun b hb q => by have := (h5 b (hR b q)).1; omega), h4, ?_⟩
  rintro k (q | q | ⟨i, hi, hg⟩)
  · exact h5 k (.inl q)
  · exact h5 k (.inr (.inl q))
  · rcases k3 i k hi hg with z | z
    · exact h5 k (.inr (.inr ⟨i, hi, z⟩))
    · exact ⟨Nat.le_trans h3.size z, fun q => by have := h1.lt q; omega⟩
theorem PInv.same (h : PInv w0 m bn bi bm m2 bs N cap s s w) (hf : Fit N s) : Calls Try.prog 23 #[.pointer (some ⟨m, 0, none⟩), .pointer (some ⟨m2, 0, none⟩)] w fun e w' => e = .returned (.bool true) ∧ PInv w0 m bn bi bm m2 bs N cap s s w' := by
  have h' := h
  obtain ⟨vs, vs2, h1, h2, h3, h4, h5⟩ := h
  refine (psame_any h1 h2 hf).mono ?_
  rintro e w' ⟨rfl, ho⟩
  exact ⟨rfl, h'.later ho⟩
end Go.Proofs.Ytcehlajkpnhdiaa.Ra
