/- The contracts of fail, begin (within Do) and shrink's pieces; 'Did': what a deed leaves. -/
import Derived.Test.YtcehlajkpnhdiaaRr
namespace Go.Proofs.Ytcehlajkpnhdiaa.Ra
open Go.RowKit Go.Proofs.Ytcehlajkpnhdiaa.Rw Go.Proofs.Ytcehlajkpnhdiaa.Rp
set_option linter.unusedSimpArgs false
set_option linter.unusedVariables false
variable {w w1 : World} {m bn bi bm N : Nat} {vs : Nat → Value} {s : St}
def Nextv (N : Nat) (vs vs' : Nat → Value) (w : World) : Prop := ∀ i g, i < N → (vs' i).ownBlock = some g → (vs i).ownBlock = some g ∨ w.heap.size ≤ g
/-- What a deed answers and leaves. -/
def Did (m bn bi bm N : Nat) (vs : Nat → Value) (rs : Int × St) (w : World) (e : Ending) (w' : World) : Prop :=
  e = .returned (.int .i64 rs.1) ∧ ∃ vs', Box w' m bn bi bm N vs' rs.2 ∧ Only (Ft m bn bi bm N vs) w w' ∧ Nextv N vs vs' w
theorem Nextv.refl (N : Nat) (vs : Nat → Value) (w : World) : Nextv N vs vs w := fun _ _ _ h => .inl h
set_option maxHeartbeats 800000 in
theorem fail_any (h : Box w m bn bi bm N vs s) (hf : Fit N s) (n : Nat) (hn : n < N) : Calls Try.prog 29 #[.pointer (some ⟨m, 0, none⟩), .int .i64 n] w (Did m bn bi bm N vs (fail N s n) w) := by
  have hl := hf.lead
  have hN := hf.n5
  have o0 : w.cell? ⟨m, 0, none⟩ = some (.slice (some ⟨bn, 0, none⟩) N N) := cell_of h.obj 0
  have o2 : w.cell? ⟨m, 2, none⟩ = some (.int .i64 s.lead) := cell_of h.obj 2
  have o3 : w.cell? ⟨m, 3, none⟩ = some (.slice (some ⟨bi, 0, none⟩) N N) := cell_of h.obj 3
  have p2 : w.frozen? ⟨m, 2, none⟩ = false := free_of h.obj 2
  have cu := h.up hn
  have pu : w.frozen? ⟨bn, n * 2 + 1, none⟩ = false := h.nodes.free _
  have ci : w.cell? ⟨bi, n, none⟩ = some (.bool (s.ins n)) := h.ins.cell n hn
  have pi : w.frozen? ⟨bi, n, none⟩ = false := h.ins.free _
  obtain ⟨q1, q2, q3, q4, q5, q6⟩ := Box.ne h
  have q4' := Ne.symm q4
  have hwr : IntKind.i64.wrap ((s.lead : Int) - 1) = (s.lead : Int) - 1 := by rw [IntKind.wrap_i64]; omega
  have HH := Lib.hid h
  have HF := Lib.hid hf
  clear h hf
  cases hu : s.ups n with
  | false =>
    rw [hu] at cu
    have HU := Lib.hid hu
    clear hu
    go_enter Try.func29, Try.ntmps29
    go_wp2_with fail
    go_ret
    have e : fail N s n = (14, s) := by simp [fail, HU.out]
    rw [e]
    exact ⟨rfl, vs, HH.out, Only.refl _ _, Nextv.refl _ _ _⟩
  | true =>
    rw [hu] at cu
    have HU := Lib.hid hu
    clear hu
    have hB := HH.out.setUp n false
    have HB := Lib.hid hB
    clear hB
    by_cases h1 : n + 1 = s.lead
    · have hd : ((n : Int) == (s.lead : Int) - 1) = true := by simp; omega
      go_enter Try.func29, Try.ntmps29
      go_wp2_with fail
      go_ret
      have e : fail N s n = (0, { s with ups := upd s.ups n false, lead := 0 }) := by simp [fail, HU.out, h1]
      rw [e]
      exact ⟨rfl, vs, HB.out.setObj 2 (.int .i64 0) _ (by simp) rfl rfl rfl rfl, ((Only.refl _ w).setCell (p := ⟨bn, n * 2 + 1, none⟩) (.inr (.inr (.inl rfl))) _).setCell (p := ⟨m, 2, none⟩) (.inr (.inl rfl)) _, Nextv.refl _ _ _⟩
    · have hd : ((n : Int) == (s.lead : Int) - 1) = false := by simp; omega
      have o1 : Only (Ft m bn bi bm N vs) w (w.setCell ⟨bn, n * 2 + 1, none⟩ (.bool false)) := (Only.refl _ w).setCell (p := ⟨bn, n * 2 + 1, none⟩) (.inr (.inr (.inl rfl))) _
      have H1 := Lib.hid o1
      have HD := Lib.hid h1
      clear o1 h1
      by_cases h2 : s.lead = 0
      · have hd2 : decide (0 < s.lead) = false := by simp; omega
        go_enter Try.func29, Try.ntmps29
        go_wp2_with fail
        go_ret
        have e : fail N s n = (0, { s with ups := upd s.ups n false }) := by simp [fail, HU.out, h2]
        rw [e]
        exact ⟨rfl, vs, HB.out, H1.out, Nextv.refl _ _ _⟩
      · have hd2 : decide (0 < s.lead) = true := by simp; omega
        cases hi : s.ins n with
        | false =>
          rw [hi] at ci
          have HI := Lib.hid hi
          clear hi
          go_enter Try.func29, Try.ntmps29
          go_wp2_with fail
          go_ret
          have e : fail N s n = (0, { s with ups := upd s.ups n false }) := by simp [fail, HU.out, HI.out, HD.out]
          rw [e]
          exact ⟨rfl, vs, HB.out, H1.out, Nextv.refl _ _ _⟩
        | true =>
          rw [hi] at ci
          have HI := Lib.hid hi
          clear hi
          have hB2 := HB.out.setIn n false
          have hF2 : Fit N { s with ups := upd s.ups n false, ins := upd s.ins n false } := ⟨HF.out.n1, HF.out.n5, HF.out.lead, HF.out.logs, HF.out.mat, HF.out.high, HF.out.ep⟩
          have HR := Lib.hid (rise_any hB2 hF2 h2)
          clear hB2 hF2
          go_enter Try.func29, Try.ntmps29
          go_wp2_with (go_at_call 30; refine HR.out.mono ?_; rintro e w' ⟨rfl, hb, ho⟩; have H5 := Lib.hid hb; have H6 := Lib.hid ho; clear hb ho)
          go_ret
          have e : fail N s n = (0, rise N { s with ups := upd s.ups n false, ins := upd s.ins n false }) := by simp [fail, HU.out, HI.out, HD.out, h2]
          rw [e]
          exact ⟨rfl, vs, H5.out, (H1.out.setCell (p := ⟨bi, n, none⟩) (.inr (.inr (.inr (.inl rfl)))) _).trans H6.out (fun b _ hb => .inl hb), Nextv.refl _ _ _⟩
end Go.Proofs.Ytcehlajkpnhdiaa.Ra
