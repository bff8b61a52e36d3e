/- The contract of the reference's Same: two rows of packets are the same, or not. -/
import Derived.Test.YtcfmohhidbneoaaMq
import Derived.Laws.StructEq
namespace Go.Proofs.Ytcfmohhidbneoaa.Me
open Go.RowKit Go.Proofs.Ytcfmohhidbneoaa.Ma Go.Proofs.Ytcfmohhidbneoaa.Mw Go.Proofs.Ytcfmohhidbneoaa.Ms Go.Proofs.Ytcfmohhidbneoaa.Mc
set_option linter.unusedSimpArgs false
set_option linter.unusedVariables false
def pkB (x y : Pk) : Bool := (x.n == y.n) && ((x.d == y.d) && ((x.f == y.f) && (x.s.toList == y.s.toList)))
theorem pkB_true {x y : Pk} : pkB x y = true ↔ x = y := by
  constructor
  · intro h
    simp only [pkB, Bool.and_eq_true, beq_iff_eq] at h
    obtain ⟨h1, h2, h3, h4⟩ := h
    have hs : x.s = y.s := by
      have := beq_toListBytes x.s y.s
      rw [h4] at this
      simp at this
      have e : x.s.toList = y.s.toList := h4
      rw [ByteArray.toList_eq, ByteArray.toList_eq] at e
      have e2 : x.s.data = y.s.data := by
        have := congrArg List.toArray e
        simpa using this
      cases hx : x.s; cases hy : y.s; simp_all
    cases x; cases y; simp_all
  · rintro rfl; simp [pkB]
theorem fields27 : Try.prog.fieldsOf 27 = (match Try.prog.underlying 27 with | some (.struct fs) => fs | _ => #[]) := rfl
theorem stood27 : Try.prog.stoodInHeld 27 = false := by kernel_rfl
theorem str27 : Try.prog.underlying 27 = some (.struct (Try.prog.fieldsOf 27)) := by kernel_rfl
theorem run_eq27 (x y : Pk) (w : World) : (binOp .eql 27 x.agg y.agg).run Try.prog w = .ok (.bool (pkB x y)) w := by
  simp only [binOp, Pk.agg]
  simp [Op.equal, Op.maxDepth]
  rw [run_equalIn_struct _ _ _ _ _ str27 stood27]
  simp only [Program.fieldsOf, Try.underlying27]
  simp [Op.eqFields, part, go_sem, Try.underlying3, Try.underlying9]
  by_cases h1 : x.n = y.n <;> by_cases h2 : x.d = y.d <;> by_cases h3 : x.f = y.f <;> by_cases h4 : x.s.toList = y.s.toList <;> simp [pkB, h1, h2, h3, h4]
theorem run_neq27 (x y : Pk) (w : World) : (binOp .neq 27 x.agg y.agg).run Try.prog w = .ok (.bool (!pkB x y)) w := by
  simp only [binOp, Pk.agg]
  simp [Op.equal, Op.maxDepth]
  rw [run_equalIn_struct _ _ _ _ _ str27 stood27]
  simp only [Program.fieldsOf, Try.underlying27]
  simp [Op.eqFields, part, go_sem, Try.underlying3, Try.underlying9]
  by_cases h1 : x.n = y.n <;> by_cases h2 : x.d = y.d <;> by_cases h3 : x.f = y.f <;> by_cases h4 : x.s.toList = y.s.toList <;> simp [pkB, h1, h2, h3, h4]
/-- Whether two rows are the same; the world is as it was, but for draws. -/
def Alike (l k : List Pk) (w : World) (e : Ending) (w' : World) : Prop := (∃ b : Bool, e = .returned (.bool b) ∧ (b = true ↔ l = k)) ∧ ∃ n, w' = w.drewN n
theorem same_len (v u : Value) (l k : List Pk) (w : World) (hv : Row w v l) (hu : Row w u k) (h : l.length ≠ k.length) (hl : l.length ≤ 256) (hk : k.length ≤ 256) : Calls Try.prog 13 #[v, u] w (Alike l k w) := by
  obtain ⟨a, c, rfl⟩ : ∃ a c, v = .slice a l.length c := by
    rcases hv.form with ⟨h1, rfl⟩ | ⟨g, cap, cur, h1, _⟩
    · exact ⟨_, _, h1⟩
    · exact ⟨_, _, h1⟩
  obtain ⟨a', c', rfl⟩ : ∃ a c, u = .slice a k.length c := by
    rcases hu.form with ⟨h1, rfl⟩ | ⟨g, cap, cur, h1, _⟩
    · exact ⟨_, _, h1⟩
    · exact ⟨_, _, h1⟩
  have hne : ((l.length : Int) != (k.length : Int)) = true := by simp; omega
  have H := Lib.hid h
  clear hv hu h
  go_enter Try.func13, Try.ntmps13
  go_wp2_with fail
  go_ret
  exact ⟨⟨false, rfl, by simp; intro e; exact H.out (by rw [e])⟩, 0, rfl⟩
set_option maxHeartbeats 1600000 in
theorem same_any (v u : Value) (l k : List Pk) (w : World) (hv : Row w v l) (hu : Row w u k) (hl : l.length ≤ 256) (hk : k.length ≤ 256) : Calls Try.prog 13 #[v, u] w (Alike l k w) := by
  by_cases h : l.length = k.length
  case neg => exact same_len v u l k w hv hu h hl hk
  have hne : ((l.length : Int) != (k.length : Int)) = false := by simp; omega
  by_cases hz : l = []
  · subst hz
    have hkz : k = [] := List.length_eq_zero_iff.1 h.symm
    subst hkz
    obtain ⟨a, c, rfl⟩ : ∃ a c, v = .slice a 0 c := by
      rcases hv.form with ⟨h1, _⟩ | ⟨g, cap, cur, h1, _⟩
      · exact ⟨_, _, h1⟩
      · exact ⟨_, _, h1⟩
    obtain ⟨a', c', rfl⟩ : ∃ a c, u = .slice a 0 c := by
      rcases hu.form with ⟨h1, _⟩ | ⟨g, cap, cur, h1, _⟩
      · exact ⟨_, _, h1⟩
      · exact ⟨_, _, h1⟩
    clear hv hu h hne
    go_enter Try.func13, Try.ntmps13
    go_wp2_with fail
    go_loop [5] (fun i => i = .int .i64 0) (fun _ => 0)
    case atStart => rfl
    case round =>
      subst hrel
      go_wp2_with fail
      go_ret
      exact ⟨⟨true, rfl, by simp⟩, 0, rfl⟩
  rcases hv.form with ⟨_, h0⟩ | ⟨g, cap, cur, rfl, hg, hcap, _⟩
  · exact absurd h0 hz
  rcases hu.form with ⟨_, h0⟩ | ⟨g', cap', cur', rfl, hg', hcap', _⟩
  · exfalso; apply hz; rw [h0] at h; exact List.length_eq_zero_iff.1 h
  have hA := fun i hi => hv.at i hi
  have hB := fun i hi => hu.at i hi
  have HA := Lib.hid hA
  have HB := Lib.hid hB
  have H := Lib.hid h
  clear hv hu hA hB h hg hg'
  go_enter Try.func13, Try.ntmps13
  go_wp2_with fail
  go_loopw [5] (fun i wr => ∃ (j : Nat), j ≤ l.length ∧ i = .int .i64 j ∧ Hid (l.take j = k.take j) ∧ ∃ n, wr = w.drewN n) (fun i _ => l.length - (intOf i).toNat)
  case atStart => exact ⟨0, by omega, rfl, rfl, 0, rfl⟩
  case round =>
    obtain ⟨j, hj, rfl, heq, n, rfl⟩ := hrel
    by_cases hlt : j < l.length
    · have hlt' : j < k.length := by have := H.out; omega
      obtain ⟨a0, a1, a2, a3⟩ := HA.out j hlt
      obtain ⟨b0, b1, b2, b3⟩ := HB.out j hlt'
      obtain ⟨x, hx⟩ : ∃ x, x = l[j] := ⟨_, rfl⟩
      obtain ⟨y, hy⟩ : ∃ y, y = k[j] := ⟨_, rfl⟩
      rw [← hx] at a0 a1 a2 a3
      rw [← hy] at b0 b1 b2 b3
      have HX := Lib.hid hx
      have HY := Lib.hid hy
      clear hx hy
      have hq := fun w => run_neq27 x y w
      simp only [Pk.agg] at hq
      have i0 : (0 : Int) ≤ (j : Int) := by omega
      have i1 : (j : Int) < (l.length : Int) := by omega
      have i2 : (j : Int) < (k.length : Int) := by omega
      cases hp : pkB x y with
      | true =>
        have HP := Lib.hid hp
        rw [hp] at hq
        clear hp
        go_wp2_with fail
        go_quiet (fail)
        go_wp2_with fail
        go_roundw
        case rel =>
          refine ⟨j + 1, by omega, by go_num, ?_, _, rfl⟩
          have : x = y := pkB_true.1 HP.out
          rw [HX.out, HY.out] at this
          show l.take (j + 1) = k.take (j + 1)
          rw [List.take_succ_eq_append_getElem hlt, List.take_succ_eq_append_getElem hlt', heq.out, this]
        case measure => simp [intOf]; omega
      | false =>
        have HP := Lib.hid hp
        rw [hp] at hq
        clear hp
        go_wp2_with fail
        go_quiet (fail)
        go_wp2_with fail
        go_ret
        refine ⟨⟨false, rfl, ?_⟩, n + nq, World.drewN_drewN ..⟩
        simp
        rintro e
        have hxy : x = y := by rw [HX.out, HY.out]; simp [e]
        have := pkB_true.2 hxy
        rw [HP.out] at this
        cases this
    · obtain rfl : j = l.length := by omega
      go_wp2_with fail
      go_ret
      refine ⟨⟨true, rfl, ?_⟩, _, rfl⟩
      simp
      have e := heq.out
      rw [List.take_length, H.out, List.take_length] at e
      exact e
end Go.Proofs.Ytcfmohhidbneoaa.Me
