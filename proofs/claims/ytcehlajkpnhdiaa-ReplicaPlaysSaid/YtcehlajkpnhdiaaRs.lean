/- The contracts of the reference's Same and of begins: two rows of copies are the same, or not. -/
import Derived.Test.YtcehlajkpnhdiaaRc
import Derived.Laws.StructEq
namespace Go.Proofs.Ytcehlajkpnhdiaa.Ra
open Go.RowKit Go.Proofs.Ytcehlajkpnhdiaa.Rw Go.Proofs.Ytcehlajkpnhdiaa.Rp
set_option linter.unusedSimpArgs false
set_option linter.unusedVariables false
def cpB (x y : Cp) : Bool := (x.1 == y.1) && (x.2 == y.2)
theorem cpB_true {x y : Cp} : cpB x y = true ↔ x = y := by
  obtain ⟨a, b⟩ := x
  obtain ⟨c, d⟩ := y
  simp [cpB]
theorem getD_get (l : List Cp) (j : Nat) (h : j < l.length) : l.getD j cz = l[j] := by simp [List.getD, h]
theorem stood45 : Try.prog.stoodInHeld 45 = false := by kernel_rfl
theorem str45 : Try.prog.underlying 45 = some (.struct (Try.prog.fieldsOf 45)) := by kernel_rfl
theorem run_neq45 (x y : Cp) (w : World) : (binOp .neq 45 (.agg #[.int .i64 x.1, .int .i64 x.2]) (.agg #[.int .i64 y.1, .int .i64 y.2])).run Try.prog w = .ok (.bool (!cpB x y)) w := by
  simp only [binOp]
  simp [Op.equal, Op.maxDepth]
  rw [run_equalIn_struct _ _ _ _ _ str45 stood45]
  simp only [Program.fieldsOf, Try.underlying45]
  simp [Op.eqFields, part, go_sem, Try.underlying3]
  by_cases h1 : x.1 = y.1 <;> by_cases h2 : x.2 = y.2 <;> simp [cpB, h1, h2]
/-- Whether two rows are the same; the world is as it was, but for draws. -/
def Alike (l k : List Cp) (w : World) (e : Ending) (w' : World) : Prop := e = .returned (.bool (decide (l = k))) ∧ ∃ n, w' = w.drewN n
theorem same_len (v u : Value) (l k : List Cp) (w : World) (hv : Row w v l) (hu : Row w u k) (h : l.length ≠ k.length) (hl : l.length ≤ 256) (hk : k.length ≤ 256) : Calls Try.prog 15 #[v, u] w (Alike l k w) := by
  obtain ⟨a, c, rfl⟩ := hv.slice
  obtain ⟨a', c', rfl⟩ := hu.slice
  have hne : ((l.length : Int) != (k.length : Int)) = true := by simp; omega
  have H := Lib.hid h
  clear hv hu h
  go_enter Try.func15, Try.ntmps15
  go_wp2_with fail
  go_ret
  have e : decide (l = k) = false := decide_eq_false (fun e => H.out (by rw [e]))
  exact ⟨by rw [e]; rfl, 0, rfl⟩
set_option maxHeartbeats 1600000 in
theorem same_any (v u : Value) (l k : List Cp) (w : World) (hv : Row w v l) (hu : Row w u k) (hl : l.length ≤ 256) (hk : k.length ≤ 256) : Calls Try.prog 15 #[v, u] w (Alike l k w) := by
  by_cases h : l.length = k.length
  case neg => exact same_len v u l k w hv hu h hl hk
  have hne : ((l.length : Int) != (k.length : Int)) = false := by simp; omega
  by_cases hz : l = []
  · subst hz
    have hkz : k = [] := List.length_eq_zero_iff.1 h.symm
    subst hkz
    obtain ⟨a, c, rfl⟩ := hv.slice
    obtain ⟨a', c', rfl⟩ := hu.slice
    clear hv hu h hne
    show Calls Try.prog 15 #[.slice a 0 c, .slice a' 0 c'] w (Alike [] [] w)
    go_enter Try.func15, Try.ntmps15
    go_wp2_with fail
    go_loop [5] (fun i => i = .int .i64 0) (fun _ => 0)
    case atStart => rfl
    case round =>
      subst hrel
      go_wp2_with fail
      go_ret
      exact ⟨by simp, 0, rfl⟩
  rcases hv with ⟨_, h0⟩ | ⟨g, cap, cur, rfl, hv1⟩
  · exact absurd h0 hz
  rcases hu with ⟨_, h0⟩ | ⟨g', cap', cur', rfl, hu1⟩
  · exfalso; apply hz; rw [h0] at h; exact List.length_eq_zero_iff.1 h
  have hv : Row w (.slice (some ⟨g, 0, none⟩) l.length cap) l := .inr ⟨g, cap, cur, rfl, hv1⟩
  have hu : Row w (.slice (some ⟨g', 0, none⟩) k.length cap') k := .inr ⟨g', cap', cur', rfl, hu1⟩
  have hA := fun i hi => hv.at i hi
  have hB := fun i hi => hu.at i hi
  have HA := Lib.hid hA
  have HB := Lib.hid hB
  have H := Lib.hid h
  clear hv hu hA hB h hv1 hu1
  go_enter Try.func15, Try.ntmps15
  go_wp2_with fail
  go_loopw [5] (fun i wr => ∃ (j : Nat), j ≤ l.length ∧ i = .int .i64 j ∧ Hid (l.take j = k.take j) ∧ ∃ n, wr = w.drewN n) (fun i _ => l.length - (intOf i).toNat)
  case atStart => exact ⟨0, by omega, rfl, rfl, 0, rfl⟩
  case round =>
    obtain ⟨j, hj, rfl, heq, n, rfl⟩ := hrel
    by_cases hlt : j < l.length
    · have hlt' : j < k.length := by have := H.out; omega
      obtain ⟨a0, a1⟩ := HA.out j hlt
      obtain ⟨b0, b1⟩ := HB.out j hlt'
      obtain ⟨x, hx⟩ : ∃ x, x = l.getD j cz := ⟨_, rfl⟩
      obtain ⟨y, hy⟩ : ∃ y, y = k.getD j cz := ⟨_, rfl⟩
      rw [← hx] at a0 a1
      rw [← hy] at b0 b1
      have HX := Lib.hid hx
      have HY := Lib.hid hy
      clear hx hy
      have hq := fun w => run_neq45 x y w
      have i0 : (0 : Int) ≤ (j : Int) := by omega
      have i1 : (j : Int) < (l.length : Int) := by omega
      have i2 : (j : Int) < (k.length : Int) := by omega
      cases hp : cpB x y with
      | true =>
        have HP := Lib.hid hp
        rw [hp] at hq
        clear hp
        go_wp2_with fail
        go_quiet (fail)
        go_wp2_with fail
        go_roundw
        case rel =>
          refine ⟨j + 1, by omega, by go_num, ?_, _, rfl⟩
          have : x = y := cpB_true.1 HP.out
          rw [HX.out, HY.out, getD_get _ _ hlt, getD_get _ _ hlt'] at this
          show l.take (j + 1) = k.take (j + 1)
          rw [List.take_succ_eq_append_getElem hlt, List.take_succ_eq_append_getElem hlt', heq.out, this]
        case measure => simp [intOf]; omega
      | false =>
        have HP := Lib.hid hp
        rw [hp] at hq
        clear hp
        go_wp2_with fail
        go_quiet (fail)
        go_wp2_with fail
        go_ret
        refine ⟨?_, n + nq, World.drewN_drewN ..⟩
        have ed : decide (l = k) = false := decide_eq_false (by
          intro e
          have hxy : x = y := by rw [HX.out, HY.out, e]
          have := cpB_true.2 hxy
          rw [HP.out] at this
          cases this)
        rw [ed]; rfl
    · obtain rfl : j = l.length := by omega
      go_wp2_with fail
      go_ret
      refine ⟨?_, _, rfl⟩
      have e := heq.out
      rw [List.take_length, H.out, List.take_length] at e
      rw [decide_eq_true e]; rfl
/-- Whether l is the beginning of k. -/
theorem begins_any (v u : Value) (l k : List Cp) (w : World) (hv : Row w v l) (hu : Row w u k) (hl : l.length ≤ 256) (hk : k.length ≤ 256) : Calls Try.prog 24 #[v, u] w fun e w' => e = .returned (.bool (decide (l = k.take l.length))) ∧ ∃ n, w' = w.drewN n := by
  obtain ⟨a, c, rfl⟩ := hv.slice
  obtain ⟨a', c', rfl⟩ := hu.slice
  by_cases h : l.length ≤ k.length
  · have hd : decide ((l.length : Int) ≤ (k.length : Int)) = true := by simp; omega
    have hform : Row w (.slice a' l.length c') (k.take l.length) ∧ l.length ≤ c' := by
      rcases hu with ⟨q, q'⟩ | ⟨g, cap, cur, q, q1, q2, q3⟩
      · subst q'
        injection q with q1 q2 q3
        subst q1 q3
        have : l.length = 0 := by simpa using h
        rw [this]
        exact ⟨by simpa using Row.nil w, Nat.le_refl _⟩
      · cases q
        exact ⟨Row.cut (.inr ⟨g, _, cur, rfl, q1, q2, q3⟩) l.length c' h (by omega) (Nat.le_refl _), by omega⟩
    have hc : (l.length : Int) ≤ (c' : Int) := by have := hform.2; omega
    have hz : (0 : Int) ≤ (l.length : Int) := by omega
    have HS := Lib.hid (same_any (.slice a l.length c) (.slice a' l.length c') l (k.take l.length) w hv hform.1 hl (by rw [List.length_take]; omega))
    clear hv hu hform
    go_enter Try.func24, Try.ntmps24
    go_wp2_with (go_at_call 15; refine HS.out.mono ?_; rintro e w' ⟨rfl, n, rfl⟩)
    go_ret
    exact ⟨rfl, n, rfl⟩
  · have hd : decide ((l.length : Int) ≤ (k.length : Int)) = false := by simp; omega
    have H := Lib.hid h
    clear hv hu
    go_enter Try.func24, Try.ntmps24
    go_wp2_with fail
    go_ret
    have ed : decide (l = k.take l.length) = false := decide_eq_false (by intro e; apply H.out; have := congrArg List.length e; rw [List.length_take] at this; omega)
    exact ⟨by rw [ed]; rfl, 0, rfl⟩
end Go.Proofs.Ytcehlajkpnhdiaa.Ra
