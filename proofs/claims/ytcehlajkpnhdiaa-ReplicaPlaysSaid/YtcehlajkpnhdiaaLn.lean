/- ReplicaNone: replicas that are none have nothing: the law's walk. -/
import Derived.Test.YtcehlajkpnhdiaaRk
namespace Go.Proofs.Ytcehlajkpnhdiaa.Ln
open Go.RowKit Go.Proofs.Ytcehlajkpnhdiaa.Rw Go.Proofs.Ytcehlajkpnhdiaa.Rp Go.Proofs.Ytcehlajkpnhdiaa.Ra
set_option linter.unusedSimpArgs false
set_option linter.unusedVariables false
theorem do_nil (V : Value) (w : World) (hV : ∃ a b c : Int, V = .agg #[.int .i64 a, .int .i64 b, .int .i64 c]) : Calls Try.prog 11 #[.pointer none, V] w fun e w' => e = .returned (.int .i64 1) ∧ Only (fun _ => False) w w' := by
  obtain ⟨a, b, c, rfl⟩ := hV
  go_enter Try.func11, Try.ntmps11
  go_wp2_with fail
  go_ret
  exact ⟨rfl, (Only.refl _ w).alloc _⟩
def True1 (w : World) (e : Ending) (w' : World) : Prop := e = .returned (.bool true) ∧ Below w.heap.size w w'
theorem True1.of {w w' : World} {e : Ending} (he : e = .returned (.bool true)) (h : Only (fun _ => False) w w') : True1 w e w' := ⟨he, h.below (Nat.le_refl _) (fun _ q => q.elim)⟩
theorem not0 (N : Nat) : isN N 0 = false := by simp [isN]
theorem not6 (N : Nat) (h : N ≤ 5) : isN N 6 = false := by simp [isN]; omega
set_option maxHeartbeats 6400000 in
set_option maxRecDepth 100000 in
theorem none_any (a b c n : Int) (w : World) : Calls Try.prog 4 #[.agg #[.int .i64 a, .int .i64 b, .int .i64 c], .int .i64 n] w (True1 w) := by
  obtain ⟨hN1, hN5, _⟩ := ofN_le n
  have HF := Lib.hid (fit_init hN1 hN5)
  go_enter Try.func4, Try.ntmps4
  go_wp2_with (first
    | (go_at_call 13; refine (leader_nil _).mono ?_; rintro e w' ⟨rfl, rfl⟩)
    | (go_at_call 16; refine (comm_nil _).mono ?_; rintro e w' ⟨rfl, rfl⟩))
  go_at_call 9
  refine (of_any n _).mono ?_
  rintro e w1 ⟨r, rfl, h⟩
  obtain ⟨m, bn, bi, bm, rfl, h0⟩ := RInv.new h
  have H0 := Lib.hid h0
  clear h h0
  have hb : w1.heap[w.heap.size]? = some (.cells #[.int .i64 a, .int .i64 b, .int .i64 c] 29 (0, 0)) := by
    have := H0.out.only.block w.heap.size (by simp) (fun q => q)
    rw [this]; exact block_new w _
  have c0 : w1.cell? ⟨w.heap.size, 0, none⟩ = some (.int .i64 a) := cell_of hb 0
  have c1 : w1.cell? ⟨w.heap.size, 1, none⟩ = some (.int .i64 b) := cell_of hb 1
  have c2 : w1.cell? ⟨w.heap.size, 2, none⟩ = some (.int .i64 c) := cell_of hb 2
  clear hb
  go_wp2_with fail
  go_at_call 11
  refine (do_nil _ _ ⟨a, b, c, rfl⟩).mono ?_
  rintro e w2 ⟨rfl, o2⟩
  have O2 := Lib.hid o2
  have I2 := Lib.hid (H0.out.later o2)
  clear c0 c1 c2 o2
  go_wp2_with fail
  go_at_call 17
  refine (high_nil _).mono ?_
  rintro e w' ⟨rfl, hw⟩
  subst hw
  go_wp2_with fail
  go_at_call 14
  refine (log_nil _ _).mono ?_
  rintro e w' ⟨rfl, hw⟩
  subst hw
  go_wp2_with fail
  go_at_call 12
  refine (up_nil _ _).mono ?_
  rintro e w' ⟨rfl, hw⟩
  subst hw
  go_wp2_with fail
  go_at_call 18
  refine (in_nil _).mono ?_
  rintro e w' ⟨rfl, hw⟩
  subst hw
  go_wp2_with fail
  go_at_call 14
  refine (I2.out.logNot HF.out 0 (not0 _)).mono ?_
  rintro e w' ⟨rfl, hw⟩
  subst hw
  go_wp2_with fail
  go_at_call 14
  refine (I2.out.logNot HF.out 6 (not6 _ hN5)).mono ?_
  rintro e w' ⟨rfl, hw⟩
  subst hw
  go_wp2_with fail
  go_at_call 12
  refine (I2.out.upNot HF.out 0 (not0 _)).mono ?_
  rintro e w' ⟨rfl, hw⟩
  subst hw
  go_wp2_with fail
  go_at_call 12
  refine (I2.out.upNot HF.out 6 (not6 _ hN5)).mono ?_
  rintro e w' ⟨rfl, hw⟩
  subst hw
  go_wp2_with fail
  go_at_call 19
  refine (awake_any _).mono ?_
  rintro e w3 ⟨rfl, o3⟩
  have O3 := Lib.hid o3
  clear o3
  go_wp2_with fail
  go_ret
  exact True1.of rfl (((Only.refl _ w).alloc _).trans (I2.out.only.trans O3.out (fun _ _ q => q)) (fun _ _ q => q))
end Go.Proofs.Ytcehlajkpnhdiaa.Ln
