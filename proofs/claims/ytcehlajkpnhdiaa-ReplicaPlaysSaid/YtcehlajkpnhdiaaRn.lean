/- The contracts of New and of. -/
import Derived.Test.YtcehlajkpnhdiaaRe
namespace Go.Proofs.Ytcehlajkpnhdiaa.Ra
open Go.RowKit Go.Proofs.Ytcehlajkpnhdiaa.Rw Go.Proofs.Ytcehlajkpnhdiaa.Rp
set_option linter.unusedSimpArgs false
set_option linter.unusedVariables false
variable {w w1 : World} {m bn bi bm N : Nat} {vs : Nat → Value} {s : St}
def nz : Value := .slice none 0 0
theorem make57 (N : Nat) (h1 : 1 ≤ N) (h5 : N ≤ 5) : ∃ C : Array Value, (∀ w : World, (Instr.makeSlice 57 (.int .i64 N) (.int .i64 N)).run Try.prog w = .ok (.slice (some ⟨w.heap.size, 0, none⟩) N N) (w.alloc (.cells C 56))) ∧ C.size = N * 2 ∧ ∀ j, j < N * 2 → C[j]? = some (if j % 2 = 0 then nz else .bool false) := by
  have hN : N = 1 ∨ N = 2 ∨ N = 3 ∨ N = 4 ∨ N = 5 := by omega
  rcases hN with rfl | rfl | rfl | rfl | rfl
  · exact ⟨#[nz, .bool false], fun _ => by kernel_rfl, rfl, by (intro j hj; have hj' : j = 0 ∨ j = 1 := (by omega); rcases hj' with rfl | rfl <;> rfl)⟩
  · exact ⟨#[nz, .bool false, nz, .bool false], fun _ => by kernel_rfl, rfl, by (intro j hj; have hj' : j = 0 ∨ j = 1 ∨ j = 2 ∨ j = 3 := (by omega); rcases hj' with rfl | rfl | rfl | rfl <;> rfl)⟩
  · exact ⟨#[nz, .bool false, nz, .bool false, nz, .bool false], fun _ => by kernel_rfl, rfl, by (intro j hj; have hj' : j = 0 ∨ j = 1 ∨ j = 2 ∨ j = 3 ∨ j = 4 ∨ j = 5 := (by omega); rcases hj' with rfl | rfl | rfl | rfl | rfl | rfl <;> rfl)⟩
  · exact ⟨#[nz, .bool false, nz, .bool false, nz, .bool false, nz, .bool false], fun _ => by kernel_rfl, rfl, by (intro j hj; have hj' : j = 0 ∨ j = 1 ∨ j = 2 ∨ j = 3 ∨ j = 4 ∨ j = 5 ∨ j = 6 ∨ j = 7 := (by omega); rcases hj' with rfl | rfl | rfl | rfl | rfl | rfl | rfl | rfl <;> rfl)⟩
  · exact ⟨#[nz, .bool false, nz, .bool false, nz, .bool false, nz, .bool false, nz, .bool false], fun _ => by kernel_rfl, rfl, by (intro j hj; have hj' : j = 0 ∨ j = 1 ∨ j = 2 ∨ j = 3 ∨ j = 4 ∨ j = 5 ∨ j = 6 ∨ j = 7 ∨ j = 8 ∨ j = 9 := (by omega); rcases hj' with rfl | rfl | rfl | rfl | rfl | rfl | rfl | rfl | rfl | rfl <;> rfl)⟩
theorem make58 (N : Nat) (h1 : 1 ≤ N) (h5 : N ≤ 5) : ∃ C : Array Value, (∀ w : World, (Instr.makeSlice 58 (.int .i64 N) (.int .i64 N)).run Try.prog w = .ok (.slice (some ⟨w.heap.size, 0, none⟩) N N) (w.alloc (.cells C 4))) ∧ C.size = N ∧ ∀ j, j < N → C[j]? = some (.bool false) := by
  have hN : N = 1 ∨ N = 2 ∨ N = 3 ∨ N = 4 ∨ N = 5 := by omega
  rcases hN with rfl | rfl | rfl | rfl | rfl
  · exact ⟨#[.bool false], fun _ => by kernel_rfl, rfl, by (intro j hj; obtain rfl : j = 0 := (by omega); rfl)⟩
  · exact ⟨#[.bool false, .bool false], fun _ => by kernel_rfl, rfl, by (intro j hj; have hj' : j = 0 ∨ j = 1 := (by omega); rcases hj' with rfl | rfl <;> rfl)⟩
  · exact ⟨#[.bool false, .bool false, .bool false], fun _ => by kernel_rfl, rfl, by (intro j hj; have hj' : j = 0 ∨ j = 1 ∨ j = 2 := (by omega); rcases hj' with rfl | rfl | rfl <;> rfl)⟩
  · exact ⟨#[.bool false, .bool false, .bool false, .bool false], fun _ => by kernel_rfl, rfl, by (intro j hj; have hj' : j = 0 ∨ j = 1 ∨ j = 2 ∨ j = 3 := (by omega); rcases hj' with rfl | rfl | rfl | rfl <;> rfl)⟩
  · exact ⟨#[.bool false, .bool false, .bool false, .bool false, .bool false], fun _ => by kernel_rfl, rfl, by (intro j hj; have hj' : j = 0 ∨ j = 1 ∨ j = 2 ∨ j = 3 ∨ j = 4 := (by omega); rcases hj' with rfl | rfl | rfl | rfl | rfl <;> rfl)⟩
theorem make39 (N : Nat) (h1 : 1 ≤ N) (h5 : N ≤ 5) : ∃ C : Array Value, (∀ w : World, (Instr.makeSlice 39 (.int .i64 N) (.int .i64 N)).run Try.prog w = .ok (.slice (some ⟨w.heap.size, 0, none⟩) N N) (w.alloc (.cells C 3))) ∧ C.size = N ∧ ∀ j, j < N → C[j]? = some (.int .i64 0) := by
  have hN : N = 1 ∨ N = 2 ∨ N = 3 ∨ N = 4 ∨ N = 5 := by omega
  rcases hN with rfl | rfl | rfl | rfl | rfl
  · exact ⟨#[.int .i64 0], fun _ => by kernel_rfl, rfl, by (intro j hj; obtain rfl : j = 0 := (by omega); rfl)⟩
  · exact ⟨#[.int .i64 0, .int .i64 0], fun _ => by kernel_rfl, rfl, by (intro j hj; have hj' : j = 0 ∨ j = 1 := (by omega); rcases hj' with rfl | rfl <;> rfl)⟩
  · exact ⟨#[.int .i64 0, .int .i64 0, .int .i64 0], fun _ => by kernel_rfl, rfl, by (intro j hj; have hj' : j = 0 ∨ j = 1 ∨ j = 2 := (by omega); rcases hj' with rfl | rfl | rfl <;> rfl)⟩
  · exact ⟨#[.int .i64 0, .int .i64 0, .int .i64 0, .int .i64 0], fun _ => by kernel_rfl, rfl, by (intro j hj; have hj' : j = 0 ∨ j = 1 ∨ j = 2 ∨ j = 3 := (by omega); rcases hj' with rfl | rfl | rfl | rfl <;> rfl)⟩
  · exact ⟨#[.int .i64 0, .int .i64 0, .int .i64 0, .int .i64 0, .int .i64 0], fun _ => by kernel_rfl, rfl, by (intro j hj; have hj' : j = 0 ∨ j = 1 ∨ j = 2 ∨ j = 3 ∨ j = 4 := (by omega); rcases hj' with rfl | rfl | rfl | rfl | rfl <;> rfl)⟩
theorem alloc_at (w : World) (a b c d : Obj) : (((((w.alloc a).alloc b).alloc c).alloc d).drew).heap[w.heap.size]? = some a ∧ (((((w.alloc a).alloc b).alloc c).alloc d).drew).heap[w.heap.size + 1]? = some b ∧ (((((w.alloc a).alloc b).alloc c).alloc d).drew).heap[w.heap.size + 2]? = some c ∧ (((((w.alloc a).alloc b).alloc c).alloc d).drew).heap[w.heap.size + 3]? = some d := by
  have s1 : (w.alloc a).heap.size = w.heap.size + 1 := by simp
  have s2 : ((w.alloc a).alloc b).heap.size = w.heap.size + 2 := by simp
  have s3 : (((w.alloc a).alloc b).alloc c).heap.size = w.heap.size + 3 := by simp
  have h1 := block_new w a
  have h2 := block_new (w.alloc a) b
  have h3 := block_new ((w.alloc a).alloc b) c
  have h4 := block_new (((w.alloc a).alloc b).alloc c) d
  rw [s1] at h2
  rw [s2] at h3
  rw [s3] at h4
  exact ⟨block_alloc (block_alloc (block_alloc h1 _) _) _, block_alloc (block_alloc h2 _) _, block_alloc h3 _, h4⟩
/-- The set while New fills it: k replicas are up. -/
def initK (k : Nat) : St := { logs := fun _ => [], ups := fun j => decide (j < k), epoch := 1, lead := 1, ins := fun j => decide (j < k), mat := fun _ => 0, high := 0 }
theorem Box.made {C1 C2 C3 : Array Value} (h0 : w.heap[m]? = some (.cells #[.slice (some ⟨bn, 0, none⟩) N N, .int .i64 1, .int .i64 1, .slice (some ⟨bi, 0, none⟩) N N, .slice (some ⟨bm, 0, none⟩) N N, .int .i64 0] 60 (0, 0)))
    (h1 : w.heap[bn]? = some (.cells C1 56 (0, 0))) (h2 : w.heap[bi]? = some (.cells C2 4 (0, 0))) (h3 : w.heap[bm]? = some (.cells C3 3 (0, 0)))
    (g1 : C1.size = N * 2 ∧ ∀ j, j < N * 2 → C1[j]? = some (if j % 2 = 0 then nz else .bool false)) (g2 : C2.size = N ∧ ∀ j, j < N → C2[j]? = some (.bool false)) (g3 : C3.size = N ∧ ∀ j, j < N → C3[j]? = some (.int .i64 0)) :
    Box w m bn bi bm N (fun _ => nz) (initK 0) := by
  refine ⟨h0, ⟨C1, h1, g1.1, fun j hj => ?_⟩, ⟨C2, h2, g2.1, fun j hj => ?_⟩, ⟨C3, h3, g3.1, fun j hj => ?_⟩, fun j hj => Row.nil _, fun i j g _ _ h _ => by cases h⟩
  · rw [g1.2 j hj]
    unfold nodeF
    split <;> simp [initK]
  · rw [g2.2 j hj]; simp [initK]
  · rw [g3.2 j hj]; rfl
theorem Box.fill {k : Nat} (h : Box w m bn bi bm N vs (initK k)) : Box ((w.setCell ⟨bn, k * 2 + 1, none⟩ (.bool true)).setCell ⟨bi, k, none⟩ (.bool true)) m bn bi bm N vs (initK (k + 1)) := by
  refine ((h.setUp k true).setIn k true).ext _ rfl rfl rfl (fun _ _ => rfl) (fun j _ => ?_) (fun j _ => ?_) (fun _ _ => rfl)
  · show decide (j < k + 1) = upd (fun j => decide (j < k)) k true j
    unfold upd; split
    · subst_vars; simp
    · simp; omega
  · show decide (j < k + 1) = upd (fun j => decide (j < k)) k true j
    unfold upd; split
    · subst_vars; simp
    · simp; omega
/-- What New leaves. -/
def Newed (N : Nat) (w : World) (r : Value) (w' : World) : Prop := ∃ m bn bi bm, r = .pointer (some ⟨m, 0, none⟩) ∧ Box w' m bn bi bm N (fun _ => nz) init ∧ Only (fun _ => False) w w' ∧ ∀ k, Ft m bn bi bm N (fun _ => nz) k → w.heap.size ≤ k
set_option maxHeartbeats 3200000 in
set_option maxRecDepth 100000 in
theorem new_bad (n : Int) (h : n < 1 ∨ 5 < n) (w : World) : Calls Try.prog 20 #[.int .i64 n] w fun e w' => e = .returned (.tuple #[.pointer none, .int .i64 1]) ∧ w' = w := by
  by_cases h1 : n < 1
  · go_enter Try.func20, Try.ntmps20
    go_wp2_with fail
    go_ret2
    exact ⟨rfl, rfl⟩
  · have h2 : 5 < n := by omega
    go_enter Try.func20, Try.ntmps20
    go_wp2_with fail
    go_ret2
    exact ⟨rfl, rfl⟩
set_option maxHeartbeats 3200000 in
set_option maxRecDepth 100000 in
theorem new_any (N : Nat) (h1 : 1 ≤ N) (h5 : N ≤ 5) (w : World) : Calls Try.prog 20 #[.int .i64 N] w fun e w' => ∃ r, e = .returned (.tuple #[r, .int .i64 0]) ∧ Newed N w r w' := by
  obtain ⟨C1, hm1, g1⟩ := make57 N h1 h5
  obtain ⟨C2, hm2, g2⟩ := make58 N h1 h5
  obtain ⟨C3, hm3, g3⟩ := make39 N h1 h5
  have q1 : decide (N < 1) = false := by simp; omega
  have q2 : decide (5 < N) = false := by simp; omega
  have G1 := Lib.hid g1
  have G2 := Lib.hid g2
  have G3 := Lib.hid g3
  clear g1 g2 g3
  go_enter Try.func20, Try.ntmps20
  go_wp2_with fail
  go_region
  all_goals
    clear hm1 hm2 hm3
    go_wp2_with fail
    go_loopw [21] (fun u wr => ∃ (bn bi bm k : Nat), k ≤ N ∧ u = .int .i64 k ∧ Hid (Box wr (w.heap.size + 1 + 1 + 1) bn bi bm N (fun _ => nz) (initK k)) ∧ Hid (Only (fun _ => False) w wr) ∧ Hid (∀ k, Ft (w.heap.size + 1 + 1 + 1) bn bi bm N (fun _ => nz) k → w.heap.size ≤ k)) (fun u _ => N - (intOf u).toNat)
    case atStart =>
      first
      | exact ⟨_, _, _, 0, by omega, rfl, Lib.hid (Box.made (alloc_at w _ _ _ _).2.2.2 (alloc_at w _ _ _ _).1 (alloc_at w _ _ _ _).2.1 (alloc_at w _ _ _ _).2.2.1 G1.out G2.out G3.out), Lib.hid ((((((Only.refl (fun _ => False) w).alloc _).alloc _).alloc _).alloc _).drew), Lib.hid (by rintro k (rfl | rfl | rfl | rfl | ⟨i, _, q⟩); omega; omega; omega; omega; cases q)⟩
      | exact ⟨_, _, _, 0, by omega, rfl, Lib.hid (Box.made (alloc_at w _ _ _ _).2.2.2 (alloc_at w _ _ _ _).1 (alloc_at w _ _ _ _).2.2.1 (alloc_at w _ _ _ _).2.1 G1.out G2.out G3.out), Lib.hid ((((((Only.refl (fun _ => False) w).alloc _).alloc _).alloc _).alloc _).drew), Lib.hid (by rintro k (rfl | rfl | rfl | rfl | ⟨i, _, q⟩); omega; omega; omega; omega; cases q)⟩
      | exact ⟨_, _, _, 0, by omega, rfl, Lib.hid (Box.made (alloc_at w _ _ _ _).2.2.2 (alloc_at w _ _ _ _).2.1 (alloc_at w _ _ _ _).1 (alloc_at w _ _ _ _).2.2.1 G1.out G2.out G3.out), Lib.hid ((((((Only.refl (fun _ => False) w).alloc _).alloc _).alloc _).alloc _).drew), Lib.hid (by rintro k (rfl | rfl | rfl | rfl | ⟨i, _, q⟩); omega; omega; omega; omega; cases q)⟩
      | exact ⟨_, _, _, 0, by omega, rfl, Lib.hid (Box.made (alloc_at w _ _ _ _).2.2.2 (alloc_at w _ _ _ _).2.2.1 (alloc_at w _ _ _ _).1 (alloc_at w _ _ _ _).2.1 G1.out G2.out G3.out), Lib.hid ((((((Only.refl (fun _ => False) w).alloc _).alloc _).alloc _).alloc _).drew), Lib.hid (by rintro k (rfl | rfl | rfl | rfl | ⟨i, _, q⟩); omega; omega; omega; omega; cases q)⟩
      | exact ⟨_, _, _, 0, by omega, rfl, Lib.hid (Box.made (alloc_at w _ _ _ _).2.2.2 (alloc_at w _ _ _ _).2.1 (alloc_at w _ _ _ _).2.2.1 (alloc_at w _ _ _ _).1 G1.out G2.out G3.out), Lib.hid ((((((Only.refl (fun _ => False) w).alloc _).alloc _).alloc _).alloc _).drew), Lib.hid (by rintro k (rfl | rfl | rfl | rfl | ⟨i, _, q⟩); omega; omega; omega; omega; cases q)⟩
      | exact ⟨_, _, _, 0, by omega, rfl, Lib.hid (Box.made (alloc_at w _ _ _ _).2.2.2 (alloc_at w _ _ _ _).2.2.1 (alloc_at w _ _ _ _).2.1 (alloc_at w _ _ _ _).1 G1.out G2.out G3.out), Lib.hid ((((((Only.refl (fun _ => False) w).alloc _).alloc _).alloc _).alloc _).drew), Lib.hid (by rintro k (rfl | rfl | rfl | rfl | ⟨i, _, q⟩); omega; omega; omega; omega; cases q)⟩
    case round =>
      obtain ⟨bn, bi, bm, k, hk, rfl, HB, HO, HF⟩ := hrel
      by_cases hkl : k < N
      · have v0 : wr.cell? ⟨w.heap.size + 1 + 1 + 1, 0, none⟩ = some (.slice (some ⟨bn, 0, none⟩) N N) := cell_of HB.out.obj 0
        have v3 : wr.cell? ⟨w.heap.size + 1 + 1 + 1, 3, none⟩ = some (.slice (some ⟨bi, 0, none⟩) N N) := cell_of HB.out.obj 3
        have xi : wr.cell? ⟨bi, k, none⟩ = _ := HB.out.ins.cell _ hkl
        have xif : wr.frozen? ⟨bi, k, none⟩ = false := HB.out.ins.free _
        have xu : wr.cell? ⟨bn, k * 2 + 1, none⟩ = _ := HB.out.up hkl
        have xuf : wr.frozen? ⟨bn, k * 2 + 1, none⟩ = false := HB.out.nodes.free _
        have hne : bn ≠ bi := (Box.ne HB.out).2.2.2.1
        have hne' : bi ≠ bn := Ne.symm hne
        have hp0 : (0 : Int) ≤ (k : Int) := by omega
        have hp1 : (k : Int) < (N : Int) := by omega
        go_wp2_with fail
        go_region
        go_wp2
        go_roundw
        case rel => exact ⟨bn, bi, bm, k + 1, by omega, by go_num, Lib.hid HB.out.fill.drew, Lib.hid (((HO.out.setCell (p := ⟨bn, k * 2 + 1, none⟩) (.inl (HF.out bn (.inr (.inl rfl)))) _).setCell (p := ⟨bi, k, none⟩) (.inl (HF.out bi (.inr (.inr (.inl rfl))))) _).drew), HF⟩
        case measure => simp [intOf]; omega
      · obtain rfl : k = N := by omega
        go_wp2_with fail
        go_ret2
        refine ⟨_, rfl, _, bn, bi, bm, rfl, ?_, HO.out, HF.out⟩
        exact HB.out.ext _ rfl rfl rfl (fun _ _ => rfl) (fun j hj => by simp [init, initK, hj]) (fun j hj => by simp [init, initK, hj]) (fun _ _ => rfl)
/-- How many replicas the laws take. -/
def ofN (n : Int) : Nat := (1 + n.tmod 5 % 5).toNat
theorem ofN_le (n : Int) : 1 ≤ ofN n ∧ ofN n ≤ 5 ∧ 1 + n.tmod 5 % 5 = (ofN n : Int) := by
  unfold ofN
  omega
set_option maxHeartbeats 3200000 in
set_option maxRecDepth 100000 in
theorem of_any (n : Int) (w : World) : Calls Try.prog 9 #[.int .i64 n] w fun e w' => ∃ r, e = .returned r ∧ Newed (ofN n) w r w' := by
  obtain ⟨h1, h5, he⟩ := ofN_le n
  have hm0 : -5 < n.tmod 5 := by have := Int.lt_tmod_of_pos n (b := 5) (by omega); omega
  have hm1 : n.tmod 5 < 5 := Int.tmod_lt_of_pos n (by omega)
  have HE := Lib.hid he
  clear he
  go_enter Try.func9, Try.ntmps9
  go_wp2_with (go_at_call 20; rw [HE.out]; refine (new_any _ h1 h5 _).mono ?_; rintro e w' ⟨r, rfl, hd⟩; have HD := Lib.hid hd; clear hd)
  go_ret
  exact ⟨_, rfl, HD.out⟩
end Go.Proofs.Ytcehlajkpnhdiaa.Ra
