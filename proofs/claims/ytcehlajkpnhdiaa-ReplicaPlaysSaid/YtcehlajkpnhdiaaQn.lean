/- The contract of the reference's New. -/
import Derived.Test.YtcehlajkpnhdiaaQa
import Derived.Test.YtcehlajkpnhdiaaRn
namespace Go.Proofs.Ytcehlajkpnhdiaa.Ra
open Go.RowKit Go.Proofs.Ytcehlajkpnhdiaa.Rw Go.Proofs.Ytcehlajkpnhdiaa.Rp
set_option linter.unusedSimpArgs false
set_option linter.unusedVariables false
variable {w w1 : World} {m bs N cap : Nat} {vs : Nat → Value} {s : St}
theorem rnew_bad (n : Int) (h : n < 1 ∨ 5 < n) (w : World) : Calls Try.prog 21 #[.int .i64 n] w fun e w' => e = .returned (.tuple #[.pointer none, .int .i64 1]) ∧ w' = w := by
  by_cases h1 : n < 1
  · go_enter Try.func21, Try.ntmps21
    go_wp2_with fail
    go_ret2
    exact ⟨rfl, rfl⟩
  · have h2 : 5 < n := by omega
    go_enter Try.func21, Try.ntmps21
    go_wp2_with fail
    go_ret2
    exact ⟨rfl, rfl⟩
def node0 : List Value := [.slice none 0 0, .bool true, .bool true, .int .i64 0]
def nodes0 : Nat → List Value
  | 0 => []
  | k + 1 => nodes0 k ++ node0
theorem nodes0_length : ∀ k, (nodes0 k).length = k * 4
  | 0 => rfl
  | k + 1 => by rw [nodes0, List.length_append, nodes0_length k]; simp [node0]; omega
theorem nodes0_get : ∀ k j, j < k * 4 → (nodes0 k)[j]? = some (rF (fun _ => nz) init j)
  | 0, j, h => by omega
  | k + 1, j, h => by
    rw [nodes0]
    by_cases q : j < k * 4
    · rw [List.getElem?_append_left (by rw [nodes0_length]; exact q)]
      exact nodes0_get k j q
    · rw [List.getElem?_append_right (by rw [nodes0_length]; omega), nodes0_length]
      have hc : j - k * 4 = 0 ∨ j - k * 4 = 1 ∨ j - k * 4 = 2 ∨ j - k * 4 = 3 := by omega
      rcases hc with z | z | z | z
      · obtain rfl : j = k * 4 := by omega
        rw [rF_0, z]; rfl
      · obtain rfl : j = k * 4 + 1 := by omega
        rw [rF_1, z]; rfl
      · obtain rfl : j = k * 4 + 2 := by omega
        rw [rF_2, z]; rfl
      · obtain rfl : j = k * 4 + 3 := by omega
        rw [rF_3, z]; rfl
/-- What the reference's New leaves. -/
def RNewed (N : Nat) (w : World) (r : Value) (w' : World) : Prop := ∃ m bs cap, r = .pointer (some ⟨m, 0, none⟩) ∧ RBox w' m bs N cap (fun _ => nz) init ∧ Only (fun _ => False) w w' ∧ w.heap.size ≤ m ∧ w.heap.size ≤ bs
theorem info66 : (Try.prog.info? 66).map (fun i => (i.zero, i.size, i.bytes)) = some (some (.agg #[.slice none 0 0, .bool false, .bool false, .int .i64 0]), 4, 40) := by kernel_rfl
set_option maxHeartbeats 3200000 in
set_option maxRecDepth 100000 in
theorem rnew_any (N : Nat) (h1 : 1 ≤ N) (h5 : N ≤ 5) (w : World) : Calls Try.prog 21 #[.int .i64 N] w fun e w' => ∃ r, e = .returned (.tuple #[r, .int .i64 0]) ∧ RNewed N w r w' := by
  have q1 : decide (N < 1) = false := by simp; omega
  have q2 : decide (5 < N) = false := by simp; omega
  obtain ⟨i0, hi0, hz0, hz1, hz2⟩ := info_parts info66
  go_enter Try.func21, Try.ntmps21
  go_wp2_with fail
  go_loopw [5] (fun u wr => ∃ (k : Nat) (v : Value), k ≤ N ∧ u = .int .i64 k ∧ Hid (wr.heap[w.heap.size]? = some (.cells #[v, .int .i64 1, .int .i64 1, .int .i64 0] 64 (0, 0))) ∧ Hid (wr.ownsRow (w.heap.size + 1) 66 4 v k (nodes0 k)) ∧ Hid (Only (fun _ => False) w wr)) (fun u _ => N - (intOf u).toNat)
  case atStart =>
    exact ⟨0, .slice none 0 0, by omega, rfl, Lib.hid (block_new w _), Lib.hid ⟨rfl, .inl ⟨rfl, rfl⟩⟩, Lib.hid ((Only.refl _ w).alloc _)⟩
  case round =>
    obtain ⟨k, v, hk, rfl, HB, HR, HO⟩ := hrel
    by_cases hkl : k < N
    · have c0 : wr.cell? ⟨w.heap.size, 0, none⟩ = some v := cell_of HB.out 0
      have f0 : wr.frozen? ⟨w.heap.size, 0, none⟩ = false := free_of HB.out 0
      obtain ⟨ta, tc, hv⟩ : ∃ a c, v = .slice a k c := by
        rcases HR.out.2 with ⟨q, q'⟩ | ⟨g, cap, cur, q, _⟩
        · exact ⟨_, _, by rw [q, q']⟩
        · exact ⟨_, _, q⟩
      subst hv
      have hlt : w.heap.size < wr.heap.size := lt_of_block HB.out
      have hne : ∀ b, Value.ownBlock (.slice ta k tc) = some b → w.heap.size + 1 ≤ b := by
        intro b hb
        rcases HR.out.2 with ⟨q, _⟩ | ⟨g', cap', cur, q, q2, _⟩
        · rw [q] at hb; cases hb
        · rw [q] at hb; cases hb; exact q2
      go_wp2_with (at_builtin; refine wpList_append_lies _ rfl (.tmp 23) (.tmp 25) 62 rfl (w.heap.size + 1) 66 i0 _ 4 40 Try.underlying62 hi0 hz0 hz1 hz2 rfl (by decide) (.slice ta k tc) k (nodes0 k) rfl (HR.out.alloc _) ⟨wr.heap.size, 0, none⟩ 1 1 node0 rfl rfl (World.news_of_block (cs := #[.slice none 0 0, .bool true, .bool true, .int .i64 0]) (t := 66) (fr := (0, 0)) (block_new wr _)) (by simp [Value.oneCell', node0]) (by omega) (by unfold maxLen; omega) (by omega) (by simp; omega) (wr.heap.size + 1) (by simp) ?_; intro g cap w1 hown1 hgrow hat hlt1; have e0 : w1.cell? ⟨w.heap.size, 0, none⟩ = some (.slice ta k tc) := (hgrow.cell_far ⟨w.heap.size, 0, none⟩ (by simp; omega) (by intro e; have := hne w.heap.size e.symm; omega)).trans ((World.cell?_of_block (Below.heap_alloc wr _ _ hlt)).trans c0); have ef : w1.frozen? ⟨w.heap.size, 0, none⟩ = false := (hgrow.frozen_far ⟨w.heap.size, 0, none⟩ (by simp; omega) (by intro e; have := hne w.heap.size e.symm; omega)).trans ((World.frozen?_of_block (Below.heap_alloc wr _ _ hlt)).trans f0))
      go_roundw
      case rel =>
        refine ⟨k + 1, .slice (some ⟨g, 0, none⟩) (k + 1) cap, by omega, by go_num, Lib.hid ?_, Lib.hid ?_, Lib.hid ?_⟩
        · have hb1 : w1.heap[w.heap.size]? = some (.cells #[.slice ta k tc, .int .i64 1, .int .i64 1, .int .i64 0] 64 (0, 0)) := by
            rw [hgrow.block w.heap.size (by simp; omega) (fun e => by have := hne w.heap.size e.symm; omega), Below.heap_alloc wr _ _ hlt]
            exact HB.out
          exact block_set hb1 (i := 0) _
        · refine ⟨hown1.1, hown1.2.imp id ?_⟩
          rintro ⟨g', cap', cur, z1, z2, z3, z4⟩
          exact ⟨g', cap', cur, z1, z2, by rw [Below.heap_setCell _ _ _ _ (by show g' ≠ w.heap.size; omega)]; exact z3, z4⟩
        · exact ((HO.out.alloc _).grown hgrow (fun b hb => .inl (by have := hne b hb; omega))).setCell (p := ⟨w.heap.size, 0, none⟩) (.inl (Nat.le_refl _)) _
      case measure => simp [intOf]; omega
    · obtain rfl : k = N := by omega
      have hR := HR.out
      have HBk := HB
      go_wp2_with fail
      go_ret2
      refine ⟨_, rfl, ?_⟩
      rcases hR.2 with ⟨q, q'⟩ | ⟨g, cp, cur, q, z1, z2, z3, z4, z5, z6⟩
      · omega
      · refine ⟨w.heap.size, g, cp, rfl, ⟨by have := HBk.out; rw [q] at this; exact this, ⟨cur, z2, by omega, fun j hj => ?_⟩, fun i _ => Row.nil _, z3⟩, HO.out, Nat.le_refl _, by omega⟩
        have e : (cur.toList.take (k * 4))[j]? = cur.toList[j]? := List.getElem?_take_of_lt hj
        rw [z6] at e
        rw [← Array.getElem?_toList, ← e]
        exact nodes0_get k j hj
end Go.Proofs.Ytcehlajkpnhdiaa.Ra
