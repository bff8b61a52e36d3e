/- The contracts of slices.Clone at copies, Log, Up, In, Committed. -/
import Derived.Test.YtcehlajkpnhdiaaRe
import Derived.Maps.AppendAt
import Derived.Lib.SliceRun
namespace Go.Proofs.Ytcehlajkpnhdiaa.Ra
open Go.RowKit Go.Proofs.Ytcehlajkpnhdiaa.Rw Go.Proofs.Ytcehlajkpnhdiaa.Rp
set_option linter.unusedSimpArgs false
set_option linter.unusedVariables false
variable {w w1 : World} {m bn bi bm N : Nat} {vs : Nat → Value} {s : St}
theorem isN_suc (N n : Nat) (h : n < N) : isN N ((n : Int) + 1) = true := by simp [isN]; omega
/-- A slice of the call's own that holds these copies; of what was there nothing has turned. -/
def Fresh (w : World) (l : List Cp) (u : Value) (w' : World) : Prop := Row w' u l ∧ Only (fun _ => False) w w' ∧ ∀ g, u.ownBlock = some g → w.heap.size ≤ g
theorem clone_nil (w : World) : Calls Try.prog 31 #[.slice none 0 0] w fun e w' => ∃ u, e = .returned u ∧ Fresh w [] u w' := by
  have hq : ∀ w, (binOp BinOp.eql 33 (.slice none 0 0) (.slice none 0 0)).run Try.prog w = .ok (.bool true) w := fun w => by kernel_rfl
  go_enter Try.func31, Try.ntmps31
  go_wp2_with fail
  go_ret
  exact ⟨_, rfl, Row.nil _, Only.refl _ _, fun g h => by cases h⟩
theorem row_empty (w : World) : Row (w.alloc (.cells #[] 45)) (.slice (some ⟨w.heap.size, 0, none⟩) 0 0) [] :=
  Row.mk (l := []) (block_new w _) (Nat.le_refl _) (by unfold maxLen; omega) (Nat.le_refl _) rfl
set_option maxHeartbeats 800000 in
theorem clone_some (g cap : Nat) (l : List Cp) (w : World) (hl : l.length ≤ 256) (h : Row w (.slice (some ⟨g, 0, none⟩) l.length cap) l) : Calls Try.prog 31 #[.slice (some ⟨g, 0, none⟩) l.length cap] w fun e w' => ∃ u, e = .returned u ∧ Fresh w l u w' := by
  have hq : ∀ w, (binOp BinOp.eql 33 (.slice (some ⟨g, 0, none⟩) l.length cap) (.slice none 0 0)).run Try.prog w = .ok (.bool false) w := fun w => Lib.run_eql_slice_nil (P := Try.prog) w 33 45 _ _ _ _ _ Try.underlying33
  obtain ⟨i0, hi0, hz0, hz1, hz2⟩ := info_parts info45
  have hown := row_empty w
  have hnews : ∀ j u, (ccs l)[j]? = some u → (w.alloc (.cells #[] 45)).cell? ((⟨g, 0, none⟩ : Addr).add j) = some u := by
    intro j u hu
    rw [Addr.add_lit, Nat.zero_add]
    exact (h.move (w1 := w.alloc (.cells #[] 45)) fun b hb => Below.heap_alloc _ _ _ (h.lt hb)).cells j u hu
  have HO := Lib.hid hown
  have HN := Lib.hid hnews
  clear h hown hnews
  by_cases h0 : l.length = 0
  · have hl0 : l = [] := List.length_eq_zero_iff.1 h0
    subst hl0
    have hq0 : ∀ w, (binOp BinOp.eql 33 (.slice (some ⟨g, 0, none⟩) 0 cap) (.slice none 0 0)).run Try.prog w = .ok (.bool false) w := fun w => Lib.run_eql_slice_nil (P := Try.prog) w 33 45 _ _ _ _ _ Try.underlying33
    go_enter Try.func31, Try.ntmps31
    go_wp2_with (at_builtin; refine wpList_append_nothing rfl (.tmp 5) (.tmp 6) 33 rfl i0 Try.underlying33 hi0 (.slice (some ⟨w.heap.size, 0, none⟩) 0 0) [] (by rfl) HO.out (some ⟨g, 0, none⟩) cap (by rfl) ?_)
    go_ret
    exact ⟨_, rfl, HO.out, (Only.refl _ w).alloc _, fun b hb => by cases hb; exact Nat.le_refl _⟩
  · go_enter Try.func31, Try.ntmps31
    go_wp2_with (at_builtin; refine wpList_append_row rfl (.tmp 5) (.tmp 6) 33 rfl i0 _ Try.underlying33 hi0 hz0 hz1 hz2 rfl (.slice (some ⟨w.heap.size, 0, none⟩) 0 0) [] l (by rfl) HO.out ⟨g, 0, none⟩ l.length cap (by rfl) rfl (by omega) HN.out (by simp; omega) ?_; intro g' cap' w1 happ)
    go_ret
    obtain ⟨h1, h2, h3, h4⟩ := happ
    rw [List.nil_append] at h1
    refine ⟨_, rfl, ?_, ((Only.refl _ w).alloc _).grown h2 (fun k hk => .inl (by cases hk; exact Nat.le_refl _)), fun b hb => ?_⟩
    · simpa using h1
    · cases hb
      rcases h3 with q | q
      · cases q; exact Nat.le_refl _
      · have : w.heap.size + 1 ≤ g' := by simpa using q
        show w.heap.size ≤ g'
        omega
theorem clone_any (v : Value) (l : List Cp) (w : World) (hl : l.length ≤ 256) (h : Row w v l) : Calls Try.prog 31 #[v] w fun e w' => ∃ u, e = .returned u ∧ Fresh w l u w' := by
  rcases h with ⟨rfl, rfl⟩ | ⟨g, cap, cur, rfl, h1⟩
  · exact clone_nil w
  · exact clone_some g cap l w hl (.inr ⟨g, cap, cur, rfl, h1⟩)
set_option maxHeartbeats 800000 in
theorem log_nil (n : Int) (w : World) : Calls Try.prog 14 #[.pointer none, .int .i64 n] w fun e w' => e = .returned (.slice none 0 0) ∧ w' = w := by
  go_enter Try.func14, Try.ntmps14
  go_wp2_with fail
  go_ret
  exact ⟨rfl, rfl⟩
set_option maxHeartbeats 800000 in
theorem log_not (h : Box w m bn bi bm N vs s) (hN : N ≤ 5) (n : Int) (hn : isN N n = false) : Calls Try.prog 14 #[.pointer (some ⟨m, 0, none⟩), .int .i64 n] w fun e w' => e = .returned (.slice none 0 0) ∧ w' = w := by
  have r0 : w.cell? ⟨m, 0, none⟩ = some (.slice (some ⟨bn, 0, none⟩) N N) := cell_of h.obj 0
  have HQ := Lib.hid hn
  clear hn h
  go_enter Try.func14, Try.ntmps14
  go_wp2_with (go_at_call 27; refine (is_any n N bn hN _ r0).mono ?_; rintro e w' ⟨rfl, rfl⟩; rw [HQ.out])
  go_ret
  exact ⟨rfl, rfl⟩
set_option maxHeartbeats 800000 in
theorem log_any (h : Box w m bn bi bm N vs s) (hN : N ≤ 5) (n : Nat) (hn : n < N) (hl : (s.logs n).length ≤ 200) : Calls Try.prog 14 #[.pointer (some ⟨m, 0, none⟩), .int .i64 ((n : Int) + 1)] w fun e w' => ∃ u, e = .returned u ∧ Fresh w (s.logs n) u w' := by
  have r0 : w.cell? ⟨m, 0, none⟩ = some (.slice (some ⟨bn, 0, none⟩) N N) := cell_of h.obj 0
  have hQ := isN_suc N n hn
  have rl : w.cell? ⟨bn, n * 2, none⟩ = some (vs n) := h.log hn
  have hp0 : (0 : Int) ≤ (n : Int) := by omega
  have hp1 : (n : Int) < (N : Int) := by omega
  have HC := Lib.hid (clone_any (vs n) (s.logs n) w (by omega) (h.rows n hn))
  have HQ := Lib.hid hQ
  clear hQ h
  go_enter Try.func14, Try.ntmps14
  go_wp2_with (first
    | (go_at_call 27; refine (is_any ((n : Int) + 1) N bn hN _ r0).mono ?_; rintro e w' ⟨rfl, rfl⟩; rw [HQ.out])
    | (go_at_call 31; refine HC.out.mono ?_; rintro e w' ⟨u, rfl, hu⟩; have HU := Lib.hid hu; clear hu))
  go_ret
  exact ⟨_, rfl, HU.out⟩
set_option maxHeartbeats 800000 in
theorem up_nil (n : Int) (w : World) : Calls Try.prog 12 #[.pointer none, .int .i64 n] w fun e w' => e = .returned (.bool false) ∧ w' = w := by
  go_enter Try.func12, Try.ntmps12
  go_wp2_with fail
  go_ret
  exact ⟨rfl, rfl⟩
set_option maxHeartbeats 800000 in
theorem up_not (h : Box w m bn bi bm N vs s) (hN : N ≤ 5) (n : Int) (hn : isN N n = false) : Calls Try.prog 12 #[.pointer (some ⟨m, 0, none⟩), .int .i64 n] w fun e w' => e = .returned (.bool false) ∧ w' = w := by
  have r0 : w.cell? ⟨m, 0, none⟩ = some (.slice (some ⟨bn, 0, none⟩) N N) := cell_of h.obj 0
  have HQ := Lib.hid hn
  clear hn h
  go_enter Try.func12, Try.ntmps12
  go_wp2_with (go_at_call 27; refine (is_any n N bn hN _ r0).mono ?_; rintro e w' ⟨rfl, rfl⟩; rw [HQ.out])
  go_ret
  exact ⟨rfl, rfl⟩
set_option maxHeartbeats 800000 in
theorem up_any (h : Box w m bn bi bm N vs s) (hN : N ≤ 5) (n : Nat) (hn : n < N) : Calls Try.prog 12 #[.pointer (some ⟨m, 0, none⟩), .int .i64 ((n : Int) + 1)] w fun e w' => e = .returned (.bool (s.ups n)) ∧ w' = w := by
  have r0 : w.cell? ⟨m, 0, none⟩ = some (.slice (some ⟨bn, 0, none⟩) N N) := cell_of h.obj 0
  have hQ := isN_suc N n hn
  have rl : w.cell? ⟨bn, n * 2 + 1, none⟩ = some (.bool (s.ups n)) := h.up hn
  have hp0 : (0 : Int) ≤ (n : Int) := by omega
  have hp1 : (n : Int) < (N : Int) := by omega
  have HQ := Lib.hid hQ
  clear hQ h
  go_enter Try.func12, Try.ntmps12
  go_wp2_with (go_at_call 27; refine (is_any ((n : Int) + 1) N bn hN _ r0).mono ?_; rintro e w' ⟨rfl, rfl⟩; rw [HQ.out])
  go_ret
  exact ⟨rfl, rfl⟩
/-! ### In -/
/-- The numbers of those in sync, of the first k. -/
def inTo (s : St) : Nat → List Int
  | 0 => []
  | k + 1 => if s.ins k = true then inTo s k ++ [(k : Int) + 1] else inTo s k
def ics (l : List Int) : List Value := l.map (Value.int .i64)
theorem ics_length (l : List Int) : (ics l).length = l.length := by simp [ics]
theorem inTo_le (s : St) : ∀ k, (inTo s k).length ≤ k
  | 0 => Nat.le_refl _
  | k + 1 => by
    have := inTo_le s k
    unfold inTo; split
    · simp; omega
    · omega
/-- A row of integers of the call's own, above B. -/
def IRow (w : World) (B : Nat) (v : Value) (l : List Int) : Prop := w.ownsRow B 3 1 v l.length (ics l)
theorem info3 : (Try.prog.info? 3).map (fun i => (i.zero, i.size, i.bytes)) = some (some (.int .i64 0), 1, 8) := by kernel_rfl
theorem IRow.only {B : Nat} {v : Value} {l : List Int} (h : IRow w B v l) (ho : Only (fun _ => False) w w1) : IRow w1 B v l := by
  refine ⟨h.1, h.2.imp id ?_⟩
  rintro ⟨g, cap, cur, h1, h2, h3, h4⟩
  exact ⟨g, cap, cur, h1, h2, by rw [ho.block g (lt_of_block h3) (fun q => q), h3], h4⟩
theorem IRow.slice {B : Nat} {v : Value} {l : List Int} (h : IRow w B v l) : ∃ a c, v = .slice a l.length c := by
  rcases h.2 with ⟨h1, h2⟩ | ⟨g, cap, cur, h1, _⟩
  · exact ⟨_, _, by rw [h1, h2]⟩
  · exact ⟨_, _, h1⟩
theorem in_nil (w : World) : Calls Try.prog 18 #[.pointer none] w fun e w' => e = .returned (.slice none 0 0) ∧ w' = w := by
  go_enter Try.func18, Try.ntmps18
  go_wp2_with fail
  go_ret
  exact ⟨rfl, rfl⟩
set_option maxHeartbeats 1600000 in
theorem in_any (h : Box w m bn bi bm N vs s) (hN : N ≤ 5) : Calls Try.prog 18 #[.pointer (some ⟨m, 0, none⟩)] w fun e w' => ∃ u, e = .returned u ∧ IRow w' w.heap.size u (inTo s N) ∧ Only (fun _ => False) w w' := by
  have r3 : w.cell? ⟨m, 3, none⟩ = some (.slice (some ⟨bi, 0, none⟩) N N) := cell_of h.obj 3
  have HH := Lib.hid h
  clear h
  obtain ⟨i0, hi0, hz0, hz1, hz2⟩ := info_parts info3
  go_enter Try.func18, Try.ntmps18
  go_wp2_with fail
  go_loopw [3, 14] (fun v u wr => ∃ (k : Nat), k ≤ N ∧ u = .int .i64 k ∧ Hid (IRow wr w.heap.size v (inTo s k)) ∧ Hid (Only (fun _ => False) w wr)) (fun _ u _ => N - (intOf u).toNat)
  case atStart => exact ⟨0, by omega, rfl, Lib.hid ⟨rfl, .inl ⟨rfl, rfl⟩⟩, Lib.hid (Only.refl _ _)⟩
  case round =>
    obtain ⟨k, hk, rfl, HR, HO⟩ := hrel
    obtain ⟨ta, tc, hv⟩ := HR.out.slice
    obtain ⟨lk, hlk⟩ : ∃ lk, lk = (inTo s k).length := ⟨_, rfl⟩
    have hlk5 : lk ≤ 5 := by have := inTo_le s k; omega
    rw [← hlk] at hv
    have HLK := Lib.hid hlk
    clear hlk
    by_cases hlt : k < N
    · have ci : wr.cell? ⟨bi, k, none⟩ = some (.bool (s.ins k)) := (HH.out.only HO.out (fun _ _ q => q)).ins.cell _ hlt
      cases hb : s.ins k with
      | false =>
        rw [hb] at ci
        have HB := Lib.hid hb
        clear hb hv
        go_wp2_with fail
        go_roundw
        case rel => exact ⟨k + 1, by omega, by go_num, Lib.hid (by have := HR.out; rw [show inTo s (k + 1) = inTo s k by rw [inTo, if_neg (by rw [HB.out]; decide)]]; exact this), HO⟩
        case measure => simp [intOf]; omega
      | true =>
        rw [hb] at ci
        have HB := Lib.hid hb
        clear hb
        have HOW : Hid (wr.ownsRow w.heap.size 3 1 (.slice ta lk tc) lk (ics (inTo s k))) := Lib.hid (by have := HR.out; unfold IRow at this; rwa [← HLK.out, hv] at this)
        clear HR
        subst hv
        have HSZ := Lib.hid HO.out.size
        go_wp2_with (at_builtin; refine wpList_append_lies _ rfl (.tmp 20) (.tmp 23) 39 rfl w.heap.size 3 i0 _ 1 8 Try.underlying39 hi0 hz0 hz1 hz2 rfl (by decide) (.slice ta lk tc) lk (ics (inTo s k)) rfl (HOW.out.alloc _) ⟨wr.heap.size, 0, none⟩ 1 1 [.int .i64 ((k : Int) + 1)] rfl rfl (World.news_of_block (cs := #[.int .i64 ((k : Int) + 1)]) (t := 3) (fr := (0, 0)) (block_new wr _)) (by simp [Value.oneCell']) (by omega) (by unfold maxLen; omega) (by omega) (by have := HSZ.out; simp; omega) (wr.heap.size + 1) (by simp) ?_; intro g cap w1 hown1 hgrow hat hlt1)
        go_roundw
        case rel =>
          refine ⟨k + 1, by omega, by go_num, Lib.hid ?_, Lib.hid ?_⟩
          · have e : inTo s (k + 1) = inTo s k ++ [(k : Int) + 1] := by rw [inTo, if_pos HB.out]
            unfold IRow
            rw [e, List.length_append, ← HLK.out, show ics (inTo s k ++ [(k : Int) + 1]) = ics (inTo s k) ++ [.int .i64 ((k : Int) + 1)] by simp [ics]]
            exact hown1
          · refine (HO.out.alloc _).grown hgrow (fun b hb => .inl ?_)
            rcases HOW.out.2 with ⟨q, _⟩ | ⟨g', cap', cur, q, q2, _⟩
            · rw [q] at hb; cases hb
            · rw [q] at hb; cases hb; exact q2
        case measure => simp [intOf]; omega
    · obtain rfl : k = N := by omega
      clear hv
      go_wp2_with fail
      go_ret
      exact ⟨_, rfl, HR.out, HO.out⟩
end Go.Proofs.Ytcehlajkpnhdiaa.Ra
