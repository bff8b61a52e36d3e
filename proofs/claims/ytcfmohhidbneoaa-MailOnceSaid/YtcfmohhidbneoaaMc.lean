/- The contracts of slices.Clone at packets, and of List. -/
import Derived.Test.YtcfmohhidbneoaaMs
import Derived.Maps.AppendAt
namespace Go.Proofs.Ytcfmohhidbneoaa.Mc
open Go.RowKit Go.Proofs.Ytcfmohhidbneoaa.Ma Go.Proofs.Ytcfmohhidbneoaa.Mw Go.Proofs.Ytcfmohhidbneoaa.Ms
set_option linter.unusedSimpArgs false
set_option linter.unusedVariables false
/-- A slice of the call's own that holds these packets; of what was there nothing has turned. -/
def Fresh (w : World) (l : List Pk) (e : Ending) (w' : World) : Prop := ∃ u, e = .returned u ∧ Row w' u l ∧ Below w.heap.size w w' ∧ ∀ g, u.ownBlock = some g → w.heap.size ≤ g
theorem clone_nil (w : World) : Calls Try.prog 21 #[.slice none 0 0] w (Fresh w []) := by
  have hq : ∀ w, (binOp BinOp.eql 33 (.slice none 0 0) (.slice none 0 0)).run Try.prog w = .ok (.bool true) w := fun w => by kernel_rfl
  go_enter Try.func21, Try.ntmps21
  go_wp2_with fail
  go_ret
  exact ⟨_, rfl, Row.nil _, Below.refl _ _, fun g h => by cases h⟩
theorem row_empty (w : World) : Row (w.alloc (.cells #[] 27)) (.slice (some ⟨w.heap.size, 0, none⟩) 0 0) [] :=
  Row.mk (l := []) (block_new w _) (Nat.le_refl _) (by unfold maxLen; omega) rfl rfl
set_option maxHeartbeats 400000 in
theorem clone_some (g cap : Nat) (l : List Pk) (w : World) (hl : l.length ≤ 256) (h : Row w (.slice (some ⟨g, 0, none⟩) l.length cap) l) : Calls Try.prog 21 #[.slice (some ⟨g, 0, none⟩) l.length cap] w (Fresh w l) := by
  have hq : ∀ w, (binOp BinOp.eql 33 (.slice (some ⟨g, 0, none⟩) l.length cap) (.slice none 0 0)).run Try.prog w = .ok (.bool false) w := fun w => Lib.run_eql_slice_nil (P := Try.prog) w 33 27 _ _ _ _ _ Try.underlying33
  obtain ⟨i0, hi0, hz0, hz1, hz2⟩ := info_parts info27
  have hown : (w.alloc (.cells #[] 27)).ownsRow 0 27 4 (.slice (some ⟨w.heap.size, 0, none⟩) 0 0) 0 [] := row_empty w
  have hnews : ∀ j u, (pcs l)[j]? = some u → (w.alloc (.cells #[] 27)).cell? ((⟨g, 0, none⟩ : Addr).add j) = some u := (World.ownsRow.alloc h _).cells rfl
  have hpl : (pcs l).length = l.length * 4 := pcs_length l
  have HH := Lib.hid h
  have HO := Lib.hid hown
  have HN := Lib.hid hnews
  have HP := Lib.hid hpl
  clear h hown hnews hpl
  go_enter Try.func21, Try.ntmps21
  go_wp2_with (at_builtin; refine wpList_append_own_at _ rfl (.tmp 5) (.tmp 6) 33 rfl 0 27 i0 _ 4 40 Try.underlying33 hi0 hz0 hz1 hz2 rfl (by decide) _ 0 [] rfl HO.out ⟨g, 0, none⟩ l.length cap (pcs l) rfl HP.out HN.out (pcs_one l) (by unfold maxLen; omega) (by omega) (by omega) ?_; intro v' w1 hown' hgrow hnil hat)
  go_ret
  rw [Nat.zero_add] at hown'
  refine ⟨v', rfl, hown', ?_, fun b hb => ?_⟩
  · exact ((Below.refl _ _).alloc (Nat.le_refl _) _).grown hgrow (by simp) (fun k hk => by cases hk; exact Nat.le_refl _)
  · rcases hat with e | e
    · rw [e] at hb; cases hb; exact Nat.le_refl _
    · rw [e] at hb; cases hb; simp
set_option maxHeartbeats 400000 in
theorem list_any (m : Nat) (sent : Int) (v : Value) (l : List Pk) (w : World) (hl : l.length ≤ 256) (hm : MailAt w m sent v l) : Calls Try.prog 11 #[.pointer (some ⟨m, 0, none⟩)] w (Fresh w l) := by
  have hm1 : w.cell? ⟨m, 1, none⟩ = some v := cell_of hm.1 1
  rcases hm.2.form with ⟨rfl, rfl⟩ | ⟨g, cap, cur, rfl, _⟩
  · clear hm
    go_enter Try.func11, Try.ntmps11
    go_wp2_with (go_at_call 21; refine (clone_nil _).mono ?_; rintro e w' ⟨u, rfl, hu⟩; have HU := Lib.hid hu; clear hu)
    go_ret
    exact ⟨u, rfl, HU.out⟩
  · have hr := hm.2
    clear hm
    go_enter Try.func11, Try.ntmps11
    go_wp2_with (go_at_call 21; refine (clone_some g cap l _ hl hr).mono ?_; rintro e w' ⟨u, rfl, hu⟩; have HU := Lib.hid hu; clear hu)
    go_ret
    exact ⟨u, rfl, HU.out⟩
theorem list_nil (w : World) : Calls Try.prog 11 #[.pointer none] w fun e w' => e = .returned (.slice none 0 0) ∧ w = w' := by
  go_enter Try.func11, Try.ntmps11
  go_wp2_with fail
  go_ret
  exact ⟨rfl, rfl⟩
end Go.Proofs.Ytcfmohhidbneoaa.Mc
