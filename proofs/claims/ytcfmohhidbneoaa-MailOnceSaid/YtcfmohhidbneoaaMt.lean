/- The contracts of Take and Twice at an object that is not nil, and at a nil one. -/
import Derived.Test.YtcfmohhidbneoaaMd
namespace Go.Proofs.Ytcfmohhidbneoaa.Mt
open Go.RowKit Go.Proofs.Ytcfmohhidbneoaa.Ma Go.Proofs.Ytcfmohhidbneoaa.Mw Go.Proofs.Ytcfmohhidbneoaa.Ms Go.Proofs.Ytcfmohhidbneoaa.Mc Go.Proofs.Ytcfmohhidbneoaa.Md
set_option linter.unusedSimpArgs false
set_option linter.unusedVariables false
def Quiet (w w' : World) : Prop := Only (fun _ => False) w w'
def TakeNo (w : World) (e : Ending) (w' : World) : Prop := e = .returned (.tuple #[Pk.zero.agg, .int .i64 6]) ∧ Quiet w w'
theorem at_yes (m : Nat) (p : Nat) (a : Option Addr) (n c : Nat) (w : World) (h1 : w.cell? ⟨m, 1, none⟩ = some (.slice a n c)) (hp : p < n) : Calls Try.prog 22 #[.pointer (some ⟨m, 0, none⟩), .int .i64 p] w fun e w' => e = .returned (.bool true) ∧ w = w' :=
  (at_any m p a n c w h1).mono fun e w' ⟨he, hw⟩ => ⟨by rw [he]; simp; omega, hw⟩
theorem at_no (m : Nat) (p : Int) (a : Option Addr) (n c : Nat) (w : World) (h1 : w.cell? ⟨m, 1, none⟩ = some (.slice a n c)) (hp : ¬ (0 ≤ p ∧ p < n)) : Calls Try.prog 22 #[.pointer (some ⟨m, 0, none⟩), .int .i64 p] w fun e w' => e = .returned (.bool false) ∧ w = w' :=
  (at_any m p a n c w h1).mono fun e w' ⟨he, hw⟩ => ⟨by rw [he]; simp [hp], hw⟩
theorem take_nil (p : Int) (w : World) : Calls Try.prog 17 #[.pointer none, .int .i64 p] w (TakeNo w) := by
  go_enter Try.func17, Try.ntmps17
  go_wp2_with (go_at_call 22; refine (at_nil _ _).mono ?_; rintro e w' ⟨rfl, rfl⟩)
  refine bodyPost_ret (v := .tuple #[Pk.zero.agg, .int .i64 6]) (by simp [results, Try.results17, go_sem, Pk.zero, Pk.agg]) rfl ⟨rfl, ((Only.refl _ _).alloc _)⟩
theorem slice_form {w : World} {v : Value} {l : List Pk} (h : Row w v l) : ∃ a c, v = .slice a l.length c := by
  rcases h.form with ⟨h1, rfl⟩ | ⟨g, cap, cur, h1, _⟩
  · exact ⟨_, _, h1⟩
  · exact ⟨_, _, h1⟩
set_option maxHeartbeats 400000 in
theorem take_no (m : Nat) (sent : Int) (v : Value) (l : List Pk) (p : Int) (w : World) (hm : MailAt w m sent v l) (hp : ¬ (0 ≤ p ∧ p < l.length)) :
    Calls Try.prog 17 #[.pointer (some ⟨m, 0, none⟩), .int .i64 p] w (TakeNo w) := by
  have hm1 : w.cell? ⟨m, 1, none⟩ = some v := cell_of hm.1 1
  have hml := lt_of_block hm.1
  obtain ⟨a, c, rfl⟩ := slice_form hm.2
  have HP := Lib.hid hp
  clear hm hp
  go_enter Try.func17, Try.ntmps17
  go_wp2_with (go_at_call 22; refine (at_no m p a l.length c _ ((World.cell?_alloc_past _ _ _ hml).trans hm1) HP.out).mono ?_; rintro e w' ⟨rfl, rfl⟩)
  refine bodyPost_ret (v := .tuple #[Pk.zero.agg, .int .i64 6]) (by simp [results, Try.results17, go_sem, Pk.zero, Pk.agg]) rfl ⟨rfl, ((Only.refl _ _).alloc _)⟩
def Took (m : Nat) (sent : Int) (v : Value) (l : List Pk) (p : Nat) (x : Pk) (w : World) (e : Ending) (w' : World) : Prop :=
  e = .returned (.tuple #[x.agg, .int .i64 0]) ∧ ∃ v', MailAt w' m sent v' (l.eraseIdx p) ∧ Only (foot m v) w w' ∧ NextV w v v'
set_option maxHeartbeats 800000 in
theorem take_yes (m : Nat) (sent : Int) (v : Value) (l : List Pk) (p : Nat) (w : World) (hl : l.length ≤ 256) (hm : MailAt w m sent v l) (hp : p < l.length) :
    Calls Try.prog 17 #[.pointer (some ⟨m, 0, none⟩), .int .i64 p] w (Took m sent v l p l[p] w) := by
  have hm1 : w.cell? ⟨m, 1, none⟩ = some v := cell_of hm.1 1
  have hm2 : w.frozen? ⟨m, 1, none⟩ = false := free_of hm.1 1
  have hml := lt_of_block hm.1
  rcases hm.2.form with ⟨h, rfl⟩ | ⟨g, cap, cur, rfl, hg, _⟩
  · simp at hp
  have hgm : g ≠ m := by intro e; subst e; exact hm.2.apart hm.1 (by decide) rfl
  have hgl := lt_of_block hg
  obtain ⟨c0, c1, c2, c3⟩ := hm.2.at p hp
  obtain ⟨x, hx⟩ : ∃ x, x = l[p] := ⟨_, rfl⟩
  rw [← hx] at c0 c1 c2 c3
  have HX := Lib.hid hx
  have HM := Lib.hid hm
  have HG := Lib.hid hg
  have d0 := fun o => (World.cell?_alloc_past (w := w) o g (p * 4) hgl).trans c0
  have d1 := fun o => (World.cell?_alloc_past (w := w) o g (p * 4 + 1) hgl).trans c1
  have d2 := fun o => (World.cell?_alloc_past (w := w) o g (p * 4 + 2) hgl).trans c2
  have d3 := fun o => (World.cell?_alloc_past (w := w) o g (p * 4 + 3) hgl).trans c3
  rw [← hx]
  clear hm hg hx
  go_enter Try.func17, Try.ntmps17
  go_wp2_with (go_at_call 22; refine (at_yes m p _ l.length cap _ ((World.cell?_alloc_past _ _ _ hml).trans hm1) hp).mono ?_; rintro e w' ⟨rfl, rfl⟩)
  have HR : ∀ o o', Row ((w.alloc o).alloc o') (.slice (some ⟨g, 0, none⟩) l.length cap) l := fun o o' => HM.out.2.move fun b hb => by cases hb; rw [Below.heap_alloc _ _ _ (by simp; omega), Below.heap_alloc _ _ _ hgl]
  have HRR := Lib.hid HR
  clear HR
  refine (delete_any g cap l p _ hl hp (HRR.out _ _)).mono ?_
  rintro e w1 ⟨rfl, hrow, honly⟩
  have b4 : w1.heap[w.heap.size]? = some (.cells #[.int .i64 0, .int .i64 0, .int .i64 0, .string ⟨#[]⟩] 27 (0, 0)) := honly.same (block_alloc (block_new w _) _) (by omega)
  have b6 : w1.heap[w.heap.size + 1]? = some (.cells #[.int .i64 x.n, .int .i64 x.d, .int .i64 x.f, .string x.s] 27 (0, 0)) := honly.same (by have := block_new (w.alloc (.cells #[.int .i64 0, .int .i64 0, .int .i64 0, .string ⟨#[]⟩] 27)) (.cells #[.int .i64 x.n, .int .i64 x.d, .int .i64 x.f, .string x.s] 27); simpa using this) (by omega)
  have bm : w1.heap[m]? = some (.cells #[.int .i64 sent, .slice (some ⟨g, 0, none⟩) l.length cap] 56 (0, 0)) := honly.same (block_alloc (block_alloc HM.out.1 _) _) (by omega)
  have k1 : w1.cell? ⟨m, 1, none⟩ = _ := cell_of bm 1
  have f1 : w1.frozen? ⟨m, 1, none⟩ = false := free_of bm 1
  have z0 : w1.cell? ⟨w.heap.size, 0, none⟩ = some (.int .i64 0) := cell_of b4 0
  have z1 : w1.cell? ⟨w.heap.size, 1, none⟩ = some (.int .i64 0) := cell_of b4 1
  have z2 : w1.cell? ⟨w.heap.size, 2, none⟩ = some (.int .i64 0) := cell_of b4 2
  have z3 : w1.cell? ⟨w.heap.size, 3, none⟩ = some (.string ⟨#[]⟩) := cell_of b4 3
  have e0 : w1.frozen? ⟨w.heap.size, 0, none⟩ = false := free_of b4 0
  have e1 : w1.frozen? ⟨w.heap.size, 1, none⟩ = false := free_of b4 1
  have e2 : w1.frozen? ⟨w.heap.size, 2, none⟩ = false := free_of b4 2
  have e3 : w1.frozen? ⟨w.heap.size, 3, none⟩ = false := free_of b4 3
  have y0 : w1.cell? ⟨w.heap.size + 1, 0, none⟩ = some (.int .i64 x.n) := cell_of b6 0
  have y1 : w1.cell? ⟨w.heap.size + 1, 1, none⟩ = some (.int .i64 x.d) := cell_of b6 1
  have y2 : w1.cell? ⟨w.heap.size + 1, 2, none⟩ = some (.int .i64 x.f) := cell_of b6 2
  have y3 : w1.cell? ⟨w.heap.size + 1, 3, none⟩ = some (.string x.s) := cell_of b6 3
  have hsz : w.heap.size + 1 < w1.heap.size := by have := honly.size; simp at this; omega
  have B4 := Lib.hid b4
  have B6 := Lib.hid b6
  have BM := Lib.hid bm
  have HO := Lib.hid honly
  have HW := Lib.hid hrow
  clear b4 b6 bm honly hrow d0 d1 d2 d3 c0 c1 c2 c3 hm1 hm2
  go_wp2_with fail
  refine bodyPost_ret (v := .tuple #[x.agg, .int .i64 0]) (by simp [results, Try.results17, go_sem, Pk.agg, hsz, z0, z1, z2, z3]) rfl ⟨rfl, .slice (some ⟨g, 0, none⟩) (l.length - 1) cap, ⟨?_, ?_⟩, ?_, ?_⟩
  · refine block_far (block_far (block_far (block_far ?_ ?_ _) ?_ _) ?_ _) ?_ _
    · exact block_set (i := 1) BM.out _
    all_goals (show m ≠ w.heap.size; omega)
  · have el : (l.eraseIdx p).length = l.length - 1 := by rw [List.length_eraseIdx]; simp [hp]
    have hw := HW.out
    rw [el] at hw
    refine hw.move fun b hb => ?_
    cases hb
    rw [Below.heap_setCell _ _ _ _ (by show g ≠ w.heap.size; omega), Below.heap_setCell _ _ _ _ (by show g ≠ w.heap.size; omega), Below.heap_setCell _ _ _ _ (by show g ≠ w.heap.size; omega), Below.heap_setCell _ _ _ _ (by show g ≠ w.heap.size; omega), Below.heap_setCell _ _ _ _ hgm]
  · have o1 : Only (foot m (.slice (some ⟨g, 0, none⟩) l.length cap)) w w1 := (((Only.refl _ w).alloc _).alloc _).trans HO.out (fun b _ hb => .inr (by rw [hb]; rfl))
    exact ((((o1.setCell (p := ⟨m, 1, none⟩) (.inr (.inl rfl)) _).setCell (p := ⟨w.heap.size, 0, none⟩) (.inl (Nat.le_refl _)) _).setCell (p := ⟨w.heap.size, 1, none⟩) (.inl (Nat.le_refl _)) _).setCell (p := ⟨w.heap.size, 2, none⟩) (.inl (Nat.le_refl _)) _).setCell (p := ⟨w.heap.size, 3, none⟩) (.inl (Nat.le_refl _)) _
  · intro b hb
    cases hb
    exact .inl rfl
end Go.Proofs.Ytcfmohhidbneoaa.Mt
