/- The chapter's example comes true: awake tells true, and turns nothing that was there. -/
import Derived.Test.YtcehlajkpnhdiaaRi
namespace Go.Proofs.Ytcehlajkpnhdiaa.Ra
open Go.RowKit Go.Proofs.Ytcehlajkpnhdiaa.Rw Go.Proofs.Ytcehlajkpnhdiaa.Rp
set_option linter.unusedSimpArgs false
set_option linter.unusedVariables false
def a0 : St := init
def a1 : St := (doIt 2 a0 ⟨1, 0, 5⟩).2
def a2 : St := (doIt 2 a1 ⟨2, 2, 0⟩).2
def a3 : St := (doIt 2 a2 ⟨3, 2, 0⟩).2
def a4 : St := (doIt 2 a3 ⟨1, 0, 6⟩).2
def a5 : St := (doIt 2 a4 ⟨4, 2, 0⟩).2
def a6 : St := (doIt 2 a5 ⟨3, 1, 0⟩).2
def a7 : St := (doIt 2 a6 ⟨6, 0, 0⟩).2
theorem high2 : (a2.high : Int) = 1 := by kernel_rfl
theorem high4 : (a4.high : Int) = 2 := by kernel_rfl
theorem ans7 : (doIt 2 a6 ⟨6, 0, 0⟩).1 = 3 := by kernel_rfl
theorem log7 : a7.logs 1 = [(1, 5)] := by kernel_rfl
def G (s : St) (k : Int) : Prop := Fit 2 s ∧ s.epoch ≤ k
theorem G.next {s : St} {k : Int} (h : G s k) (d : Deed) : G (doIt 2 s d).2 (k + 1) := ⟨fit_do h.1 d, by have := (epoch_do (N := 2) s d).2; have := h.2; omega⟩
theorem g0 : G a0 1 := ⟨fit_init (by omega) (by omega), by decide⟩
theorem g1 : G a1 2 := g0.next _
theorem g2 : G a2 3 := g1.next _
theorem g3 : G a3 4 := g2.next _
theorem g4 : G a4 5 := g3.next _
theorem g5 : G a5 6 := g4.next _
theorem g6 : G a6 7 := g5.next _
theorem g7 : G a7 8 := g6.next _
set_option maxHeartbeats 3200000 in
set_option maxRecDepth 100000 in
theorem awake_any (w : World) : Calls Try.prog 19 #[] w fun e w' => e = .returned (.bool true) ∧ Only (fun _ => False) w w' := by
  go_enter Try.func19, Try.ntmps19
  go_wp2_with fail
  go_at_call 20
  refine (new_any 2 (by omega) (by omega) w).mono ?_
  rintro e wa ⟨r, rfl, h⟩
  obtain ⟨m, bn, bi, bm, rfl, h0⟩ := RInv.new h
  have H0 : Hid (RInv w m bn bi bm 2 a0 wa) := Lib.hid h0
  clear h h0
  go_wp2_with fail
  go_at_call 11
  refine (H0.out.do_ g0.1 (by have := g0.2; omega) ⟨1, 0, 5⟩).mono ?_
  rintro e w1 ⟨rfl, h1⟩
  have H1 : Hid (RInv w m bn bi bm 2 a1 w1) := Lib.hid h1
  clear h1 H0
  go_wp2_with fail
  go_at_call 11
  refine (H1.out.do_ g1.1 (by have := g1.2; omega) ⟨2, 2, 0⟩).mono ?_
  rintro e w2 ⟨rfl, h2⟩
  have H2 : Hid (RInv w m bn bi bm 2 a2 w2) := Lib.hid h2
  clear h2 H1
  go_wp2_with fail
  go_at_call 17
  refine (H2.out.high).mono ?_
  rintro e w' ⟨rfl, hw'⟩
  subst hw'
  rw [high2]
  go_wp2_with fail
  go_at_call 11
  refine (H2.out.do_ g2.1 (by have := g2.2; omega) ⟨3, 2, 0⟩).mono ?_
  rintro e w3 ⟨rfl, h3⟩
  have H3 : Hid (RInv w m bn bi bm 2 a3 w3) := Lib.hid h3
  clear h3 H2
  go_wp2_with fail
  go_at_call 11
  refine (H3.out.do_ g3.1 (by have := g3.2; omega) ⟨1, 0, 6⟩).mono ?_
  rintro e w4 ⟨rfl, h4⟩
  have H4 : Hid (RInv w m bn bi bm 2 a4 w4) := Lib.hid h4
  clear h4 H3
  go_wp2_with fail
  go_at_call 17
  refine (H4.out.high).mono ?_
  rintro e w' ⟨rfl, hw'⟩
  subst hw'
  rw [high4]
  go_wp2_with fail
  go_at_call 11
  refine (H4.out.do_ g4.1 (by have := g4.2; omega) ⟨4, 2, 0⟩).mono ?_
  rintro e w5 ⟨rfl, h5⟩
  have H5 : Hid (RInv w m bn bi bm 2 a5 w5) := Lib.hid h5
  clear h5 H4
  go_wp2_with fail
  go_at_call 11
  refine (H5.out.do_ g5.1 (by have := g5.2; omega) ⟨3, 1, 0⟩).mono ?_
  rintro e w6 ⟨rfl, h6⟩
  have H6 : Hid (RInv w m bn bi bm 2 a6 w6) := Lib.hid h6
  clear h6 H5
  go_wp2_with fail
  go_at_call 11
  refine (H6.out.do_ g6.1 (by have := g6.2; omega) ⟨6, 0, 0⟩).mono ?_
  rintro e w7 ⟨rfl, h7⟩
  rw [ans7]
  have H7 : Hid (RInv w m bn bi bm 2 a7 w7) := Lib.hid h7
  clear h7 H6
  go_wp2_with fail
  go_at_call 14
  refine (H7.out.log g7.1 1 (by omega)).mono ?_
  rintro e w8 ⟨u, rfl, hu⟩
  rw [log7] at hu
  have HU := Lib.hid hu
  clear hu
  go_wp2_with fail
  go_at_call 15
  have hru : Row (w8.alloc (.cells #[.int .i64 1, .int .i64 5] 45)) u [(1, 5)] := HU.out.1.move fun b hb => Below.heap_alloc _ _ _ (HU.out.1.lt hb)
  have hrn : Row (w8.alloc (.cells #[.int .i64 1, .int .i64 5] 45)) (.slice (some ⟨w8.heap.size, 0, none⟩) 1 1) [(1, 5)] := Row.mk (l := [(1, 5)]) (block_new w8 _) (by decide) (by unfold maxLen; omega) (by decide) rfl
  refine (same_any _ _ [(1, 5)] [(1, 5)] _ hru hrn (by decide) (by decide)).mono ?_
  rintro e w9 ⟨rfl, n, rfl⟩
  have ho : Only (fun _ => False) w ((w8.alloc (.cells #[.int .i64 1, .int .i64 5] 45)).drewN n) := ((H7.out.only.trans HU.out.2.1 (fun _ _ q => q)).alloc _).drewN n
  have HO := Lib.hid ho
  have hd : decide (([(1, 5)] : List Cp) = [(1, 5)]) = true := by decide
  rw [hd]
  clear hru hrn ho
  go_wp2_with fail
  go_ret
  exact ⟨rfl, HO.out⟩
end Go.Proofs.Ytcehlajkpnhdiaa.Ra
