/- The contract of Committed. -/
import Derived.Test.YtcehlajkpnhdiaaRc
namespace Go.Proofs.Ytcehlajkpnhdiaa.Ra
open Go.RowKit Go.Proofs.Ytcehlajkpnhdiaa.Rw Go.Proofs.Ytcehlajkpnhdiaa.Rp
set_option linter.unusedSimpArgs false
set_option linter.unusedVariables false
variable {w w1 : World} {m bn bi bm N : Nat} {vs : Nat → Value} {s : St}
def hasIt (s : St) (i : Nat) : Prop := s.ups i = true ∧ s.ins i = true ∧ s.high ≤ (s.logs i).length
instance (s : St) (i : Nat) : Decidable (hasIt s i) := by unfold hasIt; exact inferInstance
/-- The first one from i on that is up, in sync and has what is committed, out of k more. -/
def commF (s : St) : Nat → Nat → Option Nat
  | _, 0 => none
  | i, k + 1 => if hasIt s i then some i else commF s (i + 1) k
theorem commF_miss {i k : Nat} (hk : 0 < k) (h : ¬ hasIt s i) : commF s i k = commF s (i + 1) (k - 1) := by
  cases k with
  | zero => omega
  | succ k => rw [commF, if_neg h]; rfl
theorem commF_hit {i k : Nat} (hk : 0 < k) (h : hasIt s i) : commF s i k = some i := by
  cases k with
  | zero => omega
  | succ k => rw [commF, if_pos h]
/-- What Committed answers. -/
def Comm (s : St) (N : Nat) (w : World) (e : Ending) (w' : World) : Prop :=
  (commF s 0 N = none ∧ e = .returned (.tuple #[.slice none 0 0, .bool false]) ∧ Only (fun _ => False) w w') ∨
  ∃ i u, commF s 0 N = some i ∧ i < N ∧ hasIt s i ∧ e = .returned (.tuple #[u, .bool true]) ∧ Fresh w ((s.logs i).take s.high) u w'
theorem comm_nil (w : World) : Calls Try.prog 16 #[.pointer none] w fun e w' => e = .returned (.tuple #[.slice none 0 0, .bool false]) ∧ w' = w := by
  go_enter Try.func16, Try.ntmps16
  go_wp2_with fail
  go_ret2
  exact ⟨rfl, rfl⟩
theorem Fresh.back {w wb w' : World} {l : List Cp} {u : Value} (ho : Only (fun _ => False) w wb) (h : Fresh wb l u w') : Fresh w l u w' :=
  ⟨h.1, ho.trans h.2.1 (fun _ _ q => q), fun g hg => Nat.le_trans ho.size (h.2.2 g hg)⟩
set_option maxHeartbeats 6400000 in
set_option maxRecDepth 100000 in
theorem comm_any (h : Box w m bn bi bm N vs s) (hf : Fit N s) : Calls Try.prog 16 #[.pointer (some ⟨m, 0, none⟩)] w (Comm s N w) := by
  have hN := hf.n5
  have o0 : w.cell? ⟨m, 0, none⟩ = some (.slice (some ⟨bn, 0, none⟩) N N) := cell_of h.obj 0
  have HH := Lib.hid h
  have HF := Lib.hid hf
  clear h hf
  go_enter Try.func16, Try.ntmps16
  go_wp2_with fail
  go_loopw [13] (fun u wr => ∃ (i : Nat), i ≤ N ∧ u = .int .i64 i ∧ Hid (commF s 0 N = commF s i (N - i)) ∧ Hid (Box wr m bn bi bm N vs s) ∧ Hid (Only (fun _ => False) w wr)) (fun u _ => N - (intOf u).toNat)
  case atStart => exact ⟨0, by omega, rfl, Lib.hid rfl, HH, Lib.hid (Only.refl _ _)⟩
  case round =>
    obtain ⟨i, hi, rfl, HFI, HB, HO⟩ := hrel
    have r0 : wr.cell? ⟨m, 0, none⟩ = some (.slice (some ⟨bn, 0, none⟩) N N) := cell_of HB.out.obj 0
    by_cases hlt : i < N
    · have ru := HB.out.up hlt
      have hll200 : (s.logs i).length ≤ 200 := HF.out.logs i hlt
      obtain ⟨la, lc, hv⟩ := (HB.out.rows i hlt).slice
      obtain ⟨ll, hll⟩ : ∃ ll, ll = (s.logs i).length := ⟨_, rfl⟩
      rw [← hll] at hv hll200
      have rl : wr.cell? ⟨bn, i * 2, none⟩ = some (.slice la ll lc) := by rw [HB.out.log hlt, hv]
      have HV := Lib.hid hv
      have HLL := Lib.hid hll
      clear hv hll
      have hmw : m < wr.heap.size := lt_of_block HB.out.obj
      have hBA : Hid (∀ o, Box (wr.alloc o) m bn bi bm N vs s) := Lib.hid fun u => HB.out.only ((Only.refl (fun _ => False) wr).alloc _) (fun _ _ q => q)
      have hOA : Hid (∀ o, Only (fun _ => False) w (wr.alloc o)) := Lib.hid fun u => HO.out.alloc _
      have miss : Hid (¬ hasIt s i → commF s 0 N = commF s (i + 1) (N - (i + 1))) := Lib.hid (by
        intro hh
        rw [HFI.out, commF_miss (by omega) hh]; rfl)
      cases hu : s.ups i with
      | false =>
        rw [hu] at ru
        have HM := Lib.hid (miss.out (by unfold hasIt; simp [hu]))
        clear hu
        go_wp2_with fail
        have k1 : (wr.alloc (Obj.cells #[.slice la ll lc, .bool false] 56)).cell? ⟨wr.heap.size, 1, none⟩ = some (.bool false) := cell_of (block_new wr _) 1
        go_quiet (fail)
        go_wp2
        go_roundw
        case rel => exact ⟨i + 1, by omega, by go_num, HM, Lib.hid ((hBA.out _).drewN _), Lib.hid ((hOA.out _).drewN _)⟩
        case measure => simp [intOf]; omega
      | true =>
        rw [hu] at ru
        have k1 : (wr.alloc (Obj.cells #[.slice la ll lc, .bool true] 56)).cell? ⟨wr.heap.size, 1, none⟩ = some (.bool true) := cell_of (block_new wr _) 1
        have k0 : (wr.alloc (Obj.cells #[.slice la ll lc, .bool true] 56)).cell? ⟨wr.heap.size, 0, none⟩ = some (.slice la ll lc) := cell_of (block_new wr _) 0
        have k3 : (wr.alloc (Obj.cells #[.slice la ll lc, .bool true] 56)).cell? ⟨m, 3, none⟩ = some (.slice (some ⟨bi, 0, none⟩) N N) := cell_of (hBA.out _).obj 3
        have k5 : (wr.alloc (Obj.cells #[.slice la ll lc, .bool true] 56)).cell? ⟨m, 5, none⟩ = some (.int .i64 s.high) := cell_of (hBA.out _).obj 5
        have ki : (wr.alloc (Obj.cells #[.slice la ll lc, .bool true] 56)).cell? ⟨bi, i, none⟩ = some (.bool (s.ins i)) := (hBA.out _).ins.cell _ hlt
        have hp0 : (0 : Int) ≤ (i : Int) := by omega
        have hp1 : (i : Int) < (N : Int) := by omega
        have hw9 : Hid (Box (wr.alloc (Obj.cells #[.slice la ll lc, .bool true] 56)) m bn bi bm N vs s) := Lib.hid (hBA.out _)
        have ho9 : Hid (Only (fun _ => False) w (wr.alloc (Obj.cells #[.slice la ll lc, .bool true] 56))) := Lib.hid (hOA.out _)
        cases hi' : s.ins i with
        | false =>
          rw [hi'] at ki
          have HM := Lib.hid (miss.out (by unfold hasIt; simp [hi']))
          clear hu hi'
          go_wp2_with fail
          go_quiet (fail)
          go_wp2
          go_roundw
          case rel => exact ⟨i + 1, by omega, by go_num, HM, Lib.hid ((hBA.out _).drewN _), Lib.hid ((hOA.out _).drewN _)⟩
          case measure => simp [intOf]; omega
        | true =>
          rw [hi'] at ki
          by_cases hh : s.high ≤ ll
          · have hit : hasIt s i := ⟨hu, hi', by rw [← HLL.out]; exact hh⟩
            have HIT := Lib.hid hit
            have HS : Hid (commF s 0 N = some i) := Lib.hid (by rw [HFI.out, commF_hit (by omega) hit])
            have hd : decide (s.high ≤ ll) = true := by simp; omega
            have HHH := Lib.hid hh
            have hrow := HB.out.rows i hlt
            rw [HV.out] at hrow
            have hx0 : (0 : Int) ≤ (s.high : Int) := by omega
            have hx1 : (s.high : Int) ≤ (lc : Int) := by
              rcases hrow with ⟨q, q'⟩ | ⟨hg, cap, cur, q, _, q2, _⟩
              · cases q; omega
              · cases q
                have := HLL.out
                omega
            have hrowc : Row (wr.alloc (Obj.cells #[.slice la ll lc, .bool true] 56)) (.slice la s.high lc) ((s.logs i).take s.high) := by
              have h1 := hrow.move (w1 := wr.alloc (Obj.cells #[.slice la ll lc, .bool true] 56)) (fun b hb => Below.heap_alloc _ _ _ (hrow.lt hb))
              rcases hrow with ⟨q, q'⟩ | ⟨hg, cap, cur, q, _, q2, _⟩
              · cases q
                rw [q']
                have : s.high = 0 := by omega
                rw [this]
                exact Row.nil _
              · cases q
                exact h1.cut s.high lc (by rw [← HLL.out]; exact hh) (by omega) (Nat.le_refl _)
            have HRC := Lib.hid hrowc
            clear hu hi' miss hit hh hrow hrowc
            go_wp2_with fail
            go_quiet (fail)
            go_wp2_with fail
            generalize hW9 : wr.alloc (Obj.cells #[.slice la ll lc, .bool true] 56) = w9 at k0 k1 k3 k5 ki hw9 ho9 HRC ⊢
            have j0 : (w9.drewN nq).cell? ⟨wr.heap.size, 0, none⟩ = some (.slice la ll lc) := k0
            have j5 : (w9.drewN nq).cell? ⟨m, 5, none⟩ = some (.int .i64 s.high) := k5
            have h200 : ((s.logs i).take s.high).length ≤ 256 := by have := HLL.out; rw [List.length_take]; omega
            have hsz : wr.heap.size < (w9.drewN nq).heap.size := World.block_lt_of_cell? _ _ j0
            have hszm : m < (w9.drewN nq).heap.size := World.block_lt_of_cell? _ _ j5
            have HCL : Hid (Calls Try.prog 31 #[.slice la s.high lc] (w9.drewN nq).drew fun e w' => ∃ u, e = .returned u ∧ Fresh (w9.drewN nq).drew ((s.logs i).take s.high) u w' ∧ w'.cell? ⟨m, 5, none⟩ = some (.int .i64 s.high) ∧ w'.cell? ⟨wr.heap.size, 0, none⟩ = some (.slice la ll lc)) := Lib.hid (by
              refine (clone_any (.slice la s.high lc) ((s.logs i).take s.high) (w9.drewN nq).drew h200 (HRC.out.move fun _ _ => rfl)).mono ?_
              rintro e w' ⟨u, h1, h2⟩
              refine ⟨u, h1, h2, ?_, ?_⟩
              · exact (World.cell?_of_block (h2.2.1.block m hszm (fun q => q))).trans j5
              · exact (World.cell?_of_block (h2.2.1.block wr.heap.size hsz (fun q => q))).trans j0)
            have HO9 := Lib.hid ((ho9.out.drewN nq).drew)
            clear h200 hsz hszm
            generalize w9.drewN nq = w8 at j0 j5 HCL HO9 ⊢
            clear hW9 k0 k1 k3 k5 ki hw9 ho9 HRC r0 ru rl hmw hBA hOA
            go_region_held3 (fun w' => w'.cell? ⟨m, 5, none⟩ = some (.int .i64 s.high) ∧ w'.cell? ⟨wr.heap.size, 0, none⟩ = some (.slice la ll lc))
              (go_keep)
              (first
                | (go_at_call 31; refine HCL.out.mono ?_; rintro e wC ⟨u, rfl, hu, q5, q0⟩; have HU := Lib.hid hu; clear hu))
            go_wp2_with fail
            go_ret2
            exact .inr ⟨i, u, HS.out, hlt, HIT.out, rfl, Fresh.back HO9.out HU.out⟩
          · have HM := Lib.hid (miss.out (by unfold hasIt; rw [← HLL.out]; exact fun q => hh q.2.2))
            have hd : decide (s.high ≤ ll) = false := by simp; omega
            clear hu hi' hh miss
            go_wp2_with fail
            go_quiet (fail)
            go_wp2
            go_roundw
            case rel => exact ⟨i + 1, by omega, by go_num, HM, Lib.hid ((hBA.out _).drewN _), Lib.hid ((hOA.out _).drewN _)⟩
            case measure => simp [intOf]; omega
    · obtain rfl : i = N := by omega
      go_wp2_with fail
      go_ret2
      exact .inl ⟨by rw [HFI.out, Nat.sub_self]; rfl, rfl, HO.out⟩
end Go.Proofs.Ytcehlajkpnhdiaa.Ra
