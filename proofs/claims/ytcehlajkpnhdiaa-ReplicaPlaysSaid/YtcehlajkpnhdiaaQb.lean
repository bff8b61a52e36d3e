/- The contract of the reference's rise. -/
import Derived.Test.YtcehlajkpnhdiaaQa
namespace Go.Proofs.Ytcehlajkpnhdiaa.Ra
open Go.RowKit Go.Proofs.Ytcehlajkpnhdiaa.Rw Go.Proofs.Ytcehlajkpnhdiaa.Rp
set_option linter.unusedSimpArgs false
set_option linter.unusedVariables false
variable {w w1 : World} {m bs N cap : Nat} {vs : Nat → Value} {s : St}
def RRose (m bs N cap : Nat) (vs : Nat → Value) (s : St) (w : World) (e : Ending) (w' : World) : Prop := e = .returned (.tuple #[]) ∧ RBox w' m bs N cap vs (rise N s) ∧ Only (fun k => k = m) w w'
set_option maxHeartbeats 3200000 in
theorem rrise_any (h : RBox w m bs N cap vs s) (hf : Fit N s) (h0 : s.lead ≠ 0) : Calls Try.prog 35 #[.pointer (some ⟨m, 0, none⟩)] w (RRose m bs N cap vs s w) := by
  have hl := hf.lead
  have hN := hf.n5
  have hlg : s.lead - 1 < N := by omega
  obtain ⟨la, lc, hv⟩ := (h.rows (s.lead - 1) hlg).slice
  have c0 := h.log hlg
  rw [hv] at c0
  have hle : s.his.length ≤ 200 := hf.logs _ hlg
  have c0' : w.cell? ⟨bs, (s.lead - 1) * 4, none⟩ = some (.slice la s.his.length lc) := c0
  have o0 : w.cell? ⟨m, 0, none⟩ = some (.slice (some ⟨bs, 0, none⟩) N cap) := cell_of h.obj 0
  have o2 : w.cell? ⟨m, 2, none⟩ = some (.int .i64 s.lead) := cell_of h.obj 2
  have o3 : w.cell? ⟨m, 3, none⟩ = some (.int .i64 s.high) := cell_of h.obj 3
  have p3 : w.frozen? ⟨m, 3, none⟩ = false := free_of h.obj 3
  have hci : ∀ i, i < N → w.cell? ⟨bs, i * 4 + 2, none⟩ = some (.bool (s.ins i)) := fun i hi => h.in_ hi
  have hcm : ∀ i, i < N → w.cell? ⟨bs, i * 4 + 3, none⟩ = some (.int .i64 (s.mat i)) := fun i hi => h.mat hi
  have hml := leastTo_le s hle
  have hwr : IntKind.i64.wrap ((s.lead : Int) - 1) = (s.lead : Int) - 1 := by rw [IntKind.wrap_i64]; omega
  have hp0 : (0 : Int) ≤ (s.lead : Int) - 1 := by omega
  have hp1 : (s.lead : Int) - 1 < (N : Int) := by omega
  have hp2 : ((s.lead : Int) - 1).toNat = s.lead - 1 := by omega
  have HH := Lib.hid h
  have HI := Lib.hid hci
  have HM := Lib.hid hcm
  have HL := Lib.hid hml
  clear h hf hci hcm hml c0 hv
  go_enter Try.func35, Try.ntmps35
  go_wp2_with fail
  go_quiet (fail)
  go_wp2_with fail
  go_loopw [2, 3] (fun u i wr => ∃ (k : Nat), k ≤ N ∧ i = .int .i64 k ∧ u = .int .i64 (leastTo s k) ∧ wr = w.drewN nq) (fun _ i _ => N - (intOf i).toNat)
  case atStart => exact ⟨0, by omega, rfl, rfl, rfl⟩
  case round =>
    obtain ⟨k, hk, rfl, hu, rfl⟩ := hrel
    obtain ⟨L, hL⟩ : ∃ L, L = leastTo s k := ⟨_, rfl⟩
    rw [← hL] at hu
    subst hu
    have hL2 : L ≤ 200 := by rw [hL]; exact HL.out k
    have HLk := Lib.hid hL
    clear hL
    by_cases hlt : k < N
    · have ci := HI.out k hlt
      have cm := HM.out k hlt
      have hk0 : (0 : Int) ≤ (k : Int) := by omega
      have hk1 : (k : Int) < (N : Int) := by omega
      cases hb : s.ins k with
      | true =>
        rw [hb] at ci
        have hnext : leastTo s (k + 1) = min L (s.mat k) := by rw [HLk.out]; simp [leastTo, hb]
        obtain ⟨y, hy⟩ : ∃ y, y = s.mat k := ⟨_, rfl⟩
        rw [← hy] at cm hnext
        have HNX := Lib.hid hnext
        clear hb hnext hy
        by_cases hlt2 : y < L
        · have hd : decide (y < L) = true := by simp; omega
          have H2 := Lib.hid hlt2
          clear hlt2
          go_wp2_with fail
          go_roundw
          case rel => exact ⟨k + 1, by omega, by go_num, by rw [HNX.out, Nat.min_eq_right (Nat.le_of_lt H2.out)], trivial⟩
          case measure => simp [intOf]; omega
        · have hd : decide (y < L) = false := by simp; omega
          have H2 := Lib.hid hlt2
          clear hlt2
          go_wp2_with fail
          go_roundw
          case rel => exact ⟨k + 1, by omega, by go_num, by rw [HNX.out, Nat.min_eq_left (Nat.le_of_not_lt H2.out)], trivial⟩
          case measure => simp [intOf]; omega
      | false =>
        rw [hb] at ci
        have hnext : Hid (leastTo s (k + 1) = L) := Lib.hid (by rw [HLk.out]; simp [leastTo, hb])
        clear hb
        go_wp2_with fail
        go_roundw
        case rel => exact ⟨k + 1, by omega, by go_num, by rw [hnext.out], trivial⟩
        case measure => simp [intOf]; omega
    · obtain rfl : k = N := by omega
      by_cases hg : s.high < L
      · have hd : decide (s.high < L) = true := by simp; omega
        have HG := Lib.hid hg
        clear hg
        go_wp2_with fail
        refine bodyPost_ret (v := .tuple #[]) (by simp [results, Try.results35, go_sem]) rfl ?_
        exact ⟨rfl, (HH.out.drewN nq).setObj 3 (.int .i64 L) (rise k s) (by have := HG.out; simp [rise, ← HLk.out]; omega) rfl rfl rfl rfl, ((Only.refl (fun k => k = m) w).drewN nq).setCell (p := ⟨m, 3, none⟩) (.inr rfl) _⟩
      · have hd : decide (s.high < L) = false := by simp; omega
        have HG := Lib.hid hg
        clear hg
        go_wp2_with fail
        refine bodyPost_ret (v := .tuple #[]) (by simp [results, Try.results35, go_sem]) rfl ?_
        refine ⟨rfl, ?_, (Only.refl (fun k => k = m) w).drewN nq⟩
        have e : rise k s = s := by
          unfold rise
          rw [← HLk.out, Nat.max_eq_left (Nat.le_of_not_lt HG.out)]
        rw [e]; exact HH.out.drewN nq
end Go.Proofs.Ytcehlajkpnhdiaa.Ra
