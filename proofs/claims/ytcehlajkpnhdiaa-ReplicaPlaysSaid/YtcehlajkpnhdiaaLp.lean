/- ReplicaPlays: whatever is done, each answer and each state are the document's: the law's walk. -/
import Derived.Test.YtcehlajkpnhdiaaQp
import Derived.Test.YtcehlajkpnhdiaaMo
namespace Go.Proofs.Ytcehlajkpnhdiaa.Lp
open Go.RowKit Go.Proofs.Ytcehlajkpnhdiaa.Rw Go.Proofs.Ytcehlajkpnhdiaa.Rp Go.Proofs.Ytcehlajkpnhdiaa.Ra Go.Proofs.Ytcehlajkpnhdiaa.Ln Go.Proofs.Ytcehlajkpnhdiaa.Mo
set_option linter.unusedSimpArgs false
set_option linter.unusedVariables false
theorem after_all {N : Nat} (h1 : 1 ≤ N) (h5 : N ≤ 5) (L : List Deed) : ∀ k, ∃ C, All N (after N L k) C
  | 0 => ⟨_, All.start h1 h5⟩
  | k + 1 => by
    obtain ⟨C, h⟩ := after_all h1 h5 L k
    obtain ⟨C', h', _⟩ := h.next (L.getD k dz)
    exact ⟨C', h'⟩
set_option maxHeartbeats 12800000 in
set_option maxRecDepth 100000 in
theorem plays_bad (n : Int) (hb : n < 1 ∨ 5 < n) (A : Option Addr) (dn c : Nat) (W : World) : Calls Try.prog 6 #[.int .i64 n, .slice A dn c] W (True1 W) := by
  go_enter Try.func6, Try.ntmps6
  go_wp2_with fail
  go_at_call 20
  refine (new_bad n hb W).mono ?_
  rintro e w' ⟨rfl, hw⟩
  have hw' := hw.symm
  clear hw
  subst hw'
  go_wp2_with fail
  go_at_call 21
  refine (rnew_bad n hb W).mono ?_
  rintro e w' ⟨rfl, hw⟩
  have hw' := hw.symm
  clear hw
  subst hw'
  clear hb
  go_wp2_with fail
  go_at_call 19
  refine (awake_any _).mono ?_
  rintro e w3 ⟨rfl, o3⟩
  have O3 := Lib.hid o3
  clear o3
  go_wp2_with fail
  go_ret
  exact True1.of rfl O3.out
set_option maxHeartbeats 12800000 in
set_option maxRecDepth 100000 in
theorem plays_good (N : Nat) (hN1 : 1 ≤ N) (hN5 : N ≤ 5) (A : Option Addr) (DS : List Deed) (c : Nat) (W : World) (hc : DS.length ≤ c) (hn : DS.length ≤ 9223372036854775807) (hR : Deeds W A DS) : Calls Try.prog 6 #[.int .i64 N, .slice A DS.length c] W (True1 W) := by
  obtain ⟨L, hL⟩ : ∃ L, L = DS.take 200 := ⟨_, rfl⟩
  have hD := hR.take 200
  rw [← hL] at hD
  have HD := Lib.hid hD
  have hK : L.length ≤ 200 := by rw [hL, List.length_take]; omega
  have HS := Lib.hid (fun w => some_any A DS c w hc hn)
  rw [← hL] at HS
  obtain ⟨K, hKK⟩ : ∃ K, K = L.length := ⟨_, rfl⟩
  rw [← hKK] at HS hK
  have HKK := Lib.hid hKK
  generalize hDn : DS.length = dn at *
  clear hL hD hR hc hn hKK hDn DS
  go_enter Try.func6, Try.ntmps6
  go_wp2_with fail
  go_at_call 20
  refine (new_any N hN1 hN5 W).mono ?_
  rintro e w1 ⟨r, rfl, h⟩
  have HNEW := Lib.hid h
  clear h
  obtain ⟨m0, bn0, bi0, bm0, hrp, _⟩ := HNEW.out
  go_wp2_with fail
  go_at_call 21
  refine (rnew_any N hN1 hN5 w1).mono ?_
  rintro e w2 ⟨r2, rfl, h2⟩
  obtain ⟨m, bn, bi, bm, m2, bs, cap, hr1, hr2, hP⟩ := PInv.new HNEW.out h2
  have H0 := Lib.hid hP
  have hmm : m = m0 := by
    have h9 := hr1.symm.trans hrp
    injection h9 with h9
    injection h9 with h9
    injection h9
  subst hmm
  subst hr1 hr2
  clear hP h2 HNEW hrp
  go_wp2_with fail
  go_at_call 10
  refine (HS.out w2).mono ?_
  rintro e w' ⟨rfl, hw⟩
  have hw' := hw.symm
  clear hw
  subst hw'
  clear HS
  go_wp2_with fail
  go_loopw [9] (fun xi wr => ∃ (i : Nat), i ≤ K ∧ xi = .int .i64 i ∧ Hid (PInv W m bn bi bm m2 bs N cap (after N L i) (after N L i) wr)) (fun xi _ => K - (intOf xi).toNat)
  case atStart => exact ⟨0, by omega, rfl, H0⟩
  case round =>
    obtain ⟨i, hi, rfl, HI⟩ := hrel
    clear H0
    by_cases hlt : i < K
    · have hdi := HD.out
      rcases hdi with q | ⟨b, off, rfl, hcells⟩
      · exfalso; have := HKK.out; rw [q] at this; simp at this; omega
      obtain ⟨c0, c1, c2⟩ := hcells i (by have := HKK.out; omega)
      obtain ⟨d, hd⟩ : ∃ d, d = L.getD i dz := ⟨_, rfl⟩
      rw [← hd] at c0 c1 c2
      have v0 := cell_on HI.out.only c0
      have v1 := cell_on HI.out.only c1
      have v2 := cell_on HI.out.only c2
      obtain ⟨fits, hep⟩ := after_fit hN1 hN5 L i
      obtain ⟨fits', hepx⟩ := after_fit hN1 hN5 L (i + 1)
      clear hepx
      obtain ⟨CC, hall⟩ := after_all hN1 hN5 L i
      have hse : (doIt N (after N L i) d).2 = after N L (i + 1) := by rw [hd]; rfl
      obtain ⟨s, hs⟩ : ∃ s, s = after N L i := ⟨_, rfl⟩
      obtain ⟨s', hs'⟩ : ∃ s', s' = after N L (i + 1) := ⟨_, rfl⟩
      rw [← hs, ← hs'] at hse
      rw [← hs'] at fits'
      rw [← hs] at fits hep hall HI
      obtain ⟨r, hr⟩ : ∃ r, r = (doIt N s d).1 := ⟨_, rfl⟩
      have cA : Calls Try.prog 11 #[.pointer (some ⟨m, 0, none⟩), .agg #[.int .i64 d.kind, .int .i64 d.n, .int .i64 d.v]] wr.drew (fun e w' => e = .returned (.int .i64 r) ∧ PInv W m bn bi bm m2 bs N cap s' s w' ∧ w'.cell? ⟨b, off + i * 3, none⟩ = some (.int .i64 d.kind) ∧ w'.cell? ⟨b, off + i * 3 + 1, none⟩ = some (.int .i64 d.n) ∧ w'.cell? ⟨b, off + i * 3 + 2, none⟩ = some (.int .i64 d.v)) := by
        refine ((HI.out.later ((Only.refl _ wr).drew)).do1 fits (by omega) d).mono ?_
        rintro e w' ⟨h1, h2⟩
        rw [hse] at h2
        rw [← hr] at h1
        exact ⟨h1, h2, cell_on h2.only c0, cell_on h2.only c1, cell_on h2.only c2⟩
      have cB : ∀ wC, PInv W m bn bi bm m2 bs N cap s' s wC → Calls Try.prog 22 #[.pointer (some ⟨m2, 0, none⟩), .agg #[.int .i64 d.kind, .int .i64 d.n, .int .i64 d.v]] wC (fun e w' => e = .returned (.int .i64 r) ∧ PInv W m bn bi bm m2 bs N cap s' s' w' ∧ w'.cell? ⟨b, off + i * 3, none⟩ = some (.int .i64 d.kind) ∧ w'.cell? ⟨b, off + i * 3 + 1, none⟩ = some (.int .i64 d.n) ∧ w'.cell? ⟨b, off + i * 3 + 2, none⟩ = some (.int .i64 d.v)) := by
        intro wC hC
        refine (hC.do2 hall (by omega) d).mono ?_
        rintro e w' ⟨h1, h2⟩
        rw [hse] at h2
        rw [← hr] at h1
        exact ⟨h1, h2, cell_on h2.only c0, cell_on h2.only c1, cell_on h2.only c2⟩
      have cC : ∀ wC, PInv W m bn bi bm m2 bs N cap s' s' wC → Calls Try.prog 23 #[.pointer (some ⟨m, 0, none⟩), .pointer (some ⟨m2, 0, none⟩)] wC (fun e w' => e = .returned (.bool true) ∧ PInv W m bn bi bm m2 bs N cap s' s' w' ∧ w'.cell? ⟨b, off + i * 3, none⟩ = some (.int .i64 d.kind) ∧ w'.cell? ⟨b, off + i * 3 + 1, none⟩ = some (.int .i64 d.n) ∧ w'.cell? ⟨b, off + i * 3 + 2, none⟩ = some (.int .i64 d.v)) := by
        intro wC hC
        refine (hC.same fits').mono ?_
        rintro e w' ⟨h1, h2⟩
        exact ⟨h1, h2, cell_on h2.only c0, cell_on h2.only c1, cell_on h2.only c2⟩
      have CA := Lib.hid cA
      have CB := Lib.hid cB
      have CC' := Lib.hid cC
      have hback : Hid (after N L (i + 1) = s') := Lib.hid hs'.symm
      have hnn : (r != r) = false := by simp
      have hi0 : (0 : Int) ≤ (i : Int) := by omega
      have hi1 : (i : Int) < (K : Int) := by omega
      clear cA cB cC hse hs hs' hr hd hall fits fits' hep hcells HI c0 c1 c2
      go_wp2_with fail
      go_region_held3 (fun w' => w'.cell? ⟨b, off + i * 3, none⟩ = some (.int .i64 d.kind) ∧ w'.cell? ⟨b, off + i * 3 + 1, none⟩ = some (.int .i64 d.n) ∧ w'.cell? ⟨b, off + i * 3 + 2, none⟩ = some (.int .i64 d.v))
        (go_keep)
        (first
          | (go_at_call 11; refine CA.out.mono ?_; rintro e wA ⟨rfl, pA, a0, a1, a2⟩; have PA := Lib.hid pA; clear pA)
          | (go_at_call 22; refine (CB.out _ PA.out).mono ?_; rintro e wB ⟨rfl, pB, b0, b1, b2⟩; have PB := Lib.hid pB; clear pB)
          | (go_at_call 23; refine (CC'.out _ PB.out).mono ?_; rintro e wD ⟨rfl, pD, e0, e1, e2⟩; have PD := Lib.hid pD; clear pD))
      go_wp2_with fail
      go_roundw
      case rel => exact ⟨i + 1, by omega, by go_num, by rw [hback.out]; exact PD⟩
      case measure => simp [intOf]; omega
    · obtain rfl : i = K := by omega
      go_wp2_with fail
      go_at_call 19
      refine (awake_any _).mono ?_
      rintro e w3 ⟨rfl, o3⟩
      have O3 := Lib.hid o3
      clear o3
      go_wp2_with fail
      go_ret
      exact True1.of rfl (HI.out.only.trans O3.out (fun _ _ q => q))
theorem plays_any (n : Int) (A : Option Addr) (DS : List Deed) (c : Nat) (W : World) (hc : DS.length ≤ c) (hn : DS.length ≤ 9223372036854775807) (hR : Deeds W A DS) : Calls Try.prog 6 #[.int .i64 n, .slice A DS.length c] W (True1 W) := by
  by_cases hb : n < 1 ∨ 5 < n
  · exact plays_bad n hb A DS.length c W
  · have e : n = ((n.toNat : Nat) : Int) := by omega
    rw [e]
    exact plays_good n.toNat (by omega) (by omega) A DS c W hc hn hR
end Go.Proofs.Ytcehlajkpnhdiaa.Lp
