/- ReplicaCatches: when all are up and fetch often enough, all have all: the law's walk. -/
import Derived.Test.YtcehlajkpnhdiaaMo
import Derived.Test.YtcehlajkpnhdiaaPc
namespace Go.Proofs.Ytcehlajkpnhdiaa.Lc
open Go.RowKit Go.Proofs.Ytcehlajkpnhdiaa.Rw Go.Proofs.Ytcehlajkpnhdiaa.Rp Go.Proofs.Ytcehlajkpnhdiaa.Ra Go.Proofs.Ytcehlajkpnhdiaa.Ln Go.Proofs.Ytcehlajkpnhdiaa.Mo
set_option linter.unusedSimpArgs false
set_option linter.unusedVariables false
theorem after_all {N : Nat} (h1 : 1 ≤ N) (h5 : N ≤ 5) (L : List Deed) : ∀ k, ∃ C, All N (after N L k) C
  | 0 => ⟨_, All.start h1 h5⟩
  | k + 1 => by
    obtain ⟨C, h⟩ := after_all h1 h5 L k
    obtain ⟨C', h', _⟩ := h.next (L.getD k dz)
    exact ⟨C', h'⟩
theorem inTo_all (s : St) : ∀ k, (∀ n, n < k → s.ins n = true) → (inTo s k).length = k
  | 0, _ => rfl
  | k + 1, h => by
    unfold inTo
    rw [if_pos (h k (by omega)), List.length_append, inTo_all s k (fun n hn => h n (by omega))]
    rfl
set_option maxHeartbeats 12800000 in
set_option maxRecDepth 100000 in
theorem catches_any (n : Int) (A : Option Addr) (DS : List Deed) (c : Nat) (W : World) (hc : DS.length ≤ c) (hn : DS.length ≤ 9223372036854775807) (hR : Deeds W A DS) : Calls Try.prog 3 #[.int .i64 n, .slice A DS.length c] W (True1 W) := by
  obtain ⟨hN1, hN5, hNI⟩ := ofN_le n
  have hm0 : -5 < n.tmod 5 := by have := Int.lt_tmod_of_pos n (b := 5) (by omega); omega
  have hm1 : n.tmod 5 < 5 := Int.tmod_lt_of_pos n (by omega)
  obtain ⟨N, hNN⟩ : ∃ N, N = ofN n := ⟨_, rfl⟩
  obtain ⟨L, hL⟩ : ∃ L, L = DS.take 200 := ⟨_, rfl⟩
  have hD := hR.take 200
  rw [← hL] at hD
  have HD := Lib.hid hD
  have hK : L.length ≤ 200 := by rw [hL, List.length_take]; omega
  have HS := Lib.hid (fun w => some_any A DS c w hc hn)
  rw [← hL] at HS
  obtain ⟨K, hKK⟩ : ∃ K, K = L.length := ⟨_, rfl⟩
  rw [← hKK] at HS hK
  have HKK := Lib.hid hKK
  have HO := Lib.hid (fun w => of_any n w)
  rw [← hNN] at HO hN1 hN5 hNI
  generalize hDn : DS.length = dn at *
  clear hL hD hR hc hn hKK hNN hDn DS
  go_enter Try.func3, Try.ntmps3
  go_wp2_with fail
  go_at_call 9
  refine (HO.out W).mono ?_
  rintro e w1 ⟨r, rfl, h⟩
  obtain ⟨m, bn, bi, bm, rfl, h0⟩ := RInv.new h
  have H0 := Lib.hid h0
  clear h h0 HO
  go_wp2_with fail
  go_at_call 10
  refine (HS.out w1).mono ?_
  rintro e w' ⟨rfl, hw⟩
  subst hw
  clear HS
  go_wp2_with fail
  clear hm0 hm1
  go_loopw [6] (fun xi wr => ∃ (i : Nat), i ≤ K ∧ xi = .int .i64 i ∧ Hid (RInv W m bn bi bm N (after N L i) wr)) (fun xi _ => K - (intOf xi).toNat)
  case atStart => exact ⟨0, by omega, rfl, H0⟩
  case round =>
    obtain ⟨i, hi, rfl, HI⟩ := hrel
    clear H0
    by_cases hlt : i < K
    · have hdi := HD.out
      rcases hdi with q | ⟨b, off, rfl, hcells⟩
      · exfalso; have := HKK.out; rw [q] at this; simp at this; omega
      obtain ⟨c0, c1, c2⟩ := hcells i (by have := HKK.out; omega)
      have c0 := cell_on HI.out.only c0
      have c1 := cell_on HI.out.only c1
      have c2 := cell_on HI.out.only c2
      obtain ⟨fits, hep⟩ := after_fit hN1 hN5 L i
      have hDo := HI.out.do_ fits (by omega) (L.getD i dz)
      obtain ⟨d, hd⟩ : ∃ d, d = L.getD i dz := ⟨_, rfl⟩
      have hse : (doIt N (after N L i) (L.getD i dz)).2 = after N L (i + 1) := rfl
      rw [hse] at hDo
      rw [← hd] at c0 c1 c2 hDo
      have HDo := Lib.hid hDo
      have hi0 : (0 : Int) ≤ (i : Int) := by omega
      have hi1 : (i : Int) < (K : Int) := by omega
      clear hDo hse hd hcells fits hep HI
      go_wp2_with fail
      go_at_call 11
      refine HDo.out.mono ?_
      rintro e w3 ⟨rfl, h3⟩
      have H3 := Lib.hid h3
      clear h3 HDo c0 c1 c2
      go_wp2_with fail
      go_roundw
      case rel => exact ⟨i + 1, by omega, by go_num, H3⟩
      case measure => simp [intOf]; omega
    · obtain rfl : i = K := by omega
      obtain ⟨CA, hCA⟩ := after_all hN1 hN5 L i
      have hEA := (after_fit hN1 hN5 L i).2
      obtain ⟨sA, hsA⟩ : ∃ sA, sA = after N L i := ⟨_, rfl⟩
      rw [← hsA] at HI hCA hEA
      have HCA := Lib.hid hCA
      have HEA : Hid (sA.epoch ≤ 999) := Lib.hid (by omega)
      clear hsA hCA hEA HD HKK
      go_wp2_with fail
      go_loopw [7] (fun xa wr => ∃ (p : Nat) (s : St) (C : List Cp), p ≤ N ∧ xa = .int .i64 ((p : Int) + 1) ∧ Hid (All N s C) ∧ Hid (s.epoch ≤ 999) ∧ Hid (∀ j, j < p → s.ups j = true) ∧ Hid (RInv W m bn bi bm N s wr)) (fun xa _ => N + 1 - (intOf xa).toNat)
      case atStart => exact ⟨0, sA, CA, by omega, by simp, HCA, HEA, Lib.hid (fun j hj => by omega), HI⟩
      case round =>
        obtain ⟨p, s, C, hp, rfl, HA, HE, HU, HI2⟩ := hrel
        clear HI HCA HEA
        by_cases hpl : p < N
        · have hup := HI2.out.up HA.out.fit p hpl
          cases hu : s.ups p with
          | true =>
            rw [hu] at hup
            have HUP := Lib.hid hup
            have HUQ := Lib.hid hu
            clear hup hu
            go_wp2_with fail
            go_at_call 12
            refine HUP.out.mono ?_
            rintro e w' ⟨rfl, hw⟩
            subst hw
            clear HUP
            go_wp2_with fail
            go_roundw
            case rel => exact ⟨p + 1, s, C, by omega, by go_num, HA, HE, Lib.hid (fun j hj => by by_cases q : j = p; rw [q]; exact HUQ.out; exact HU.out j (by omega)), HI2⟩
            case measure => simp [intOf]; omega
          | false =>
            rw [hu] at hup
            have hDo := HI2.out.do_ HA.out.fit (by have := HE.out; omega) ⟨4, (p : Int) + 1, 0⟩
            obtain ⟨C', hall, _⟩ := HA.out.next ⟨4, (p : Int) + 1, 0⟩
            rw [doIt_begin p hpl] at hDo hall
            have hbu := begin_ups p hu
            have hbe := begin_ep (s := s) p
            obtain ⟨s', hs'⟩ : ∃ s', s' = (begin_ s p).2 := ⟨_, rfl⟩
            rw [← hs'] at hDo hall hbu hbe
            have HDo : Hid (Calls Try.prog 11 #[.pointer (some ⟨m, 0, none⟩), .agg #[.int .i64 4, .int .i64 ((p : Int) + 1), .int .i64 0]] wr fun e w' => ∃ r : Int, e = .returned (.int .i64 r) ∧ RInv W m bn bi bm N s' w') := Lib.hid (hDo.mono fun e w' ⟨q1, q2⟩ => ⟨_, q1, q2⟩)
            have HUP := Lib.hid hup
            have HALL := Lib.hid hall
            have HBU := Lib.hid hbu
            have HBE := Lib.hid hbe
            clear hup hu hDo hall hbu hbe hs'
            go_wp2_with fail
            go_at_call 12
            refine HUP.out.mono ?_
            rintro e w' ⟨rfl, hw⟩
            subst hw
            clear HUP
            go_wp2_with fail
            go_at_call 11
            refine HDo.out.mono ?_
            rintro e w3 ⟨r, rfl, h3⟩
            have H3 := Lib.hid h3
            clear h3 HDo
            go_wp2_with fail
            go_roundw
            case rel =>
              refine ⟨p + 1, s', C', by omega, by go_num, HALL, Lib.hid (by rw [HBE.out]; exact HE.out), Lib.hid (fun j hj => ?_), H3⟩
              rw [HBU.out]
              by_cases q : j = p
              · rw [q, upd_same]
              · rw [upd_other _ _ _ q]; exact HU.out j (by omega)
            case measure => simp [intOf]; omega
        · obtain rfl : p = N := by omega
          go_wp2_with fail
          go_at_call 13
          refine HI2.out.leader.mono ?_
          rintro e wl0 ⟨rfl, ho⟩
          have H1 := Lib.hid (HI2.out.later ho)
          clear ho HI2
          by_cases h0 : s.lead = 0
          · have hDo := H1.out.do_ HA.out.fit (by have := HE.out; omega) ⟨6, 0, 0⟩
            obtain ⟨C1, hall, hprf⟩ := HA.out.next ⟨6, 0, 0⟩
            clear hprf
            obtain ⟨q1, q2, q3⟩ := elect_ok HA.out h0 HU.out
            have hee := (epoch_do (N := p) s ⟨6, 0, 0⟩).2
            rw [doIt_elect] at hDo hall hee
            rw [q1] at hDo
            obtain ⟨s1, hs1⟩ : ∃ s1, s1 = (elect p s).2 := ⟨_, rfl⟩
            rw [← hs1] at hDo hall hee q2 q3
            have HDo : Hid (Calls Try.prog 11 #[.pointer (some ⟨m, 0, none⟩), .agg #[.int .i64 6, .int .i64 0, .int .i64 0]] wl0 fun e w' => e = .returned (.int .i64 0) ∧ RInv W m bn bi bm p s1 w') := Lib.hid hDo
            have HA1 := Lib.hid hall
            have HE1 : Hid (s1.epoch ≤ 1000) := Lib.hid (by have := HE.out; omega)
            have HU1 : Hid (∀ j, j < p → s1.ups j = true) := Lib.hid (by rw [q3]; exact HU.out)
            have HL1 := Lib.hid q2
            rw [h0]
            clear hDo hall hee q1 q2 q3 hs1 H1 HA HE HU hpl h0
            go_wp2_with fail
            go_at_call 11
            refine HDo.out.mono ?_
            rintro e w3 ⟨rfl, h3⟩
            have H1 := Lib.hid h3
            clear h3 HDo
            generalize p = N at *
            go_wp2_with fail
            go_at_call 13
            refine H1.out.leader.mono ?_
            rintro e wl ⟨rfl, ho⟩
            have H2 := Lib.hid (H1.out.later ho)
            obtain ⟨ld, hld⟩ : ∃ ld, ld = s1.lead := ⟨_, rfl⟩
            have hld0 : ld ≠ 0 := by rw [hld]; exact HL1.out
            have hldN : ld ≤ N := by rw [hld]; exact HA1.out.fit.lead
            rw [← hld]
            have HLD := Lib.hid hld
            have HNU : Hid (∀ n, n < N → n + 1 ≠ ld → nu s1 n ≤ 402 - 0) := Lib.hid (fun n hn _ => nu_le (HA1.out.fit.logs (s1.lead - 1) (by have := HL1.out; have := HA1.out.fit.lead; omega)) n (HA1.out.fit.logs n hn))
            clear ho H1 hld
            go_wp2_with fail
            go_loopw [10] (fun xr wr => ∃ (r : Nat) (s : St) (C : List Cp), r ≤ 500 ∧ xr = .int .i64 r ∧ Hid (All N s C) ∧ Hid (s.epoch ≤ 1000) ∧ Hid (∀ j, j < N → s.ups j = true) ∧ Hid (ld = s.lead) ∧ Hid (∀ n, n < N → n + 1 ≠ ld → nu s n ≤ 402 - r) ∧ Hid (RInv W m bn bi bm N s wr)) (fun xr _ => 500 - (intOf xr).toNat)
            case atStart => exact ⟨0, s1, C1, by omega, rfl, HA1, HE1, HU1, HLD, HNU, H2⟩
            case round =>
              obtain ⟨r, s, C, hr, rfl, HA, HE, HU, HLd, HN, HI⟩ := hrel
              clear HA1 HE1 HU1 HLD HNU H2 HL1
              by_cases hrl : r < 500
              · have hrd : decide ((r : Int) < 500) = true := by simp; omega
                have HRL := Lib.hid hrl
                clear hrl
                go_wp2_with fail
                go_loopw [11] (fun xk wr => ∃ (p : Nat) (s : St) (C : List Cp), p ≤ N ∧ xk = .int .i64 ((p : Int) + 1) ∧ Hid (All N s C) ∧ Hid (s.epoch ≤ 1000) ∧ Hid (∀ j, j < N → s.ups j = true) ∧ Hid (ld = s.lead) ∧ Hid (∀ n, n < N → n + 1 ≠ ld → nu s n ≤ if n < p then 402 - (r + 1) else 402 - r) ∧ Hid (RInv W m bn bi bm N s wr)) (fun xk _ => N + 1 - (intOf xk).toNat)
                case atStart => exact ⟨0, s, C, by omega, by simp, HA, HE, HU, HLd, Lib.hid (fun n hn hne => by rw [if_neg (by omega)]; exact HN.out n hn hne), HI⟩
                case round =>
                  clear HA HE HU HLd HN HI
                  obtain ⟨p, s, C, hp, rfl, HA, HE, HU, HLd, HN, HI⟩ := hrel
                  by_cases hpl : p < N
                  · by_cases hpe : p + 1 = ld
                    · have hd : (((p : Int) + 1) != (ld : Int)) = false := by simp; omega
                      go_wp2_with fail
                      go_roundw
                      case rel =>
                        refine ⟨p + 1, s, C, by omega, by go_num, HA, HE, HU, HLd, Lib.hid (fun n hn hne => ?_), HI⟩
                        have := HN.out n hn hne
                        by_cases q : n < p
                        · rw [if_pos q] at this; rw [if_pos (by omega)]; exact this
                        · rw [if_neg q] at this; rw [if_neg (by omega)]; exact this
                      case measure => simp [intOf]; omega
                    · have hd : (((p : Int) + 1) != (ld : Int)) = true := by simp; omega
                      have hDo := HI.out.do_ HA.out.fit (by have := HE.out; omega) ⟨2, (p : Int) + 1, 0⟩
                      obtain ⟨C', hall, _⟩ := HA.out.next ⟨2, (p : Int) + 1, 0⟩
                      have hfn := fetch_near HA.out (by rw [← HLd.out]; exact hld0) hpl (HU.out p hpl) (by rw [← HLd.out]; exact hpe)
                      have hee := fetch_ep (N := N) (s := s) p
                      rw [doIt_fetch p hpl] at hDo hall
                      obtain ⟨s', hs'⟩ : ∃ s', s' = (fetch N s p).2 := ⟨_, rfl⟩
                      rw [← hs'] at hDo hall hfn hee
                      have HDo : Hid (Calls Try.prog 11 #[.pointer (some ⟨m, 0, none⟩), .agg #[.int .i64 2, .int .i64 ((p : Int) + 1), .int .i64 0]] wr fun e w' => ∃ r : Int, e = .returned (.int .i64 r) ∧ RInv W m bn bi bm N s' w') := Lib.hid (hDo.mono fun e w' ⟨q1, q2⟩ => ⟨_, q1, q2⟩)
                      have HALL := Lib.hid hall
                      have HFN := Lib.hid hfn
                      have HEE := Lib.hid hee
                      clear hDo hall hfn hee hs'
                      go_wp2_with fail
                      go_at_call 11
                      refine HDo.out.mono ?_
                      rintro e w3 ⟨r3, rfl, h3⟩
                      have H3 := Lib.hid h3
                      clear h3 HDo
                      go_wp2_with fail
                      go_roundw
                      case rel =>
                        refine ⟨p + 1, s', C', by omega, by go_num, HALL, Lib.hid (by rw [HEE.out]; exact HE.out), Lib.hid (by rw [HFN.out.2.1]; exact HU.out), Lib.hid (by rw [HFN.out.1]; exact HLd.out), Lib.hid (fun n hn hne => ?_), H3⟩
                        have h1 := HN.out n hn hne
                        by_cases q : n = p
                        · subst q
                          have h2 := HFN.out.2.2.1
                          rw [if_neg (by omega)] at h1
                          rw [if_pos (by omega)]
                          omega
                        · rw [HFN.out.2.2.2 n q]
                          by_cases q2 : n < p
                          · rw [if_pos q2] at h1; rw [if_pos (by omega)]; exact h1
                          · rw [if_neg q2] at h1; rw [if_neg (by omega)]; exact h1
                      case measure => simp [intOf]; omega
                  · obtain rfl : p = N := by omega
                    go_wp2_with fail
                    go_roundw
                    case rel => exact ⟨r + 1, s, C, by have := HRL.out; omega, by go_num, HA, HE, HU, HLd, Lib.hid (fun n hn hne => by have := HN.out n hn hne; rw [if_pos hn] at this; exact this), HI⟩
                    case measure => have := HRL.out; simp [intOf]; omega
              · obtain rfl : r = 500 := by omega
                have hl0 : s.lead ≠ 0 := by rw [← HLd.out]; exact hld0
                obtain ⟨hdn, hhi⟩ := all_done HA.out hl0 (fun n hn hne => by have := HN.out n hn (by rw [HLd.out]; exact hne); omega)
                have hp : ld - 1 < N := by omega
                have hpI : ((ld - 1 : Nat) : Int) + 1 = (ld : Int) := by omega
                have hhisE : s.logs (ld - 1) = s.his := by unfold St.his; rw [HLd.out]
                obtain ⟨his, hhis⟩ : ∃ his, his = s.his := ⟨_, rfl⟩
                rw [← hhis] at hdn hhi hhisE
                have h200 : his.length ≤ 200 := by rw [← hhisE]; exact HA.out.fit.logs _ hp
                have hLog : Hid (∀ w n, n < N → RInv W m bn bi bm N s w → Calls Try.prog 14 #[.pointer (some ⟨m, 0, none⟩), .int .i64 ((n : Int) + 1)] w fun e w' => ∃ u, e = .returned u ∧ Fresh w his u w') := Lib.hid (by
                  intro w n hn h
                  have := h.log HA.out.fit n hn
                  rwa [(hdn n hn).1] at this)
                have hLogL : Hid (Calls Try.prog 14 #[.pointer (some ⟨m, 0, none⟩), .int .i64 ld] wr fun e w' => ∃ u, e = .returned u ∧ Fresh wr his u w') := Lib.hid (by
                  have := hLog.out wr (ld - 1) hp HI.out
                  rwa [hpI] at this)
                obtain ⟨x, hx⟩ := commF_some (s := s) N 0 (ld - 1) (by omega) (by omega) ⟨HU.out _ hp, (hdn _ hp).2, by rw [hhisE, hhi]; exact Nat.le_refl _⟩
                obtain ⟨ll, hll⟩ : ∃ ll, ll = his.length := ⟨_, rfl⟩
                rw [← hll] at hhi h200
                have HX := Lib.hid hx
                have HDN := Lib.hid hdn
                have HHI := Lib.hid hhi
                have HLL := Lib.hid hll
                clear hx hdn hhi hll hhis hhisE hpI hrl
                go_wp2_with fail
                go_at_call 14
                refine hLogL.out.mono ?_
                rintro e w4 ⟨u, rfl, hu⟩
                have H4 := Lib.hid (HI.out.later hu.2.1)
                obtain ⟨ua, uc, huf⟩ := hu.1.slice
                subst huf
                have hrow := hu.1
                rw [← HLL.out] at hrow ⊢
                have HR4 := Lib.hid hrow
                clear hu hrow hLogL HI HN
                go_wp2_with fail
                go_loopw [13] (fun xk wr => ∃ (p : Nat), p ≤ N ∧ xk = .int .i64 ((p : Int) + 1) ∧ Hid (RInv W m bn bi bm N s wr) ∧ Hid (Row wr (.slice ua ll uc) his)) (fun xk _ => N + 1 - (intOf xk).toNat)
                case atStart => exact ⟨0, by omega, by simp, H4, HR4⟩
                case round =>
                  obtain ⟨p, hp, rfl, HI, HR⟩ := hrel
                  clear H4 HR4
                  by_cases hpl : p < N
                  · have HLp := Lib.hid (hLog.out _ p hpl HI.out)
                    go_wp2_with fail
                    go_at_call 14
                    refine HLp.out.mono ?_
                    rintro e w5 ⟨v, rfl, hv⟩
                    have H5 := Lib.hid (HI.out.later hv.2.1)
                    have HRu := Lib.hid (HR.out.only hv.2.1 (fun _ _ q => q))
                    have HRv := Lib.hid hv.1
                    clear hv HLp HI HR
                    go_wp2_with fail
                    go_at_call 15
                    refine (same_any v (.slice ua ll uc) his his w5 HRv.out HRu.out (by have := HLL.out; omega) (by have := HLL.out; omega)).mono ?_
                    rintro e w6 ⟨rfl, n6, rfl⟩
                    rw [decide_eq_true rfl]
                    go_wp2_with fail
                    go_roundw
                    case rel => exact ⟨p + 1, by omega, by go_num, Lib.hid (H5.out.later ((Only.refl _ _).drewN _)), Lib.hid (HRu.out.move fun _ _ => rfl)⟩
                    case measure => simp [intOf]; omega
                  · obtain rfl : p = N := by omega
                    go_wp2_with fail
                    go_at_call 16
                    refine (HI.out.comm HA.out.fit).mono ?_
                    rintro e w5 (⟨hz, rfl, ho⟩ | ⟨j, v, hz, hj, hj2, rfl, hv⟩)
                    · rw [HX.out] at hz; cases hz
                    · rw [(HDN.out j hj).1, HHI.out, HLL.out, List.take_length] at hv
                      have H5 := Lib.hid (HI.out.later hv.2.1)
                      have HRu := Lib.hid (HR.out.only hv.2.1 (fun _ _ q => q))
                      have HRv := Lib.hid hv.1
                      have hinl := inTo_all s p (fun n hn => (HDN.out n hn).2)
                      have HINL := Lib.hid hinl
                      have hhieq : Hid ((s.high : Int) = (ll : Int)) := Lib.hid (by rw [HHI.out])
                      clear hv HI HR hinl
                      go_wp2_with fail
                      go_at_call 15
                      refine (same_any v (.slice ua ll uc) his his w5 HRv.out HRu.out (by have := HLL.out; omega) (by have := HLL.out; omega)).mono ?_
                      rintro e w6 ⟨rfl, n6, rfl⟩
                      rw [decide_eq_true rfl]
                      have H6 := Lib.hid (H5.out.later ((Only.refl _ _).drewN n6))
                      clear H5 HRu HRv
                      go_wp2_with fail
                      go_at_call 17
                      refine H6.out.high.mono ?_
                      rintro e w' ⟨rfl, hw⟩
                      subst hw
                      rw [hhieq.out]
                      go_wp2_with fail
                      go_at_call 18
                      refine (H6.out.ins HA.out.fit).mono ?_
                      rintro e w7 ⟨uu, rfl, huu, ho⟩
                      have H7 := Lib.hid (H6.out.later ho)
                      obtain ⟨ia, ic, hif⟩ := huu.slice
                      subst hif
                      rw [HINL.out]
                      clear huu ho H6
                      go_wp2_with fail
                      go_at_call 19
                      refine (awake_any _).mono ?_
                      rintro e w8 ⟨rfl, o8⟩
                      have O8 := Lib.hid o8
                      clear o8
                      go_wp2_with fail
                      go_ret
                      exact True1.of rfl (H7.out.only.trans O8.out (fun _ _ q => q))
          · have hne : ((s.lead : Int) == 0) = false := by simp; omega
            have hne' : (s.lead == 0) = false := by simp; omega
            obtain ⟨s1, hs1⟩ : ∃ s1, s1 = s := ⟨_, rfl⟩
            obtain ⟨C1, hC1⟩ : ∃ C1, C1 = C := ⟨_, rfl⟩
            have HA1 : Hid (All p s1 C1) := by rw [hs1, hC1]; exact HA
            have HE1 : Hid (s1.epoch ≤ 1000) := Lib.hid (by rw [hs1]; have := HE.out; omega)
            have HU1 : Hid (∀ j, j < p → s1.ups j = true) := by rw [hs1]; exact HU
            have HL1 : Hid (s1.lead ≠ 0) := Lib.hid (by rw [hs1]; exact h0)
            rw [← hs1] at hne hne' H1 ⊢
            clear hs1 hC1 HA HE HU hpl h0
            go_wp2_with fail
            generalize p = N at *
            go_at_call 13
            refine H1.out.leader.mono ?_
            rintro e wl ⟨rfl, ho⟩
            have H2 := Lib.hid (H1.out.later ho)
            obtain ⟨ld, hld⟩ : ∃ ld, ld = s1.lead := ⟨_, rfl⟩
            have hld0 : ld ≠ 0 := by rw [hld]; exact HL1.out
            have hldN : ld ≤ N := by rw [hld]; exact HA1.out.fit.lead
            rw [← hld]
            have HLD := Lib.hid hld
            have HNU : Hid (∀ n, n < N → n + 1 ≠ ld → nu s1 n ≤ 402 - 0) := Lib.hid (fun n hn _ => nu_le (HA1.out.fit.logs (s1.lead - 1) (by have := HL1.out; have := HA1.out.fit.lead; omega)) n (HA1.out.fit.logs n hn))
            clear ho H1 hld
            go_wp2_with fail
            go_loopw [10] (fun xr wr => ∃ (r : Nat) (s : St) (C : List Cp), r ≤ 500 ∧ xr = .int .i64 r ∧ Hid (All N s C) ∧ Hid (s.epoch ≤ 1000) ∧ Hid (∀ j, j < N → s.ups j = true) ∧ Hid (ld = s.lead) ∧ Hid (∀ n, n < N → n + 1 ≠ ld → nu s n ≤ 402 - r) ∧ Hid (RInv W m bn bi bm N s wr)) (fun xr _ => 500 - (intOf xr).toNat)
            case atStart => exact ⟨0, s1, C1, by omega, rfl, HA1, HE1, HU1, HLD, HNU, H2⟩
            case round =>
              obtain ⟨r, s, C, hr, rfl, HA, HE, HU, HLd, HN, HI⟩ := hrel
              clear HA1 HE1 HU1 HLD HNU H2 HL1
              by_cases hrl : r < 500
              · have hrd : decide ((r : Int) < 500) = true := by simp; omega
                have HRL := Lib.hid hrl
                clear hrl
                go_wp2_with fail
                go_loopw [11] (fun xk wr => ∃ (p : Nat) (s : St) (C : List Cp), p ≤ N ∧ xk = .int .i64 ((p : Int) + 1) ∧ Hid (All N s C) ∧ Hid (s.epoch ≤ 1000) ∧ Hid (∀ j, j < N → s.ups j = true) ∧ Hid (ld = s.lead) ∧ Hid (∀ n, n < N → n + 1 ≠ ld → nu s n ≤ if n < p then 402 - (r + 1) else 402 - r) ∧ Hid (RInv W m bn bi bm N s wr)) (fun xk _ => N + 1 - (intOf xk).toNat)
                case atStart => exact ⟨0, s, C, by omega, by simp, HA, HE, HU, HLd, Lib.hid (fun n hn hne => by rw [if_neg (by omega)]; exact HN.out n hn hne), HI⟩
                case round =>
                  clear HA HE HU HLd HN HI
                  obtain ⟨p, s, C, hp, rfl, HA, HE, HU, HLd, HN, HI⟩ := hrel
                  by_cases hpl : p < N
                  · by_cases hpe : p + 1 = ld
                    · have hd : (((p : Int) + 1) != (ld : Int)) = false := by simp; omega
                      go_wp2_with fail
                      go_roundw
                      case rel =>
                        refine ⟨p + 1, s, C, by omega, by go_num, HA, HE, HU, HLd, Lib.hid (fun n hn hne => ?_), HI⟩
                        have := HN.out n hn hne
                        by_cases q : n < p
                        · rw [if_pos q] at this; rw [if_pos (by omega)]; exact this
                        · rw [if_neg q] at this; rw [if_neg (by omega)]; exact this
                      case measure => simp [intOf]; omega
                    · have hd : (((p : Int) + 1) != (ld : Int)) = true := by simp; omega
                      have hDo := HI.out.do_ HA.out.fit (by have := HE.out; omega) ⟨2, (p : Int) + 1, 0⟩
                      obtain ⟨C', hall, _⟩ := HA.out.next ⟨2, (p : Int) + 1, 0⟩
                      have hfn := fetch_near HA.out (by rw [← HLd.out]; exact hld0) hpl (HU.out p hpl) (by rw [← HLd.out]; exact hpe)
                      have hee := fetch_ep (N := N) (s := s) p
                      rw [doIt_fetch p hpl] at hDo hall
                      obtain ⟨s', hs'⟩ : ∃ s', s' = (fetch N s p).2 := ⟨_, rfl⟩
                      rw [← hs'] at hDo hall hfn hee
                      have HDo : Hid (Calls Try.prog 11 #[.pointer (some ⟨m, 0, none⟩), .agg #[.int .i64 2, .int .i64 ((p : Int) + 1), .int .i64 0]] wr fun e w' => ∃ r : Int, e = .returned (.int .i64 r) ∧ RInv W m bn bi bm N s' w') := Lib.hid (hDo.mono fun e w' ⟨q1, q2⟩ => ⟨_, q1, q2⟩)
                      have HALL := Lib.hid hall
                      have HFN := Lib.hid hfn
                      have HEE := Lib.hid hee
                      clear hDo hall hfn hee hs'
                      go_wp2_with fail
                      go_at_call 11
                      refine HDo.out.mono ?_
                      rintro e w3 ⟨r3, rfl, h3⟩
                      have H3 := Lib.hid h3
                      clear h3 HDo
                      go_wp2_with fail
                      go_roundw
                      case rel =>
                        refine ⟨p + 1, s', C', by omega, by go_num, HALL, Lib.hid (by rw [HEE.out]; exact HE.out), Lib.hid (by rw [HFN.out.2.1]; exact HU.out), Lib.hid (by rw [HFN.out.1]; exact HLd.out), Lib.hid (fun n hn hne => ?_), H3⟩
                        have h1 := HN.out n hn hne
                        by_cases q : n = p
                        · subst q
                          have h2 := HFN.out.2.2.1
                          rw [if_neg (by omega)] at h1
                          rw [if_pos (by omega)]
                          omega
                        · rw [HFN.out.2.2.2 n q]
                          by_cases q2 : n < p
                          · rw [if_pos q2] at h1; rw [if_pos (by omega)]; exact h1
                          · rw [if_neg q2] at h1; rw [if_neg (by omega)]; exact h1
                      case measure => simp [intOf]; omega
                  · obtain rfl : p = N := by omega
                    go_wp2_with fail
                    go_roundw
                    case rel => exact ⟨r + 1, s, C, by have := HRL.out; omega, by go_num, HA, HE, HU, HLd, Lib.hid (fun n hn hne => by have := HN.out n hn hne; rw [if_pos hn] at this; exact this), HI⟩
                    case measure => have := HRL.out; simp [intOf]; omega
              · obtain rfl : r = 500 := by omega
                have hl0 : s.lead ≠ 0 := by rw [← HLd.out]; exact hld0
                obtain ⟨hdn, hhi⟩ := all_done HA.out hl0 (fun n hn hne => by have := HN.out n hn (by rw [HLd.out]; exact hne); omega)
                have hp : ld - 1 < N := by omega
                have hpI : ((ld - 1 : Nat) : Int) + 1 = (ld : Int) := by omega
                have hhisE : s.logs (ld - 1) = s.his := by unfold St.his; rw [HLd.out]
                obtain ⟨his, hhis⟩ : ∃ his, his = s.his := ⟨_, rfl⟩
                rw [← hhis] at hdn hhi hhisE
                have h200 : his.length ≤ 200 := by rw [← hhisE]; exact HA.out.fit.logs _ hp
                have hLog : Hid (∀ w n, n < N → RInv W m bn bi bm N s w → Calls Try.prog 14 #[.pointer (some ⟨m, 0, none⟩), .int .i64 ((n : Int) + 1)] w fun e w' => ∃ u, e = .returned u ∧ Fresh w his u w') := Lib.hid (by
                  intro w n hn h
                  have := h.log HA.out.fit n hn
                  rwa [(hdn n hn).1] at this)
                have hLogL : Hid (Calls Try.prog 14 #[.pointer (some ⟨m, 0, none⟩), .int .i64 ld] wr fun e w' => ∃ u, e = .returned u ∧ Fresh wr his u w') := Lib.hid (by
                  have := hLog.out wr (ld - 1) hp HI.out
                  rwa [hpI] at this)
                obtain ⟨x, hx⟩ := commF_some (s := s) N 0 (ld - 1) (by omega) (by omega) ⟨HU.out _ hp, (hdn _ hp).2, by rw [hhisE, hhi]; exact Nat.le_refl _⟩
                obtain ⟨ll, hll⟩ : ∃ ll, ll = his.length := ⟨_, rfl⟩
                rw [← hll] at hhi h200
                have HX := Lib.hid hx
                have HDN := Lib.hid hdn
                have HHI := Lib.hid hhi
                have HLL := Lib.hid hll
                clear hx hdn hhi hll hhis hhisE hpI hrl
                go_wp2_with fail
                go_at_call 14
                refine hLogL.out.mono ?_
                rintro e w4 ⟨u, rfl, hu⟩
                have H4 := Lib.hid (HI.out.later hu.2.1)
                obtain ⟨ua, uc, huf⟩ := hu.1.slice
                subst huf
                have hrow := hu.1
                rw [← HLL.out] at hrow ⊢
                have HR4 := Lib.hid hrow
                clear hu hrow hLogL HI HN
                go_wp2_with fail
                go_loopw [13] (fun xk wr => ∃ (p : Nat), p ≤ N ∧ xk = .int .i64 ((p : Int) + 1) ∧ Hid (RInv W m bn bi bm N s wr) ∧ Hid (Row wr (.slice ua ll uc) his)) (fun xk _ => N + 1 - (intOf xk).toNat)
                case atStart => exact ⟨0, by omega, by simp, H4, HR4⟩
                case round =>
                  obtain ⟨p, hp, rfl, HI, HR⟩ := hrel
                  clear H4 HR4
                  by_cases hpl : p < N
                  · have HLp := Lib.hid (hLog.out _ p hpl HI.out)
                    go_wp2_with fail
                    go_at_call 14
                    refine HLp.out.mono ?_
                    rintro e w5 ⟨v, rfl, hv⟩
                    have H5 := Lib.hid (HI.out.later hv.2.1)
                    have HRu := Lib.hid (HR.out.only hv.2.1 (fun _ _ q => q))
                    have HRv := Lib.hid hv.1
                    clear hv HLp HI HR
                    go_wp2_with fail
                    go_at_call 15
                    refine (same_any v (.slice ua ll uc) his his w5 HRv.out HRu.out (by have := HLL.out; omega) (by have := HLL.out; omega)).mono ?_
                    rintro e w6 ⟨rfl, n6, rfl⟩
                    rw [decide_eq_true rfl]
                    go_wp2_with fail
                    go_roundw
                    case rel => exact ⟨p + 1, by omega, by go_num, Lib.hid (H5.out.later ((Only.refl _ _).drewN _)), Lib.hid (HRu.out.move fun _ _ => rfl)⟩
                    case measure => simp [intOf]; omega
                  · obtain rfl : p = N := by omega
                    go_wp2_with fail
                    go_at_call 16
                    refine (HI.out.comm HA.out.fit).mono ?_
                    rintro e w5 (⟨hz, rfl, ho⟩ | ⟨j, v, hz, hj, hj2, rfl, hv⟩)
                    · rw [HX.out] at hz; cases hz
                    · rw [(HDN.out j hj).1, HHI.out, HLL.out, List.take_length] at hv
                      have H5 := Lib.hid (HI.out.later hv.2.1)
                      have HRu := Lib.hid (HR.out.only hv.2.1 (fun _ _ q => q))
                      have HRv := Lib.hid hv.1
                      have hinl := inTo_all s p (fun n hn => (HDN.out n hn).2)
                      have HINL := Lib.hid hinl
                      have hhieq : Hid ((s.high : Int) = (ll : Int)) := Lib.hid (by rw [HHI.out])
                      clear hv HI HR hinl
                      go_wp2_with fail
                      go_at_call 15
                      refine (same_any v (.slice ua ll uc) his his w5 HRv.out HRu.out (by have := HLL.out; omega) (by have := HLL.out; omega)).mono ?_
                      rintro e w6 ⟨rfl, n6, rfl⟩
                      rw [decide_eq_true rfl]
                      have H6 := Lib.hid (H5.out.later ((Only.refl _ _).drewN n6))
                      clear H5 HRu HRv
                      go_wp2_with fail
                      go_at_call 17
                      refine H6.out.high.mono ?_
                      rintro e w' ⟨rfl, hw⟩
                      subst hw
                      rw [hhieq.out]
                      go_wp2_with fail
                      go_at_call 18
                      refine (H6.out.ins HA.out.fit).mono ?_
                      rintro e w7 ⟨uu, rfl, huu, ho⟩
                      have H7 := Lib.hid (H6.out.later ho)
                      obtain ⟨ia, ic, hif⟩ := huu.slice
                      subst hif
                      rw [HINL.out]
                      clear huu ho H6
                      go_wp2_with fail
                      go_at_call 19
                      refine (awake_any _).mono ?_
                      rintro e w8 ⟨rfl, o8⟩
                      have O8 := Lib.hid o8
                      clear o8
                      go_wp2_with fail
                      go_ret
                      exact True1.of rfl (H7.out.only.trans O8.out (fun _ _ q => q))
end Go.Proofs.Ytcehlajkpnhdiaa.Lc
