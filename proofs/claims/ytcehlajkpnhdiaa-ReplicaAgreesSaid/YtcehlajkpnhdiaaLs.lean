/- ReplicaAgrees: two logs that have an entry of one epoch at one place are the same up to there: the law's walk. -/
import Derived.Test.YtcehlajkpnhdiaaMo
import Derived.Test.YtcehlajkpnhdiaaPg
namespace Go.Proofs.Ytcehlajkpnhdiaa.Ls
open Go.RowKit Go.Proofs.Ytcehlajkpnhdiaa.Rw Go.Proofs.Ytcehlajkpnhdiaa.Rp Go.Proofs.Ytcehlajkpnhdiaa.Ra Go.Proofs.Ytcehlajkpnhdiaa.Ln Go.Proofs.Ytcehlajkpnhdiaa.Mo
set_option linter.unusedSimpArgs false
set_option linter.unusedVariables false
theorem after_ginv {N : Nat} (h1 : 1 ≤ N) (L : List Deed) : ∀ k, ∃ G, GInv N (after N L k) G
  | 0 => ⟨_, GInv.init h1⟩
  | k + 1 => by
    obtain ⟨G, h⟩ := after_ginv h1 L k
    exact h.step (step_do N _ _)
theorem row_form {w : World} {v : Value} {l : List Cp} (h : Row w v l) (hl : 0 < l.length) : ∃ g c, v = .slice (some ⟨g, 0, none⟩) l.length c ∧ l.length ≤ c := by
  rcases h with ⟨_, rfl⟩ | ⟨g, cap, cur, h1, _, h2, _⟩
  · simp at hl
  · exact ⟨g, cap, h1, h2⟩
set_option maxHeartbeats 12800000 in
set_option maxRecDepth 100000 in
theorem agrees_any (n : Int) (A : Option Addr) (DS : List Deed) (c : Nat) (W : World) (hc : DS.length ≤ c) (hn : DS.length ≤ 9223372036854775807) (hR : Deeds W A DS) : Calls Try.prog 5 #[.int .i64 n, .slice A DS.length c] W (True1 W) := by
  obtain ⟨hN1, hN5, hNI⟩ := ofN_le n
  have hm0 : -5 < n.tmod 5 := by have := Int.lt_tmod_of_pos n (b := 5) (by omega); omega
  have hm1 : n.tmod 5 < 5 := Int.tmod_lt_of_pos n (by omega)
  obtain ⟨N, hNN⟩ : ∃ N, N = ofN n := ⟨_, rfl⟩
  obtain ⟨L, hL⟩ : ∃ L, L = DS.take 200 := ⟨_, rfl⟩
  have hD := hR.take 200
  rw [← hL] at hD
  have HD := Lib.hid hD
  have hK : L.length ≤ 200 := by rw [hL, List.length_take]; omega
  have HS := Lib.hid (fun w => some_any A DS c w hc hn)
  rw [← hL] at HS
  obtain ⟨K, hKK⟩ : ∃ K, K = L.length := ⟨_, rfl⟩
  rw [← hKK] at HS hK
  have HKK := Lib.hid hKK
  have HO := Lib.hid (fun w => of_any n w)
  rw [← hNN] at HO hN1 hN5 hNI
  generalize hDn : DS.length = dn at *
  clear hL hD hR hc hn hKK hNN hDn DS
  go_enter Try.func5, Try.ntmps5
  go_wp2_with fail
  go_at_call 9
  refine (HO.out W).mono ?_
  rintro e w1 ⟨r, rfl, h⟩
  obtain ⟨m, bn, bi, bm, rfl, h0⟩ := RInv.new h
  have H0 := Lib.hid h0
  clear h h0 HO
  go_wp2_with fail
  go_at_call 10
  refine (HS.out w1).mono ?_
  rintro e w' ⟨rfl, hw⟩
  subst hw
  clear HS
  go_wp2_with fail
  clear hm0 hm1
  go_loopw [6] (fun xi wr => ∃ (i : Nat), i ≤ K ∧ xi = .int .i64 i ∧ Hid (RInv W m bn bi bm N (after N L i) wr)) (fun xi _ => K - (intOf xi).toNat)
  case atStart => exact ⟨0, by omega, rfl, H0⟩
  case round =>
    obtain ⟨i, hi, rfl, HI⟩ := hrel
    clear H0
    by_cases hlt : i < K
    · have hdi := HD.out
      rcases hdi with q | ⟨b, off, rfl, hcells⟩
      · exfalso; have := HKK.out; rw [q] at this; simp at this; omega
      obtain ⟨c0, c1, c2⟩ := hcells i (by have := HKK.out; omega)
      have c0 := cell_on HI.out.only c0
      have c1 := cell_on HI.out.only c1
      have c2 := cell_on HI.out.only c2
      obtain ⟨fits, hep⟩ := after_fit hN1 hN5 L i
      have hDo := HI.out.do_ fits (by omega) (L.getD i dz)
      obtain ⟨d, hd⟩ : ∃ d, d = L.getD i dz := ⟨_, rfl⟩
      have hse : (doIt N (after N L i) (L.getD i dz)).2 = after N L (i + 1) := rfl
      rw [hse] at hDo
      rw [← hd] at c0 c1 c2 hDo
      have HDo := Lib.hid hDo
      have hi0 : (0 : Int) ≤ (i : Int) := by omega
      have hi1 : (i : Int) < (K : Int) := by omega
      clear hDo hse hd hcells fits hep HI
      go_wp2_with fail
      go_at_call 11
      refine HDo.out.mono ?_
      rintro e w3 ⟨rfl, h3⟩
      have H3 := Lib.hid h3
      clear h3 HDo c0 c1 c2
      go_wp2_with fail
      go_roundw
      case rel => exact ⟨i + 1, by omega, by go_num, H3⟩
      case measure => simp [intOf]; omega
    · obtain rfl : i = K := by omega
      obtain ⟨s, hs⟩ : ∃ s, s = after N L i := ⟨_, rfl⟩
      obtain ⟨G, hG⟩ := after_ginv hN1 L i
      obtain ⟨hF, _⟩ := after_fit hN1 hN5 L i
      rw [← hs] at HI hG hF
      have HG := Lib.hid hG
      have HF := Lib.hid hF
      clear hs hG hF HD HKK
      go_wp2_with fail
      go_loopw [7] (fun xa wr => ∃ (p : Nat), p ≤ N ∧ xa = .int .i64 ((p : Int) + 1) ∧ Hid (RInv W m bn bi bm N s wr)) (fun xa _ => N + 1 - (intOf xa).toNat)
      case atStart => exact ⟨0, by omega, by simp, HI⟩
      case round =>
        obtain ⟨p, hp, rfl, HA⟩ := hrel
        clear HI
        by_cases hpl : p < N
        · have hla := HA.out.log HF.out p hpl
          have hgx := HG.out.logs p hpl
          have hlx200 := HF.out.logs p hpl
          obtain ⟨x, hx⟩ : ∃ x, x = s.logs p := ⟨_, rfl⟩
          rw [← hx] at hla hgx hlx200
          have HLA := Lib.hid hla
          have HX := Lib.hid hx
          have HGX := Lib.hid hgx
          clear hla hx hgx
          go_wp2_with fail
          go_at_call 14
          refine HLA.out.mono ?_
          rintro e w4 ⟨u, rfl, hu⟩
          have HB := Lib.hid (HA.out.later hu.2.1)
          obtain ⟨ua, uc, hv⟩ := hu.1.slice
          subst hv
          obtain ⟨lx, hlx⟩ : ∃ lx, lx = x.length := ⟨_, rfl⟩
          have hrow := hu.1
          rw [← hlx] at hlx200 ⊢
          rw [← hlx] at hrow
          have HLX := Lib.hid hlx
          have HROW := Lib.hid hrow
          clear hu hlx hrow HLA HA
          go_wp2_with fail
          go_loopw [9] (fun xk wr => ∃ (k : Nat), (k = 0 ∨ k < lx) ∧ xk = .int .i64 ((k : Int) + 1) ∧ Hid (Only (fun _ => False) w4 wr)) (fun xk _ => lx + 1 - (intOf xk).toNat)
          case atStart => exact ⟨0, .inl rfl, by simp, Lib.hid (Only.refl _ _)⟩
          case round =>
            obtain ⟨k, hk, rfl, HO4⟩ := hrel
            by_cases hkl : k + 1 < lx
            · obtain ⟨g, c', hf, hcc⟩ := row_form HROW.out (by have := HLX.out; omega)
              have hrow := HROW.out.only HO4.out (fun _ _ q => q)
              injection hf with q1 q2 q3
              subst q1 q3
              clear q2
              have hca : wr.cell? ⟨g, k * 2, none⟩ = some (.int .i64 (ep x k)) := (hrow.at k (by have := HLX.out; omega)).1
              have hcb : wr.cell? ⟨g, (k + 1) * 2, none⟩ = some (.int .i64 (ep x (k + 1))) := (hrow.at (k + 1) (by have := HLX.out; omega)).1
              have hmono : decide (ep x (k + 1) < ep x k) = false := by
                have := HGX.out.mono k (by have := HLX.out; omega)
                simp; omega
              generalize ep x k = e1 at hca hmono
              generalize ep x (k + 1) = e2 at hcb hmono
              have hk0 : (0 : Int) ≤ (k : Int) + 1 := by omega
              have hk1 : (k : Int) + 1 < (x.length : Int) := by have := HLX.out; omega
              have hk1' : (k : Int) + 1 < (lx : Int) := by omega
              have hk2 : ((k : Int) + 1).toNat = k + 1 := by omega
              have hk3 : (k : Int) < (x.length : Int) := by omega
              have hk3' : (k : Int) < (lx : Int) := by omega
              have hk4 : (0 : Int) ≤ (k : Int) := by omega
              have hwk : IntKind.i64.wrap ((k : Int) + 1 - 1) = (k : Int) := by rw [IntKind.wrap_i64]; omega
              clear hrow
              go_wp2_with fail
              go_quiet (fail)
              go_wp2_with fail
              go_roundw
              case rel => exact ⟨k + 1, .inr (by omega), by go_num, Lib.hid (HO4.out.drewN _)⟩
              case measure => simp [intOf]; omega
            · have hkd : ¬ ((k : Int) + 1 < (lx : Int)) := by omega
              have HC := Lib.hid (HB.out.later HO4.out)
              have HROW := Lib.hid (HROW.out.only HO4.out (fun _ _ q => q))
              clear HB HO4
              go_wp2_with fail
              go_loopw [10] (fun xb wr => ∃ (q : Nat), q ≤ p ∧ xb = .int .i64 ((q : Int) + 1) ∧ Hid (RInv W m bn bi bm N s wr) ∧ Hid (Row wr (.slice ua lx uc) x)) (fun xb _ => p + 1 - (intOf xb).toNat)
              case atStart => exact ⟨0, by omega, by simp, HC, HROW⟩
              case round =>
                obtain ⟨q, hq, rfl, HE, HRX⟩ := hrel
                clear HC HROW
                by_cases hql : q < p
                · have hlb := HE.out.log HF.out q (by omega)
                  have hgy := HG.out.logs q (by omega)
                  have hly200 := HF.out.logs q (by omega)
                  have hag : ∀ k, k < (s.logs p).length → k < (s.logs q).length → ep (s.logs p) k = ep (s.logs q) k → (s.logs p).take (k + 1) = (s.logs q).take (k + 1) := fun k h1 h2 h3 => HG.out.agree hpl (by omega) h1 h2 h3
                  obtain ⟨y, hy⟩ : ∃ y, y = s.logs q := ⟨_, rfl⟩
                  rw [← hy] at hlb hgy hly200 hag
                  rw [← HX.out] at hag
                  have HLB := Lib.hid hlb
                  have HAG := Lib.hid hag
                  clear hlb hy hgy hag
                  go_wp2_with fail
                  go_at_call 14
                  refine HLB.out.mono ?_
                  rintro e w5 ⟨v, rfl, hv⟩
                  have HI5 := Lib.hid (HE.out.later hv.2.1)
                  have HRX5 := Lib.hid (HRX.out.only hv.2.1 (fun _ _ q => q))
                  obtain ⟨va, vc, hvf⟩ := hv.1.slice
                  subst hvf
                  obtain ⟨ly, hly⟩ : ∃ ly, ly = y.length := ⟨_, rfl⟩
                  have hrowy := hv.1
                  rw [← hly] at hly200 ⊢
                  rw [← hly] at hrowy
                  have HLY := Lib.hid hly
                  have HROWY := Lib.hid hrowy
                  clear hv hly hrowy HLB HE HRX
                  obtain ⟨M, hM⟩ : ∃ M, M = min lx ly := ⟨_, rfl⟩
                  have hmin : (if (ly : Int) < (lx : Int) then (ly : Int) else (lx : Int)) = (M : Int) := by split <;> omega
                  have hmin' : (if ly < lx then (ly : Int) else (lx : Int)) = (M : Int) := by split <;> omega
                  have hwM : IntKind.i64.wrap ((M : Int) - 1) = (M : Int) - 1 := by rw [IntKind.wrap_i64]; omega
                  have HM := Lib.hid hM
                  clear hM
                  go_wp2_with fail
                  go_loopw [12] (fun xk wr => ((xk = .int .i64 (-1)) ∨ ∃ t : Nat, t < M ∧ xk = .int .i64 t) ∧ Hid (Only (fun _ => False) w5 wr)) (fun xk _ => (intOf xk + 1).toNat)
                  case atStart =>
                    refine ⟨?_, Lib.hid (Only.refl _ _)⟩
                    by_cases hz : M = 0
                    · left; rw [hz]; rfl
                    · exact .inr ⟨M - 1, by omega, by congr 1; omega⟩
                  case round =>
                    obtain ⟨hxk, HO5⟩ := hrel
                    rcases hxk with rfl | ⟨t, ht, rfl⟩
                    · have HE := Lib.hid (HI5.out.later HO5.out)
                      have HRX := Lib.hid (HRX5.out.only HO5.out (fun _ _ q => q))
                      go_wp2_with fail
                      go_roundw
                      case rel => exact ⟨q + 1, by omega, by go_num, HE, HRX⟩
                      case measure => simp [intOf]; omega
                    · have hxl : t < x.length := by have := HLX.out; have := HM.out; omega
                      have hyl : t < y.length := by have := HLY.out; have := HM.out; omega
                      have hrx := HRX5.out.only HO5.out (fun _ _ q => q)
                      have hry := HROWY.out.only HO5.out (fun _ _ q => q)
                      obtain ⟨g, c1, hf1, hc1⟩ := row_form hrx (by omega)
                      injection hf1 with q1 q2 q3
                      subst q1 q3
                      obtain ⟨g', c2, hf2, hc2⟩ := row_form hry (by omega)
                      injection hf2 with q1' q2' q3'
                      subst q1' q3'
                      have hca : wr.cell? ⟨g, t * 2, none⟩ = some (.int .i64 (ep x t)) := (hrx.at t hxl).1
                      have hcb : wr.cell? ⟨g', t * 2, none⟩ = some (.int .i64 (ep y t)) := (hry.at t hyl).1
                      have ht0 : (0 : Int) ≤ (t : Int) := by omega
                      have ht1 : (t : Int) < (lx : Int) := by omega
                      have ht2 : (t : Int) < (ly : Int) := by omega
                      have hagt := HAG.out t
                      have HRx := Lib.hid hrx
                      have HRy := Lib.hid hry
                      have hc1' : t + 1 ≤ uc := by omega
                      have hc2' : t + 1 ≤ vc := by omega
                      have hc1i : (t : Int) + 1 ≤ (uc : Int) := by omega
                      have hc2i : (t : Int) + 1 ≤ (vc : Int) := by omega
                      have ht3 : (0 : Int) ≤ (t : Int) + 1 := by omega
                      have ht4 : ((t : Int) + 1).toNat = t + 1 := by omega
                      have hwt : IntKind.i64.wrap ((t : Int) + 1) = (t : Int) + 1 := by rw [IntKind.wrap_i64]; omega
                      have HI9 := Lib.hid (HI5.out.later HO5.out)
                      clear hrx hry q2 q2' hc1 hc2
                      by_cases hee : ep x t = ep y t
                      · have hsm : x.take (t + 1) = y.take (t + 1) := hagt hxl hyl hee
                        have HSM : Hid (∀ n1 n2, Calls Try.prog 15 #[.slice (some ⟨g, 0, none⟩) (t + 1) uc, .slice (some ⟨g', 0, none⟩) (t + 1) vc] (wr.drewN (n1 + n2)) fun e w' => e = .returned (.bool true) ∧ ∃ n, w' = wr.drewN (n1 + n)) := Lib.hid (by
                          intro n1 n2
                          refine (same_any _ _ (x.take (t + 1)) (y.take (t + 1)) (wr.drewN (n1 + n2)) ((HRx.out.move fun _ _ => rfl).cut (t + 1) uc (by omega) hc1' (Nat.le_refl _)) ((HRy.out.move fun _ _ => rfl).cut (t + 1) vc (by omega) hc2' (Nat.le_refl _)) (by rw [List.length_take]; omega) (by rw [List.length_take]; omega)).mono ?_
                          rintro e w' ⟨q1, n3, rfl⟩
                          exact ⟨by rw [q1, decide_eq_true hsm], n2 + n3, by rw [World.drewN_drewN, Nat.add_assoc]⟩)
                        have heq : (ep x t == ep y t) = true := by simp [hee]
                        generalize ep x t = e1 at hca heq
                        generalize ep y t = e2 at hcb heq
                        clear hee hsm hagt
                        go_wp2_with fail
                        go_quiet (fail)
                        go_wp2_with fail
                        go_quiet (exact HSM.out _ _)
                        go_wp2_with fail
                        go_roundw
                        case rel => exact ⟨q + 1, by omega, by go_num, Lib.hid (HI9.out.later ((Only.refl _ _).drewN _)), Lib.hid (HRx.out.move fun _ _ => rfl)⟩
                        case measure => simp [intOf]; omega
                      · have heq : (ep x t == ep y t) = false := by simp [hee]
                        generalize ep x t = e1 at hca heq
                        generalize ep y t = e2 at hcb heq
                        clear hee hagt
                        go_wp2_with fail
                        go_quiet (fail)
                        go_wp2_with fail
                        go_roundw
                        case rel =>
                          refine ⟨?_, Lib.hid (HO5.out.drewN _)⟩
                          by_cases hz : t = 0
                          · left; rw [hz]; go_num
                          · exact .inr ⟨t - 1, by omega, by first | go_num | (go_num; omega)⟩
                        case measure => simp [intOf] <;> omega
                · obtain rfl : q = p := by omega
                  go_wp2_with fail
                  go_roundw
                  case rel => exact ⟨q + 1, by omega, by go_num, HE⟩
                  case measure => simp [intOf]; omega
        · obtain rfl : p = N := by omega
          go_wp2_with fail
          go_at_call 19
          refine (awake_any _).mono ?_
          rintro e w3 ⟨rfl, o3⟩
          have O3 := Lib.hid o3
          clear o3
          go_wp2_with fail
          go_ret
          exact True1.of rfl (HA.out.only.trans O3.out (fun _ _ q => q))
end Go.Proofs.Ytcehlajkpnhdiaa.Ls
