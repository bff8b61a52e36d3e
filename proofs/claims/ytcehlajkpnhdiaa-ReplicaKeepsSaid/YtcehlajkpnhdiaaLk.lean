/- ReplicaKeeps: the mark never falls, and what is committed is never lost, nor another: the law's walk. -/
import Derived.Test.YtcehlajkpnhdiaaPh
import Derived.Test.YtcehlajkpnhdiaaLt
namespace Go.Proofs.Ytcehlajkpnhdiaa.Lk
open Go.RowKit Go.Proofs.Ytcehlajkpnhdiaa.Rw Go.Proofs.Ytcehlajkpnhdiaa.Rp Go.Proofs.Ytcehlajkpnhdiaa.Ra Go.Proofs.Ytcehlajkpnhdiaa.Ln Go.Proofs.Ytcehlajkpnhdiaa.Mo
open Go.Proofs.Ytcehlajkpnhdiaa.Lt (mem_inTo irow_cell irow_form)
set_option linter.unusedSimpArgs false
set_option linter.unusedVariables false
set_option maxHeartbeats 12800000 in
set_option maxRecDepth 100000 in
theorem keeps_any (n : Int) (A : Option Addr) (DS : List Deed) (c : Nat) (W : World) (hc : DS.length ≤ c) (hn : DS.length ≤ 9223372036854775807) (hR : Deeds W A DS) : Calls Try.prog 8 #[.int .i64 n, .slice A DS.length c] W (True1 W) := by
  obtain ⟨hN1, hN5, hNI⟩ := ofN_le n
  have hm0 : -5 < n.tmod 5 := by have := Int.lt_tmod_of_pos n (b := 5) (by omega); omega
  have hm1 : n.tmod 5 < 5 := Int.tmod_lt_of_pos n (by omega)
  obtain ⟨N, hNN⟩ : ∃ N, N = ofN n := ⟨_, rfl⟩
  obtain ⟨L, hL⟩ : ∃ L, L = DS.take 200 := ⟨_, rfl⟩
  have hD := hR.take 200
  rw [← hL] at hD
  have HD := Lib.hid hD
  have hK : L.length ≤ 200 := by rw [hL, List.length_take]; omega
  have HS := Lib.hid (fun w => some_any A DS c w hc hn)
  rw [← hL] at HS
  obtain ⟨K, hKK⟩ : ∃ K, K = L.length := ⟨_, rfl⟩
  rw [← hKK] at HS hK
  have HKK := Lib.hid hKK
  have HO := Lib.hid (fun w => of_any n w)
  rw [← hNN] at HO hN1 hN5 hNI
  generalize hDn : DS.length = dn at *
  clear hL hD hR hc hn hKK hNN hDn DS
  go_enter Try.func8, Try.ntmps8
  go_wp2_with fail
  go_at_call 9
  refine (HO.out W).mono ?_
  rintro e w1 ⟨r, rfl, h⟩
  obtain ⟨m, bn, bi, bm, rfl, h0⟩ := RInv.new h
  have H0 := Lib.hid (RHold.nil h0)
  clear h h0 HO
  go_wp2_with fail
  go_at_call 10
  refine (HS.out w1).mono ?_
  rintro e w' ⟨rfl, hw⟩
  subst hw
  clear HS
  go_wp2_with fail
  clear hm0 hm1 hNI
  go_loopw [6, 7, 8] (fun xw xh xi wr => ∃ (i : Nat) (C : List Cp), i ≤ K ∧ xi = .int .i64 i ∧ xh = .int .i64 (after N L i).high ∧ Hid (All N (after N L i) C) ∧ Hid (RHold W m bn bi bm N (after N L i) xw C wr)) (fun _ _ xi _ => K - (intOf xi).toNat)
  case atStart => exact ⟨0, [], by omega, rfl, rfl, Lib.hid (All.start hN1 hN5), H0⟩
  case round =>
    obtain ⟨i, C, hi, rfl, rfl, HA, HI⟩ := hrel
    clear H0
    by_cases hlt : i < K
    · have hdi := HD.out
      rcases hdi with q | ⟨b, off, rfl, hcells⟩
      · exfalso; have := HKK.out; rw [q] at this; simp at this; omega
      obtain ⟨c0, c1, c2⟩ := hcells i (by have := HKK.out; omega)
      have c0 := cell_on HI.out.inv.only c0
      have c1 := cell_on HI.out.inv.only c1
      have c2 := cell_on HI.out.inv.only c2
      obtain ⟨fits, hep⟩ := after_fit hN1 hN5 L i
      have hDo := HI.out.do_ fits (by omega) (L.getD i dz)
      obtain ⟨C', hall, hpref⟩ := HA.out.next (L.getD i dz)
      have hhs := high_step (step_do N (after N L i) (L.getD i dz))
      obtain ⟨s, hs⟩ : ∃ s, s = after N L i := ⟨_, rfl⟩
      obtain ⟨s', hs'⟩ : ∃ s', s' = after N L (i + 1) := ⟨_, rfl⟩
      have hse : (doIt N s (L.getD i dz)).2 = s' := by rw [hs, hs']; rfl
      rw [← hs] at hDo hall hhs HA ⊢
      rw [hse] at hDo hall hhs
      obtain ⟨hi0, hhi0⟩ : ∃ hi0, hi0 = s.high := ⟨_, rfl⟩
      obtain ⟨hi', hhi'⟩ : ∃ hi', hi' = s'.high := ⟨_, rfl⟩
      obtain ⟨now, hnow⟩ : ∃ now, now = s'.lead := ⟨_, rfl⟩
      rw [← hhi0] at hhs ⊢
      rw [← hhi', ← hnow] at hhs
      have hlen : C.length = hi0 := by rw [hhi0]; exact HA.out.k.len
      have hlen' : C'.length = hi' := by rw [hhi']; exact hall.k.len
      have hsame : now = 0 → C' = C := by
        intro q
        have := hhs.2 q
        rw [← hpref, hlen, ← this, ← hlen', List.take_length]
      have hb : decide (hi' < hi0) = false := by simp; exact hhs.1
      have HDo := Lib.hid hDo
      have HLe : Hid (∀ w, RHold W m bn bi bm N s' u6 C w → Calls Try.prog 13 #[.pointer (some ⟨m, 0, none⟩)] w fun e w' => e = .returned (.tuple #[.int .i64 now, .int .i64 s'.epoch]) ∧ Only (fun _ => False) w w') := Lib.hid (fun w h => by rw [hnow]; exact h.inv.leader)
      have HHi : Hid (∀ w, RHold W m bn bi bm N s' u6 C w → Calls Try.prog 17 #[.pointer (some ⟨m, 0, none⟩)] w fun e w' => e = .returned (.int .i64 hi') ∧ w' = w) := Lib.hid (fun w h => by rw [hhi']; exact h.inv.high)
      obtain ⟨d, hd⟩ : ∃ d, d = L.getD i dz := ⟨_, rfl⟩
      rw [← hd] at c0 c1 c2 HDo
      have hi1 : (0 : Int) ≤ (i : Int) := by omega
      have hi2 : (i : Int) < (K : Int) := by omega
      have hback : Hid (after N L (i + 1) = s') := Lib.hid hs'.symm
      have HALL := Lib.hid hall
      have HF' := Lib.hid hall.fit
      have HHI' := Lib.hid hhi'
      have HNOW := Lib.hid hnow
      have HPREF := Lib.hid hpref
      have HSAME := Lib.hid hsame
      have HLEN := Lib.hid hlen
      have HLEN' := Lib.hid hlen'
      have hhi200 : hi' ≤ 200 := by rw [hhi']; exact hall.fit.high
      clear hs hs' hse hDo hall hpref hhs hhi0 hhi' hnow hlen hlen' hsame hd hep fits hcells HI HA
      go_wp2_with fail
      go_at_call 11
      refine HDo.out.mono ?_
      rintro e w3 ⟨rfl, h3⟩
      have H3 := Lib.hid h3
      clear h3 HDo c0 c1 c2
      go_wp2_with fail
      go_at_call 17
      refine (HHi.out w3 H3.out).mono ?_
      rintro e w' ⟨rfl, hw⟩
      subst hw
      go_wp2_with fail
      go_at_call 17
      refine (HHi.out _ H3.out).mono ?_
      rintro e w'' ⟨rfl, hw⟩
      subst hw
      go_wp2_with fail
      go_at_call 13
      refine (HLe.out _ H3.out).mono ?_
      rintro e w4 ⟨rfl, ho⟩
      have H4 := Lib.hid (H3.out.later ho)
      clear ho H3 HLe HHi
      by_cases h0 : now = 0
      · have hCC := HSAME.out h0
        have HT : Hid (RHold W m bn bi bm N s' u6 C' w4) := Lib.hid (by rw [hCC]; exact H4.out)
        subst h0
        clear H4 hCC
        go_wp2_with fail
        go_at_call 18
        refine (HT.out.inv.ins HF'.out).mono ?_
        rintro e w6 ⟨u, rfl, hu, ho⟩
        have HT6 := Lib.hid (HT.out.later ho)
        obtain ⟨ua0, uc0, hu0⟩ := hu.slice
        subst hu0
        obtain ⟨ln, hln⟩ : ∃ ln, ln = (inTo s' N).length := ⟨_, rfl⟩
        have hln5 : ln ≤ 5 := by have := inTo_le s' N; omega
        rw [← hln] at hu ⊢
        have HIR := Lib.hid hu
        have HLN := Lib.hid hln
        clear hu ho HT hln
        go_wp2_with fail
        go_loopw [12] (fun xk wr => ∃ (k : Nat), k ≤ ln ∧ xk = .int .i64 k ∧ Hid (RHold W m bn bi bm N s' u6 C' wr) ∧ Hid (Only (fun _ => False) w6 wr)) (fun xk _ => ln - (intOf xk).toNat)
        case atStart => exact ⟨0, by omega, rfl, HT6, Lib.hid (Only.refl _ _)⟩
        case round =>
          obtain ⟨k, hk, rfl, HT7, HO7⟩ := hrel
          clear HT6
          by_cases hkl : k < ln
          · have hlen0 : 0 < (inTo s' N).length := by have := HLN.out; omega
            have hkl' : k < (inTo s' N).length := by have := HLN.out; omega
            obtain ⟨g9, c9, hf9⟩ := irow_form HIR.out hlen0
            injection hf9 with z1 z2 z3
            subst z1 z3
            have hck := irow_cell HIR.out k hkl'
            obtain ⟨y, hy⟩ : ∃ y, y = (inTo s' N).getD k 0 := ⟨_, rfl⟩
            rw [← hy] at hck
            have hck := cell_on HO7.out hck
            have hym : y ∈ inTo s' N := by
              rw [hy]
              simp only [List.getD_eq_getElem?_getD]
              rw [List.getElem?_eq_getElem hkl']
              exact List.getElem_mem hkl'
            obtain ⟨j, hj, hjn, rfl⟩ := (mem_inTo s' y N).1 hym
            have hk0 : (0 : Int) ≤ (k : Int) := by omega
            have hk1 : (k : Int) < (ln : Int) := by omega
            have hlj := HT7.out.inv.log HF'.out j hj
            have hpre : decide (C' = (s'.logs j).take C'.length) = true := by
              have := HALL.out.k.ins j hj hjn
              rw [HALL.out.k.len]
              exact decide_eq_true this.symm
            have HLJ := Lib.hid hlj
            have HPRE := Lib.hid hpre
            have h200 := HF'.out.logs j hj
            have hc200 : C'.length ≤ 256 := by have := HALL.out.k.len; have := HF'.out.high; omega
            clear hlj hpre hy hym hlen0 hkl' hjn z2
            go_wp2_with fail
            go_at_call 14
            refine HLJ.out.mono ?_
            rintro e w8 ⟨uj, rfl, huj⟩
            have HT8 := Lib.hid (HT7.out.later huj.2.1)
            have HO8 := Lib.hid (HO7.out.trans huj.2.1 (fun _ _ q => q))
            have HRJ := Lib.hid huj.1
            clear huj HT7 HO7 hck
            go_wp2_with fail
            go_at_call 24
            refine (begins_any u6 uj C' (s'.logs j) w8 HT8.out.row HRJ.out hc200 (by omega)).mono ?_
            rintro e w9 ⟨rfl, n9, rfl⟩
            rw [HPRE.out]
            go_wp2_with fail
            go_roundw
            case rel => exact ⟨k + 1, by omega, by go_num, Lib.hid (HT8.out.later ((Only.refl _ _).drewN _)), Lib.hid (HO8.out.drewN _)⟩
            case measure => simp [intOf]; omega
          · obtain rfl : k = ln := by omega
            clear HO7
            go_wp2_with fail
            go_at_call 16
            refine (HT7.out.inv.comm HF'.out).mono ?_
            rintro e w8 (⟨hz, rfl, ho⟩ | ⟨j, u, hz, hj, hj2, rfl, hu⟩)
            · have HT8 := Lib.hid (HT7.out.later ho)
              clear ho HT7
              go_wp2_with fail
              go_roundw
              case rel => exact ⟨i + 1, C', by omega, by go_num, by rw [hback.out, ← HHI'.out], by rw [hback.out]; exact HALL, by rw [hback.out]; exact HT8⟩
              case measure => simp [intOf]; omega
            · have HT8 := Lib.hid (HT7.out.later hu.2.1)
              have hcj := HALL.out.k.ins j hj hj2.2.1
              rw [hcj] at hu
              obtain ⟨a8, c8, h8⟩ := hu.1.slice
              subst h8
              have hclen : C'.length = hi' := by rw [HALL.out.k.len]; exact HHI'.out.symm
              have hrow8 := hu.1
              rw [hclen] at hrow8 ⊢
              have hc200 : C'.length ≤ 256 := by have := HALL.out.k.len; have := HF'.out.high; omega
              have hpre : decide (C' = C'.take C'.length) = true := decide_eq_true (by rw [List.take_length])
              have HR8 := Lib.hid hrow8
              have HPRE := Lib.hid hpre
              have HCL := Lib.hid hclen
              have hne : ((hi' : Int) != (hi' : Int)) = false := by simp
              clear hu hrow8 hpre HT7 hcj hclen
              go_wp2_with fail
              go_at_call 24
              refine (begins_any u6 (.slice a8 hi' c8) C' C' w8 HT8.out.row HR8.out hc200 hc200).mono ?_
              rintro e w9 ⟨rfl, n9, rfl⟩
              rw [HPRE.out]
              go_wp2_with fail
              go_roundw
              case rel => exact ⟨i + 1, C', by omega, by go_num, by rw [hback.out, ← HHI'.out], by rw [hback.out]; exact HALL, by rw [hback.out]; exact Lib.hid (HT8.out.later ((Only.refl _ _).drewN _))⟩
              case measure => simp [intOf]; omega
      · have hd0 : decide (0 < now) = true := by simp; omega
        have hll : s'.lead ≠ 0 := by rw [← HNOW.out]; exact h0
        have hlN := HF'.out.lead
        have hp : now - 1 < N := by have := HNOW.out; omega
        have hpI : ((now - 1 : Nat) : Int) + 1 = (now : Int) := by omega
        have hLog : Hid (∀ w, RInv W m bn bi bm N s' w → Calls Try.prog 14 #[.pointer (some ⟨m, 0, none⟩), .int .i64 now] w fun e w' => ∃ u, e = .returned u ∧ Fresh w s'.his u w') := Lib.hid (by
          intro w h
          have := h.log HF'.out (now - 1) hp
          rw [hpI] at this
          have e : s'.logs (now - 1) = s'.his := by unfold St.his; rw [HNOW.out]
          rwa [e] at this)
        have hins := HALL.out.k.ins (now - 1) hp (by have := (HALL.out.ok hll).1; rwa [HNOW.out])
        have e : s'.logs (now - 1) = s'.his := by unfold St.his; rw [HNOW.out]
        rw [e, ← HHI'.out] at hins
        have h200 : s'.his.length ≤ 200 := by have := HF'.out.logs (now - 1) hp; rwa [e] at this
        obtain ⟨his, hhis⟩ : ∃ his, his = s'.his := ⟨_, rfl⟩
        rw [← hhis] at hins h200 hLog
        obtain ⟨ll, hlll⟩ : ∃ ll, ll = his.length := ⟨_, rfl⟩
        have hhl : hi' ≤ ll := by
          have := congrArg List.length hins
          rw [List.length_take, HLEN'.out] at this
          omega
        have hdl : decide (ll < hi') = false := by simp; exact hhl
        have hpre : decide (C = his.take C.length) = true := by
          refine decide_eq_true ?_
          have h1 := HPREF.out
          rw [← hins, List.take_take] at h1
          have h2 : C.length ≤ hi' := by
            have := congrArg List.length HPREF.out
            rw [List.length_take, HLEN'.out] at this
            omega
          rw [Nat.min_eq_left h2] at h1
          exact h1.symm
        have HPRE := Lib.hid hpre
        have HINS := Lib.hid hins
        have HLL := Lib.hid hlll
        have hc200 : C.length ≤ 256 := by
          have := congrArg List.length HPREF.out
          rw [List.length_take, HLEN'.out] at this
          omega
        clear hpre hins hlll e hll hpI hhis
        go_wp2_with fail
        go_at_call 14
        refine (hLog.out _ H4.out.inv).mono ?_
        rintro e w5 ⟨u1, rfl, hu1⟩
        have H5 := Lib.hid (H4.out.later hu1.2.1)
        obtain ⟨a1, c1, h1f⟩ := hu1.1.slice
        subst h1f
        rw [← HLL.out]
        clear hu1 H4
        go_wp2_with fail
        go_at_call 14
        refine (hLog.out _ H5.out.inv).mono ?_
        rintro e w6 ⟨u2, rfl, hu2⟩
        have H6 := Lib.hid (H5.out.later hu2.2.1)
        have HU2 := Lib.hid hu2.1
        clear hu2 H5
        go_wp2_with fail
        go_at_call 24
        refine (begins_any u6 u2 C his w6 H6.out.row HU2.out hc200 (by omega)).mono ?_
        rintro e w7 ⟨rfl, n7, rfl⟩
        rw [HPRE.out]
        have H7 := Lib.hid (H6.out.inv.later ((Only.refl _ _).drewN n7))
        clear H6
        go_wp2_with fail
        go_at_call 14
        refine (hLog.out _ H7.out).mono ?_
        rintro e w8 ⟨u3, rfl, hu3⟩
        have h8 := H7.out.hold hu3
        obtain ⟨a3, c3, h3f⟩ := hu3.1.slice
        subst h3f
        have hc3 : his.length ≤ c3 := by
          rcases hu3.1 with ⟨q, q'⟩ | ⟨g, cap, cur, q, _, q2, _⟩
          · subst q'; exact Nat.zero_le _
          · cases q; exact q2
        have h9 := h8.cut hi' (by have := HLL.out; omega)
        rw [HINS.out] at h9
        have HT := Lib.hid h9
        have hx0 : (0 : Int) ≤ (hi' : Int) := by omega
        have hx1 : (hi' : Int) ≤ (c3 : Int) := by have := HLL.out; omega
        rw [← HLL.out]
        clear hu3 h8 h9 H7 hc3 hLog
        go_wp2_with fail
        go_at_call 18
        refine (HT.out.inv.ins HF'.out).mono ?_
        rintro e w6 ⟨u, rfl, hu, ho⟩
        have HT6 := Lib.hid (HT.out.later ho)
        obtain ⟨ua0, uc0, hu0⟩ := hu.slice
        subst hu0
        obtain ⟨ln, hln⟩ : ∃ ln, ln = (inTo s' N).length := ⟨_, rfl⟩
        have hln5 : ln ≤ 5 := by have := inTo_le s' N; omega
        rw [← hln] at hu ⊢
        have HIR := Lib.hid hu
        have HLN := Lib.hid hln
        clear hu ho HT hln
        go_wp2_with fail
        go_loopw [12] (fun xk wr => ∃ (k : Nat), k ≤ ln ∧ xk = .int .i64 k ∧ Hid (RHold W m bn bi bm N s' (.slice a3 hi' c3) C' wr) ∧ Hid (Only (fun _ => False) w6 wr)) (fun xk _ => ln - (intOf xk).toNat)
        case atStart => exact ⟨0, by omega, rfl, HT6, Lib.hid (Only.refl _ _)⟩
        case round =>
          obtain ⟨k, hk, rfl, HT7, HO7⟩ := hrel
          clear HT6
          by_cases hkl : k < ln
          · have hlen0 : 0 < (inTo s' N).length := by have := HLN.out; omega
            have hkl' : k < (inTo s' N).length := by have := HLN.out; omega
            obtain ⟨g9, c9, hf9⟩ := irow_form HIR.out hlen0
            injection hf9 with z1 z2 z3
            subst z1 z3
            have hck := irow_cell HIR.out k hkl'
            obtain ⟨y, hy⟩ : ∃ y, y = (inTo s' N).getD k 0 := ⟨_, rfl⟩
            rw [← hy] at hck
            have hck := cell_on HO7.out hck
            have hym : y ∈ inTo s' N := by
              rw [hy]
              simp only [List.getD_eq_getElem?_getD]
              rw [List.getElem?_eq_getElem hkl']
              exact List.getElem_mem hkl'
            obtain ⟨j, hj, hjn, rfl⟩ := (mem_inTo s' y N).1 hym
            have hk0 : (0 : Int) ≤ (k : Int) := by omega
            have hk1 : (k : Int) < (ln : Int) := by omega
            have hlj := HT7.out.inv.log HF'.out j hj
            have hpre : decide (C' = (s'.logs j).take C'.length) = true := by
              have := HALL.out.k.ins j hj hjn
              rw [HALL.out.k.len]
              exact decide_eq_true this.symm
            have HLJ := Lib.hid hlj
            have HPRE := Lib.hid hpre
            have h200 := HF'.out.logs j hj
            have hc200 : C'.length ≤ 256 := by have := HALL.out.k.len; have := HF'.out.high; omega
            clear hlj hpre hy hym hlen0 hkl' hjn z2
            go_wp2_with fail
            go_at_call 14
            refine HLJ.out.mono ?_
            rintro e w8 ⟨uj, rfl, huj⟩
            have HT8 := Lib.hid (HT7.out.later huj.2.1)
            have HO8 := Lib.hid (HO7.out.trans huj.2.1 (fun _ _ q => q))
            have HRJ := Lib.hid huj.1
            clear huj HT7 HO7 hck
            go_wp2_with fail
            go_at_call 24
            refine (begins_any (.slice a3 hi' c3) uj C' (s'.logs j) w8 HT8.out.row HRJ.out hc200 (by omega)).mono ?_
            rintro e w9 ⟨rfl, n9, rfl⟩
            rw [HPRE.out]
            go_wp2_with fail
            go_roundw
            case rel => exact ⟨k + 1, by omega, by go_num, Lib.hid (HT8.out.later ((Only.refl _ _).drewN _)), Lib.hid (HO8.out.drewN _)⟩
            case measure => simp [intOf]; omega
          · obtain rfl : k = ln := by omega
            clear HO7
            go_wp2_with fail
            go_at_call 16
            refine (HT7.out.inv.comm HF'.out).mono ?_
            rintro e w8 (⟨hz, rfl, ho⟩ | ⟨j, u, hz, hj, hj2, rfl, hu⟩)
            · have HT8 := Lib.hid (HT7.out.later ho)
              clear ho HT7
              go_wp2_with fail
              go_roundw
              case rel => exact ⟨i + 1, C', by omega, by go_num, by rw [hback.out, ← HHI'.out], by rw [hback.out]; exact HALL, by rw [hback.out]; exact HT8⟩
              case measure => simp [intOf]; omega
            · have HT8 := Lib.hid (HT7.out.later hu.2.1)
              have hcj := HALL.out.k.ins j hj hj2.2.1
              rw [hcj] at hu
              obtain ⟨a8, c8, h8⟩ := hu.1.slice
              subst h8
              have hclen : C'.length = hi' := by rw [HALL.out.k.len]; exact HHI'.out.symm
              have hrow8 := hu.1
              rw [hclen] at hrow8 ⊢
              have hc200 : C'.length ≤ 256 := by have := HALL.out.k.len; have := HF'.out.high; omega
              have hpre : decide (C' = C'.take C'.length) = true := decide_eq_true (by rw [List.take_length])
              have HR8 := Lib.hid hrow8
              have HPRE := Lib.hid hpre
              have HCL := Lib.hid hclen
              have hne : ((hi' : Int) != (hi' : Int)) = false := by simp
              clear hu hrow8 hpre HT7 hcj hclen
              go_wp2_with fail
              go_at_call 24
              refine (begins_any (.slice a3 hi' c3) (.slice a8 hi' c8) C' C' w8 HT8.out.row HR8.out hc200 hc200).mono ?_
              rintro e w9 ⟨rfl, n9, rfl⟩
              rw [HPRE.out]
              go_wp2_with fail
              go_roundw
              case rel => exact ⟨i + 1, C', by omega, by go_num, by rw [hback.out, ← HHI'.out], by rw [hback.out]; exact HALL, by rw [hback.out]; exact Lib.hid (HT8.out.later ((Only.refl _ _).drewN _))⟩
              case measure => simp [intOf]; omega
    · obtain rfl : i = K := by omega
      go_wp2_with fail
      go_at_call 19
      refine (awake_any _).mono ?_
      rintro e w3 ⟨rfl, o3⟩
      have O3 := Lib.hid o3
      clear o3
      go_wp2_with fail
      go_ret
      exact True1.of rfl (HI.out.inv.only.trans O3.out (fun _ _ q => q))
end Go.Proofs.Ytcehlajkpnhdiaa.Lk
