/- ReplicaLeads: there is one leader at the most, up and in sync: the law's walk. -/
import Derived.Test.YtcehlajkpnhdiaaMo
namespace Go.Proofs.Ytcehlajkpnhdiaa.Lt
open Go.RowKit Go.Proofs.Ytcehlajkpnhdiaa.Rw Go.Proofs.Ytcehlajkpnhdiaa.Rp Go.Proofs.Ytcehlajkpnhdiaa.Ra Go.Proofs.Ytcehlajkpnhdiaa.Ln Go.Proofs.Ytcehlajkpnhdiaa.Mo
set_option linter.unusedSimpArgs false
set_option linter.unusedVariables false
theorem mem_inTo (s : St) (x : Int) : ∀ k, x ∈ inTo s k ↔ ∃ j, j < k ∧ s.ins j = true ∧ x = (j : Int) + 1
  | 0 => by simp [inTo]
  | k + 1 => by
    have ih := mem_inTo s x k
    unfold inTo
    split
    · rename_i h
      rw [List.mem_append, ih]
      constructor
      · rintro (⟨j, h1, h2, h3⟩ | h1)
        · exact ⟨j, by omega, h2, h3⟩
        · simp at h1; exact ⟨k, by omega, h, h1⟩
      · rintro ⟨j, h1, h2, h3⟩
        by_cases e : j = k
        · subst e; right; simp [h3]
        · left; exact ⟨j, by omega, h2, h3⟩
    · rename_i h
      rw [ih]
      constructor
      · rintro ⟨j, h1, h2, h3⟩; exact ⟨j, by omega, h2, h3⟩
      · rintro ⟨j, h1, h2, h3⟩
        refine ⟨j, ?_, h2, h3⟩
        by_cases e : j = k
        · subst e; exact absurd h2 h
        · omega
theorem irow_cell {w : World} {B g n cap : Nat} {l : List Int} (h : IRow w B (.slice (some ⟨g, 0, none⟩) n cap) l) (i : Nat) (hi : i < l.length) : w.cell? ⟨g, i, none⟩ = some (.int .i64 (l.getD i 0)) := by
  rcases h.2 with ⟨q, _⟩ | ⟨g', cap', cur, q, _, h2, h3, h4, h5, h6⟩
  · cases q
  · cases q
    rw [cell_of h2]
    have e : (cur.toList.take (l.length * 1))[i]? = cur.toList[i]? := List.getElem?_take_of_lt (by omega)
    rw [h6] at e
    rw [← Array.getElem?_toList, ← e]
    simp [ics, hi, List.getD]
theorem irow_form {w : World} {B : Nat} {v : Value} {l : List Int} (h : IRow w B v l) (hl : 0 < l.length) : ∃ g c, v = .slice (some ⟨g, 0, none⟩) l.length c := by
  rcases h.2 with ⟨q, h0⟩ | ⟨g', cap', cur, q, _⟩
  · omega
  · exact ⟨g', cap', q⟩
set_option maxHeartbeats 6400000 in
set_option maxRecDepth 100000 in
theorem leads_any (n : Int) (A : Option Addr) (DS : List Deed) (c : Nat) (W : World) (hc : DS.length ≤ c) (hn : DS.length ≤ 9223372036854775807) (hR : Deeds W A DS) : Calls Try.prog 7 #[.int .i64 n, .slice A DS.length c] W (True1 W) := by
  obtain ⟨hN1, hN5, _⟩ := ofN_le n
  obtain ⟨N, hNN⟩ : ∃ N, N = ofN n := ⟨_, rfl⟩
  obtain ⟨L, hL⟩ : ∃ L, L = DS.take 200 := ⟨_, rfl⟩
  have hD := hR.take 200
  rw [← hL] at hD
  have HD := Lib.hid hD
  have hK : L.length ≤ 200 := by rw [hL, List.length_take]; omega
  have HS := Lib.hid (fun w => some_any A DS c w hc hn)
  rw [← hL] at HS
  obtain ⟨K, hKK⟩ : ∃ K, K = L.length := ⟨_, rfl⟩
  rw [← hKK] at HS hK
  have HKK := Lib.hid hKK
  have HO := Lib.hid (fun w => of_any n w)
  rw [← hNN] at HO hN1 hN5
  generalize hDn : DS.length = dn at *
  clear hL hD hR hc hn hKK hNN hDn DS
  go_enter Try.func7, Try.ntmps7
  go_wp2_with fail
  go_at_call 9
  refine (HO.out W).mono ?_
  rintro e w1 ⟨r, rfl, h⟩
  obtain ⟨m, bn, bi, bm, rfl, h0⟩ := RInv.new h
  have H0 := Lib.hid h0
  clear h h0 HO
  go_wp2_with fail
  go_at_call 10
  refine (HS.out w1).mono ?_
  rintro e w' ⟨rfl, hw⟩
  subst hw
  clear HS
  go_wp2_with fail
  go_at_call 13
  refine H0.out.leader.mono ?_
  rintro e w2 ⟨rfl, ho⟩
  have H2 := Lib.hid (H0.out.later ho)
  clear ho H0
  go_wp2_with fail
  go_loopw [6, 7, 8] (fun xl xe xi wr => ∃ (i Ld : Nat), i ≤ K ∧ xi = .int .i64 i ∧ xl = .int .i64 Ld ∧ xe = .int .i64 (after N L i).epoch ∧ Hid (RInv W m bn bi bm N (after N L i) wr) ∧ Hid ((after N L i).lead ≠ 0 → (after N L i).lead = Ld)) (fun _ _ xi _ => K - (intOf xi).toNat)
  case atStart => exact ⟨0, 1, by omega, rfl, rfl, rfl, H2, Lib.hid fun _ => rfl⟩
  case round =>
    obtain ⟨i, Ld, hi, rfl, rfl, rfl, HI, HLd⟩ := hrel
    clear H2
    by_cases hlt : i < K
    · have hdi := HD.out
      rcases hdi with q | ⟨b, off, rfl, hcells⟩
      · exfalso; have := HKK.out; rw [q] at this; simp at this; omega
      obtain ⟨c0, c1, c2⟩ := hcells i (by have := HKK.out; omega)
      have c0 := cell_on HI.out.only c0
      have c1 := cell_on HI.out.only c1
      have c2 := cell_on HI.out.only c2
      obtain ⟨fits, hep⟩ := after_fit hN1 hN5 L i
      obtain ⟨fits', _⟩ := after_fit hN1 hN5 L (i + 1)
      obtain ⟨he1, he2⟩ := epoch_do (N := N) (after N L i) (L.getD i dz)
      have hls := lead_step (step_do N (after N L i) (L.getD i dz))
      have hok := after_leadOk (N := N) L (i + 1)
      have hlN := fits'.lead
      have hDo := HI.out.do_ fits (by omega) (L.getD i dz)
      have hep0 := fits.ep
      obtain ⟨s, hs⟩ : ∃ s, s = after N L i := ⟨_, rfl⟩
      obtain ⟨s', hs'⟩ : ∃ s', s' = after N L (i + 1) := ⟨_, rfl⟩
      have hse : (doIt N s (L.getD i dz)).2 = s' := by rw [hs, hs']; rfl
      rw [← hs'] at hok hlN fits'
      rw [← hs] at he1 he2 hls hDo fits hep hep0 HLd HI ⊢
      rw [hse] at he1 he2 hls hDo
      obtain ⟨E, hE⟩ : ∃ E, E = s.epoch := ⟨_, rfl⟩
      obtain ⟨E', hE'⟩ : ∃ E', E' = s'.epoch := ⟨_, rfl⟩
      obtain ⟨now, hnow⟩ : ∃ now, now = s'.lead := ⟨_, rfl⟩
      have HDo : Hid (Calls Try.prog 11 #[.pointer (some ⟨m, 0, none⟩), dv (L.getD i dz)] wr fun e w' => ∃ r : Int, e = .returned (.int .i64 r) ∧ RInv W m bn bi bm N s' w') := Lib.hid (hDo.mono fun e w' ⟨q1, q2⟩ => ⟨_, q1, q2⟩)
      have HLe : Hid (∀ w, RInv W m bn bi bm N s' w → Calls Try.prog 13 #[.pointer (some ⟨m, 0, none⟩)] w fun e w' => e = .returned (.tuple #[.int .i64 now, .int .i64 E']) ∧ Only (fun _ => False) w w') := Lib.hid (fun w h => by rw [hnow, hE']; exact h.leader)
      rw [← hE] at he1 he2 hls hep hep0 ⊢
      rw [← hE'] at he1 he2 hls
      have hb1 : decide (E' < E) = false := by simp; omega
      have hb2 : decide (E + 1 < E') = false := by simp; omega
      have hwe : IntKind.i64.wrap (E + 1) = E + 1 := by rw [IntKind.wrap_i64]; omega
      obtain ⟨d, hd⟩ : ∃ d, d = L.getD i dz := ⟨_, rfl⟩
      rw [← hd] at c0 c1 c2 HDo
      have hi0 : (0 : Int) ≤ (i : Int) := by omega
      have hi1 : (i : Int) < (K : Int) := by omega
      have hback : Hid (after N L (i + 1) = s') := Lib.hid hs'.symm
      have HF' := Lib.hid fits'
      unfold LeadOk at hok
      rw [← hnow] at hls hok hlN
      have HNOW := Lib.hid hnow
      have HE' := Lib.hid hE'
      have HLS : Hid (now ≠ 0 → now ≠ Ld → E' = E + 1) := Lib.hid (by
        intro q1 q2
        rcases hls q1 with q | q
        · exact absurd (by rw [q]; exact HLd.out (by rw [← q]; exact q1)) q2
        · exact q)
      have HOK := Lib.hid hok
      clear hs hs' hse hDo hE hE' hnow hd hls hep hep0 he1 he2 fits fits' hok hcells HI HLd
      go_wp2_with fail
      go_at_call 11
      refine HDo.out.mono ?_
      rintro e w3 ⟨r, rfl, h3⟩
      have H3 := Lib.hid h3
      clear h3 HDo c0 c1 c2
      go_wp2_with fail
      go_at_call 13
      refine (HLe.out w3 H3.out).mono ?_
      rintro e w4 ⟨rfl, ho⟩
      have H4 := Lib.hid (H3.out.later ho)
      clear ho H3 HLe
      by_cases h0 : now = 0
      · subst h0
        go_wp2_with fail
        go_roundw
        case rel =>
          exact ⟨i + 1, Ld, by omega, by go_num, rfl, by rw [hback.out, HE'.out], by rw [hback.out]; exact H4, by rw [hback.out]; exact Lib.hid (fun q => absurd HNOW.out.symm q)⟩
        case measure => simp [intOf]; omega
      · have hd0 : decide (0 < now) = true := by simp; omega
        by_cases h1 : Ld = now
        · have HLN := Lib.hid h1
          have hne : ((Ld : Int) != (now : Int)) = false := by simp; omega
          clear h1
          go_wp2_with fail
          go_at_call 18
          refine (H4.out.ins HF'.out).mono ?_
          rintro e w5 ⟨u, rfl, hu, ho⟩
          have H5 := Lib.hid (H4.out.later ho)
          have hmem : (now : Int) ∈ inTo s' N := (mem_inTo s' now N).2 ⟨now - 1, by omega, (HOK.out h0).1, by omega⟩
          obtain ⟨g, cu, rfl⟩ := irow_form hu (List.length_pos_of_mem hmem)
          obtain ⟨ln, hln⟩ : ∃ ln, ln = (inTo s' N).length := ⟨_, rfl⟩
          have hln5 : ln ≤ 5 := by have := inTo_le s' N; omega
          have hcell : ∀ k, k < ln → w5.cell? ⟨g, k, none⟩ = some (.int .i64 ((inTo s' N).getD k 0)) := fun k hk => irow_cell hu k (by rw [← hln]; exact hk)
          rw [← hln]
          have HCE := Lib.hid hcell
          have HLN5 := Lib.hid hln
          have HMEM := Lib.hid hmem
          clear hu ho H4 hcell hln hmem
          go_wp2_with fail
          go_loopw [11, 13] (fun xb xk wr => ∃ (k : Nat), k ≤ ln ∧ xk = .int .i64 k ∧ xb = .bool (decide ((now : Int) ∈ (inTo s' N).take k)) ∧ wr = w5) (fun _ xk _ => ln - (intOf xk).toNat)
          case atStart => exact ⟨0, by omega, rfl, by simp, rfl⟩
          case round =>
            obtain ⟨k, hk, rfl, hxb, rfl⟩ := hrel
            by_cases hkl : k < ln
            · have ck := HCE.out k hkl
              obtain ⟨y, hy⟩ : ∃ y, y = (inTo s' N).getD k 0 := ⟨_, rfl⟩
              rw [← hy] at ck
              have hk0 : (0 : Int) ≤ (k : Int) := by omega
              have hk1 : (k : Int) < (ln : Int) := by omega
              have hnext : decide ((now : Int) ∈ (inTo s' N).take (k + 1)) = (decide ((now : Int) ∈ (inTo s' N).take k) || (y == (now : Int))) := by
                have hkl' : k < (inTo s' N).length := by rw [← HLN5.out]; exact hkl
                have e : (inTo s' N)[k] = y := by rw [hy]; simp [List.getD, hkl']
                rw [List.take_succ_eq_append_getElem hkl', e]
                by_cases q : (now : Int) = y
                · simp [q]
                · have q' : ¬ y = (now : Int) := fun z => q z.symm
                  simp [q, q']
              obtain ⟨bb, hbb⟩ : ∃ bb, bb = decide ((now : Int) ∈ (inTo s' N).take k) := ⟨_, rfl⟩
              rw [← hbb] at hxb hnext
              subst hxb
              have HNX := Lib.hid hnext
              clear hnext hbb hy
              cases bb with
              | true =>
                go_wp2_with fail
                go_roundw
                case rel => exact ⟨k + 1, by omega, by go_num, by rw [HNX.out]; rfl, trivial⟩
                case measure => simp [intOf]; omega
              | false =>
                go_wp2_with fail
                go_roundw
                case rel => exact ⟨k + 1, by omega, by go_num, by rw [HNX.out]; simp, trivial⟩
                case measure => simp [intOf]; omega
            · obtain rfl : k = ln := by omega
              have hall : decide ((now : Int) ∈ (inTo s' N).take k) = true := by
                rw [HLN5.out, List.take_length]; exact decide_eq_true HMEM.out
              rw [hall] at hxb
              subst hxb
              clear hall
              go_wp2_with fail
              go_at_call 12
              have hup := H5.out.up HF'.out (now - 1) (by omega)
              rw [show ((now - 1 : Nat) : Int) + 1 = (now : Int) by omega, (HOK.out h0).2] at hup
              refine hup.mono ?_
              rintro e w' ⟨rfl, hw⟩
              subst hw
              clear hup
              go_wp2_with fail
              go_roundw
              case rel =>
                refine ⟨i + 1, now, by omega, by go_num, rfl, ?_, ?_, ?_⟩
                · rw [hback.out, HE'.out]
                · rw [hback.out]; exact H5
                · rw [hback.out]; exact Lib.hid (fun _ => HNOW.out.symm)
              case measure => simp [intOf]; omega
        · have HLN := Lib.hid h1
          have hne : ((Ld : Int) != (now : Int)) = true := by simp; omega
          have hee := HLS.out h0 (fun q => h1 q.symm)
          have hne' : (E' != E + 1) = false := by simp [hee]
          have HEE := Lib.hid hee
          clear h1 hee
          go_wp2_with fail
          go_at_call 18
          refine (H4.out.ins HF'.out).mono ?_
          rintro e w5 ⟨u, rfl, hu, ho⟩
          have H5 := Lib.hid (H4.out.later ho)
          have hmem : (now : Int) ∈ inTo s' N := (mem_inTo s' now N).2 ⟨now - 1, by omega, (HOK.out h0).1, by omega⟩
          obtain ⟨g, cu, rfl⟩ := irow_form hu (List.length_pos_of_mem hmem)
          obtain ⟨ln, hln⟩ : ∃ ln, ln = (inTo s' N).length := ⟨_, rfl⟩
          have hln5 : ln ≤ 5 := by have := inTo_le s' N; omega
          have hcell : ∀ k, k < ln → w5.cell? ⟨g, k, none⟩ = some (.int .i64 ((inTo s' N).getD k 0)) := fun k hk => irow_cell hu k (by rw [← hln]; exact hk)
          rw [← hln]
          have HCE := Lib.hid hcell
          have HLN5 := Lib.hid hln
          have HMEM := Lib.hid hmem
          clear hu ho H4 hcell hln hmem
          go_wp2_with fail
          go_loopw [11, 13] (fun xb xk wr => ∃ (k : Nat), k ≤ ln ∧ xk = .int .i64 k ∧ xb = .bool (decide ((now : Int) ∈ (inTo s' N).take k)) ∧ wr = w5) (fun _ xk _ => ln - (intOf xk).toNat)
          case atStart => exact ⟨0, by omega, rfl, by simp, rfl⟩
          case round =>
            obtain ⟨k, hk, rfl, hxb, rfl⟩ := hrel
            by_cases hkl : k < ln
            · have ck := HCE.out k hkl
              obtain ⟨y, hy⟩ : ∃ y, y = (inTo s' N).getD k 0 := ⟨_, rfl⟩
              rw [← hy] at ck
              have hk0 : (0 : Int) ≤ (k : Int) := by omega
              have hk1 : (k : Int) < (ln : Int) := by omega
              have hnext : decide ((now : Int) ∈ (inTo s' N).take (k + 1)) = (decide ((now : Int) ∈ (inTo s' N).take k) || (y == (now : Int))) := by
                have hkl' : k < (inTo s' N).length := by rw [← HLN5.out]; exact hkl
                have e : (inTo s' N)[k] = y := by rw [hy]; simp [List.getD, hkl']
                rw [List.take_succ_eq_append_getElem hkl', e]
                by_cases q : (now : Int) = y
                · simp [q]
                · have q' : ¬ y = (now : Int) := fun z => q z.symm
                  simp [q, q']
              obtain ⟨bb, hbb⟩ : ∃ bb, bb = decide ((now : Int) ∈ (inTo s' N).take k) := ⟨_, rfl⟩
              rw [← hbb] at hxb hnext
              subst hxb
              have HNX := Lib.hid hnext
              clear hnext hbb hy
              cases bb with
              | true =>
                go_wp2_with fail
                go_roundw
                case rel => exact ⟨k + 1, by omega, by go_num, by rw [HNX.out]; rfl, trivial⟩
                case measure => simp [intOf]; omega
              | false =>
                go_wp2_with fail
                go_roundw
                case rel => exact ⟨k + 1, by omega, by go_num, by rw [HNX.out]; simp, trivial⟩
                case measure => simp [intOf]; omega
            · obtain rfl : k = ln := by omega
              have hall : decide ((now : Int) ∈ (inTo s' N).take k) = true := by
                rw [HLN5.out, List.take_length]; exact decide_eq_true HMEM.out
              rw [hall] at hxb
              subst hxb
              clear hall
              go_wp2_with fail
              go_at_call 12
              have hup := H5.out.up HF'.out (now - 1) (by omega)
              rw [show ((now - 1 : Nat) : Int) + 1 = (now : Int) by omega, (HOK.out h0).2] at hup
              refine hup.mono ?_
              rintro e w' ⟨rfl, hw⟩
              subst hw
              clear hup
              go_wp2_with fail
              go_roundw
              case rel =>
                refine ⟨i + 1, now, by omega, by go_num, rfl, ?_, ?_, ?_⟩
                · rw [hback.out, HE'.out]
                · rw [hback.out]; exact H5
                · rw [hback.out]; exact Lib.hid (fun _ => HNOW.out.symm)
              case measure => simp [intOf]; omega
    · obtain rfl : i = K := by omega
      go_wp2_with fail
      go_at_call 19
      refine (awake_any _).mono ?_
      rintro e w3 ⟨rfl, o3⟩
      have O3 := Lib.hid o3
      clear o3
      go_wp2_with fail
      go_ret
      exact True1.of rfl (HI.out.only.trans O3.out (fun _ _ q => q))
end Go.Proofs.Ytcehlajkpnhdiaa.Lt
