/- The contract of fetch. -/
import Derived.Test.YtcehlajkpnhdiaaRq
namespace Go.Proofs.Ytcehlajkpnhdiaa.Ra
open Go.RowKit Go.Proofs.Ytcehlajkpnhdiaa.Rw Go.Proofs.Ytcehlajkpnhdiaa.Rp
set_option linter.unusedSimpArgs false
set_option linter.unusedVariables false
variable {w w1 : World} {m bn bi bm N : Nat} {vs : Nat → Value} {s : St}
/-- The state behind a fetch that takes, ahead of rise. -/
def tookPre (s : St) (n : Nat) (l : List Cp) : St := { s with logs := upd s.logs n l, mat := upd s.mat n l.length, ins := if s.high ≤ l.length ∧ l.length = s.his.length then upd s.ins n true else s.ins }
theorem _root_.Go.Proofs.Ytcehlajkpnhdiaa.Rp.Fit.tookPre {N : Nat} {s : St} (h : Fit N s) (n : Nat) (l : List Cp) (hl : l.length ≤ 200) : Fit N (tookPre s n l) := by
  refine ⟨h.n1, h.n5, h.lead, ?_, ?_, h.high, h.ep⟩
  · intro i hi
    show (upd s.logs n l i).length ≤ 200
    by_cases e : i = n
    · rw [e, upd_same]; exact hl
    · rw [upd_other _ _ _ e]; exact h.logs i hi
  · intro i hi
    show upd s.mat n l.length i ≤ 200
    by_cases e : i = n
    · rw [e, upd_same]; exact hl
    · rw [upd_other _ _ _ e]; exact h.mat i hi
set_option maxHeartbeats 12800000 in
set_option maxRecDepth 100000 in
theorem fetch_any (h : Box w m bn bi bm N vs s) (hf : Fit N s) (n : Nat) (hn : n < N) : Calls Try.prog 28 #[.pointer (some ⟨m, 0, none⟩), .int .i64 n] w (Did m bn bi bm N vs (fetch N s n) w) := by
  have hl := hf.lead
  have hN := hf.n5
  have o0 : w.cell? ⟨m, 0, none⟩ = some (.slice (some ⟨bn, 0, none⟩) N N) := cell_of h.obj 0
  have o2 : w.cell? ⟨m, 2, none⟩ = some (.int .i64 s.lead) := cell_of h.obj 2
  have cu := h.up hn
  have hp0 : (0 : Int) ≤ (n : Int) := by omega
  have hp1 : (n : Int) < (N : Int) := by omega
  have hp2 : (n : Int).toNat = n := by omega
  have hwr : IntKind.i64.wrap ((s.lead : Int) - 1) = (s.lead : Int) - 1 := by rw [IntKind.wrap_i64]; omega
  have HF := Lib.hid hf
  by_cases h0 : s.lead = 0
  · have HH := Lib.hid h
    clear h hf
    rw [h0] at o2
    go_enter Try.func28, Try.ntmps28
    go_wp2_with fail
    go_ret
    have e : fetch N s n = (14, s) := by simp [fetch, h0]
    rw [e]
    exact ⟨rfl, vs, HH.out, Only.refl _ _, Nextv.refl _ _ _⟩
  have hne : ((s.lead : Int) == 0) = false := by simp; omega
  cases hu : s.ups n with
  | false =>
    have HH := Lib.hid h
    rw [hu] at cu
    have HU := Lib.hid hu
    clear h hf hu
    go_enter Try.func28, Try.ntmps28
    go_wp2_with fail
    go_ret
    have e : fetch N s n = (14, s) := by simp [fetch, HU.out]
    rw [e]
    exact ⟨rfl, vs, HH.out, Only.refl _ _, Nextv.refl _ _ _⟩
  | true =>
  rw [hu] at cu
  by_cases h1 : n + 1 = s.lead
  · have HH := Lib.hid h
    have HU := Lib.hid hu
    have hd : ((n : Int) == (s.lead : Int) - 1) = true := by simp; omega
    clear h hf hu
    go_enter Try.func28, Try.ntmps28
    go_wp2_with fail
    go_ret
    have e : fetch N s n = (9, s) := by simp [fetch, HU.out, h0, h1]
    rw [e]
    exact ⟨rfl, vs, HH.out, Only.refl _ _, Nextv.refl _ _ _⟩
  have hd : ((n : Int) == (s.lead : Int) - 1) = false := by simp; omega
  have hlg : s.lead - 1 < N := by omega
  have hle : (s.logs (s.lead - 1)).length ≤ 200 := hf.logs _ hlg
  have hlm : (s.logs n).length ≤ 200 := hf.logs _ hn
  have HL := Lib.hid (lead_any h hl h0 hN)
  obtain ⟨ha, hc, hv⟩ := (h.rows (s.lead - 1) hlg).slice
  obtain ⟨hll, hhl⟩ : ∃ hll, hll = (s.logs (s.lead - 1)).length := ⟨_, rfl⟩
  rw [← hhl] at hv hle
  obtain ⟨ma, mc, hmv⟩ := (h.rows n hn).slice
  obtain ⟨k, hk⟩ : ∃ k, k = (s.logs n).length := ⟨_, rfl⟩
  rw [← hk] at hmv hlm
  have ch : w.cell? ⟨bn, (s.lead - 1) * 2, none⟩ = some (.slice ha hll hc) := by rw [h.log hlg, hv]
  have cm : w.cell? ⟨bn, n * 2, none⟩ = some (.slice ma k mc) := by rw [h.log hn, hmv]
  have HH := Lib.hid h
  have HU := Lib.hid hu
  have HHL := Lib.hid hhl
  have HK := Lib.hid hk
  have HV := Lib.hid hv
  have HMV := Lib.hid hmv
  have H1 := Lib.hid h1
  clear h hf hu hhl hk hv hmv h1
  have hw3 : IntKind.i64.wrap ((k : Int) + 3) = (k : Int) + 3 := by rw [IntKind.wrap_i64]; omega
  obtain ⟨T, hT⟩ : ∃ T, T = min hll (k + 3) := ⟨_, rfl⟩
  have hmin2 : (if (k : Int) + 3 < (hll : Int) then (k : Int) + 3 else (hll : Int)) = (T : Int) := by split <;> omega
  have hT1 : T ≤ hll := by omega
  have hT2 : k ≤ hll → k ≤ T := by omega
  have HT := Lib.hid hT
  clear hT
  by_cases hk0 : k = 0
  · have hkd : decide (0 < k) = false := by simp; omega
    have hkT : k ≤ T := hT2 (by omega)
    have hcut : Hid (cuts (s.logs n) (s.logs (s.lead - 1)) = false) := Lib.hid (by simp [cuts, ← HK.out, hk0])
    have HK0 := Lib.hid hk0
    clear hk0 hT2
    go_enter Try.func28, Try.ntmps28
    go_wp2_with fail
    go_quiet (exact Calls.quiet_of (lead_any (HH.out.drewN _) hl h0 hN))
    go_wp2_with fail
    -- TAIL1
    have HH9 := Lib.hid (HH.out.drewN nq)
    have HO9 : Hid (Only (Ft m bn bi bm N vs) w (w.drewN nq)) := Lib.hid ((Only.refl _ w).drewN nq)
    have bl : (w.drewN nq).cell? ⟨bn, n * 2, none⟩ = some (.slice ma k mc) := cm
    have hmw : m < (w.drewN nq).heap.size := lt_of_block HH9.out.obj
    have hbw : bn < (w.drewN nq).heap.size := HH9.out.nodes.lt
    have hform : (ha = none ∧ hll = 0 ∧ hc = 0) ∨ ∃ hg, ha = some ⟨hg, 0, none⟩ ∧ hll ≤ hc := by
      have hr := HH.out.rows (s.lead - 1) hlg
      rw [HV.out] at hr
      rcases hr with ⟨q, q'⟩ | ⟨hg, cap, cur, q, _, q2, _⟩
      · cases q; exact .inl ⟨rfl, rfl, rfl⟩
      · cases q; exact .inr ⟨hg, rfl, q2⟩
    clear o0 o2 ch cm cu hkd
    generalize w.drewN nq = w9 at HH9 HO9 bl hmw hbw ⊢
    have bf : w9.frozen? ⟨bn, n * 2, none⟩ = false := HH9.out.nodes.free _
    have HROW : Hid (Row w9 (.slice ma k mc) (s.logs n)) := Lib.hid (by have := HH9.out.rows n hn; rwa [HMV.out] at this)
    have hlk : (s.logs n).length = k := HK.out.symm
    obtain ⟨i0, hi0, hz0, hz1, hz2⟩ := info_parts info45
    rcases hform with ⟨rfl, rfl, rfl⟩ | ⟨hg, rfl, hhc⟩
    · first | (exfalso; omega) | skip
      obtain rfl : T = 0 := by omega
      obtain rfl : k = 0 := by omega
      go_region_law (refine step_append_nothing rfl (.tmp 118) (.tmp 122) 33 rfl i0 Try.underlying33 hi0 _ (s.logs n) (by rfl) HROW.out _ _ (by rfl) ?_)
      have HX0 := Lib.hid (HH9.out.setLog hn (.slice ma 0 mc) (s.logs n) HROW.out (by intro j b hj hji hb hb'; exact hji (HH9.out.apart j n b hj hn hb' (by rw [HMV.out]; exact hb))))
      obtain ⟨L2, hLL⟩ : ∃ L2, L2 = s.logs n := ⟨_, rfl⟩
      obtain ⟨vs2, hvv⟩ : ∃ vs2, vs2 = upd vs n (.slice ma 0 mc) := ⟨_, rfl⟩
      have HX : Hid (Box (w9.setCell ⟨bn, n * 2, none⟩ (.slice ma 0 mc)).drew m bn bi bm N vs2 { s with logs := upd s.logs n L2 }) := Lib.hid (by rw [hLL, hvv]; exact HX0.out.drew)
      have HO : Hid (Only (Ft m bn bi bm N vs) w (w9.setCell ⟨bn, n * 2, none⟩ (.slice ma 0 mc)).drew) := Lib.hid (HO9.out.setCell (p := ⟨bn, n * 2, none⟩) (.inr (.inr (.inl rfl))) _).drew
      have HNV : Hid (Nextv N vs vs2 w) := Lib.hid (by
        rw [hvv]
        intro i b hi hb
        left
        by_cases e : i = n
        · subst e; rw [upd_same] at hb; rw [HMV.out]; exact hb
        · rwa [upd_other _ _ _ e] at hb)
      have hL2 : L2.length = 0 := by rw [hLL]; exact hlk
      have HL2 : Hid (L2 = s.logs n ++ more (s.logs n) s.his) := Lib.hid (by
        rw [hLL, more, hlk, List.drop_of_length_le (by rw [show s.his = s.logs (s.lead - 1) from rfl, ← HHL.out]; omega)]; simp)
      obtain ⟨a2, c2, hv2'⟩ : ∃ a2 c2, ((.slice ma 0 mc) : Value) = .slice a2 0 c2 := ⟨_, _, rfl⟩
      have hv2 : Hid (vs2 n = .slice a2 0 c2) := Lib.hid (by rw [hvv, upd_same]; exact hv2')
      have kl : (w9.setCell ⟨bn, n * 2, none⟩ (.slice ma 0 mc)).drew.cell? ⟨bn, n * 2, none⟩ = some (.slice a2 0 c2) := by rw [HX.out.log hn]; exact congrArg some hv2.out
      clear HX0 hLL hvv hv2' bl bf hmw hbw HROW
      generalize (w9.setCell ⟨bn, n * 2, none⟩ (.slice ma 0 mc)).drew = w2 at HX HO kl ⊢
      have HP : Hid (fetch N s n = (0, rise N (tookPre s n L2))) := Lib.hid (by
        unfold fetch
        rw [if_neg (by simp [h0, HU.out]), if_neg H1.out, if_neg (by rw [show s.his = s.logs (s.lead - 1) from rfl, hcut.out]; decide)]
        unfold took
        rw [show s.logs n ++ more (s.logs n) s.his = L2 from HL2.out.symm]
        rfl)
      have hhl : s.his.length = 0 := HHL.out.symm
      have k0 : w2.cell? ⟨m, 0, none⟩ = some (.slice (some ⟨bn, 0, none⟩) N N) := cell_of HX.out.obj 0
      have k3 : w2.cell? ⟨m, 3, none⟩ = some (.slice (some ⟨bi, 0, none⟩) N N) := cell_of HX.out.obj 3
      have k4 : w2.cell? ⟨m, 4, none⟩ = some (.slice (some ⟨bm, 0, none⟩) N N) := cell_of HX.out.obj 4
      have km : w2.cell? ⟨bm, n, none⟩ = _ := HX.out.mat.cell _ hn
      have kf : w2.frozen? ⟨bm, n, none⟩ = false := HX.out.mat.free _
      have HR := Lib.hid (HX.out.setMat n 0)
      have HF3 : Hid (Fit N (tookPre s n L2)) := Lib.hid (HF.out.tookPre n L2 (by omega))
      go_wp2
      go_region
      have hB3 := HR.out.drew
      have hO3 : Only (Ft m bn bi bm N vs) w (w2.setCell ⟨bm, n, none⟩ (.int .i64 ((0 : Nat) : Int))).drew := (HO.out.setCell (p := ⟨bm, n, none⟩) (.inr (.inr (.inr (.inr (.inl rfl))))) _).drew
      have HB3 := Lib.hid hB3
      have HO3 := Lib.hid hO3
      have j0 : (w2.setCell ⟨bm, n, none⟩ (.int .i64 ((0 : Nat) : Int))).drew.cell? ⟨m, 0, none⟩ = some (.slice (some ⟨bn, 0, none⟩) N N) := cell_of hB3.obj 0
      have j3 : (w2.setCell ⟨bm, n, none⟩ (.int .i64 ((0 : Nat) : Int))).drew.cell? ⟨m, 3, none⟩ = some (.slice (some ⟨bi, 0, none⟩) N N) := cell_of hB3.obj 3
      have j5 : (w2.setCell ⟨bm, n, none⟩ (.int .i64 ((0 : Nat) : Int))).drew.cell? ⟨m, 5, none⟩ = some (.int .i64 s.high) := cell_of hB3.obj 5
      have ji : (w2.setCell ⟨bm, n, none⟩ (.int .i64 ((0 : Nat) : Int))).drew.cell? ⟨bi, n, none⟩ = some (.bool (s.ins n)) := hB3.ins.cell _ hn
      have jif : (w2.setCell ⟨bm, n, none⟩ (.int .i64 ((0 : Nat) : Int))).drew.frozen? ⟨bi, n, none⟩ = false := hB3.ins.free _
      have jl : (w2.setCell ⟨bm, n, none⟩ (.int .i64 ((0 : Nat) : Int))).drew.cell? ⟨bn, n * 2, none⟩ = some (.slice a2 0 c2) := by
        rw [hB3.log hn]; exact congrArg some hv2.out
      clear hB3 hO3 k0 k3 k4 km kf HR HX HO kl
      generalize (w2.setCell ⟨bm, n, none⟩ (.int .i64 ((0 : Nat) : Int))).drew = w3 at HB3 HO3 j0 j3 j5 ji jif jl ⊢
      by_cases d1 : s.high ≤ 0
      · have c0 : s.high = 0 := by omega
        by_cases d2 : 0 = 0
        · have c3 : decide (s.high ≤ 0) = true := by simp <;> omega
          have c4 : (((0 : Nat) : Int) == ((0 : Nat) : Int)) = true := by simp <;> omega
          have c4' : (0 == 0) = true := by simp <;> omega
          have HT1 : Hid (tookPre s n L2 = { s with logs := upd s.logs n L2, mat := upd s.mat n 0, ins := upd s.ins n true }) := Lib.hid (by
            unfold tookPre
            rw [hL2, if_pos ⟨d1, by rw [hhl]⟩])
          have HB4 := Lib.hid (HB3.out.setIn n true)
          have HO4 : Hid (∀ nq, Only (Ft m bn bi bm N vs) w ((w3.drewN nq).setCell ⟨bi, n, none⟩ (.bool true))) := Lib.hid fun nq => (HO3.out.drewN nq).setCell (p := ⟨bi, n, none⟩) (.inr (.inr (.inr (.inl rfl)))) _
          go_wp2
          go_quiet (fail)
          go_wp2_with fail
          go_at_call 30
          refine (rise_any (m := m) (bn := bn) (bi := bi) (bm := bm) (N := N) (vs := vs2) (s := tookPre s n L2) (by rw [HT1.out]; exact (HB3.out.drewN _).setIn n true) HF3.out h0).mono ?_
          rintro e w' ⟨rfl, hb, ho⟩
          have H5 := Lib.hid hb
          have H6 := Lib.hid ho
          clear hb ho
          go_wp2_with fail
          go_ret
          rw [HP.out]
          exact ⟨rfl, vs2, H5.out, (HO4.out _).trans H6.out (fun b _ hb => .inl hb), HNV.out⟩
        · exact absurd rfl d2
      · have c0 : ¬ s.high = 0 := by omega
        have c3 : decide (s.high ≤ 0) = false := by simp <;> omega
        have HT1 : Hid (tookPre s n L2 = { s with logs := upd s.logs n L2, mat := upd s.mat n 0 }) := Lib.hid (by
          unfold tookPre
          rw [hL2, if_neg (by exact fun q => d1 q.1)])
        go_wp2
        go_quiet (fail)
        go_wp2_with fail
        go_at_call 30
        refine (rise_any (m := m) (bn := bn) (bi := bi) (bm := bm) (N := N) (vs := vs2) (s := tookPre s n L2) (by rw [HT1.out]; exact HB3.out.drewN _) HF3.out h0).mono ?_
        rintro e w' ⟨rfl, hb, ho⟩
        have H5 := Lib.hid hb
        have H6 := Lib.hid ho
        clear hb ho
        go_wp2_with fail
        go_ret
        rw [HP.out]
        exact ⟨rfl, vs2, H5.out, (HO3.out.drewN _).trans H6.out (fun b _ hb => .inl hb), HNV.out⟩
    · by_cases hTk : k = T
      · subst hTk
        have hk9 : (0 : Int) ≤ (k : Int) := by omega
        have hk8 : (k : Int) ≤ (hc : Int) := by omega
        obtain ⟨ao, hao⟩ : ∃ ao, (if hc = k then some (⟨hg, 0, none⟩ : Addr) else some ⟨hg, k * 2, none⟩) = ao := ⟨_, rfl⟩
        go_region_law (refine step_append_nothing rfl (.tmp 118) (.tmp 122) 33 rfl i0 Try.underlying33 hi0 (.slice ma k mc) (s.logs n) (by rfl) HROW.out ao (hc - k) (by rfl) ?_)
        clear hao
        have HX0 := Lib.hid (HH9.out.setLog hn (.slice ma k mc) (s.logs n) HROW.out (by intro j b hj hji hb hb'; exact hji (HH9.out.apart j n b hj hn hb' (by rw [HMV.out]; exact hb))))
        obtain ⟨L2, hLL⟩ : ∃ L2, L2 = s.logs n := ⟨_, rfl⟩
        obtain ⟨vs2, hvv⟩ : ∃ vs2, vs2 = upd vs n (.slice ma k mc) := ⟨_, rfl⟩
        have HX : Hid (Box (w9.setCell ⟨bn, n * 2, none⟩ (.slice ma k mc)).drew m bn bi bm N vs2 { s with logs := upd s.logs n L2 }) := Lib.hid (by rw [hLL, hvv]; exact HX0.out.drew)
        have HO : Hid (Only (Ft m bn bi bm N vs) w (w9.setCell ⟨bn, n * 2, none⟩ (.slice ma k mc)).drew) := Lib.hid (HO9.out.setCell (p := ⟨bn, n * 2, none⟩) (.inr (.inr (.inl rfl))) _).drew
        have HNV : Hid (Nextv N vs vs2 w) := Lib.hid (by
          rw [hvv]
          intro i b hi hb
          left
          by_cases e : i = n
          · subst e; rw [upd_same] at hb; rw [HMV.out]; exact hb
          · rwa [upd_other _ _ _ e] at hb)
        have hL2 : L2.length = k := by rw [hLL]; exact hlk
        have HL2 : Hid (L2 = s.logs n ++ more (s.logs n) s.his) := Lib.hid (by
          rw [hLL, more, hlk, List.drop_of_length_le (by rw [show s.his = s.logs (s.lead - 1) from rfl, ← HHL.out]; omega)]; simp)
        obtain ⟨a2, c2, hv2'⟩ : ∃ a2 c2, ((.slice ma k mc) : Value) = .slice a2 k c2 := ⟨_, _, rfl⟩
        have hv2 : Hid (vs2 n = .slice a2 k c2) := Lib.hid (by rw [hvv, upd_same]; exact hv2')
        have kl : (w9.setCell ⟨bn, n * 2, none⟩ (.slice ma k mc)).drew.cell? ⟨bn, n * 2, none⟩ = some (.slice a2 k c2) := by rw [HX.out.log hn]; exact congrArg some hv2.out
        clear HX0 hLL hvv hv2' bl bf hmw hbw HROW
        generalize (w9.setCell ⟨bn, n * 2, none⟩ (.slice ma k mc)).drew = w2 at HX HO kl ⊢
        have HP : Hid (fetch N s n = (0, rise N (tookPre s n L2))) := Lib.hid (by
          unfold fetch
          rw [if_neg (by simp [h0, HU.out]), if_neg H1.out, if_neg (by rw [show s.his = s.logs (s.lead - 1) from rfl, hcut.out]; decide)]
          unfold took
          rw [show s.logs n ++ more (s.logs n) s.his = L2 from HL2.out.symm]
          rfl)
        have hhl : s.his.length = hll := HHL.out.symm
        have k0 : w2.cell? ⟨m, 0, none⟩ = some (.slice (some ⟨bn, 0, none⟩) N N) := cell_of HX.out.obj 0
        have k3 : w2.cell? ⟨m, 3, none⟩ = some (.slice (some ⟨bi, 0, none⟩) N N) := cell_of HX.out.obj 3
        have k4 : w2.cell? ⟨m, 4, none⟩ = some (.slice (some ⟨bm, 0, none⟩) N N) := cell_of HX.out.obj 4
        have km : w2.cell? ⟨bm, n, none⟩ = _ := HX.out.mat.cell _ hn
        have kf : w2.frozen? ⟨bm, n, none⟩ = false := HX.out.mat.free _
        have HR := Lib.hid (HX.out.setMat n k)
        have HF3 : Hid (Fit N (tookPre s n L2)) := Lib.hid (HF.out.tookPre n L2 (by omega))
        go_wp2
        go_region
        have hB3 := HR.out.drew
        have hO3 : Only (Ft m bn bi bm N vs) w (w2.setCell ⟨bm, n, none⟩ (.int .i64 ((k : Nat) : Int))).drew := (HO.out.setCell (p := ⟨bm, n, none⟩) (.inr (.inr (.inr (.inr (.inl rfl))))) _).drew
        have HB3 := Lib.hid hB3
        have HO3 := Lib.hid hO3
        have j0 : (w2.setCell ⟨bm, n, none⟩ (.int .i64 ((k : Nat) : Int))).drew.cell? ⟨m, 0, none⟩ = some (.slice (some ⟨bn, 0, none⟩) N N) := cell_of hB3.obj 0
        have j3 : (w2.setCell ⟨bm, n, none⟩ (.int .i64 ((k : Nat) : Int))).drew.cell? ⟨m, 3, none⟩ = some (.slice (some ⟨bi, 0, none⟩) N N) := cell_of hB3.obj 3
        have j5 : (w2.setCell ⟨bm, n, none⟩ (.int .i64 ((k : Nat) : Int))).drew.cell? ⟨m, 5, none⟩ = some (.int .i64 s.high) := cell_of hB3.obj 5
        have ji : (w2.setCell ⟨bm, n, none⟩ (.int .i64 ((k : Nat) : Int))).drew.cell? ⟨bi, n, none⟩ = some (.bool (s.ins n)) := hB3.ins.cell _ hn
        have jif : (w2.setCell ⟨bm, n, none⟩ (.int .i64 ((k : Nat) : Int))).drew.frozen? ⟨bi, n, none⟩ = false := hB3.ins.free _
        have jl : (w2.setCell ⟨bm, n, none⟩ (.int .i64 ((k : Nat) : Int))).drew.cell? ⟨bn, n * 2, none⟩ = some (.slice a2 k c2) := by
          rw [hB3.log hn]; exact congrArg some hv2.out
        clear hB3 hO3 k0 k3 k4 km kf HR HX HO kl
        generalize (w2.setCell ⟨bm, n, none⟩ (.int .i64 ((k : Nat) : Int))).drew = w3 at HB3 HO3 j0 j3 j5 ji jif jl ⊢
        by_cases d1 : s.high ≤ k
        · by_cases d2 : k = hll
          · have c3 : decide (s.high ≤ k) = true := by simp <;> omega
            have c4 : (((k : Nat) : Int) == ((hll : Nat) : Int)) = true := by simp <;> omega
            have c4' : (k == hll) = true := by simp <;> omega
            have HT1 : Hid (tookPre s n L2 = { s with logs := upd s.logs n L2, mat := upd s.mat n k, ins := upd s.ins n true }) := Lib.hid (by
              unfold tookPre
              rw [hL2, if_pos ⟨d1, by rw [hhl]; exact d2⟩])
            have HB4 := Lib.hid (HB3.out.setIn n true)
            have HO4 : Hid (∀ nq, Only (Ft m bn bi bm N vs) w ((w3.drewN nq).setCell ⟨bi, n, none⟩ (.bool true))) := Lib.hid fun nq => (HO3.out.drewN nq).setCell (p := ⟨bi, n, none⟩) (.inr (.inr (.inr (.inl rfl)))) _
            have HC1 := Lib.hid d1
            clear d1
            have HC2 := Lib.hid d2
            clear d2
            go_wp2
            go_quiet (fail)
            go_wp2_with fail
            go_at_call 30
            refine (rise_any (m := m) (bn := bn) (bi := bi) (bm := bm) (N := N) (vs := vs2) (s := tookPre s n L2) (by rw [HT1.out]; exact (HB3.out.drewN _).setIn n true) HF3.out h0).mono ?_
            rintro e w' ⟨rfl, hb, ho⟩
            have H5 := Lib.hid hb
            have H6 := Lib.hid ho
            clear hb ho
            go_wp2_with fail
            go_ret
            rw [HP.out]
            exact ⟨rfl, vs2, H5.out, (HO4.out _).trans H6.out (fun b _ hb => .inl hb), HNV.out⟩
          · have c3 : decide (s.high ≤ k) = true := by simp <;> omega
            have c4 : (((k : Nat) : Int) == ((hll : Nat) : Int)) = false := by simp <;> omega
            have c4' : (k == hll) = false := by simp <;> omega
            have HT1 : Hid (tookPre s n L2 = { s with logs := upd s.logs n L2, mat := upd s.mat n k }) := Lib.hid (by
              unfold tookPre
              rw [hL2, if_neg (by rw [hhl]; exact fun q => d2 q.2)])
            have HC1 := Lib.hid d1
            clear d1
            have HC2 := Lib.hid d2
            clear d2
            go_wp2
            go_quiet (fail)
            go_wp2_with fail
            go_at_call 30
            refine (rise_any (m := m) (bn := bn) (bi := bi) (bm := bm) (N := N) (vs := vs2) (s := tookPre s n L2) (by rw [HT1.out]; exact HB3.out.drewN _) HF3.out h0).mono ?_
            rintro e w' ⟨rfl, hb, ho⟩
            have H5 := Lib.hid hb
            have H6 := Lib.hid ho
            clear hb ho
            go_wp2_with fail
            go_ret
            rw [HP.out]
            exact ⟨rfl, vs2, H5.out, (HO3.out.drewN _).trans H6.out (fun b _ hb => .inl hb), HNV.out⟩
        · have c3 : decide (s.high ≤ k) = false := by simp <;> omega
          have HT1 : Hid (tookPre s n L2 = { s with logs := upd s.logs n L2, mat := upd s.mat n k }) := Lib.hid (by
            unfold tookPre
            rw [hL2, if_neg (by exact fun q => d1 q.1)])
          have HC1 := Lib.hid d1
          clear d1
          go_wp2
          go_quiet (fail)
          go_wp2_with fail
          go_at_call 30
          refine (rise_any (m := m) (bn := bn) (bi := bi) (bm := bm) (N := N) (vs := vs2) (s := tookPre s n L2) (by rw [HT1.out]; exact HB3.out.drewN _) HF3.out h0).mono ?_
          rintro e w' ⟨rfl, hb, ho⟩
          have H5 := Lib.hid hb
          have H6 := Lib.hid ho
          clear hb ho
          go_wp2_with fail
          go_ret
          rw [HP.out]
          exact ⟨rfl, vs2, H5.out, (HO3.out.drewN _).trans H6.out (fun b _ hb => .inl hb), HNV.out⟩
      · have hck : ¬ hc = k := by omega
        have hHR : Hid (Row w9 (.slice (some ⟨hg, 0, none⟩) hll hc) (s.logs (s.lead - 1))) := Lib.hid (by have := HH9.out.rows (s.lead - 1) hlg; rwa [HV.out] at this)
        have hkT' : k < T := by omega
        have hml : ((s.logs (s.lead - 1)).drop k |>.take (T - k)).length = T - k := by rw [List.length_take, List.length_drop, ← HHL.out]; omega
        have hnews : ∀ j u, (ccs ((s.logs (s.lead - 1)).drop k |>.take (T - k)))[j]? = some u → w9.cell? ((⟨hg, k * 2, none⟩ : Addr).add j) = some u := by
          intro j u hu
          rw [Addr.add_lit]
          refine hHR.out.cells (k * 2 + j) u ?_
          rw [ccs_take _ _ (by rw [List.length_drop, ← HHL.out]; omega), ccs_drop _ _ (by rw [← HHL.out]; omega)] at hu
          have hj : j < (T - k) * 2 := by
            have := (List.getElem?_eq_some_iff.1 hu).1
            rw [List.length_take] at this
            omega
          rw [List.getElem?_take_of_lt hj, List.getElem?_drop] at hu
          exact hu
        have hk9 : (0 : Int) ≤ (k : Int) := by omega
        have hk8 : (k : Int) ≤ (T : Int) := by omega
        have hk7 : (T : Int) ≤ (hc : Int) := by omega
        have hTc : ((T : Int) - (k : Int)).toNat = T - k := by omega
        have hnw : ∀ k', Only (fun _ => False) w9 (w9.drewN k') := fun k' => (Only.refl _ w9).drewN k'
        go_region_law (refine step_append_row rfl (.tmp 118) (.tmp 122) 33 rfl i0 _ Try.underlying33 hi0 hz0 hz1 hz2 rfl (.slice ma k mc) (s.logs n) _ (by rfl) (HROW.out.move fun _ _ => rfl) ⟨hg, k * 2, none⟩ (T - k) (hc - k) (by rfl) hml (by omega) hnews (by omega) ?_; intro g2 cap2 w1 happ; have hbeh := Box.behind HH9.out hn (Only.refl (fun _ => False) w9).drew (fun _ _ q => q) (by rw [HMV.out]; exact happ); have hb1 := hbeh.1; have hb2 := hbeh.2; rw [HMV.out] at hb1)
        obtain ⟨L2, hLL⟩ : ∃ L2, L2 = s.logs n ++ (((s.logs (s.lead - 1)).drop k).take (T - k)) := ⟨_, rfl⟩
        obtain ⟨vs2, hvv⟩ : ∃ vs2, vs2 = upd vs n (.slice (some ⟨g2, 0, none⟩) T cap2) := ⟨_, rfl⟩
        have hkTT : k + (T - k) = T := by omega
        have hx := HH9.out.appended hn (Only.refl (fun _ => False) w9).drew (fun _ _ q => q) (by rw [HMV.out]; exact happ)
        rw [hml, hlk, hkTT, ← hLL, ← hvv] at hx
        have hO : Only (Ft m bn bi bm N vs) w9 w1 := by
          refine ((Only.refl _ w9).drew).grown happ.2.1 (fun k' hk' => .inr (.inr (.inr (.inr (.inr ⟨n, hn, by rw [HMV.out]; exact hk'⟩)))))
        have HX : Hid (Box (w1.setCell ⟨bn, n * 2, none⟩ (.slice (some ⟨g2, 0, none⟩) T cap2)) m bn bi bm N vs2 { s with logs := upd s.logs n L2 }) := Lib.hid hx
        have HO : Hid (Only (Ft m bn bi bm N vs) w (w1.setCell ⟨bn, n * 2, none⟩ (.slice (some ⟨g2, 0, none⟩) T cap2))) := Lib.hid ((HO9.out.trans hO (fun _ _ q => q)).setCell (p := ⟨bn, n * 2, none⟩) (.inr (.inr (.inl rfl))) _)
        have HNV : Hid (Nextv N vs vs2 w) := Lib.hid (by
          rw [hvv]
          intro i b hi hb
          by_cases e : i = n
          · subst e
            rw [upd_same] at hb
            cases hb
            rcases happ.2.2.1 with q | q
            · left; rw [HMV.out]; exact q
            · right
              have := HO9.out.size
              have q' : w9.heap.size ≤ g2 := q
              show w.heap.size ≤ g2
              omega
          · rw [upd_other _ _ _ e] at hb; exact .inl hb)
        have hL2 : L2.length = T := by rw [hLL, List.length_append, hlk, hml]; exact hkTT
        have HL2 : Hid (L2 = s.logs n ++ more (s.logs n) s.his) := Lib.hid (by
          rw [hLL, more, hlk, show s.his = s.logs (s.lead - 1) from rfl]
          congr 1
          rw [HT.out]
          have hdl : ((s.logs (s.lead - 1)).drop k).length = hll - k := by rw [List.length_drop, ← HHL.out]
          by_cases h3 : hll ≤ k + 3
          · rw [List.take_of_length_le (by omega), List.take_of_length_le (by omega)]
          · rw [show min hll (k + 3) - k = 3 by omega])
        obtain ⟨a2, c2, hv2'⟩ : ∃ (a2 : Option Addr) (c2 : Nat), a2 = some ⟨g2, 0, none⟩ ∧ c2 = cap2 := ⟨_, _, rfl, rfl⟩
        have hv2 : Hid (vs2 n = .slice a2 T c2) := Lib.hid (by rw [hvv, upd_same, hv2'.1, hv2'.2])
        have kl : (w1.setCell ⟨bn, n * 2, none⟩ (.slice (some ⟨g2, 0, none⟩) T cap2)).cell? ⟨bn, n * 2, none⟩ = some (.slice a2 T c2) := by rw [HX.out.log hn]; exact congrArg some hv2.out
        clear hx hO hLL hvv hv2' bl bf hmw hbw HROW happ hbeh hb1 hb2
        generalize (w1.setCell ⟨bn, n * 2, none⟩ (.slice (some ⟨g2, 0, none⟩) T cap2)) = w2 at HX HO kl ⊢
        have HP : Hid (fetch N s n = (0, rise N (tookPre s n L2))) := Lib.hid (by
          unfold fetch
          rw [if_neg (by simp [h0, HU.out]), if_neg H1.out, if_neg (by rw [show s.his = s.logs (s.lead - 1) from rfl, hcut.out]; decide)]
          unfold took
          rw [show s.logs n ++ more (s.logs n) s.his = L2 from HL2.out.symm]
          rfl)
        have hhl : s.his.length = hll := HHL.out.symm
        have k0 : w2.cell? ⟨m, 0, none⟩ = some (.slice (some ⟨bn, 0, none⟩) N N) := cell_of HX.out.obj 0
        have k3 : w2.cell? ⟨m, 3, none⟩ = some (.slice (some ⟨bi, 0, none⟩) N N) := cell_of HX.out.obj 3
        have k4 : w2.cell? ⟨m, 4, none⟩ = some (.slice (some ⟨bm, 0, none⟩) N N) := cell_of HX.out.obj 4
        have km : w2.cell? ⟨bm, n, none⟩ = _ := HX.out.mat.cell _ hn
        have kf : w2.frozen? ⟨bm, n, none⟩ = false := HX.out.mat.free _
        have HR := Lib.hid (HX.out.setMat n T)
        have HF3 : Hid (Fit N (tookPre s n L2)) := Lib.hid (HF.out.tookPre n L2 (by omega))
        go_wp2
        go_region
        have hB3 := HR.out.drew
        have hO3 : Only (Ft m bn bi bm N vs) w (w2.setCell ⟨bm, n, none⟩ (.int .i64 ((T : Nat) : Int))).drew := (HO.out.setCell (p := ⟨bm, n, none⟩) (.inr (.inr (.inr (.inr (.inl rfl))))) _).drew
        have HB3 := Lib.hid hB3
        have HO3 := Lib.hid hO3
        have j0 : (w2.setCell ⟨bm, n, none⟩ (.int .i64 ((T : Nat) : Int))).drew.cell? ⟨m, 0, none⟩ = some (.slice (some ⟨bn, 0, none⟩) N N) := cell_of hB3.obj 0
        have j3 : (w2.setCell ⟨bm, n, none⟩ (.int .i64 ((T : Nat) : Int))).drew.cell? ⟨m, 3, none⟩ = some (.slice (some ⟨bi, 0, none⟩) N N) := cell_of hB3.obj 3
        have j5 : (w2.setCell ⟨bm, n, none⟩ (.int .i64 ((T : Nat) : Int))).drew.cell? ⟨m, 5, none⟩ = some (.int .i64 s.high) := cell_of hB3.obj 5
        have ji : (w2.setCell ⟨bm, n, none⟩ (.int .i64 ((T : Nat) : Int))).drew.cell? ⟨bi, n, none⟩ = some (.bool (s.ins n)) := hB3.ins.cell _ hn
        have jif : (w2.setCell ⟨bm, n, none⟩ (.int .i64 ((T : Nat) : Int))).drew.frozen? ⟨bi, n, none⟩ = false := hB3.ins.free _
        have jl : (w2.setCell ⟨bm, n, none⟩ (.int .i64 ((T : Nat) : Int))).drew.cell? ⟨bn, n * 2, none⟩ = some (.slice a2 T c2) := by
          rw [hB3.log hn]; exact congrArg some hv2.out
        clear hB3 hO3 k0 k3 k4 km kf HR HX HO kl
        generalize (w2.setCell ⟨bm, n, none⟩ (.int .i64 ((T : Nat) : Int))).drew = w3 at HB3 HO3 j0 j3 j5 ji jif jl ⊢
        by_cases d1 : s.high ≤ T
        · by_cases d2 : T = hll
          · have c3 : decide (s.high ≤ T) = true := by simp <;> omega
            have c4 : (((T : Nat) : Int) == ((hll : Nat) : Int)) = true := by simp <;> omega
            have c4' : (T == hll) = true := by simp <;> omega
            have HT1 : Hid (tookPre s n L2 = { s with logs := upd s.logs n L2, mat := upd s.mat n T, ins := upd s.ins n true }) := Lib.hid (by
              unfold tookPre
              rw [hL2, if_pos ⟨d1, by rw [hhl]; exact d2⟩])
            have HB4 := Lib.hid (HB3.out.setIn n true)
            have HO4 : Hid (∀ nq, Only (Ft m bn bi bm N vs) w ((w3.drewN nq).setCell ⟨bi, n, none⟩ (.bool true))) := Lib.hid fun nq => (HO3.out.drewN nq).setCell (p := ⟨bi, n, none⟩) (.inr (.inr (.inr (.inl rfl)))) _
            have HC1 := Lib.hid d1
            clear d1
            have HC2 := Lib.hid d2
            clear d2
            go_wp2
            go_quiet (fail)
            go_wp2_with fail
            go_at_call 30
            refine (rise_any (m := m) (bn := bn) (bi := bi) (bm := bm) (N := N) (vs := vs2) (s := tookPre s n L2) (by rw [HT1.out]; exact (HB3.out.drewN _).setIn n true) HF3.out h0).mono ?_
            rintro e w' ⟨rfl, hb, ho⟩
            have H5 := Lib.hid hb
            have H6 := Lib.hid ho
            clear hb ho
            go_wp2_with fail
            go_ret
            rw [HP.out]
            exact ⟨rfl, vs2, H5.out, (HO4.out _).trans H6.out (fun b _ hb => .inl hb), HNV.out⟩
          · have c3 : decide (s.high ≤ T) = true := by simp <;> omega
            have c4 : (((T : Nat) : Int) == ((hll : Nat) : Int)) = false := by simp <;> omega
            have c4' : (T == hll) = false := by simp <;> omega
            have HT1 : Hid (tookPre s n L2 = { s with logs := upd s.logs n L2, mat := upd s.mat n T }) := Lib.hid (by
              unfold tookPre
              rw [hL2, if_neg (by rw [hhl]; exact fun q => d2 q.2)])
            have HC1 := Lib.hid d1
            clear d1
            have HC2 := Lib.hid d2
            clear d2
            go_wp2
            go_quiet (fail)
            go_wp2_with fail
            go_at_call 30
            refine (rise_any (m := m) (bn := bn) (bi := bi) (bm := bm) (N := N) (vs := vs2) (s := tookPre s n L2) (by rw [HT1.out]; exact HB3.out.drewN _) HF3.out h0).mono ?_
            rintro e w' ⟨rfl, hb, ho⟩
            have H5 := Lib.hid hb
            have H6 := Lib.hid ho
            clear hb ho
            go_wp2_with fail
            go_ret
            rw [HP.out]
            exact ⟨rfl, vs2, H5.out, (HO3.out.drewN _).trans H6.out (fun b _ hb => .inl hb), HNV.out⟩
        · have c3 : decide (s.high ≤ T) = false := by simp <;> omega
          have HT1 : Hid (tookPre s n L2 = { s with logs := upd s.logs n L2, mat := upd s.mat n T }) := Lib.hid (by
            unfold tookPre
            rw [hL2, if_neg (by exact fun q => d1 q.1)])
          have HC1 := Lib.hid d1
          clear d1
          go_wp2
          go_quiet (fail)
          go_wp2_with fail
          go_at_call 30
          refine (rise_any (m := m) (bn := bn) (bi := bi) (bm := bm) (N := N) (vs := vs2) (s := tookPre s n L2) (by rw [HT1.out]; exact HB3.out.drewN _) HF3.out h0).mono ?_
          rintro e w' ⟨rfl, hb, ho⟩
          have H5 := Lib.hid hb
          have H6 := Lib.hid ho
          clear hb ho
          go_wp2_with fail
          go_ret
          rw [HP.out]
          exact ⟨rfl, vs2, H5.out, (HO3.out.drewN _).trans H6.out (fun b _ hb => .inl hb), HNV.out⟩

  · have hkd : decide (0 < k) = true := by simp; omega
    have hrow := HH.out.rows n hn
    rw [HMV.out] at hrow
    obtain ⟨g, rfl⟩ : ∃ g, ma = some ⟨g, 0, none⟩ := by
      rcases hrow with ⟨q, q'⟩ | ⟨g, cap, cur, q, _⟩
      · cases q; omega
      · cases q; exact ⟨g, rfl⟩
    have hlk : (s.logs n).length = k := HK.out.symm
    have ck : w.cell? ⟨g, (k - 1) * 2, none⟩ = some (.int .i64 (lastE (s.logs n))) := by
      have := (hrow.at (k - 1) (by omega)).1
      rw [this]; unfold lastE; rw [hlk]
    have hwk : IntKind.i64.wrap ((k : Int) - 1) = (k : Int) - 1 := by rw [IntKind.wrap_i64]; omega
    have hk1 : (0 : Int) ≤ (k : Int) - 1 := by omega
    have hk2 : (k : Int) - 1 < (k : Int) := by omega
    have hk3 : ((k : Int) - 1).toNat = k - 1 := by omega
    have hrh := HH.out.rows (s.lead - 1) hlg
    rw [HV.out] at hrh
    have HRM := Lib.hid hrow
    have HRH := Lib.hid hrh
    obtain ⟨le, hle'⟩ : ∃ le, le = lastE (s.logs n) := ⟨_, rfl⟩
    rw [← hle'] at ck
    have HLE := Lib.hid hle'
    obtain ⟨his, hhis⟩ : ∃ his, his = s.logs (s.lead - 1) := ⟨_, rfl⟩
    obtain ⟨mine, hmine⟩ : ∃ mine, mine = s.logs n := ⟨_, rfl⟩
    have eh : his.length = hll := by rw [hhis, HHL.out]
    have em : mine.length = k := by rw [hmine, HK.out]
    obtain ⟨A, hA⟩ : ∃ A, A = endN his le := ⟨_, rfl⟩
    obtain ⟨B, hB⟩ : ∃ B, B = endE his le := ⟨_, rfl⟩
    obtain ⟨C, hC⟩ : ∃ C, C = endN mine B := ⟨_, rfl⟩
    have hAl : A ≤ hll := by rw [hA, ← eh]; exact endN_le _ _
    have hCl : C ≤ k := by rw [hC, ← em]; exact endN_le _ _
    have hkm : k ≤ mc := by
      rcases hrow with ⟨q, q'⟩ | ⟨g', cap, cur, q, _, q2, _⟩
      · cases q
      · cases q; omega
    have HCUT : Hid (cuts (s.logs n) (s.logs (s.lead - 1)) = (!(B == le) || decide (min A C < k))) := Lib.hid (by
      unfold cuts cutTo
      rw [hlk, ← hle', ← hhis, ← hmine, ← hA, ← hB, ← hC, show decide (0 < k) = true from hkd, Bool.true_and])
    have HTO : Hid (cutTo (s.logs n) (s.logs (s.lead - 1)) = min A C) := Lib.hid (by
      unfold cutTo
      rw [← hle', ← hhis, ← hmine, ← hA, ← hB, ← hC])
    have HE1 : Hid (∀ n1, Calls Try.prog 38 #[.slice ha hll hc, .int .i64 le] (w.drewN n1) fun e w' => e = .returned (.tuple #[.int .i64 A, .int .i64 B]) ∧ ∃ n2, w' = w.drewN n2) :=
      Lib.hid (by
        intro n1
        have := end_any (w := w.drewN n1) (.slice ha hll hc) his le (by omega) (by rw [hhis]; exact HRH.out.move fun _ _ => rfl)
        refine this.mono ?_
        rintro e w' ⟨rfl, n2, rfl⟩
        exact ⟨by rw [← hA, ← hB], n1 + n2, by rw [World.drewN_drewN]⟩)
    have HE2 : Hid (∀ n1, Calls Try.prog 38 #[.slice (some ⟨g, 0, none⟩) k mc, .int .i64 B] (w.drewN n1) fun e w' => e = .returned (.tuple #[.int .i64 C, .int .i64 (endE mine B)]) ∧ ∃ n2, w' = w.drewN n2) :=
      Lib.hid (by
        intro n1
        have := end_any (w := w.drewN n1) (.slice (some ⟨g, 0, none⟩) k mc) mine B (by omega) (by rw [hmine]; exact HRM.out.move fun _ _ => rfl)
        refine this.mono ?_
        rintro e w' ⟨rfl, n2, rfl⟩
        exact ⟨by rw [← hC], n1 + n2, by rw [World.drewN_drewN]⟩)
    have HA := Lib.hid hA
    have HMINE := Lib.hid hmine
    have HHIS := Lib.hid hhis
    obtain ⟨D, hD⟩ : ∃ D, D = endE mine B := ⟨_, rfl⟩
    rw [← hD] at HE2
    clear hle' hrow hrh hA hB hC hD hmine hhis hlk em eh
    have pb : w.frozen? ⟨bn, n * 2, none⟩ = false := HH.out.nodes.free _
    obtain ⟨X, hX⟩ : ∃ X, X = min A C := ⟨_, rfl⟩
    have hminc : (if C < A then (C : Int) else (A : Int)) = (X : Int) := by split <;> omega
    rw [← hX] at HCUT HTO
    by_cases hcut : cuts (s.logs n) (s.logs (s.lead - 1)) = true
    · have hXk : X ≤ k := by omega
      have HP : Hid (fetch N s n = (0, { s with logs := upd s.logs n ((s.logs n).take X) })) := Lib.hid (by
        unfold fetch
        rw [if_neg (by simp [h0, HU.out]), if_neg H1.out, if_pos (by exact hcut)]
        rw [show s.his = s.logs (s.lead - 1) from rfl, HTO.out])
      have HD : Hid (∀ n3, Did m bn bi bm N vs (0, { s with logs := upd s.logs n ((s.logs n).take X) }) w (.returned (.int .i64 0)) ((w.drewN n3).setCell ⟨bn, n * 2, none⟩ (.slice (some ⟨g, 0, none⟩) X X))) := Lib.hid (by
        intro n3
        refine ⟨rfl, upd vs n (.slice (some ⟨g, 0, none⟩) X X), (HH.out.drewN n3).setLog hn _ _ ((HRM.out.move fun _ _ => rfl).cut X X (by rw [← HK.out]; exact hXk) (Nat.le_refl _) (by omega)) ?_, ((Only.refl _ w).drewN n3).setCell (p := ⟨bn, n * 2, none⟩) (.inr (.inr (.inl rfl))) _, ?_⟩
        · intro j b hj hji hb hb'
          cases hb
          exact hji (HH.out.apart j n g hj hn hb' (by rw [HMV.out]; rfl))
        · intro i b hi hb
          left
          by_cases e : i = n
          · subst e
            rw [upd_same] at hb
            cases hb
            rw [HMV.out]; rfl
          · rwa [upd_other _ _ _ e] at hb)
      by_cases hBle : B = le
      · have hXlt : X < k := by
          have := HCUT.out
          rw [hcut, hBle] at this
          simpa using this.symm
        have hx3 : decide (X < k) = true := by simp; omega
        have HCC := Lib.hid hcut
        have HX := Lib.hid hX
        have hb : (B == le) = true := by simp [hBle]
        have HBL := Lib.hid hBle
        clear hcut hX hAl hCl hBle hXlt
        go_enter Try.func28, Try.ntmps28
        go_wp2_with fail
        go_quiet (exact Calls.quiet_of (lead_any (HH.out.drewN _) hl h0 hN))
        go_wp2_with fail
        go_at_call 38
        refine (HE1.out _).mono ?_
        rintro e w' ⟨rfl, n2, rfl⟩
        clear HE1
        go_wp2_with fail
        go_at_call 38
        refine (HE2.out _).mono ?_
        rintro e w' ⟨rfl, n3, rfl⟩
        clear HE2
        go_wp2
        go_ret
        rw [HP.out]
        exact HD.out n3
      · have hb : (B == le) = false := by simp [hBle]
        have HCC := Lib.hid hcut
        have HX := Lib.hid hX
        have HBL := Lib.hid hBle
        clear hcut hX hAl hCl hBle
        go_enter Try.func28, Try.ntmps28
        go_wp2_with fail
        go_quiet (exact Calls.quiet_of (lead_any (HH.out.drewN _) hl h0 hN))
        go_wp2_with fail
        go_at_call 38
        refine (HE1.out _).mono ?_
        rintro e w' ⟨rfl, n2, rfl⟩
        clear HE1
        go_wp2_with fail
        go_at_call 38
        refine (HE2.out _).mono ?_
        rintro e w' ⟨rfl, n3, rfl⟩
        clear HE2
        go_wp2
        go_ret
        rw [HP.out]
        exact HD.out n3
    · have HCC := Lib.hid hcut
      have hBX : B = le ∧ ¬ X < k := by
        have := HCUT.out
        rw [Bool.not_eq_true] at hcut
        rw [hcut] at this
        simpa using this.symm
      obtain ⟨hBle, hXk⟩ := hBX
      have hb : (B == le) = true := by simp [hBle]
      have hx3 : decide (X < k) = false := by simp; omega
      have hkT : k ≤ T := hT2 (by omega)
      have hcut : Hid (cuts (s.logs n) (s.logs (s.lead - 1)) = false) := Lib.hid (by rw [← Bool.not_eq_true]; exact HCC.out)
      have HBL := Lib.hid hBle
      have HX := Lib.hid hX
      clear HCC hX hAl hCl hBle hXk
      go_enter Try.func28, Try.ntmps28
      go_wp2_with fail
      go_quiet (exact Calls.quiet_of (lead_any (HH.out.drewN _) hl h0 hN))
      go_wp2_with fail
      go_at_call 38
      refine (HE1.out _).mono ?_
      rintro e w' ⟨rfl, n2, rfl⟩
      clear HE1
      go_wp2_with fail
      go_at_call 38
      refine (HE2.out _).mono ?_
      rintro e w' ⟨rfl, n3, rfl⟩
      clear HE2
      go_wp2
      -- TAIL2
      have HH9 := Lib.hid (HH.out.drewN n3)
      have HO9 : Hid (Only (Ft m bn bi bm N vs) w (w.drewN n3)) := Lib.hid ((Only.refl _ w).drewN n3)
      have bl : (w.drewN n3).cell? ⟨bn, n * 2, none⟩ = some (.slice (some ⟨g, 0, none⟩) k mc) := cm
      have hmw : m < (w.drewN n3).heap.size := lt_of_block HH9.out.obj
      have hbw : bn < (w.drewN n3).heap.size := HH9.out.nodes.lt
      have hform : (ha = none ∧ hll = 0 ∧ hc = 0) ∨ ∃ hg, ha = some ⟨hg, 0, none⟩ ∧ hll ≤ hc := by
        have hr := HH.out.rows (s.lead - 1) hlg
        rw [HV.out] at hr
        rcases hr with ⟨q, q'⟩ | ⟨hg, cap, cur, q, _, q2, _⟩
        · cases q; exact .inl ⟨rfl, rfl, rfl⟩
        · cases q; exact .inr ⟨hg, rfl, q2⟩
      clear o0 o2 ch cm cu hkd
      generalize w.drewN n3 = w9 at HH9 HO9 bl hmw hbw ⊢
      have bf : w9.frozen? ⟨bn, n * 2, none⟩ = false := HH9.out.nodes.free _
      have HROW : Hid (Row w9 (.slice (some ⟨g, 0, none⟩) k mc) (s.logs n)) := Lib.hid (by have := HH9.out.rows n hn; rwa [HMV.out] at this)
      have hlk : (s.logs n).length = k := HK.out.symm
      obtain ⟨i0, hi0, hz0, hz1, hz2⟩ := info_parts info45
      rcases hform with ⟨rfl, rfl, rfl⟩ | ⟨hg, rfl, hhc⟩
      · exfalso; omega
      · by_cases hTk : k = T
        · subst hTk
          have hk9 : (0 : Int) ≤ (k : Int) := by omega
          have hk8 : (k : Int) ≤ (hc : Int) := by omega
          obtain ⟨ao, hao⟩ : ∃ ao, (if hc = k then some (⟨hg, 0, none⟩ : Addr) else some ⟨hg, k * 2, none⟩) = ao := ⟨_, rfl⟩
          go_region_law (refine step_append_nothing rfl (.tmp 118) (.tmp 122) 33 rfl i0 Try.underlying33 hi0 (.slice (some ⟨g, 0, none⟩) k mc) (s.logs n) (by rfl) HROW.out ao (hc - k) (by rfl) ?_)
          clear hao
          have HX0 := Lib.hid (HH9.out.setLog hn (.slice (some ⟨g, 0, none⟩) k mc) (s.logs n) HROW.out (by intro j b hj hji hb hb'; exact hji (HH9.out.apart j n b hj hn hb' (by rw [HMV.out]; exact hb))))
          obtain ⟨L2, hLL⟩ : ∃ L2, L2 = s.logs n := ⟨_, rfl⟩
          obtain ⟨vs2, hvv⟩ : ∃ vs2, vs2 = upd vs n (.slice (some ⟨g, 0, none⟩) k mc) := ⟨_, rfl⟩
          have HX : Hid (Box (w9.setCell ⟨bn, n * 2, none⟩ (.slice (some ⟨g, 0, none⟩) k mc)).drew m bn bi bm N vs2 { s with logs := upd s.logs n L2 }) := Lib.hid (by rw [hLL, hvv]; exact HX0.out.drew)
          have HO : Hid (Only (Ft m bn bi bm N vs) w (w9.setCell ⟨bn, n * 2, none⟩ (.slice (some ⟨g, 0, none⟩) k mc)).drew) := Lib.hid (HO9.out.setCell (p := ⟨bn, n * 2, none⟩) (.inr (.inr (.inl rfl))) _).drew
          have HNV : Hid (Nextv N vs vs2 w) := Lib.hid (by
            rw [hvv]
            intro i b hi hb
            left
            by_cases e : i = n
            · subst e; rw [upd_same] at hb; rw [HMV.out]; exact hb
            · rwa [upd_other _ _ _ e] at hb)
          have hL2 : L2.length = k := by rw [hLL]; exact hlk
          have HL2 : Hid (L2 = s.logs n ++ more (s.logs n) s.his) := Lib.hid (by
            rw [hLL, more, hlk, List.drop_of_length_le (by rw [show s.his = s.logs (s.lead - 1) from rfl, ← HHL.out]; omega)]; simp)
          obtain ⟨a2, c2, hv2'⟩ : ∃ a2 c2, ((.slice (some ⟨g, 0, none⟩) k mc) : Value) = .slice a2 k c2 := ⟨_, _, rfl⟩
          have hv2 : Hid (vs2 n = .slice a2 k c2) := Lib.hid (by rw [hvv, upd_same]; exact hv2')
          have kl : (w9.setCell ⟨bn, n * 2, none⟩ (.slice (some ⟨g, 0, none⟩) k mc)).drew.cell? ⟨bn, n * 2, none⟩ = some (.slice a2 k c2) := by rw [HX.out.log hn]; exact congrArg some hv2.out
          clear HX0 hLL hvv hv2' bl bf hmw hbw HROW
          generalize (w9.setCell ⟨bn, n * 2, none⟩ (.slice (some ⟨g, 0, none⟩) k mc)).drew = w2 at HX HO kl ⊢
          have HP : Hid (fetch N s n = (0, rise N (tookPre s n L2))) := Lib.hid (by
            unfold fetch
            rw [if_neg (by simp [h0, HU.out]), if_neg H1.out, if_neg (by rw [show s.his = s.logs (s.lead - 1) from rfl, hcut.out]; decide)]
            unfold took
            rw [show s.logs n ++ more (s.logs n) s.his = L2 from HL2.out.symm]
            rfl)
          have hhl : s.his.length = hll := HHL.out.symm
          have k0 : w2.cell? ⟨m, 0, none⟩ = some (.slice (some ⟨bn, 0, none⟩) N N) := cell_of HX.out.obj 0
          have k3 : w2.cell? ⟨m, 3, none⟩ = some (.slice (some ⟨bi, 0, none⟩) N N) := cell_of HX.out.obj 3
          have k4 : w2.cell? ⟨m, 4, none⟩ = some (.slice (some ⟨bm, 0, none⟩) N N) := cell_of HX.out.obj 4
          have km : w2.cell? ⟨bm, n, none⟩ = _ := HX.out.mat.cell _ hn
          have kf : w2.frozen? ⟨bm, n, none⟩ = false := HX.out.mat.free _
          have HR := Lib.hid (HX.out.setMat n k)
          have HF3 : Hid (Fit N (tookPre s n L2)) := Lib.hid (HF.out.tookPre n L2 (by omega))
          go_wp2
          go_region
          have hB3 := HR.out.drew
          have hO3 : Only (Ft m bn bi bm N vs) w (w2.setCell ⟨bm, n, none⟩ (.int .i64 ((k : Nat) : Int))).drew := (HO.out.setCell (p := ⟨bm, n, none⟩) (.inr (.inr (.inr (.inr (.inl rfl))))) _).drew
          have HB3 := Lib.hid hB3
          have HO3 := Lib.hid hO3
          have j0 : (w2.setCell ⟨bm, n, none⟩ (.int .i64 ((k : Nat) : Int))).drew.cell? ⟨m, 0, none⟩ = some (.slice (some ⟨bn, 0, none⟩) N N) := cell_of hB3.obj 0
          have j3 : (w2.setCell ⟨bm, n, none⟩ (.int .i64 ((k : Nat) : Int))).drew.cell? ⟨m, 3, none⟩ = some (.slice (some ⟨bi, 0, none⟩) N N) := cell_of hB3.obj 3
          have j5 : (w2.setCell ⟨bm, n, none⟩ (.int .i64 ((k : Nat) : Int))).drew.cell? ⟨m, 5, none⟩ = some (.int .i64 s.high) := cell_of hB3.obj 5
          have ji : (w2.setCell ⟨bm, n, none⟩ (.int .i64 ((k : Nat) : Int))).drew.cell? ⟨bi, n, none⟩ = some (.bool (s.ins n)) := hB3.ins.cell _ hn
          have jif : (w2.setCell ⟨bm, n, none⟩ (.int .i64 ((k : Nat) : Int))).drew.frozen? ⟨bi, n, none⟩ = false := hB3.ins.free _
          have jl : (w2.setCell ⟨bm, n, none⟩ (.int .i64 ((k : Nat) : Int))).drew.cell? ⟨bn, n * 2, none⟩ = some (.slice a2 k c2) := by
            rw [hB3.log hn]; exact congrArg some hv2.out
          clear hB3 hO3 k0 k3 k4 km kf HR HX HO kl
          generalize (w2.setCell ⟨bm, n, none⟩ (.int .i64 ((k : Nat) : Int))).drew = w3 at HB3 HO3 j0 j3 j5 ji jif jl ⊢
          by_cases d1 : s.high ≤ k
          · by_cases d2 : k = hll
            · have c3 : decide (s.high ≤ k) = true := by simp <;> omega
              have c4 : (((k : Nat) : Int) == ((hll : Nat) : Int)) = true := by simp <;> omega
              have c4' : (k == hll) = true := by simp <;> omega
              have HT1 : Hid (tookPre s n L2 = { s with logs := upd s.logs n L2, mat := upd s.mat n k, ins := upd s.ins n true }) := Lib.hid (by
                unfold tookPre
                rw [hL2, if_pos ⟨d1, by rw [hhl]; exact d2⟩])
              have HB4 := Lib.hid (HB3.out.setIn n true)
              have HO4 : Hid (∀ nq, Only (Ft m bn bi bm N vs) w ((w3.drewN nq).setCell ⟨bi, n, none⟩ (.bool true))) := Lib.hid fun nq => (HO3.out.drewN nq).setCell (p := ⟨bi, n, none⟩) (.inr (.inr (.inr (.inl rfl)))) _
              have HC1 := Lib.hid d1
              clear d1
              have HC2 := Lib.hid d2
              clear d2
              go_wp2
              go_quiet (fail)
              go_wp2_with fail
              go_at_call 30
              refine (rise_any (m := m) (bn := bn) (bi := bi) (bm := bm) (N := N) (vs := vs2) (s := tookPre s n L2) (by rw [HT1.out]; exact (HB3.out.drewN _).setIn n true) HF3.out h0).mono ?_
              rintro e w' ⟨rfl, hb, ho⟩
              have H5 := Lib.hid hb
              have H6 := Lib.hid ho
              clear hb ho
              go_wp2_with fail
              go_ret
              rw [HP.out]
              exact ⟨rfl, vs2, H5.out, (HO4.out _).trans H6.out (fun b _ hb => .inl hb), HNV.out⟩
            · have c3 : decide (s.high ≤ k) = true := by simp <;> omega
              have c4 : (((k : Nat) : Int) == ((hll : Nat) : Int)) = false := by simp <;> omega
              have c4' : (k == hll) = false := by simp <;> omega
              have HT1 : Hid (tookPre s n L2 = { s with logs := upd s.logs n L2, mat := upd s.mat n k }) := Lib.hid (by
                unfold tookPre
                rw [hL2, if_neg (by rw [hhl]; exact fun q => d2 q.2)])
              have HC1 := Lib.hid d1
              clear d1
              have HC2 := Lib.hid d2
              clear d2
              go_wp2
              go_quiet (fail)
              go_wp2_with fail
              go_at_call 30
              refine (rise_any (m := m) (bn := bn) (bi := bi) (bm := bm) (N := N) (vs := vs2) (s := tookPre s n L2) (by rw [HT1.out]; exact HB3.out.drewN _) HF3.out h0).mono ?_
              rintro e w' ⟨rfl, hb, ho⟩
              have H5 := Lib.hid hb
              have H6 := Lib.hid ho
              clear hb ho
              go_wp2_with fail
              go_ret
              rw [HP.out]
              exact ⟨rfl, vs2, H5.out, (HO3.out.drewN _).trans H6.out (fun b _ hb => .inl hb), HNV.out⟩
          · have c3 : decide (s.high ≤ k) = false := by simp <;> omega
            have HT1 : Hid (tookPre s n L2 = { s with logs := upd s.logs n L2, mat := upd s.mat n k }) := Lib.hid (by
              unfold tookPre
              rw [hL2, if_neg (by exact fun q => d1 q.1)])
            have HC1 := Lib.hid d1
            clear d1
            go_wp2
            go_quiet (fail)
            go_wp2_with fail
            go_at_call 30
            refine (rise_any (m := m) (bn := bn) (bi := bi) (bm := bm) (N := N) (vs := vs2) (s := tookPre s n L2) (by rw [HT1.out]; exact HB3.out.drewN _) HF3.out h0).mono ?_
            rintro e w' ⟨rfl, hb, ho⟩
            have H5 := Lib.hid hb
            have H6 := Lib.hid ho
            clear hb ho
            go_wp2_with fail
            go_ret
            rw [HP.out]
            exact ⟨rfl, vs2, H5.out, (HO3.out.drewN _).trans H6.out (fun b _ hb => .inl hb), HNV.out⟩
        · have hck : ¬ hc = k := by omega
          have hHR : Hid (Row w9 (.slice (some ⟨hg, 0, none⟩) hll hc) (s.logs (s.lead - 1))) := Lib.hid (by have := HH9.out.rows (s.lead - 1) hlg; rwa [HV.out] at this)
          have hkT' : k < T := by omega
          have hml : ((s.logs (s.lead - 1)).drop k |>.take (T - k)).length = T - k := by rw [List.length_take, List.length_drop, ← HHL.out]; omega
          have hnews : ∀ j u, (ccs ((s.logs (s.lead - 1)).drop k |>.take (T - k)))[j]? = some u → w9.cell? ((⟨hg, k * 2, none⟩ : Addr).add j) = some u := by
            intro j u hu
            rw [Addr.add_lit]
            refine hHR.out.cells (k * 2 + j) u ?_
            rw [ccs_take _ _ (by rw [List.length_drop, ← HHL.out]; omega), ccs_drop _ _ (by rw [← HHL.out]; omega)] at hu
            have hj : j < (T - k) * 2 := by
              have := (List.getElem?_eq_some_iff.1 hu).1
              rw [List.length_take] at this
              omega
            rw [List.getElem?_take_of_lt hj, List.getElem?_drop] at hu
            exact hu
          have hk9 : (0 : Int) ≤ (k : Int) := by omega
          have hk8 : (k : Int) ≤ (T : Int) := by omega
          have hk7 : (T : Int) ≤ (hc : Int) := by omega
          have hTc : ((T : Int) - (k : Int)).toNat = T - k := by omega
          have hnw : ∀ k', Only (fun _ => False) w9 (w9.drewN k') := fun k' => (Only.refl _ w9).drewN k'
          go_region_law (refine step_append_row rfl (.tmp 118) (.tmp 122) 33 rfl i0 _ Try.underlying33 hi0 hz0 hz1 hz2 rfl (.slice (some ⟨g, 0, none⟩) k mc) (s.logs n) _ (by rfl) (HROW.out.move fun _ _ => rfl) ⟨hg, k * 2, none⟩ (T - k) (hc - k) (by rfl) hml (by omega) hnews (by omega) ?_; intro g2 cap2 w1 happ; have hbeh := Box.behind HH9.out hn (Only.refl (fun _ => False) w9).drew (fun _ _ q => q) (by rw [HMV.out]; exact happ); have hb1 := hbeh.1; have hb2 := hbeh.2; rw [HMV.out] at hb1)
          obtain ⟨L2, hLL⟩ : ∃ L2, L2 = s.logs n ++ (((s.logs (s.lead - 1)).drop k).take (T - k)) := ⟨_, rfl⟩
          obtain ⟨vs2, hvv⟩ : ∃ vs2, vs2 = upd vs n (.slice (some ⟨g2, 0, none⟩) T cap2) := ⟨_, rfl⟩
          have hkTT : k + (T - k) = T := by omega
          have hx := HH9.out.appended hn (Only.refl (fun _ => False) w9).drew (fun _ _ q => q) (by rw [HMV.out]; exact happ)
          rw [hml, hlk, hkTT, ← hLL, ← hvv] at hx
          have hO : Only (Ft m bn bi bm N vs) w9 w1 := by
            refine ((Only.refl _ w9).drew).grown happ.2.1 (fun k' hk' => .inr (.inr (.inr (.inr (.inr ⟨n, hn, by rw [HMV.out]; exact hk'⟩)))))
          have HX : Hid (Box (w1.setCell ⟨bn, n * 2, none⟩ (.slice (some ⟨g2, 0, none⟩) T cap2)) m bn bi bm N vs2 { s with logs := upd s.logs n L2 }) := Lib.hid hx
          have HO : Hid (Only (Ft m bn bi bm N vs) w (w1.setCell ⟨bn, n * 2, none⟩ (.slice (some ⟨g2, 0, none⟩) T cap2))) := Lib.hid ((HO9.out.trans hO (fun _ _ q => q)).setCell (p := ⟨bn, n * 2, none⟩) (.inr (.inr (.inl rfl))) _)
          have HNV : Hid (Nextv N vs vs2 w) := Lib.hid (by
            rw [hvv]
            intro i b hi hb
            by_cases e : i = n
            · subst e
              rw [upd_same] at hb
              cases hb
              rcases happ.2.2.1 with q | q
              · left; rw [HMV.out]; exact q
              · right
                have := HO9.out.size
                have q' : w9.heap.size ≤ g2 := q
                show w.heap.size ≤ g2
                omega
            · rw [upd_other _ _ _ e] at hb; exact .inl hb)
          have hL2 : L2.length = T := by rw [hLL, List.length_append, hlk, hml]; exact hkTT
          have HL2 : Hid (L2 = s.logs n ++ more (s.logs n) s.his) := Lib.hid (by
            rw [hLL, more, hlk, show s.his = s.logs (s.lead - 1) from rfl]
            congr 1
            rw [HT.out]
            have hdl : ((s.logs (s.lead - 1)).drop k).length = hll - k := by rw [List.length_drop, ← HHL.out]
            by_cases h3 : hll ≤ k + 3
            · rw [List.take_of_length_le (by omega), List.take_of_length_le (by omega)]
            · rw [show min hll (k + 3) - k = 3 by omega])
          obtain ⟨a2, c2, hv2'⟩ : ∃ (a2 : Option Addr) (c2 : Nat), a2 = some ⟨g2, 0, none⟩ ∧ c2 = cap2 := ⟨_, _, rfl, rfl⟩
          have hv2 : Hid (vs2 n = .slice a2 T c2) := Lib.hid (by rw [hvv, upd_same, hv2'.1, hv2'.2])
          have kl : (w1.setCell ⟨bn, n * 2, none⟩ (.slice (some ⟨g2, 0, none⟩) T cap2)).cell? ⟨bn, n * 2, none⟩ = some (.slice a2 T c2) := by rw [HX.out.log hn]; exact congrArg some hv2.out
          clear hx hO hLL hvv hv2' bl bf hmw hbw HROW happ hbeh hb1 hb2
          generalize (w1.setCell ⟨bn, n * 2, none⟩ (.slice (some ⟨g2, 0, none⟩) T cap2)) = w2 at HX HO kl ⊢
          have HP : Hid (fetch N s n = (0, rise N (tookPre s n L2))) := Lib.hid (by
            unfold fetch
            rw [if_neg (by simp [h0, HU.out]), if_neg H1.out, if_neg (by rw [show s.his = s.logs (s.lead - 1) from rfl, hcut.out]; decide)]
            unfold took
            rw [show s.logs n ++ more (s.logs n) s.his = L2 from HL2.out.symm]
            rfl)
          have hhl : s.his.length = hll := HHL.out.symm
          have k0 : w2.cell? ⟨m, 0, none⟩ = some (.slice (some ⟨bn, 0, none⟩) N N) := cell_of HX.out.obj 0
          have k3 : w2.cell? ⟨m, 3, none⟩ = some (.slice (some ⟨bi, 0, none⟩) N N) := cell_of HX.out.obj 3
          have k4 : w2.cell? ⟨m, 4, none⟩ = some (.slice (some ⟨bm, 0, none⟩) N N) := cell_of HX.out.obj 4
          have km : w2.cell? ⟨bm, n, none⟩ = _ := HX.out.mat.cell _ hn
          have kf : w2.frozen? ⟨bm, n, none⟩ = false := HX.out.mat.free _
          have HR := Lib.hid (HX.out.setMat n T)
          have HF3 : Hid (Fit N (tookPre s n L2)) := Lib.hid (HF.out.tookPre n L2 (by omega))
          go_wp2
          go_region
          have hB3 := HR.out.drew
          have hO3 : Only (Ft m bn bi bm N vs) w (w2.setCell ⟨bm, n, none⟩ (.int .i64 ((T : Nat) : Int))).drew := (HO.out.setCell (p := ⟨bm, n, none⟩) (.inr (.inr (.inr (.inr (.inl rfl))))) _).drew
          have HB3 := Lib.hid hB3
          have HO3 := Lib.hid hO3
          have j0 : (w2.setCell ⟨bm, n, none⟩ (.int .i64 ((T : Nat) : Int))).drew.cell? ⟨m, 0, none⟩ = some (.slice (some ⟨bn, 0, none⟩) N N) := cell_of hB3.obj 0
          have j3 : (w2.setCell ⟨bm, n, none⟩ (.int .i64 ((T : Nat) : Int))).drew.cell? ⟨m, 3, none⟩ = some (.slice (some ⟨bi, 0, none⟩) N N) := cell_of hB3.obj 3
          have j5 : (w2.setCell ⟨bm, n, none⟩ (.int .i64 ((T : Nat) : Int))).drew.cell? ⟨m, 5, none⟩ = some (.int .i64 s.high) := cell_of hB3.obj 5
          have ji : (w2.setCell ⟨bm, n, none⟩ (.int .i64 ((T : Nat) : Int))).drew.cell? ⟨bi, n, none⟩ = some (.bool (s.ins n)) := hB3.ins.cell _ hn
          have jif : (w2.setCell ⟨bm, n, none⟩ (.int .i64 ((T : Nat) : Int))).drew.frozen? ⟨bi, n, none⟩ = false := hB3.ins.free _
          have jl : (w2.setCell ⟨bm, n, none⟩ (.int .i64 ((T : Nat) : Int))).drew.cell? ⟨bn, n * 2, none⟩ = some (.slice a2 T c2) := by
            rw [hB3.log hn]; exact congrArg some hv2.out
          clear hB3 hO3 k0 k3 k4 km kf HR HX HO kl
          generalize (w2.setCell ⟨bm, n, none⟩ (.int .i64 ((T : Nat) : Int))).drew = w3 at HB3 HO3 j0 j3 j5 ji jif jl ⊢
          by_cases d1 : s.high ≤ T
          · by_cases d2 : T = hll
            · have c3 : decide (s.high ≤ T) = true := by simp <;> omega
              have c4 : (((T : Nat) : Int) == ((hll : Nat) : Int)) = true := by simp <;> omega
              have c4' : (T == hll) = true := by simp <;> omega
              have HT1 : Hid (tookPre s n L2 = { s with logs := upd s.logs n L2, mat := upd s.mat n T, ins := upd s.ins n true }) := Lib.hid (by
                unfold tookPre
                rw [hL2, if_pos ⟨d1, by rw [hhl]; exact d2⟩])
              have HB4 := Lib.hid (HB3.out.setIn n true)
              have HO4 : Hid (∀ nq, Only (Ft m bn bi bm N vs) w ((w3.drewN nq).setCell ⟨bi, n, none⟩ (.bool true))) := Lib.hid fun nq => (HO3.out.drewN nq).setCell (p := ⟨bi, n, none⟩) (.inr (.inr (.inr (.inl rfl)))) _
              have HC1 := Lib.hid d1
              clear d1
              have HC2 := Lib.hid d2
              clear d2
              go_wp2
              go_quiet (fail)
              go_wp2_with fail
              go_at_call 30
              refine (rise_any (m := m) (bn := bn) (bi := bi) (bm := bm) (N := N) (vs := vs2) (s := tookPre s n L2) (by rw [HT1.out]; exact (HB3.out.drewN _).setIn n true) HF3.out h0).mono ?_
              rintro e w' ⟨rfl, hb, ho⟩
              have H5 := Lib.hid hb
              have H6 := Lib.hid ho
              clear hb ho
              go_wp2_with fail
              go_ret
              rw [HP.out]
              exact ⟨rfl, vs2, H5.out, (HO4.out _).trans H6.out (fun b _ hb => .inl hb), HNV.out⟩
            · have c3 : decide (s.high ≤ T) = true := by simp <;> omega
              have c4 : (((T : Nat) : Int) == ((hll : Nat) : Int)) = false := by simp <;> omega
              have c4' : (T == hll) = false := by simp <;> omega
              have HT1 : Hid (tookPre s n L2 = { s with logs := upd s.logs n L2, mat := upd s.mat n T }) := Lib.hid (by
                unfold tookPre
                rw [hL2, if_neg (by rw [hhl]; exact fun q => d2 q.2)])
              have HC1 := Lib.hid d1
              clear d1
              have HC2 := Lib.hid d2
              clear d2
              go_wp2
              go_quiet (fail)
              go_wp2_with fail
              go_at_call 30
              refine (rise_any (m := m) (bn := bn) (bi := bi) (bm := bm) (N := N) (vs := vs2) (s := tookPre s n L2) (by rw [HT1.out]; exact HB3.out.drewN _) HF3.out h0).mono ?_
              rintro e w' ⟨rfl, hb, ho⟩
              have H5 := Lib.hid hb
              have H6 := Lib.hid ho
              clear hb ho
              go_wp2_with fail
              go_ret
              rw [HP.out]
              exact ⟨rfl, vs2, H5.out, (HO3.out.drewN _).trans H6.out (fun b _ hb => .inl hb), HNV.out⟩
          · have c3 : decide (s.high ≤ T) = false := by simp <;> omega
            have HT1 : Hid (tookPre s n L2 = { s with logs := upd s.logs n L2, mat := upd s.mat n T }) := Lib.hid (by
              unfold tookPre
              rw [hL2, if_neg (by exact fun q => d1 q.1)])
            have HC1 := Lib.hid d1
            clear d1
            go_wp2
            go_quiet (fail)
            go_wp2_with fail
            go_at_call 30
            refine (rise_any (m := m) (bn := bn) (bi := bi) (bm := bm) (N := N) (vs := vs2) (s := tookPre s n L2) (by rw [HT1.out]; exact HB3.out.drewN _) HF3.out h0).mono ?_
            rintro e w' ⟨rfl, hb, ho⟩
            have H5 := Lib.hid hb
            have H6 := Lib.hid ho
            clear hb ho
            go_wp2_with fail
            go_ret
            rw [HP.out]
            exact ⟨rfl, vs2, H5.out, (HO3.out.drewN _).trans H6.out (fun b _ hb => .inl hb), HNV.out⟩

end Go.Proofs.Ytcehlajkpnhdiaa.Ra
