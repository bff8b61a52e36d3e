/- The contract of append. -/
import Derived.Test.YtcehlajkpnhdiaaRf
import Derived.Deep.RegionHeld3
import Derived.BigRegion
import Derived.OneCell
namespace Go.Proofs.Ytcehlajkpnhdiaa.Ra
open Go.RowKit Go.Proofs.Ytcehlajkpnhdiaa.Rw Go.Proofs.Ytcehlajkpnhdiaa.Rp
set_option linter.unusedSimpArgs false
set_option linter.unusedVariables false
variable {w w1 : World} {m bn bi bm N : Nat} {vs : Nat → Value} {s : St}
theorem info45 : (Try.prog.info? 45).map (fun i => (i.zero, i.size, i.bytes)) = some (some (.agg #[.int .i64 0, .int .i64 0]), 2, 16) := by kernel_rfl
/-- The world behind an append onto a node's log, and the store of its value. -/
theorem Box.appended (h : Box w m bn bi bm N vs s) {i : Nat} (hi : i < N) {W : World} {S0 : Nat → Prop} (ho : Only S0 w W) (hS : ∀ k, Ft m bn bi bm N vs k → ¬ S0 k) {news : List Cp} {g cap : Nat} {w' : World} (ha : Appended W (vs i) (s.logs i) news g cap w') :
    Box (w'.setCell ⟨bn, i * 2, none⟩ (.slice (some ⟨g, 0, none⟩) ((s.logs i).length + news.length) cap)) m bn bi bm N (upd vs i (.slice (some ⟨g, 0, none⟩) ((s.logs i).length + news.length) cap)) { s with logs := upd s.logs i (s.logs i ++ news) } := by
  obtain ⟨hr, hg, hat, hlt⟩ := ha
  have hW := h.only ho hS
  have hfar : ∀ k, Ft m bn bi bm N vs k → (vs i).ownBlock ≠ some k → w'.heap[k]? = W.heap[k]? := fun k hk hne => hg.block k (hW.lt hk) (fun e => hne e.symm)
  obtain ⟨r1, r2, r3, r4⟩ := Box.neRow hW hi
  have hgf : ∀ j, j < N → j ≠ i → (vs j).ownBlock ≠ some g := by
    intro j hj hji e
    rcases hat with q | q
    · exact hji (h.apart j i g hj hi e q)
    · have := (hW.rows j hj).lt e; omega
  have n1 : g ≠ bn := by
    rcases hat with q | q
    · rintro rfl; exact r2 q
    · have := hW.nodes.lt; omega
  obtain ⟨e1, e2, e3, e4, e5, e6⟩ := Box.ne hW
  refine ⟨?_, ?_, ?_, ?_, ?_, ?_⟩
  · exact block_far (by rw [hfar m (.inl rfl) r1]; exact hW.obj) e1 _
  · have := (hW.nodes.move (hfar bn (.inr (.inl rfl)) r2)).set (i * 2) (.slice (some ⟨g, 0, none⟩) ((s.logs i).length + news.length) cap)
    rwa [nodeF_setLog] at this
  · exact (hW.ins.move (hfar bi (.inr (.inr (.inl rfl))) r3)).move (Below.heap_setCell _ _ _ _ (Ne.symm e4))
  · exact (hW.mat.move (hfar bm (.inr (.inr (.inr (.inl rfl)))) r4)).move (Below.heap_setCell _ _ _ _ (Ne.symm e5))
  · intro j hj
    show Row _ (upd vs i _ j) (upd s.logs i _ j)
    by_cases e : j = i
    · subst e
      rw [upd_same, upd_same]
      exact hr.move fun b hb => Below.heap_setCell _ _ _ _ (by cases hb; exact n1)
    · rw [upd_other _ _ _ e, upd_other _ _ _ e]
      refine (hW.rows j hj).move fun b hb => ?_
      rw [Below.heap_setCell _ _ _ _ (by rintro rfl; exact (Box.neRow hW hj).2.1 hb)]
      exact hfar b (.inr (.inr (.inr (.inr ⟨j, hj, hb⟩)))) (fun q => e (h.apart j i b hj hi hb q))
  · intro j k b hj hk h1 h2
    by_cases e : j = i
    · by_cases e' : k = i
      · omega
      · subst e
        rw [upd_same] at h1
        rw [upd_other _ _ _ e'] at h2
        cases h1
        exact absurd h2 (hgf k hk e')
    · by_cases e' : k = i
      · subst e'
        rw [upd_same] at h2
        rw [upd_other _ _ _ e] at h1
        cases h2
        exact absurd h1 (hgf j hj e)
      · rw [upd_other _ _ _ e] at h1
        rw [upd_other _ _ _ e'] at h2
        exact h.apart j k b hj hk h1 h2
theorem Box.behind (h : Box w m bn bi bm N vs s) {i : Nat} (hi : i < N) {W : World} {S0 : Nat → Prop} (ho : Only S0 w W) (hS : ∀ k, Ft m bn bi bm N vs k → ¬ S0 k) {news : List Cp} {g cap : Nat} {w' : World} (ha : Appended W (vs i) (s.logs i) news g cap w') :
    w'.cell? ⟨bn, i * 2, none⟩ = some (vs i) ∧ w'.frozen? ⟨bn, i * 2, none⟩ = false := by
  have hW := h.only ho hS
  have hb := ha.2.1.block bn hW.nodes.lt (fun e => (Box.neRow hW hi).2.1 e.symm)
  have := hW.nodes.move hb
  exact ⟨by rw [this.cell _ (by omega), nodeF_log], this.free _⟩
/-- The state behind the append, ahead of the match and of rise. -/
def rowed (s : St) (c : Cp) : St := { s with logs := upd s.logs (s.lead - 1) (s.logs (s.lead - 1) ++ [c]), mat := upd s.mat (s.lead - 1) ((s.logs (s.lead - 1)).length + 1) }
theorem _root_.Go.Proofs.Ytcehlajkpnhdiaa.Rp.Fit.rowed {N : Nat} {s : St} (h : Fit N s) (c : Cp) (hl : (s.logs (s.lead - 1)).length < 200) : Fit N (rowed s c) := by
  refine ⟨h.n1, h.n5, h.lead, ?_, ?_, h.high, h.ep⟩
  · intro i hi
    show (upd s.logs _ _ i).length ≤ 200
    by_cases e : i = s.lead - 1
    · rw [e, upd_same]; simp; omega
    · rw [upd_other _ _ _ e]; exact h.logs i hi
  · intro i hi
    show upd s.mat _ _ i ≤ 200
    by_cases e : i = s.lead - 1
    · rw [e, upd_same]; omega
    · rw [upd_other _ _ _ e]; exact h.mat i hi
set_option maxHeartbeats 1600000 in
set_option maxRecDepth 100000 in
theorem put_any (h : Box w m bn bi bm N vs s) (hf : Fit N s) (v : Int) : Calls Try.prog 25 #[.pointer (some ⟨m, 0, none⟩), .int .i64 v] w (Did m bn bi bm N vs (put N s v) w) := by
  have hl := hf.lead
  have hN := hf.n5
  have o1 : w.cell? ⟨m, 1, none⟩ = some (.int .i64 s.epoch) := cell_of h.obj 1
  have o2 : w.cell? ⟨m, 2, none⟩ = some (.int .i64 s.lead) := cell_of h.obj 2
  by_cases h0 : s.lead = 0
  · have HH := Lib.hid h
    clear h hf
    rw [h0] at o2
    go_enter Try.func25, Try.ntmps25
    go_wp2_with fail
    go_ret
    have e : put N s v = (14, s) := by simp [put, h0]
    rw [e]
    exact ⟨rfl, vs, HH.out, Only.refl _ _, Nextv.refl _ _ _⟩
  · have hlg : s.lead - 1 < N := by omega
    have c0 := h.log hlg
    have hle : (s.logs (s.lead - 1)).length ≤ 200 := hf.logs _ hlg
    have HL := Lib.hid (lead_any h hl h0 hN)
    have HH := Lib.hid h
    have HF := Lib.hid hf
    obtain ⟨la, lc, hv⟩ := (h.rows (s.lead - 1) hlg).slice
    obtain ⟨ll, hll⟩ : ∃ ll, ll = (s.logs (s.lead - 1)).length := ⟨_, rfl⟩
    rw [← hll] at hv hle
    have HLL := Lib.hid hll
    clear hll h hf
    have c0' := c0
    rw [hv] at c0'
    clear c0
    have hne : ((s.lead : Int) == 0) = false := by simp; omega
    by_cases hfull : 200 ≤ ll
    · have hd : decide ((200 : Int) ≤ (ll : Int)) = true := by simp; omega
      go_enter Try.func25, Try.ntmps25
      go_wp2_with (go_at_call 37; refine HL.out.mono ?_; rintro e w' ⟨rfl, n1, rfl⟩)
      go_ret
      have e : put N s v = (5, s) := by simp [put, h0, St.his, ← HLL.out, hfull]
      rw [e]
      exact ⟨rfl, vs, HH.out.drewN _, (Only.refl _ _).drewN _, Nextv.refl _ _ _⟩
    · have HV := Lib.hid hv
      clear hv
      have hd : decide ((200 : Int) ≤ (ll : Int)) = false := by simp; omega
      go_enter Try.func25, Try.ntmps25
      go_wp2_with (go_at_call 37; refine HL.out.mono ?_; rintro e w' ⟨rfl, n1, rfl⟩)
      have HH9 := Lib.hid (HH.out.drewN n1)
      have HO9 : Hid (Only (Ft m bn bi bm N vs) w (w.drewN n1)) := Lib.hid ((Only.refl _ w).drewN n1)
      have b1 : (w.drewN n1).cell? ⟨m, 1, none⟩ = some (.int .i64 s.epoch) := o1
      have bl : (w.drewN n1).cell? ⟨bn, (s.lead - 1) * 2, none⟩ = some (.slice la ll lc) := c0'
      have hmw : m < (w.drewN n1).heap.size := lt_of_block HH9.out.obj
      have hbw : bn < (w.drewN n1).heap.size := HH9.out.nodes.lt
      generalize w.drewN n1 = w9 at HH9 HO9 b1 bl hmw hbw ⊢
      obtain ⟨i0, hi0, hz0, hz1, hz2⟩ := info_parts info45
      have hrow : Row w9 (.slice la ll lc) (s.logs (s.lead - 1)) := by rw [← HV.out]; exact HH9.out.rows _ hlg
      have HROW := Lib.hid hrow
      clear hrow o1 o2 c0'
      have hlen : (s.logs (s.lead - 1)).length = ll := HLL.out.symm
      have hnw : ∀ o, Only (fun _ => False) w9 ((w9.alloc o).drew) := fun o => ((Only.refl _ w9).alloc o).drew
      go_region_law (refine step_append_row rfl (.tmp 23) (.tmp 30) 33 rfl i0 _ Try.underlying33 hi0 hz0 hz1 hz2 rfl (.slice la ll lc) (s.logs (s.lead - 1)) [(s.epoch, v)] (by rfl) (HROW.out.only (hnw _) (fun _ _ q => q)) ⟨w9.heap.size, 0, none⟩ 1 1 (by rfl) (by rfl) (by omega) (World.news_of_block (cs := #[.int .i64 s.epoch, .int .i64 v]) (t := 45) (fr := (0, 0)) (heap_alloc_new w9 _)) (by omega) ?_; intro g cap w1 happ; have hbeh := Box.behind HH9.out hlg (hnw _) (fun _ _ q => q) (by rw [HV.out]; exact happ); have hb1 := hbeh.1; have hb2 := hbeh.2; rw [HV.out] at hb1)
      all_goals
        have hx := HH9.out.appended hlg (hnw _) (fun _ _ q => q) (by rw [HV.out]; exact happ)
        rw [hlen] at hx
        have hsz1 : w9.heap.size ≤ w1.heap.size := Nat.le_trans (by simp) happ.2.1.size
        have hO : Only (Ft m bn bi bm N vs) w9 w1 := by
          refine (((Only.refl _ w9).alloc _).drew).grown happ.2.1 (fun k hk => .inr (.inr (.inr (.inr (.inr ⟨s.lead - 1, hlg, by rw [HV.out]; exact hk⟩)))))
        have hnv : Nextv N vs (upd vs (s.lead - 1) (.slice (some ⟨g, 0, none⟩) (ll + 1) cap)) w := by
          intro i b hi hb
          by_cases e : i = s.lead - 1
          · subst e
            rw [upd_same] at hb
            cases hb
            rcases happ.2.2.1 with q | q
            · left; rw [HV.out]; exact q
            · right
              have := HO9.out.size
              have q' : w9.heap.size + 1 ≤ g := by simpa using q
              show w.heap.size ≤ g
              omega
          · rw [upd_other _ _ _ e] at hb
            exact .inl hb
        have HX := Lib.hid hx
        have HO := Lib.hid ((HO9.out.trans hO (fun _ _ q => q)).setCell (p := ⟨bn, (s.lead - 1) * 2, none⟩) (.inr (.inr (.inl rfl))) (.slice (some ⟨g, 0, none⟩) (ll + 1) cap))
        have HNV := Lib.hid hnv
        clear hx hO hnv happ hbeh hb1 hb2 hnw
        generalize w1.setCell ⟨bn, (s.lead - 1) * 2, none⟩ (.slice (some ⟨g, 0, none⟩) (ll + 1) cap) = w2 at HX HO ⊢
        have hF2 : Fit N (rowed s (s.epoch, v)) := HF.out.rowed _ (by rw [hlen]; omega)
        have k2 : w2.cell? ⟨m, 2, none⟩ = some (.int .i64 s.lead) := cell_of HX.out.obj 2
        have k4 : w2.cell? ⟨m, 4, none⟩ = some (.slice (some ⟨bm, 0, none⟩) N N) := cell_of HX.out.obj 4
        have kl : w2.cell? ⟨bn, (s.lead - 1) * 2, none⟩ = some (.slice (some ⟨g, 0, none⟩) (ll + 1) cap) := by rw [HX.out.log hlg, upd_same]; rfl
        have km : w2.cell? ⟨bm, s.lead - 1, none⟩ = _ := HX.out.mat.cell _ hlg
        have kf : w2.frozen? ⟨bm, s.lead - 1, none⟩ = false := HX.out.mat.free _
        have hwr : IntKind.i64.wrap ((s.lead : Int) - 1) = (s.lead : Int) - 1 := by rw [IntKind.wrap_i64]; omega
        have hp0 : (0 : Int) ≤ (s.lead : Int) - 1 := by omega
        have hp1 : (s.lead : Int) - 1 < (N : Int) := by omega
        have hp2 : ((s.lead : Int) - 1).toNat = s.lead - 1 := by omega
        have hR := HX.out.setMat (s.lead - 1) (ll + 1)
        have HR := Lib.hid hR
        clear hR b1 bl hmw hbw
        go_wp2
        go_region
        have hB3 : Box (w2.setCell ⟨bm, s.lead - 1, none⟩ (.int .i64 ((ll : Int) + 1))).drew m bn bi bm N (upd vs (s.lead - 1) (.slice (some ⟨g, 0, none⟩) (ll + 1) cap)) (rowed s (s.epoch, v)) := by
          have e : rowed s (s.epoch, v) = { s with logs := upd s.logs (s.lead - 1) (s.logs (s.lead - 1) ++ [(s.epoch, v)]), mat := upd s.mat (s.lead - 1) (ll + 1) } := by unfold rowed; rw [hlen]
          rw [e]
          exact (HR.out).drew
        have hO3 : Only (Ft m bn bi bm N vs) w (w2.setCell ⟨bm, s.lead - 1, none⟩ (.int .i64 ((ll : Int) + 1))).drew := (HO.out.setCell (p := ⟨bm, s.lead - 1, none⟩) (.inr (.inr (.inr (.inr (.inl rfl))))) _).drew
        have hP : put N s v = (0, rise N (rowed s (s.epoch, v))) := by
          unfold put
          rw [if_neg h0, if_neg (by show ¬ 200 ≤ (s.logs (s.lead - 1)).length; rw [hlen]; exact hfull)]
          rfl
        have HB3 := Lib.hid hB3
        have HO3 := Lib.hid hO3
        have HP := Lib.hid hP
        have HF2 := Lib.hid hF2
        clear hB3 hO3 hP k2 k4 kl km kf HR HX HO hF2
        generalize (w2.setCell ⟨bm, s.lead - 1, none⟩ (.int .i64 ((ll : Int) + 1))).drew = w3 at HB3 HO3 ⊢
        go_wp2_with (go_at_call 30; refine (rise_any HB3.out HF2.out h0).mono ?_; rintro e w' ⟨rfl, hb, ho⟩; have H5 := Lib.hid hb; have H6 := Lib.hid ho; clear hb ho)
        go_ret
        rw [HP.out]
        exact ⟨rfl, _, H5.out, HO3.out.trans H6.out (fun b _ hb => .inl hb), HNV.out⟩
end Go.Proofs.Ytcehlajkpnhdiaa.Ra
