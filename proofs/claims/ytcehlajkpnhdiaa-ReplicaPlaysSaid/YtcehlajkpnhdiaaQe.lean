/- The contract of the reference's elect. -/
import Derived.Test.YtcehlajkpnhdiaaQc
namespace Go.Proofs.Ytcehlajkpnhdiaa.Ra
open Go.RowKit Go.Proofs.Ytcehlajkpnhdiaa.Rw Go.Proofs.Ytcehlajkpnhdiaa.Rp
set_option linter.unusedSimpArgs false
set_option linter.unusedVariables false
variable {w w1 : World} {m bs N cap : Nat} {vs : Nat → Value} {s : St}
def bestOf (s : St) (k n : Nat) : Nat := match first s k n with
  | some j => j + 1
  | none => 0
theorem bestOf_hit {k n : Nat} (h : s.ups k = true ∧ s.ins k = true) : bestOf s k (n + 1) = k + 1 := by unfold bestOf; rw [first, if_pos h]
theorem bestOf_miss {k n : Nat} (h : ¬ (s.ups k = true ∧ s.ins k = true)) : bestOf s k (n + 1) = bestOf s (k + 1) n := by unfold bestOf; rw [first, if_neg h]
theorem RBox.sweepStep {i k : Nat} {v : Value} (h : RBox w m bs N cap vs (sweep s i k)) (hk : k < N) (hv : v = vs k) (hr : Row w v (s.logs k)) : RBox ((((w.setCell ⟨bs, k * 4, none⟩ v).setCell ⟨bs, k * 4 + 1, none⟩ (.bool (s.ups k))).setCell ⟨bs, k * 4 + 2, none⟩ (.bool (s.ins k && s.ups k))).setCell ⟨bs, k * 4 + 3, none⟩ (.int .i64 ((0 : Nat) : Int))) m bs N cap vs (sweep s i (k + 1)) := by
  have h1 := h.setNode hk v (s.logs k) (s.ups k) (s.ins k && s.ups k) 0 hr
  rw [upd_self vs k v hv] at h1
  refine h1.ext _ rfl rfl rfl ?_ ?_ ?_ ?_
  · intro j hj
    show s.logs j = upd s.logs k (s.logs k) j
    rw [upd_self _ _ _ rfl]
  · intro j hj
    show s.ups j = upd s.ups k (s.ups k) j
    rw [upd_self _ _ _ rfl]
  · intro j hj
    show (if j < k + 1 then s.ins j && s.ups j else s.ins j) = upd (fun j => if j < k then s.ins j && s.ups j else s.ins j) k (s.ins k && s.ups k) j
    unfold upd
    by_cases e : j = k
    · subst e; simp
    · rw [if_neg e]
      by_cases e2 : j < k
      · simp [show j < k + 1 by omega, e2]
      · simp [show ¬ j < k + 1 by omega, e2]
  · intro j hj
    show (if j < k + 1 then 0 else s.mat j) = upd (fun j => if j < k then 0 else s.mat j) k 0 j
    unfold upd
    by_cases e : j = k
    · subst e; simp
    · rw [if_neg e]
      by_cases e2 : j < k
      · simp [show j < k + 1 by omega, e2]
      · simp [show ¬ j < k + 1 by omega, e2]
theorem RBox.swept {i : Nat} {v : Value} (h : RBox w m bs N cap vs (sweep s i N)) (hi : i < N) (hv : v = vs i) (hr : Row w v (s.logs i)) : RBox ((((w.setCell ⟨bs, i * 4, none⟩ v).setCell ⟨bs, i * 4 + 1, none⟩ (.bool (s.ups i))).setCell ⟨bs, i * 4 + 2, none⟩ (.bool (s.ins i && s.ups i))).setCell ⟨bs, i * 4 + 3, none⟩ (.int .i64 ((s.logs i).length : Int))) m bs N cap vs (crown0 s i) := by
  have h1 := h.setNode hi v (s.logs i) (s.ups i) (s.ins i && s.ups i) (s.logs i).length hr
  rw [upd_self vs i v hv] at h1
  refine h1.ext _ rfl rfl rfl ?_ ?_ ?_ ?_
  · intro j hj
    show s.logs j = upd s.logs i (s.logs i) j
    rw [upd_self _ _ _ rfl]
  · intro j hj
    show s.ups j = upd s.ups i (s.ups i) j
    rw [upd_self _ _ _ rfl]
  · intro j hj
    show (s.ins j && s.ups j) = upd (fun j => if j < N then s.ins j && s.ups j else s.ins j) i (s.ins i && s.ups i) j
    unfold upd
    by_cases e : j = i
    · simp [e]
    · simp [e, hj]
  · intro j hj
    show upd (fun _ => 0) i (s.logs i).length j = upd (fun j => if j < N then 0 else s.mat j) i (s.logs i).length j
    unfold upd
    by_cases e : j = i
    · rw [if_pos e, if_pos e]
    · simp [e, hj]
set_option maxHeartbeats 6400000 in
set_option maxRecDepth 100000 in
theorem relect_any (h : RBox w m bs N cap vs s) (hf : Fit N s) (he : s.epoch ≤ 1000000) : Calls Try.prog 33 #[.pointer (some ⟨m, 0, none⟩)] w (RDid m bs N cap vs (elect N s) w) := by
  have hl := hf.lead
  have hN := hf.n5
  have hep := hf.ep
  have o2 : w.cell? ⟨m, 2, none⟩ = some (.int .i64 s.lead) := cell_of h.obj 2
  have o0 : w.cell? ⟨m, 0, none⟩ = some (.slice (some ⟨bs, 0, none⟩) N cap) := cell_of h.obj 0
  have HH := Lib.hid h
  have HF := Lib.hid hf
  clear h hf
  by_cases h0 : s.lead = 0
  · have o2' := o2
    rw [h0] at o2'
    clear o2
    go_enter Try.func33, Try.ntmps33
    go_wp2_with fail
    go_loopw [3, 4] (fun u v wr => ∃ (k : Nat), k ≤ N ∧ v = .int .i64 k ∧ u = .int .i64 (bestOf s k (N - k)) ∧ wr = w) (fun _ v _ => (intOf v).toNat)
    case atStart => exact ⟨N, by omega, rfl, by simp [bestOf, first], rfl⟩
    case round =>
      obtain ⟨k, hk, rfl, hu, hw⟩ := hrel
      have hw' := hw.symm
      clear hw
      subst hw'
      cases k with
      | succ k =>
        have cu := HH.out.up (i := k) (by omega)
        have ci := HH.out.in_ (i := k) (by omega)
        have hwk : IntKind.i64.wrap (((k + 1 : Nat) : Int) - 1) = (k : Int) := by rw [IntKind.wrap_i64]; omega
        have hk0 : (0 : Int) ≤ (k : Int) := by omega
        have hk1 : (k : Int) < (N : Int) := by omega
        have hNk : N - k = (N - (k + 1)) + 1 := by omega
        subst hu
        cases hb : s.ups k with
        | false =>
          have hm : Hid (bestOf s k (N - k) = bestOf s (k + 1) (N - (k + 1))) := Lib.hid (by rw [hNk]; exact bestOf_miss (by simp [hb]))
          rw [hb] at cu
          clear hb
          generalize bestOf s (k + 1) (N - (k + 1)) = y at *
          go_wp2_with fail
          go_roundw
          case rel => exact ⟨k, by omega, rfl, by rw [hm.out], trivial⟩
          case measure => simp [intOf]
        | true =>
          cases hc : s.ins k with
          | false =>
            have hm : Hid (bestOf s k (N - k) = bestOf s (k + 1) (N - (k + 1))) := Lib.hid (by rw [hNk]; exact bestOf_miss (by simp [hc]))
            rw [hb] at cu
            rw [hc] at ci
            clear hb hc
            generalize bestOf s (k + 1) (N - (k + 1)) = y at *
            go_wp2_with fail
            go_roundw
            case rel => exact ⟨k, by omega, rfl, by rw [hm.out], trivial⟩
            case measure => simp [intOf]
          | true =>
            have hm : Hid (bestOf s k (N - k) = k + 1) := Lib.hid (by rw [hNk]; exact bestOf_hit ⟨hb, hc⟩)
            rw [hb] at cu
            rw [hc] at ci
            clear hb hc
            generalize bestOf s (k + 1) (N - (k + 1)) = y at *
            go_wp2_with fail
            go_roundw
            case rel => exact ⟨k, by omega, rfl, by rw [hm.out], trivial⟩
            case measure => simp [intOf]
      | zero =>
        rw [Nat.sub_zero] at hu
        cases hfi : first s 0 N with
        | none =>
          have hb : bestOf s 0 N = 0 := by unfold bestOf; rw [hfi]
          rw [hb] at hu
          subst hu
          have HFI := Lib.hid hfi
          clear hfi hb
          go_wp2_with fail
          go_ret
          have e : elect N s = (3, s) := by unfold elect; rw [if_neg (by simp [h0]), HFI.out]
          rw [e]
          exact ⟨rfl, vs, HH.out, Only.refl _ _, Nextv.refl _ _ _⟩
        | some i =>
          have hb : bestOf s 0 N = i + 1 := by unfold bestOf; rw [hfi]
          rw [hb] at hu
          subst hu
          have hi := (first_lt _ _ _ hfi).2
          have HFI := Lib.hid hfi
          have hiN : i < N := by omega
          have r1 : w.cell? ⟨m, 1, none⟩ = some (.int .i64 s.epoch) := cell_of HH.out.obj 1
          have f1 : w.frozen? ⟨m, 1, none⟩ = false := free_of HH.out.obj 1
          have f2 : w.frozen? ⟨m, 2, none⟩ = false := free_of HH.out.obj 2
          have hwe : IntKind.i64.wrap (s.epoch + 1) = s.epoch + 1 := by rw [IntKind.wrap_i64]; omega
          clear hfi hb hi
          go_wp2_with fail
          have hB0 : RBox ((w.setCell ⟨m, 1, none⟩ (.int .i64 (s.epoch + 1))).setCell ⟨m, 2, none⟩ (.int .i64 ((i : Int) + 1))) m bs N cap vs (sweep s i 0) := by
            have h1 := ((HH.out.setObj 1 (.int .i64 (s.epoch + 1)) { s with epoch := s.epoch + 1 } (by simp) rfl rfl rfl rfl).setObj 2 (.int .i64 ((i : Int) + 1)) { s with epoch := s.epoch + 1, lead := i + 1 } (by simp) rfl rfl rfl rfl)
            exact h1.ext _ rfl rfl rfl (fun _ _ => rfl) (fun _ _ => rfl) (fun j _ => by simp [sweep]) (fun j _ => by simp [sweep])
          have hO0 : Only (RFt m bs) w ((w.setCell ⟨m, 1, none⟩ (.int .i64 (s.epoch + 1))).setCell ⟨m, 2, none⟩ (.int .i64 ((i : Int) + 1))) :=
            ((Only.refl _ w).setCell (p := ⟨m, 1, none⟩) (.inr (.inl rfl)) _).setCell (p := ⟨m, 2, none⟩) (.inr (.inl rfl)) _
          have HB0 := Lib.hid hB0
          have HO0 := Lib.hid hO0
          clear hB0 hO0 r1 f1 f2 o0 o2'
          generalize (w.setCell ⟨m, 1, none⟩ (.int .i64 (s.epoch + 1))).setCell ⟨m, 2, none⟩ (.int .i64 ((i : Int) + 1)) = wA at HB0 HO0 ⊢
          go_loopw [5] (fun u wk => ∃ (k : Nat), k ≤ N ∧ u = .int .i64 k ∧ Hid (RBox wk m bs N cap vs (sweep s i k)) ∧ Hid (Only (RFt m bs) w wk)) (fun u _ => N - (intOf u).toNat)
          case atStart => exact ⟨0, by omega, rfl, HB0, HO0⟩
          case round =>
            obtain ⟨k, hk, rfl, HBk, HOk⟩ := hrel
            clear HB0 HO0
            have v0 : wr.cell? ⟨m, 0, none⟩ = some (.slice (some ⟨bs, 0, none⟩) N cap) := cell_of HBk.out.obj 0
            have hmw : m < wr.heap.size := lt_of_block HBk.out.obj
            have hbw : bs < wr.heap.size := HBk.out.nodes.lt
            by_cases hkl : k < N
            · obtain ⟨la, lc, hv⟩ := (HBk.out.rows k hkl).slice
              obtain ⟨ll, hll⟩ : ∃ ll, ll = (s.logs k).length := ⟨_, rfl⟩
              have hv' : vs k = .slice la ll lc := by rw [hll]; exact hv
              have c0 : wr.cell? ⟨bs, k * 4, none⟩ = some (.slice la ll lc) := by rw [HBk.out.log hkl, hv']
              have c1 : wr.cell? ⟨bs, k * 4 + 1, none⟩ = some (.bool (s.ups k)) := HBk.out.up hkl
              have c2 : wr.cell? ⟨bs, k * 4 + 2, none⟩ = some (.bool (s.ins k)) := by rw [HBk.out.in_ hkl]; simp [sweep]
              have c3 : wr.cell? ⟨bs, k * 4 + 3, none⟩ = some (.int .i64 (s.mat k)) := by rw [HBk.out.mat hkl]; simp [sweep]
              have xf : ∀ j, wr.frozen? ⟨bs, j, none⟩ = false := fun j => HBk.out.nodes.free j
              have xf0 := xf (k * 4)
              have xf1 := xf (k * 4 + 1)
              have xf2 := xf (k * 4 + 2)
              have xf3 := xf (k * 4 + 3)
              have hp0 : (0 : Int) ≤ (k : Int) := by omega
              have hp1 : (k : Int) < (N : Int) := by omega
              have HV := Lib.hid hv'
              clear hv hv' hll xf
              cases hq : s.ins k with
              | false =>
                rw [hq] at c2
                have HQ := Lib.hid hq
                clear hq
                go_wp2_with fail
                go_region
                have hb5 := (((HBk.out.sweepStep (v := .slice la ll lc) hkl HV.out.symm (by have := HBk.out.rows k hkl; rwa [HV.out] at this)).only ((Only.refl (fun _ => False) _).alloc (Obj.cells #[.slice la ll lc, .bool (s.ups k), .bool false, .int .i64 0] 66)) (fun _ _ q => q))).drew
                have ho5 := (((((((HOk.out).setCell (p := ⟨bs, k * 4, none⟩) (.inr (.inr rfl)) (.slice la ll lc)).setCell (p := ⟨bs, k * 4 + 1, none⟩) (.inr (.inr rfl)) (.bool (s.ups k))).setCell (p := ⟨bs, k * 4 + 2, none⟩) (.inr (.inr rfl)) (.bool false)).setCell (p := ⟨bs, k * 4 + 3, none⟩) (.inr (.inr rfl)) (.int .i64 0)).alloc (Obj.cells #[.slice la ll lc, .bool (s.ups k), .bool false, .int .i64 0] 66))).drew
                rw [HQ.out] at hb5
                have HB5 := Lib.hid hb5
                have HO5 := Lib.hid ho5
                clear hb5 ho5
                go_wp2
                go_roundw
                case rel => exact ⟨k + 1, by omega, by go_num, HB5, HO5⟩
                case measure => simp [intOf]; omega
              | true =>
                rw [hq] at c2
                have HQ := Lib.hid hq
                clear hq
                go_wp2_with fail
                go_region
                have hb5 := (((HBk.out.sweepStep (v := .slice la ll lc) hkl HV.out.symm (by have := HBk.out.rows k hkl; rwa [HV.out] at this)).only ((Only.refl (fun _ => False) _).alloc (Obj.cells #[.slice la ll lc, .bool (s.ups k), .bool (s.ups k), .int .i64 0] 66)) (fun _ _ q => q))).drew
                have ho5 := (((((((HOk.out).setCell (p := ⟨bs, k * 4, none⟩) (.inr (.inr rfl)) (.slice la ll lc)).setCell (p := ⟨bs, k * 4 + 1, none⟩) (.inr (.inr rfl)) (.bool (s.ups k))).setCell (p := ⟨bs, k * 4 + 2, none⟩) (.inr (.inr rfl)) (.bool (s.ups k))).setCell (p := ⟨bs, k * 4 + 3, none⟩) (.inr (.inr rfl)) (.int .i64 0)).alloc (Obj.cells #[.slice la ll lc, .bool (s.ups k), .bool (s.ups k), .int .i64 0] 66))).drew
                rw [HQ.out, Bool.true_and] at hb5
                have HB5 := Lib.hid hb5
                have HO5 := Lib.hid ho5
                clear hb5 ho5
                go_wp2
                go_roundw
                case rel => exact ⟨k + 1, by omega, by go_num, HB5, HO5⟩
                case measure => simp [intOf]; omega
            · obtain rfl : k = N := by omega
              obtain ⟨la, lc, hv⟩ := (HBk.out.rows i hiN).slice
              obtain ⟨ll, hll⟩ : ∃ ll, ll = (s.logs i).length := ⟨_, rfl⟩
              have hv' : vs i = .slice la ll lc := by rw [hll]; exact hv
              have c0 : wr.cell? ⟨bs, i * 4, none⟩ = some (.slice la ll lc) := by rw [HBk.out.log hiN, hv']
              have c1 : wr.cell? ⟨bs, i * 4 + 1, none⟩ = some (.bool (s.ups i)) := HBk.out.up hiN
              have c2 : wr.cell? ⟨bs, i * 4 + 2, none⟩ = some (.bool (s.ins i && s.ups i)) := by rw [HBk.out.in_ hiN]; simp [sweep, hiN]
              have c3 : wr.cell? ⟨bs, i * 4 + 3, none⟩ = some (.int .i64 0) := by rw [HBk.out.mat hiN]; simp [sweep, hiN]
              have xf : ∀ j, wr.frozen? ⟨bs, j, none⟩ = false := fun j => HBk.out.nodes.free j
              have xf0 := xf (i * 4)
              have xf1 := xf (i * 4 + 1)
              have xf2 := xf (i * 4 + 2)
              have xf3 := xf (i * 4 + 3)
              have hp0 : (0 : Int) ≤ (i : Int) := by omega
              have hp1 : (i : Int) < (k : Int) := by omega
              have hwi : IntKind.i64.wrap ((i : Int) + 1 - 1) = (i : Int) := by rw [IntKind.wrap_i64]; omega
              have HV := Lib.hid hv'
              have HLL := Lib.hid hll
              clear hv hv' hll xf
              generalize hz : (s.ins i && s.ups i) = zb at c2
              have HZ := Lib.hid hz
              clear hz
              go_wp2_with fail
              go_region
              have hb5 := (((HBk.out.swept (v := .slice la ll lc) hiN HV.out.symm (by have := HBk.out.rows i hiN; rwa [HV.out] at this)).only ((Only.refl (fun _ => False) _).alloc (Obj.cells #[.slice la ll lc, .bool (s.ups i), .bool zb, .int .i64 ll] 66)) (fun _ _ q => q))).drew
              have ho5 := (((((((HOk.out).setCell (p := ⟨bs, i * 4, none⟩) (.inr (.inr rfl)) (.slice la ll lc)).setCell (p := ⟨bs, i * 4 + 1, none⟩) (.inr (.inr rfl)) (.bool (s.ups i))).setCell (p := ⟨bs, i * 4 + 2, none⟩) (.inr (.inr rfl)) (.bool zb)).setCell (p := ⟨bs, i * 4 + 3, none⟩) (.inr (.inr rfl)) (.int .i64 ll)).alloc (Obj.cells #[.slice la ll lc, .bool (s.ups i), .bool zb, .int .i64 ll] 66))).drew
              rw [HZ.out, ← HLL.out] at hb5
              have HB5 := Lib.hid hb5
              have HO5 := Lib.hid ho5
              clear hb5 ho5 v0 c0 c1 c2 c3 xf0 xf1 xf2 xf3
              go_wp2_with (go_at_call 35; refine (rrise_any HB5.out (HF.out.crown0 i hiN) (by show i + 1 ≠ 0; omega)).mono ?_; rintro e w' ⟨rfl, hb, ho⟩; have H5 := Lib.hid hb; have H6 := Lib.hid ho; clear hb ho)
              go_ret
              have e : elect k s = (0, rise k (crown0 s i)) := by
                unfold elect
                rw [if_neg (by simp [h0]), HFI.out]
                rfl
              rw [e]
              exact ⟨rfl, vs, H5.out, HO5.out.trans H6.out (fun b _ hb => .inl hb), Nextv.refl _ _ _⟩
  · have hd : decide (0 < s.lead) = true := by simp; omega
    go_enter Try.func33, Try.ntmps33
    go_wp2_with fail
    go_ret
    have e : elect N s = (9, s) := by simp [elect, h0]
    rw [e]
    exact ⟨rfl, vs, HH.out, Only.refl _ _, Nextv.refl _ _ _⟩
end Go.Proofs.Ytcehlajkpnhdiaa.Ra
