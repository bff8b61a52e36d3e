/- The contract of elect. -/
import Derived.Test.YtcehlajkpnhdiaaRq
namespace Go.Proofs.Ytcehlajkpnhdiaa.Ra
open Go.RowKit Go.Proofs.Ytcehlajkpnhdiaa.Rw Go.Proofs.Ytcehlajkpnhdiaa.Rp
set_option linter.unusedSimpArgs false
set_option linter.unusedVariables false
variable {w w1 : World} {m bn bi bm N : Nat} {vs : Nat → Value} {s : St}
/-- The box sees those below N alone. -/
theorem Box.ext (h : Box w m bn bi bm N vs s) (s' : St) (h1 : s'.epoch = s.epoch) (h2 : s'.lead = s.lead) (h3 : s'.high = s.high) (h4 : ∀ i, i < N → s'.logs i = s.logs i) (h5 : ∀ i, i < N → s'.ups i = s.ups i) (h6 : ∀ i, i < N → s'.ins i = s.ins i) (h7 : ∀ i, i < N → s'.mat i = s.mat i) : Box w m bn bi bm N vs s' := by
  refine ⟨by rw [h1, h2, h3]; exact h.obj, h.nodes.ext ?_, h.ins.ext ?_, h.mat.ext ?_, ?_, h.apart⟩
  · intro j hj
    unfold nodeF
    rw [h5 (j / 2) (by omega)]
  · intro j hj; rw [h6 j hj]
  · intro j hj; rw [h7 j hj]
  · intro j hj; rw [h4 j hj]; exact h.rows j hj
/-- The state in elect's inner loop: k replicas are swept. -/
def sweep (s : St) (i k : Nat) : St := { s with epoch := s.epoch + 1, lead := i + 1, mat := fun j => if j < k then 0 else s.mat j, ins := fun j => if j < k then s.ins j && s.ups j else s.ins j }
def crown0 (s : St) (i : Nat) : St := { s with epoch := s.epoch + 1, lead := i + 1, mat := upd (fun _ => 0) i (s.logs i).length, ins := fun k => s.ins k && s.ups k }
theorem Box.sweepStep {i k : Nat} (h : Box w m bn bi bm N vs (sweep s i k)) (hk : k < N) : Box ((w.setCell ⟨bm, k, none⟩ (.int .i64 0)).setCell ⟨bi, k, none⟩ (.bool (s.ins k && s.ups k))) m bn bi bm N vs (sweep s i (k + 1)) := by
  have h1 := (h.setMat k 0).setIn k (s.ins k && s.ups k)
  refine h1.ext _ rfl rfl rfl (fun _ _ => rfl) (fun _ _ => rfl) ?_ ?_
  · intro j hj
    show (if j < k + 1 then s.ins j && s.ups j else s.ins j) = upd (fun j => if j < k then s.ins j && s.ups j else s.ins j) k (s.ins k && s.ups k) j
    unfold upd
    by_cases e : j = k
    · subst e; simp
    · rw [if_neg e]
      by_cases e2 : j < k
      · simp [show j < k + 1 by omega, e2]
      · simp [show ¬ j < k + 1 by omega, e2]
  · intro j hj
    show (if j < k + 1 then 0 else s.mat j) = upd (fun j => if j < k then 0 else s.mat j) k 0 j
    unfold upd
    by_cases e : j = k
    · subst e; simp
    · rw [if_neg e]
      by_cases e2 : j < k
      · simp [show j < k + 1 by omega, e2]
      · simp [show ¬ j < k + 1 by omega, e2]
theorem Box.swept {i : Nat} (h : Box w m bn bi bm N vs (sweep s i N)) : Box (w.setCell ⟨bm, i, none⟩ (.int .i64 (s.logs i).length)) m bn bi bm N vs (crown0 s i) := by
  refine (h.setMat i (s.logs i).length).ext _ rfl rfl rfl (fun _ _ => rfl) (fun _ _ => rfl) ?_ ?_
  · intro j hj
    show (s.ins j && s.ups j) = if j < N then s.ins j && s.ups j else s.ins j
    rw [if_pos hj]
  · intro j hj
    show upd (fun _ => 0) i (s.logs i).length j = upd (fun j => if j < N then 0 else s.mat j) i (s.logs i).length j
    unfold upd
    by_cases e : j = i
    · rw [if_pos e, if_pos e]
    · simp [e, hj]
theorem _root_.Go.Proofs.Ytcehlajkpnhdiaa.Rp.Fit.crown0 {N : Nat} {s : St} (h : Fit N s) (i : Nat) (hi : i < N) : Fit N (crown0 s i) := by
  refine ⟨h.n1, h.n5, by show i + 1 ≤ N; omega, h.logs, ?_, h.high, by show 0 ≤ s.epoch + 1; have := h.ep; omega⟩
  intro j hj
  show upd (fun _ => 0) i (s.logs i).length j ≤ 200
  unfold upd
  split
  · exact h.logs i hi
  · exact Nat.zero_le _
theorem first_miss {s : St} {i k : Nat} (hk : 0 < k) (h : ¬ (s.ups i = true ∧ s.ins i = true)) : first s i k = first s (i + 1) (k - 1) := by
  cases k with
  | zero => omega
  | succ k => rw [first, if_neg h]; rfl
theorem first_hit {s : St} {i k : Nat} (hk : 0 < k) (h : s.ups i = true ∧ s.ins i = true) : first s i k = some i := by
  cases k with
  | zero => omega
  | succ k => rw [first, if_pos h]
set_option maxHeartbeats 3200000 in
set_option maxRecDepth 100000 in
theorem elect_any (h : Box w m bn bi bm N vs s) (hf : Fit N s) (he : s.epoch ≤ 1000000) : Calls Try.prog 26 #[.pointer (some ⟨m, 0, none⟩)] w (Did m bn bi bm N vs (elect N s) w) := by
  have hl := hf.lead
  have hN := hf.n5
  have hep := hf.ep
  have o2 : w.cell? ⟨m, 2, none⟩ = some (.int .i64 s.lead) := cell_of h.obj 2
  have o0 : w.cell? ⟨m, 0, none⟩ = some (.slice (some ⟨bn, 0, none⟩) N N) := cell_of h.obj 0
  have HH := Lib.hid h
  have HF := Lib.hid hf
  clear h hf
  by_cases h0 : s.lead = 0
  · rw [h0] at o2
    go_enter Try.func26, Try.ntmps26
    go_wp2_with fail
    go_loopw [16] (fun u wr => ∃ (i : Nat), i ≤ N ∧ u = .int .i64 i ∧ Hid (first s 0 N = first s i (N - i)) ∧ Hid (Box wr m bn bi bm N vs s) ∧ Hid (Only (fun _ => False) w wr)) (fun u _ => N - (intOf u).toNat)
    case atStart => exact ⟨0, by omega, rfl, Lib.hid rfl, HH, Lib.hid (Only.refl _ _)⟩
    case round =>
      obtain ⟨i, hi, rfl, HFI, HB, HO⟩ := hrel
      have r0 : wr.cell? ⟨m, 0, none⟩ = some (.slice (some ⟨bn, 0, none⟩) N N) := cell_of HB.out.obj 0
      by_cases hlt : i < N
      · have r3 : wr.cell? ⟨m, 3, none⟩ = some (.slice (some ⟨bi, 0, none⟩) N N) := cell_of HB.out.obj 3
        have ru := HB.out.up hlt
        obtain ⟨la, lc, hv⟩ := (HB.out.rows i hlt).slice
        obtain ⟨ll, hll⟩ : ∃ ll, ll = (s.logs i).length := ⟨_, rfl⟩
        rw [← hll] at hv
        have rl : wr.cell? ⟨bn, i * 2, none⟩ = some (.slice la ll lc) := by rw [HB.out.log hlt, hv]
        have HV := Lib.hid hv
        have HLL := Lib.hid hll
        clear hv hll
        have ri : wr.cell? ⟨bi, i, none⟩ = some (.bool (s.ins i)) := HB.out.ins.cell _ hlt
        have hmw : m < wr.heap.size := lt_of_block HB.out.obj
        have hbw : bn < wr.heap.size := HB.out.nodes.lt
        have hiw : bi < wr.heap.size := HB.out.ins.lt
        have hBA : Hid (∀ u, Box (wr.alloc (Obj.cells #[.slice la ll lc, .bool u] 56)) m bn bi bm N vs s) := Lib.hid fun u => HB.out.only ((Only.refl (fun _ => False) wr).alloc _) (fun _ _ q => q)
        have hOA : Hid (∀ u, Only (fun _ => False) w (wr.alloc (Obj.cells #[.slice la ll lc, .bool u] 56))) := Lib.hid fun u => HO.out.alloc _
        have miss : Hid (¬ (s.ups i = true ∧ s.ins i = true) → first s 0 N = first s (i + 1) (N - (i + 1))) := Lib.hid (by
          intro hh
          rw [HFI.out, first_miss (by omega) hh]; rfl)
        cases hu : s.ups i with
        | false =>
          rw [hu] at ru
          have HM := Lib.hid (miss.out (by simp [hu]))
          clear hu
          go_wp2_with fail
          go_roundw
          case rel => exact ⟨i + 1, by omega, by go_num, HM, Lib.hid (hBA.out _), Lib.hid (hOA.out _)⟩
          case measure => simp [intOf]; omega
        | true =>
          rw [hu] at ru
          cases hi' : s.ins i with
          | false =>
            rw [hi'] at ri
            have HM := Lib.hid (miss.out (by simp [hi']))
            clear hu hi'
            go_wp2_with fail
            go_roundw
            case rel => exact ⟨i + 1, by omega, by go_num, HM, Lib.hid (hBA.out _), Lib.hid (hOA.out _)⟩
            case measure => simp [intOf]; omega
          | true =>
            rw [hi'] at ri
            have HH1 : Hid (first s 0 N = some i) := Lib.hid (by rw [HFI.out, first_hit (by omega) ⟨hu, hi'⟩])
            have r1 : wr.cell? ⟨m, 1, none⟩ = some (.int .i64 s.epoch) := cell_of HB.out.obj 1
            have r2 : wr.cell? ⟨m, 2, none⟩ = some (.int .i64 s.lead) := cell_of HB.out.obj 2
            have f1 : wr.frozen? ⟨m, 1, none⟩ = false := free_of HB.out.obj 1
            have f2 : wr.frozen? ⟨m, 2, none⟩ = false := free_of HB.out.obj 2
            have hwe : IntKind.i64.wrap (s.epoch + 1) = s.epoch + 1 := by rw [IntKind.wrap_i64]; omega
            clear hu hi' miss
            go_wp2_with fail
            have hB0 : Box (((wr.setCell ⟨m, 1, none⟩ (.int .i64 (s.epoch + 1))).setCell ⟨m, 2, none⟩ (.int .i64 ((i : Int) + 1))).alloc (Obj.cells #[.slice la ll lc, .bool true] 56)) m bn bi bm N vs (sweep s i 0) := by
              have h1 := ((HB.out.setObj 1 (.int .i64 (s.epoch + 1)) { s with epoch := s.epoch + 1 } (by simp) rfl rfl rfl rfl).setObj 2 (.int .i64 ((i : Int) + 1)) { s with epoch := s.epoch + 1, lead := i + 1 } (by simp) rfl rfl rfl rfl)
              have h2 := h1.only ((Only.refl (fun _ => False) _).alloc (Obj.cells #[.slice la ll lc, .bool true] 56)) (fun _ _ q => q)
              exact h2.ext _ rfl rfl rfl (fun _ _ => rfl) (fun _ _ => rfl) (fun j _ => by simp [sweep]) (fun j _ => by simp [sweep])
            have hO0 : Only (Ft m bn bi bm N vs) w (((wr.setCell ⟨m, 1, none⟩ (.int .i64 (s.epoch + 1))).setCell ⟨m, 2, none⟩ (.int .i64 ((i : Int) + 1))).alloc (Obj.cells #[.slice la ll lc, .bool true] 56)) :=
              (((HO.out.mono (fun _ _ q => q.elim)).setCell (p := ⟨m, 1, none⟩) (.inr (.inl rfl)) _).setCell (p := ⟨m, 2, none⟩) (.inr (.inl rfl)) _).alloc _
            have hsz : ((wr.setCell ⟨m, 1, none⟩ (.int .i64 (s.epoch + 1))).setCell ⟨m, 2, none⟩ (.int .i64 ((i : Int) + 1))).heap.size = wr.heap.size := by simp [World.setCell]
            have hc0 : (((wr.setCell ⟨m, 1, none⟩ (.int .i64 (s.epoch + 1))).setCell ⟨m, 2, none⟩ (.int .i64 ((i : Int) + 1))).alloc (Obj.cells #[.slice la ll lc, .bool true] 56)).heap[wr.heap.size]? = some (Obj.cells #[.slice la ll lc, .bool true] 56) := by
              have := block_new ((wr.setCell ⟨m, 1, none⟩ (.int .i64 (s.epoch + 1))).setCell ⟨m, 2, none⟩ (.int .i64 ((i : Int) + 1))) (Obj.cells #[.slice la ll lc, .bool true] 56)
              rwa [hsz] at this
            have hcb : ∀ k, Ft m bn bi bm N vs k → k < wr.heap.size := fun k hk => HB.out.lt hk
            have HB0 := Lib.hid hB0
            have HO0 := Lib.hid hO0
            have HC0 := Lib.hid hc0
            have HCB := Lib.hid hcb
            have HLS := Lib.hid (HO.out.size)
            clear hB0 hO0 hc0 hcb r0 r1 r2 r3 f1 f2 ru rl ri hmw hbw hiw hBA hOA HB HO
            generalize (((wr.setCell ⟨m, 1, none⟩ (.int .i64 (s.epoch + 1))).setCell ⟨m, 2, none⟩ (.int .i64 ((i : Int) + 1))).alloc (Obj.cells #[.slice la ll lc, .bool true] 56)) = wA at HB0 HO0 HC0 ⊢
            generalize wr.heap.size = cb at HC0 HCB HLS ⊢
            clear o0 o2
            go_loopw [51] (fun u wk => ∃ (k : Nat), k ≤ N ∧ u = .int .i64 k ∧ Hid (Box wk m bn bi bm N vs (sweep s i k)) ∧ Hid (Only (Ft m bn bi bm N vs) w wk) ∧ Hid (wk.heap[cb]? = some (Obj.cells #[.slice la ll lc, .bool true] 56))) (fun u _ => N - (intOf u).toNat)
            case atStart => exact ⟨0, by omega, rfl, HB0, HO0, HC0⟩
            case round =>
              obtain ⟨k, hk, rfl, HBk, HOk, HCk⟩ := hrel
              clear HB0 HO0 HC0
              have v0 : wr.cell? ⟨m, 0, none⟩ = some (.slice (some ⟨bn, 0, none⟩) N N) := cell_of HBk.out.obj 0
              by_cases hkl : k < N
              · have v4 : wr.cell? ⟨m, 4, none⟩ = some (.slice (some ⟨bm, 0, none⟩) N N) := cell_of HBk.out.obj 4
                have vm : wr.cell? ⟨bm, k, none⟩ = _ := HBk.out.mat.cell _ hkl
                have vmf : wr.frozen? ⟨bm, k, none⟩ = false := HBk.out.mat.free _
                have hB1 := HBk.out.setMat k 0
                have x0 : (wr.setCell ⟨bm, k, none⟩ (.int .i64 0)).cell? ⟨m, 0, none⟩ = some (.slice (some ⟨bn, 0, none⟩) N N) := cell_of hB1.obj 0
                have x3 : (wr.setCell ⟨bm, k, none⟩ (.int .i64 0)).cell? ⟨m, 3, none⟩ = some (.slice (some ⟨bi, 0, none⟩) N N) := cell_of hB1.obj 3
                have xi : (wr.setCell ⟨bm, k, none⟩ (.int .i64 0)).cell? ⟨bi, k, none⟩ = some (.bool (s.ins k)) := by
                  exact (hB1.ins.cell _ hkl).trans (by simp [sweep])
                have xif : (wr.setCell ⟨bm, k, none⟩ (.int .i64 0)).frozen? ⟨bi, k, none⟩ = false := hB1.ins.free _
                have xu : (wr.setCell ⟨bm, k, none⟩ (.int .i64 0)).cell? ⟨bn, k * 2 + 1, none⟩ = some (.bool (s.ups k)) := hB1.up hkl
                have hp0 : (0 : Int) ≤ (k : Int) := by omega
                have hp1 : (k : Int) < (N : Int) := by omega
                have hstep : Hid (Box ((wr.setCell ⟨bm, k, none⟩ (.int .i64 0)).setCell ⟨bi, k, none⟩ (.bool (s.ins k && s.ups k))) m bn bi bm N vs (sweep s i (k + 1))) := Lib.hid (HBk.out.sweepStep hkl)
                have hstO : Hid (∀ u, Only (Ft m bn bi bm N vs) w ((wr.setCell ⟨bm, k, none⟩ (.int .i64 0)).setCell ⟨bi, k, none⟩ u)) := Lib.hid fun u => (HOk.out.setCell (p := ⟨bm, k, none⟩) (.inr (.inr (.inr (.inr (.inl rfl))))) _).setCell (p := ⟨bi, k, none⟩) (.inr (.inr (.inr (.inl rfl)))) _
                have hstC : Hid (∀ u, ((wr.setCell ⟨bm, k, none⟩ (.int .i64 0)).setCell ⟨bi, k, none⟩ u).heap[cb]? = some (Obj.cells #[.slice la ll lc, .bool true] 56)) := Lib.hid fun u =>
                  block_far (block_far HCk.out (fun e => by have := HCB.out bm (.inr (.inr (.inr (.inl rfl)))); have e' : cb = bm := e; omega) _) (fun e => by have := HCB.out bi (.inr (.inr (.inl rfl))); have e' : cb = bi := e; omega) _
                clear hB1
                go_wp2_with fail
                clear v0 v4 vm vmf
                generalize wr.setCell ⟨bm, k, none⟩ (.int .i64 0) = w1 at x0 x3 xi xif xu hstep hstO hstC ⊢
                cases hi1 : s.ins k with
                | false =>
                  rw [hi1] at xi hstep
                  go_region
                  go_wp2
                  go_roundw
                  case rel => exact ⟨k + 1, by omega, by go_num, Lib.hid (by have := hstep.out.drew; rwa [Bool.false_and] at this), Lib.hid (hstO.out _).drew, Lib.hid (hstC.out _)⟩
                  case measure => simp [intOf]; omega
                | true =>
                  rw [hi1] at xi hstep
                  go_region
                  go_wp2
                  go_roundw
                  case rel => exact ⟨k + 1, by omega, by go_num, Lib.hid (by have := hstep.out.drew; rwa [Bool.true_and] at this), Lib.hid (hstO.out _).drew, Lib.hid (hstC.out _)⟩
                  case measure => simp [intOf]; omega
              · obtain rfl : k = N := by omega
                have v4 : wr.cell? ⟨m, 4, none⟩ = some (.slice (some ⟨bm, 0, none⟩) k k) := cell_of HBk.out.obj 4
                have vm : wr.cell? ⟨bm, i, none⟩ = _ := HBk.out.mat.cell _ hlt
                have vmf : wr.frozen? ⟨bm, i, none⟩ = false := HBk.out.mat.free _
                have vc : wr.cell? ⟨cb, 0, none⟩ = some (.slice la ll lc) := cell_of HCk.out 0
                have hp0 : (0 : Int) ≤ (i : Int) := by omega
                have hp1 : (i : Int) < (k : Int) := by omega
                have hstep : Hid (Box (wr.setCell ⟨bm, i, none⟩ (.int .i64 ll)).drew m bn bi bm k vs (crown0 s i)) := Lib.hid (by rw [HLL.out]; exact HBk.out.swept.drew)
                have hstO : Hid (Only (Ft m bn bi bm k vs) w (wr.setCell ⟨bm, i, none⟩ (.int .i64 ll)).drew) := Lib.hid ((HOk.out.setCell (p := ⟨bm, i, none⟩) (.inr (.inr (.inr (.inr (.inl rfl))))) _).drew)
                go_wp2_with fail
                go_region
                clear v0 v4 vm vmf vc
                generalize (wr.setCell ⟨bm, i, none⟩ (.int .i64 ll)).drew = w1 at hstep hstO ⊢
                go_wp2_with (go_at_call 30; refine (rise_any hstep.out (HF.out.crown0 i hlt) (by show i + 1 ≠ 0; omega)).mono ?_; rintro e w' ⟨rfl, hb, ho⟩; have H5 := Lib.hid hb; have H6 := Lib.hid ho; clear hb ho)
                go_ret
                have e : elect k s = (0, rise k (crown0 s i)) := by
                  unfold elect
                  rw [if_neg (by simp [h0]), HH1.out]
                  rfl
                rw [e]
                exact ⟨rfl, vs, H5.out, hstO.out.trans H6.out (fun b _ hb => .inl hb), Nextv.refl _ _ _⟩
      · obtain rfl : i = N := by omega
        go_wp2_with fail
        go_ret
        have e : first s 0 i = none := by rw [HFI.out, Nat.sub_self]; rfl
        have e : elect i s = (3, s) := by unfold elect; rw [if_neg (by simp [h0]), e]
        rw [e]
        exact ⟨rfl, vs, HB.out, HO.out.mono (fun _ _ q => q.elim), Nextv.refl _ _ _⟩
  · have hd : decide (0 < s.lead) = true := by simp; omega
    go_enter Try.func26, Try.ntmps26
    go_wp2_with fail
    go_ret
    have e : elect N s = (9, s) := by simp [elect, h0]
    rw [e]
    exact ⟨rfl, vs, HH.out, Only.refl _ _, Nextv.refl _ _ _⟩
end Go.Proofs.Ytcehlajkpnhdiaa.Ra
