/- The contract of the reference's Do. -/
import Derived.Test.YtcehlajkpnhdiaaQe
import Derived.Test.YtcehlajkpnhdiaaQf
namespace Go.Proofs.Ytcehlajkpnhdiaa.Ra
open Go.RowKit Go.Proofs.Ytcehlajkpnhdiaa.Rw Go.Proofs.Ytcehlajkpnhdiaa.Rp
set_option linter.unusedSimpArgs false
set_option linter.unusedVariables false
variable {w w1 : World} {m bs N cap : Nat} {vs : Nat → Value} {s : St} {C : List Cp}
theorem RDid.back {rs : Int × St} {wb w' : World} {e : Ending} (ho : Only (fun _ => False) w wb) (hd : RDid m bs N cap vs rs wb e w') : RDid m bs N cap vs rs w e w' := by
  obtain ⟨rfl, vs', hb, h1, h2⟩ := hd
  refine ⟨rfl, vs', hb, (ho.mono (fun _ _ q => q.elim)).trans h1 (fun _ _ q => q), fun i g hi hg => ?_⟩
  rcases h2 i g hi hg with q | q
  · exact .inl q
  · exact .inr (Nat.le_trans ho.size q)
theorem RBox.setSame {i : Nat} {v : Value} {u c : Bool} {k : Nat} {s' : St} (h : RBox w m bs N cap vs s) (hi : i < N) (hv : v = vs i) (hk : k = s.mat i) (h1 : s'.epoch = s.epoch) (h2 : s'.lead = s.lead) (h3 : s'.high = s.high) (h4 : s'.logs = s.logs) (h5 : s'.ups = upd s.ups i u) (h6 : s'.ins = upd s.ins i c) (h7 : s'.mat = s.mat) :
    RBox ((((w.setCell ⟨bs, i * 4, none⟩ v).setCell ⟨bs, i * 4 + 1, none⟩ (.bool u)).setCell ⟨bs, i * 4 + 2, none⟩ (.bool c)).setCell ⟨bs, i * 4 + 3, none⟩ (.int .i64 k)) m bs N cap vs s' := by
  have hb := h.setNode hi v (s.logs i) u c k (by rw [hv]; exact h.rows i hi)
  rw [upd_self vs i v hv] at hb
  refine hb.ext _ h1 h2 h3 (fun j _ => ?_) (fun j _ => ?_) (fun j _ => ?_) (fun j _ => ?_)
  · rw [h4]; show s.logs j = upd s.logs i (s.logs i) j; rw [upd_self _ _ _ rfl]
  · rw [h5]; rfl
  · rw [h6]; rfl
  · rw [h7]; show s.mat j = upd s.mat i k j; rw [upd_self _ _ _ hk]
theorem rise_least (h0 : leastTo s N ≤ s.high) : rise N s = s := by
  unfold rise
  rw [Nat.max_eq_left h0]
set_option maxHeartbeats 12800000 in
set_option maxRecDepth 100000 in
theorem rdo_any (h : RBox w m bs N cap vs s) (hall : All N s C) (he : s.epoch ≤ 1000000) (d : Deed) : Calls Try.prog 22 #[.pointer (some ⟨m, 0, none⟩), dv d] w (RDid m bs N cap vs (doIt N s d) w) := by
  obtain ⟨dk, dn, v⟩ := d
  have hf := hall.fit
  have hl := hf.lead
  have hN := hf.n5
  have hBA : Hid (RBox (w.alloc (Obj.cells #[.int .i64 dk, .int .i64 dn, .int .i64 v] 29)) m bs N cap vs s) := Lib.hid (h.only ((Only.refl (fun _ => False) w).alloc _) (fun _ _ q => q))
  have hOA : Hid (Only (fun _ => False) w (w.alloc (Obj.cells #[.int .i64 dk, .int .i64 dn, .int .i64 v] 29))) := Lib.hid ((Only.refl (fun _ => False) w).alloc _)
  have hblk : Hid ((w.alloc (Obj.cells #[.int .i64 dk, .int .i64 dn, .int .i64 v] 29)).heap[w.heap.size]? = some (.cells #[.int .i64 dk, .int .i64 dn, .int .i64 v] 29 (0, 0))) := Lib.hid (block_new w _)
  have HH := Lib.hid h
  have HF := Lib.hid hf
  have HALL := Lib.hid hall
  clear h hf hall
  show Calls Try.prog 22 #[.pointer (some ⟨m, 0, none⟩), .agg #[.int .i64 dk, .int .i64 dn, .int .i64 v]] w (RDid m bs N cap vs (doIt N s ⟨dk, dn, v⟩) w)
  by_cases k1 : dk = 1
  · subst k1
    go_enter Try.func22, Try.ntmps22
    go_wp2_with (go_at_call 32; refine (rput_any hBA.out HF.out v).mono ?_; rintro e w' ⟨rfl, hd⟩; have HD := Lib.hid hd; clear hd)
    go_ret
    exact RDid.back hOA.out ⟨rfl, HD.out⟩
  by_cases k6 : dk = 6
  · subst k6
    go_enter Try.func22, Try.ntmps22
    go_wp2_with (go_at_call 33; refine (relect_any hBA.out HF.out he).mono ?_; rintro e w' ⟨rfl, hd⟩; have HD := Lib.hid hd; clear hd)
    go_ret
    exact RDid.back hOA.out ⟨rfl, HD.out⟩
  have d0 : (w.alloc (Obj.cells #[.int .i64 dk, .int .i64 dn, .int .i64 v] 29)).cell? ⟨w.heap.size, 0, none⟩ = some (.int .i64 dk) := cell_of hblk.out 0
  have d1 : (w.alloc (Obj.cells #[.int .i64 dk, .int .i64 dn, .int .i64 v] 29)).cell? ⟨w.heap.size, 1, none⟩ = some (.int .i64 dn) := cell_of hblk.out 1
  have d2 : (w.alloc (Obj.cells #[.int .i64 dk, .int .i64 dn, .int .i64 v] 29)).cell? ⟨w.heap.size, 2, none⟩ = some (.int .i64 v) := cell_of hblk.out 2
  have r0 : (w.alloc (Obj.cells #[.int .i64 dk, .int .i64 dn, .int .i64 v] 29)).cell? ⟨m, 0, none⟩ = some (.slice (some ⟨bs, 0, none⟩) N cap) := cell_of hBA.out.obj 0
  by_cases kk : dk = 2 ∨ dk = 3 ∨ dk = 4 ∨ dk = 5
  · cases hq : isN N dn with
    | false =>
      have e : doIt N s ⟨dk, dn, v⟩ = (1, s) := by unfold doIt; rw [if_neg k1, if_neg k6, if_pos kk, if_pos hq]
      have HE := Lib.hid e
      have hq' : dn < 1 ∨ (¬ dn < 1 ∧ (N : Int) < dn) := by
        simp [isN] at hq
        by_cases z : dn < 1
        · exact .inl z
        · exact .inr ⟨z, hq (by omega)⟩
      clear e hq k1 k6
      rcases kk with rfl | rfl | rfl | rfl
      all_goals
        rcases hq' with hn | ⟨hn, hn2⟩
        · have hd1 : decide (dn < 1) = true := by simp; omega
          go_enter Try.func22, Try.ntmps22
          go_wp2_with fail
          go_quiet (fail)
          go_wp2
          go_ret
          rw [HE.out]
          exact ⟨rfl, vs, hBA.out.drewN _, (hOA.out.mono (fun _ _ q => q.elim)).drewN _, Nextv.refl _ _ _⟩
        · have hd1 : decide (dn < 1) = false := by simp; omega
          have hd2 : decide ((N : Int) < dn) = true := by simp; omega
          go_enter Try.func22, Try.ntmps22
          go_wp2_with fail
          go_quiet (fail)
          go_wp2
          go_ret
          rw [HE.out]
          exact ⟨rfl, vs, hBA.out.drewN _, (hOA.out.mono (fun _ _ q => q.elim)).drewN _, Nextv.refl _ _ _⟩
    | true =>
      obtain ⟨p, rfl, hn⟩ := isN_form hq
      have hnn : ((p : Int) + 1).toNat - 1 = p := by omega
      have HQ := Lib.hid hq
      have hd1 : decide ((p : Int) + 1 < 1) = false := by simp; omega
      have hd2 : decide ((N : Int) < (p : Int) + 1) = false := by simp; omega
      have hwp : IntKind.i64.wrap ((p : Int) + 1 - 1) = (p : Int) := by rw [IntKind.wrap_i64]; omega
      have hp0 : (0 : Int) ≤ (p : Int) := by omega
      have hp1 : (p : Int) < (N : Int) := by omega
      obtain ⟨ma, mc, hmv⟩ := (HH.out.rows p hn).slice
      obtain ⟨k, hk⟩ : ∃ k, k = (s.logs p).length := ⟨_, rfl⟩
      rw [← hk] at hmv
      clear hk
      obtain ⟨u1, hu1⟩ : ∃ u1, u1 = s.ups p := ⟨_, rfl⟩
      obtain ⟨u2, hu2⟩ : ∃ u2, u2 = s.ins p := ⟨_, rfl⟩
      obtain ⟨u3, hu3⟩ : ∃ u3, u3 = s.mat p := ⟨_, rfl⟩
      have HU1 := Lib.hid hu1
      have HU2 := Lib.hid hu2
      have HU3 := Lib.hid hu3
      have HMV := Lib.hid hmv
      clear hq k1 k6
      rcases kk with rfl | rfl | rfl | rfl
      all_goals
        go_enter Try.func22, Try.ntmps22
        go_wp2_with fail
        go_quiet (fail)
        go_wp2_with fail
        have hB1 := Lib.hid (hBA.out.drewN nq)
        have hO1 := Lib.hid (hOA.out.drewN nq)
        have n0 : (w.alloc (Obj.cells #[.int .i64 _, .int .i64 ((p : Int) + 1), .int .i64 v] 29)).cell? ⟨w.heap.size, 0, none⟩ = _ := d0
        have m0 : ((w.alloc (Obj.cells #[.int .i64 _, .int .i64 ((p : Int) + 1), .int .i64 v] 29)).drewN nq).cell? ⟨m, 0, none⟩ = _ := r0
        have e0 : ((w.alloc (Obj.cells #[.int .i64 _, .int .i64 ((p : Int) + 1), .int .i64 v] 29)).drewN nq).cell? ⟨w.heap.size, 0, none⟩ = _ := d0
        have e1 : ((w.alloc (Obj.cells #[.int .i64 _, .int .i64 ((p : Int) + 1), .int .i64 v] 29)).drewN nq).cell? ⟨w.heap.size, 1, none⟩ = _ := d1
        have hlt : w.heap.size < ((w.alloc (Obj.cells #[.int .i64 _, .int .i64 ((p : Int) + 1), .int .i64 v] 29)).drewN nq).heap.size := World.block_lt_of_cell? _ _ d0
        generalize (w.alloc (Obj.cells #[.int .i64 _, .int .i64 ((p : Int) + 1), .int .i64 v] 29)).drewN nq = w1 at hB1 hO1 m0 e0 e1 hlt ⊢
        have c0 : w1.cell? ⟨bs, p * 4, none⟩ = some (.slice ma k mc) := by rw [hB1.out.log hn]; exact congrArg some hmv
        have c1 : w1.cell? ⟨bs, p * 4 + 1, none⟩ = some (.bool u1) := by rw [hB1.out.up hn, hu1]
        have c2 : w1.cell? ⟨bs, p * 4 + 2, none⟩ = some (.bool u2) := by rw [hB1.out.in_ hn, hu2]
        have c3 : w1.cell? ⟨bs, p * 4 + 3, none⟩ = some (.int .i64 u3) := by rw [hB1.out.mat hn, hu3]
        have hmw : m < w1.heap.size := lt_of_block hB1.out.obj
        have hbw : bs < w1.heap.size := hB1.out.nodes.lt
        clear hmv hu1 hu2 hu3 d0 d1 d2 r0 n0
        generalize hcd : w.heap.size = cd at e0 e1 hlt ⊢
        go_region
        have hC2 : Hid ((w1.alloc (Obj.cells #[.slice ma k mc, .bool u1, .bool u2, .int .i64 u3] 66)).drew.heap[w1.heap.size]? = some (.cells #[.slice ma k mc, .bool u1, .bool u2, .int .i64 u3] 66 (0, 0))) := Lib.hid (block_new w1 _)
        have hB2 : Hid (RBox (w1.alloc (Obj.cells #[.slice ma k mc, .bool u1, .bool u2, .int .i64 u3] 66)).drew m bs N cap vs s) := Lib.hid (hB1.out.only (((Only.refl (fun _ => False) w1).alloc _).drew) (fun _ _ q => q))
        have hO2 : Hid (Only (fun _ => False) w (w1.alloc (Obj.cells #[.slice ma k mc, .bool u1, .bool u2, .int .i64 u3] 66)).drew) := Lib.hid ((hO1.out.alloc _).drew)
        have hNC : Hid (∀ k, (k = m ∨ k = bs ∨ ∃ i, i < N ∧ (vs i).ownBlock = some k) → k ≠ w1.heap.size) := Lib.hid (fun k hk e => by have := hB1.out.lt hk; omega)
        have hlo : Hid (w.heap.size ≤ w1.heap.size) := Lib.hid hO1.out.size
        have hcdb : cd ≠ w1.heap.size := by omega
        have g0 : (w1.alloc (Obj.cells #[.slice ma k mc, .bool u1, .bool u2, .int .i64 u3] 66)).drew.cell? ⟨cd, 0, none⟩ = _ := (World.cell?_of_block (Below.heap_alloc w1 _ cd hlt)).trans e0
        have g1 : (w1.alloc (Obj.cells #[.slice ma k mc, .bool u1, .bool u2, .int .i64 u3] 66)).drew.cell? ⟨cd, 1, none⟩ = _ := (World.cell?_of_block (Below.heap_alloc w1 _ cd hlt)).trans e1
        clear e0 e1 c0 c1 c2 c3 hmw hbw hlt m0
        generalize hcb : w1.heap.size = cb at hC2 hNC hlo hcdb ⊢
        generalize (w1.alloc (Obj.cells #[.slice ma k mc, .bool u1, .bool u2, .int .i64 u3] 66)).drew = w2 at hC2 hB2 hO2 g0 g1 ⊢
        clear hcb hB1 hO1
      · have e : doIt N s ⟨2, (p : Int) + 1, v⟩ = fetch N s p := by unfold doIt; simp [HQ.out, hnn]
        have HE := Lib.hid e
        clear e
        go_wp2_with (go_at_call 34; refine (rfetch_any hB2.out HALL.out p hn).mono ?_; rintro e w' ⟨rfl, hd⟩; have HD := Lib.hid hd; clear hd)
        go_ret
        rw [HE.out]
        exact RDid.back hO2.out ⟨rfl, HD.out⟩
      · have e : doIt N s ⟨3, (p : Int) + 1, v⟩ = fail N s p := by unfold doIt; simp [HQ.out, hnn]
        have HE := Lib.hid e
        clear e
        have q0 : w2.cell? ⟨cb, 0, none⟩ = some (.slice ma k mc) := cell_of hC2.out 0
        have q1 : w2.cell? ⟨cb, 1, none⟩ = some (.bool u1) := cell_of hC2.out 1
        have q2 : w2.cell? ⟨cb, 2, none⟩ = some (.bool u2) := cell_of hC2.out 2
        have q3 : w2.cell? ⟨m, 2, none⟩ = some (.int .i64 s.lead) := cell_of hB2.out.obj 2
        have qf1 : w2.frozen? ⟨cb, 1, none⟩ = false := free_of hC2.out 1
        have qf2 : w2.frozen? ⟨cb, 2, none⟩ = false := free_of hC2.out 2
        cases u1 with
        | false =>
          go_wp2_with fail
          go_ret
          rw [HE.out, Rp.fail, if_pos HU1.out.symm]
          exact ⟨rfl, vs, hB2.out, hO2.out.mono (fun _ _ q => q.elim), Nextv.refl _ _ _⟩
        | true =>
          go_wp2_with fail
          have HB3 : Hid (RBox (w2.setCell ⟨cb, 1, none⟩ (.bool false)) m bs N cap vs s) := Lib.hid (hB2.out.only ((Only.refl (fun k => k = cb) w2).setCell (p := ⟨cb, 1, none⟩) (.inr rfl) _) (fun k hk e => hNC.out k hk e))
          have HO3 : Hid (Only (fun _ => False) w (w2.setCell ⟨cb, 1, none⟩ (.bool false))) := Lib.hid (hO2.out.setCell (p := ⟨cb, 1, none⟩) (.inl hlo.out) _)
          have HC3 : Hid ((w2.setCell ⟨cb, 1, none⟩ (.bool false)).heap[cb]? = some (.cells #[.slice ma k mc, .bool false, .bool u2, .int .i64 u3] 66 (0, 0))) := Lib.hid (block_set hC2.out (i := 1) (.bool false))
          have k13 : (w2.setCell ⟨cb, 1, none⟩ (.bool false)).cell? ⟨cd, 1, none⟩ = some (.int .i64 ((p : Int) + 1)) := (World.cell?_of_block (Below.heap_setCell w2 _ _ _ hcdb)).trans g1
          have k23 : (w2.setCell ⟨cb, 1, none⟩ (.bool false)).cell? ⟨m, 2, none⟩ = some (.int .i64 s.lead) := cell_of HB3.out.obj 2
          clear q0 q1 q2 q3 qf1 qf2 g0 g1 hB2 hO2 hC2
          generalize w2.setCell ⟨cb, 1, none⟩ (.bool false) = w3 at HB3 HO3 HC3 k13 k23 ⊢
          by_cases h1 : p + 1 = s.lead
          · have hle : ((s.lead : Int) == (p : Int) + 1) = true := by simp; omega
            have H1 := Lib.hid h1
            clear h1
            go_quiet (fail)
            have HB4 := Lib.hid (HB3.out.drewN nq)
            have HO4 := Lib.hid (HO3.out.drewN nq)
            have HC4 : Hid ((w3.drewN nq).heap[cb]? = some (.cells #[.slice ma k mc, .bool false, .bool u2, .int .i64 u3] 66 (0, 0))) := HC3
            have k14 : (w3.drewN nq).cell? ⟨cd, 1, none⟩ = some (.int .i64 ((p : Int) + 1)) := k13
            have k24 : (w3.drewN nq).cell? ⟨m, 2, none⟩ = some (.int .i64 s.lead) := k23
            have kf4 : (w3.drewN nq).frozen? ⟨m, 2, none⟩ = false := free_of HB4.out.obj 2
            have hmc : cb ≠ m := fun e => hNC.out m (.inl rfl) e.symm
            have hmd : cd ≠ m := by have := lt_of_block HH.out.obj; omega
            clear k13 k23 HB3 HO3 HC3
            generalize w3.drewN nq = w4 at HB4 HO4 HC4 k14 k24 kf4 ⊢
            go_wp2_with fail
            have HBX : Hid (RBox (w4.setCell ⟨m, 2, none⟩ (.int .i64 0)) m bs N cap vs { s with lead := 0 }) := Lib.hid (HB4.out.setObj 2 (.int .i64 0) { s with lead := 0 } (by simp) rfl rfl rfl rfl)
            have HOX : Hid (Only (RFt m bs) w (w4.setCell ⟨m, 2, none⟩ (.int .i64 0))) := Lib.hid ((HO4.out.mono (fun _ _ q => q.elim)).setCell (p := ⟨m, 2, none⟩) (.inr (.inl rfl)) _)
            have HCX : Hid ((w4.setCell ⟨m, 2, none⟩ (.int .i64 0)).heap[cb]? = some (.cells #[.slice ma k mc, .bool false, .bool u2, .int .i64 u3] 66 (0, 0))) := Lib.hid (block_far HC4.out hmc _)
            have k1X : (w4.setCell ⟨m, 2, none⟩ (.int .i64 0)).cell? ⟨cd, 1, none⟩ = some (.int .i64 ((p : Int) + 1)) := (World.cell?_of_block (Below.heap_setCell w4 _ _ _ hmd)).trans k14
            clear k14 k24 kf4 HB4 HO4 HC4 hle
            generalize w4.setCell ⟨m, 2, none⟩ (.int .i64 0) = w5 at HBX HOX HCX k1X ⊢
            have y0 : w5.cell? ⟨m, 0, none⟩ = some (.slice (some ⟨bs, 0, none⟩) N cap) := cell_of HBX.out.obj 0
            have z0 : w5.cell? ⟨cb, 0, none⟩ = some (.slice ma k mc) := cell_of HCX.out 0
            have z1 : w5.cell? ⟨cb, 1, none⟩ = some (.bool false) := cell_of HCX.out 1
            have z2 : w5.cell? ⟨cb, 2, none⟩ = some (.bool u2) := cell_of HCX.out 2
            have z3 : w5.cell? ⟨cb, 3, none⟩ = some (.int .i64 u3) := cell_of HCX.out 3
            have s0 : w5.cell? ⟨bs, p * 4, none⟩ = _ := HBX.out.log hn
            have s1 : w5.cell? ⟨bs, p * 4 + 1, none⟩ = _ := HBX.out.up hn
            have s2 : w5.cell? ⟨bs, p * 4 + 2, none⟩ = _ := HBX.out.in_ hn
            have s3 : w5.cell? ⟨bs, p * 4 + 3, none⟩ = _ := HBX.out.mat hn
            have xf : ∀ j, w5.frozen? ⟨bs, j, none⟩ = false := fun j => HBX.out.nodes.free j
            have xf0 := xf (p * 4)
            have xf1 := xf (p * 4 + 1)
            have xf2 := xf (p * 4 + 2)
            have xf3 := xf (p * 4 + 3)
            clear xf
            go_region
            have HB6 : Hid (RBox _ m bs N cap vs { s with ups := upd s.ups p false, lead := 0 }) := Lib.hid (HBX.out.setSame (i := p) (v := .slice ma k mc) (u := false) (c := u2) (k := u3) (s' := { s with ups := upd s.ups p false, lead := 0 }) hn HMV.out.symm HU3.out rfl rfl rfl rfl rfl (by show s.ins = upd s.ins p u2; rw [upd_self _ _ _ HU2.out]) rfl).drew
            have HO6 : Hid (Only (RFt m bs) w _) := Lib.hid ((((HOX.out.setCell (p := ⟨bs, p * 4, none⟩) (.inr (.inr rfl)) (.slice ma k mc)).setCell (p := ⟨bs, p * 4 + 1, none⟩) (.inr (.inr rfl)) (.bool false)).setCell (p := ⟨bs, p * 4 + 2, none⟩) (.inr (.inr rfl)) (.bool u2)).setCell (p := ⟨bs, p * 4 + 3, none⟩) (.inr (.inr rfl)) (.int .i64 u3)).drew
            have t2 : World.cell? _ ⟨m, 2, none⟩ = some (.int .i64 ((0 : Nat) : Int)) := cell_of HB6.out.obj 2
            clear y0 z0 z1 z2 z3 s0 s1 s2 s3 xf0 xf1 xf2 xf3
            go_wp2_with fail
            go_ret
            rw [HE.out, Rp.fail, if_neg (by rw [← HU1.out]; decide), if_pos H1.out]
            exact ⟨rfl, vs, HB6.out, HO6.out, Nextv.refl _ _ _⟩
          · have hle : ((s.lead : Int) == (p : Int) + 1) = false := by simp; omega
            have H1 := Lib.hid h1
            clear h1
            by_cases h0 : s.lead = 0
            · have hd0 : decide (0 < s.lead) = false := by simp; omega
              go_quiet (fail)
              go_wp2_with fail
              have HBX := Lib.hid (HB3.out.drewN nq)
              have HOX : Hid (Only (RFt m bs) w (w3.drewN nq)) := Lib.hid ((HO3.out.mono (fun _ _ q => q.elim)).drewN nq)
              have HCX : Hid ((w3.drewN nq).heap[cb]? = some (.cells #[.slice ma k mc, .bool false, .bool u2, .int .i64 u3] 66 (0, 0))) := HC3
              have k1X : (w3.drewN nq).cell? ⟨cd, 1, none⟩ = some (.int .i64 ((p : Int) + 1)) := k13
              clear k13 k23 HB3 HO3 HC3 hle
              generalize w3.drewN nq = w5 at HBX HOX HCX k1X ⊢
              have y0 : w5.cell? ⟨m, 0, none⟩ = some (.slice (some ⟨bs, 0, none⟩) N cap) := cell_of HBX.out.obj 0
              have z0 : w5.cell? ⟨cb, 0, none⟩ = some (.slice ma k mc) := cell_of HCX.out 0
              have z1 : w5.cell? ⟨cb, 1, none⟩ = some (.bool false) := cell_of HCX.out 1
              have z2 : w5.cell? ⟨cb, 2, none⟩ = some (.bool u2) := cell_of HCX.out 2
              have z3 : w5.cell? ⟨cb, 3, none⟩ = some (.int .i64 u3) := cell_of HCX.out 3
              have s0 : w5.cell? ⟨bs, p * 4, none⟩ = _ := HBX.out.log hn
              have s1 : w5.cell? ⟨bs, p * 4 + 1, none⟩ = _ := HBX.out.up hn
              have s2 : w5.cell? ⟨bs, p * 4 + 2, none⟩ = _ := HBX.out.in_ hn
              have s3 : w5.cell? ⟨bs, p * 4 + 3, none⟩ = _ := HBX.out.mat hn
              have xf : ∀ j, w5.frozen? ⟨bs, j, none⟩ = false := fun j => HBX.out.nodes.free j
              have xf0 := xf (p * 4)
              have xf1 := xf (p * 4 + 1)
              have xf2 := xf (p * 4 + 2)
              have xf3 := xf (p * 4 + 3)
              clear xf
              go_region
              have HB6 : Hid (RBox _ m bs N cap vs { s with ups := upd s.ups p false }) := Lib.hid (HBX.out.setSame (i := p) (v := .slice ma k mc) (u := false) (c := u2) (k := u3) (s' := { s with ups := upd s.ups p false }) hn HMV.out.symm HU3.out rfl rfl rfl rfl rfl (by show s.ins = upd s.ins p u2; rw [upd_self _ _ _ HU2.out]) rfl).drew
              have HO6 : Hid (Only (RFt m bs) w _) := Lib.hid ((((HOX.out.setCell (p := ⟨bs, p * 4, none⟩) (.inr (.inr rfl)) (.slice ma k mc)).setCell (p := ⟨bs, p * 4 + 1, none⟩) (.inr (.inr rfl)) (.bool false)).setCell (p := ⟨bs, p * 4 + 2, none⟩) (.inr (.inr rfl)) (.bool u2)).setCell (p := ⟨bs, p * 4 + 3, none⟩) (.inr (.inr rfl)) (.int .i64 u3)).drew
              have t2 : World.cell? _ ⟨m, 2, none⟩ = some (.int .i64 s.lead) := cell_of HB6.out.obj 2
              clear y0 z0 z1 z2 z3 s0 s1 s2 s3 xf0 xf1 xf2 xf3
              go_wp2_with fail
              go_ret
              rw [HE.out, Rp.fail, if_neg (by rw [← HU1.out]; decide), if_neg H1.out, if_neg (fun q => q.1 h0)]
              exact ⟨rfl, vs, HB6.out, HO6.out, Nextv.refl _ _ _⟩
            · have hd0 : decide (0 < s.lead) = true := by simp; omega
              have c23 : w3.cell? ⟨cb, 2, none⟩ = some (.bool u2) := cell_of HC3.out 2
              have c2f : w3.frozen? ⟨cb, 2, none⟩ = false := free_of HC3.out 2
              go_quiet (fail)
              have HB4 := Lib.hid (HB3.out.drewN nq)
              have HO4 := Lib.hid (HO3.out.drewN nq)
              have HC4 : Hid ((w3.drewN nq).heap[cb]? = some (.cells #[.slice ma k mc, .bool false, .bool u2, .int .i64 u3] 66 (0, 0))) := HC3
              have k24 : (w3.drewN nq).cell? ⟨m, 2, none⟩ = some (.int .i64 s.lead) := k23
              have k14 : (w3.drewN nq).cell? ⟨cd, 1, none⟩ = some (.int .i64 ((p : Int) + 1)) := k13
              have c24 : (w3.drewN nq).cell? ⟨cb, 2, none⟩ = some (.bool u2) := c23
              have c2g : (w3.drewN nq).frozen? ⟨cb, 2, none⟩ = false := c2f
              clear k13 k23 c23 c2f HB3 HO3 HC3
              generalize w3.drewN nq = w4 at HB4 HO4 HC4 k14 k24 c24 c2g ⊢
              go_wp2_with fail
              have HBX : Hid (RBox (w4.setCell ⟨cb, 2, none⟩ (.bool false)) m bs N cap vs s) := Lib.hid (HB4.out.only ((Only.refl (fun k => k = cb) w4).setCell (p := ⟨cb, 2, none⟩) (.inr rfl) _) (fun k hk e => hNC.out k hk e))
              have HOX : Hid (Only (RFt m bs) w (w4.setCell ⟨cb, 2, none⟩ (.bool false))) := Lib.hid ((HO4.out.setCell (p := ⟨cb, 2, none⟩) (.inl hlo.out) _).mono (fun _ _ q => q.elim))
              have HCX : Hid ((w4.setCell ⟨cb, 2, none⟩ (.bool false)).heap[cb]? = some (.cells #[.slice ma k mc, .bool false, .bool false, .int .i64 u3] 66 (0, 0))) := Lib.hid (block_set HC4.out (i := 2) (.bool false))
              have k1X : (w4.setCell ⟨cb, 2, none⟩ (.bool false)).cell? ⟨cd, 1, none⟩ = some (.int .i64 ((p : Int) + 1)) := (World.cell?_of_block (Below.heap_setCell w4 _ _ _ hcdb)).trans k14
              clear k14 k24 c24 c2g HB4 HO4 HC4 hle
              generalize w4.setCell ⟨cb, 2, none⟩ (.bool false) = w5 at HBX HOX HCX k1X ⊢
              have y0 : w5.cell? ⟨m, 0, none⟩ = some (.slice (some ⟨bs, 0, none⟩) N cap) := cell_of HBX.out.obj 0
              have z0 : w5.cell? ⟨cb, 0, none⟩ = some (.slice ma k mc) := cell_of HCX.out 0
              have z1 : w5.cell? ⟨cb, 1, none⟩ = some (.bool false) := cell_of HCX.out 1
              have z2 : w5.cell? ⟨cb, 2, none⟩ = some (.bool false) := cell_of HCX.out 2
              have z3 : w5.cell? ⟨cb, 3, none⟩ = some (.int .i64 u3) := cell_of HCX.out 3
              have s0 : w5.cell? ⟨bs, p * 4, none⟩ = _ := HBX.out.log hn
              have s1 : w5.cell? ⟨bs, p * 4 + 1, none⟩ = _ := HBX.out.up hn
              have s2 : w5.cell? ⟨bs, p * 4 + 2, none⟩ = _ := HBX.out.in_ hn
              have s3 : w5.cell? ⟨bs, p * 4 + 3, none⟩ = _ := HBX.out.mat hn
              have xf : ∀ j, w5.frozen? ⟨bs, j, none⟩ = false := fun j => HBX.out.nodes.free j
              have xf0 := xf (p * 4)
              have xf1 := xf (p * 4 + 1)
              have xf2 := xf (p * 4 + 2)
              have xf3 := xf (p * 4 + 3)
              clear xf
              go_region
              have HB6 : Hid (RBox _ m bs N cap vs { s with ups := upd s.ups p false, ins := upd s.ins p false }) := Lib.hid (HBX.out.setSame (i := p) (v := .slice ma k mc) (u := false) (c := false) (k := u3) (s' := { s with ups := upd s.ups p false, ins := upd s.ins p false }) hn HMV.out.symm HU3.out rfl rfl rfl rfl rfl rfl rfl).drew
              have HO6 : Hid (Only (RFt m bs) w _) := Lib.hid ((((HOX.out.setCell (p := ⟨bs, p * 4, none⟩) (.inr (.inr rfl)) (.slice ma k mc)).setCell (p := ⟨bs, p * 4 + 1, none⟩) (.inr (.inr rfl)) (.bool false)).setCell (p := ⟨bs, p * 4 + 2, none⟩) (.inr (.inr rfl)) (.bool false)).setCell (p := ⟨bs, p * 4 + 3, none⟩) (.inr (.inr rfl)) (.int .i64 u3)).drew
              have t2 : World.cell? _ ⟨m, 2, none⟩ = some (.int .i64 s.lead) := cell_of HB6.out.obj 2
              clear y0 z0 z1 z2 z3 s0 s1 s2 s3 xf0 xf1 xf2 xf3
              go_wp2_with (go_at_call 35; refine (rrise_any HB6.out (fit_set HF.out _ _) h0).mono ?_; rintro e w7 ⟨rfl, hb, ho⟩; have H5 := Lib.hid hb; have H6 := Lib.hid ho; clear hb ho)
              go_ret
              cases u2 with
              | true =>
                rw [HE.out, Rp.fail, if_neg (by rw [← HU1.out]; decide), if_neg H1.out, if_pos ⟨h0, HU2.out.symm⟩]
                exact ⟨rfl, vs, H5.out, HO6.out.trans H6.out (fun b _ hb => .inl hb), Nextv.refl _ _ _⟩
              | false =>
                rw [HE.out, Rp.fail, if_neg (by rw [← HU1.out]; decide), if_neg H1.out, if_neg (fun q => by rw [← HU2.out] at q; exact absurd q.2 (by decide))]
                have hsame : ({ s with ups := upd s.ups p false, ins := upd s.ins p false } : St) = { s with ups := upd s.ups p false } := by rw [upd_self _ _ _ HU2.out]
                have hrs : rise N { s with ups := upd s.ups p false, ins := upd s.ins p false } = { s with ups := upd s.ups p false } := by
                  rw [hsame]
                  exact rise_least (Nat.le_trans (Nat.le_of_eq (leastTo_ext s { s with ups := upd s.ups p false } rfl N (fun _ _ => ⟨rfl, rfl⟩))) (HALL.out.k.least h0))
                have h5 := H5.out
                rw [hrs] at h5
                exact ⟨rfl, vs, h5, HO6.out.trans H6.out (fun b _ hb => .inl hb), Nextv.refl _ _ _⟩
      · have e : doIt N s ⟨4, (p : Int) + 1, v⟩ = begin_ s p := by unfold doIt; simp [HQ.out, hnn]
        have HE := Lib.hid e
        clear e
        have q0 : w2.cell? ⟨cb, 0, none⟩ = some (.slice ma k mc) := cell_of hC2.out 0
        have q1 : w2.cell? ⟨cb, 1, none⟩ = some (.bool u1) := cell_of hC2.out 1
        have q2 : w2.cell? ⟨cb, 2, none⟩ = some (.bool u2) := cell_of hC2.out 2
        have q3 : w2.cell? ⟨m, 2, none⟩ = some (.int .i64 s.lead) := cell_of hB2.out.obj 2
        have qf1 : w2.frozen? ⟨cb, 1, none⟩ = false := free_of hC2.out 1
        have qf2 : w2.frozen? ⟨cb, 2, none⟩ = false := free_of hC2.out 2
        cases u1 with
        | true =>
          go_wp2_with fail
          go_ret
          rw [HE.out, begin_, if_pos HU1.out.symm]
          exact ⟨rfl, vs, hB2.out, hO2.out.mono (fun _ _ q => q.elim), Nextv.refl _ _ _⟩
        | false =>
          go_wp2_with fail
          have HB3 : Hid (RBox (w2.setCell ⟨cb, 1, none⟩ (.bool true)) m bs N cap vs s) := Lib.hid (hB2.out.only ((Only.refl (fun k => k = cb) w2).setCell (p := ⟨cb, 1, none⟩) (.inr rfl) _) (fun k hk e => hNC.out k hk e))
          have HO3 : Hid (Only (fun _ => False) w (w2.setCell ⟨cb, 1, none⟩ (.bool true))) := Lib.hid (hO2.out.setCell (p := ⟨cb, 1, none⟩) (.inl hlo.out) _)
          have HC3 : Hid ((w2.setCell ⟨cb, 1, none⟩ (.bool true)).heap[cb]? = some (.cells #[.slice ma k mc, .bool true, .bool u2, .int .i64 u3] 66 (0, 0))) := Lib.hid (block_set hC2.out (i := 1) (.bool true))
          have k13 : (w2.setCell ⟨cb, 1, none⟩ (.bool true)).cell? ⟨cd, 1, none⟩ = some (.int .i64 ((p : Int) + 1)) := (World.cell?_of_block (Below.heap_setCell w2 _ _ _ hcdb)).trans g1
          have k23 : (w2.setCell ⟨cb, 1, none⟩ (.bool true)).cell? ⟨m, 2, none⟩ = some (.int .i64 s.lead) := cell_of HB3.out.obj 2
          have HBX := HB3
          have HCX := HC3
          have HOX : Hid (Only (RFt m bs) w (w2.setCell ⟨cb, 1, none⟩ (.bool true))) := Lib.hid (HO3.out.mono (fun _ _ q => q.elim))
          clear q0 q1 q2 q3 qf1 qf2 g0 g1 k23 HB3 HO3 HC3 hB2 hO2 hC2
          generalize w2.setCell ⟨cb, 1, none⟩ (.bool true) = w3 at HBX HCX HOX k13 ⊢
          have y0 : w3.cell? ⟨m, 0, none⟩ = some (.slice (some ⟨bs, 0, none⟩) N cap) := cell_of HBX.out.obj 0
          have z0 : w3.cell? ⟨cb, 0, none⟩ = some (.slice ma k mc) := cell_of HCX.out 0
          have z1 : w3.cell? ⟨cb, 1, none⟩ = some (.bool true) := cell_of HCX.out 1
          have z2 : w3.cell? ⟨cb, 2, none⟩ = some (.bool u2) := cell_of HCX.out 2
          have z3 : w3.cell? ⟨cb, 3, none⟩ = some (.int .i64 u3) := cell_of HCX.out 3
          have s0 : w3.cell? ⟨bs, p * 4, none⟩ = _ := HBX.out.log hn
          have s1 : w3.cell? ⟨bs, p * 4 + 1, none⟩ = _ := HBX.out.up hn
          have s2 : w3.cell? ⟨bs, p * 4 + 2, none⟩ = _ := HBX.out.in_ hn
          have s3 : w3.cell? ⟨bs, p * 4 + 3, none⟩ = _ := HBX.out.mat hn
          have xf : ∀ j, w3.frozen? ⟨bs, j, none⟩ = false := fun j => HBX.out.nodes.free j
          have xf0 := xf (p * 4)
          have xf1 := xf (p * 4 + 1)
          have xf2 := xf (p * 4 + 2)
          have xf3 := xf (p * 4 + 3)
          clear xf
          go_region
          have HB6 : Hid (RBox _ m bs N cap vs { s with ups := upd s.ups p true }) := Lib.hid (HBX.out.setSame (i := p) (v := .slice ma k mc) (u := true) (c := u2) (k := u3) (s' := { s with ups := upd s.ups p true }) hn HMV.out.symm HU3.out rfl rfl rfl rfl rfl (by show s.ins = upd s.ins p u2; rw [upd_self _ _ _ HU2.out]) rfl).drew
          have HO6 : Hid (Only (RFt m bs) w _) := Lib.hid ((((HOX.out.setCell (p := ⟨bs, p * 4, none⟩) (.inr (.inr rfl)) (.slice ma k mc)).setCell (p := ⟨bs, p * 4 + 1, none⟩) (.inr (.inr rfl)) (.bool true)).setCell (p := ⟨bs, p * 4 + 2, none⟩) (.inr (.inr rfl)) (.bool u2)).setCell (p := ⟨bs, p * 4 + 3, none⟩) (.inr (.inr rfl)) (.int .i64 u3)).drew
          have t2 : World.cell? _ ⟨m, 2, none⟩ = some (.int .i64 s.lead) := cell_of HB6.out.obj 2
          clear y0 z0 z1 z2 z3 s0 s1 s2 s3 xf0 xf1 xf2 xf3
          go_wp2_with fail
          go_ret
          rw [HE.out, begin_, if_neg (by rw [← HU1.out]; decide)]
          exact ⟨rfl, vs, HB6.out, HO6.out, Nextv.refl _ _ _⟩
      · have e : doIt N s ⟨5, (p : Int) + 1, v⟩ = shrink N s p := by unfold doIt; simp [HQ.out, hnn]
        have HE := Lib.hid e
        clear e
        have q0 : w2.cell? ⟨cb, 0, none⟩ = some (.slice ma k mc) := cell_of hC2.out 0
        have q1 : w2.cell? ⟨cb, 1, none⟩ = some (.bool u1) := cell_of hC2.out 1
        have q2 : w2.cell? ⟨cb, 2, none⟩ = some (.bool u2) := cell_of hC2.out 2
        have q3 : w2.cell? ⟨m, 2, none⟩ = some (.int .i64 s.lead) := cell_of hB2.out.obj 2
        have qf1 : w2.frozen? ⟨cb, 1, none⟩ = false := free_of hC2.out 1
        have qf2 : w2.frozen? ⟨cb, 2, none⟩ = false := free_of hC2.out 2
        by_cases h0 : s.lead = 0
        · rw [h0] at q3
          go_wp2_with fail
          go_ret
          rw [HE.out, shrink, if_pos h0]
          exact ⟨rfl, vs, hB2.out, hO2.out.mono (fun _ _ q => q.elim), Nextv.refl _ _ _⟩
        · have hne : ((s.lead : Int) == 0) = false := by simp; omega
          by_cases h1 : p + 1 = s.lead
          · have hle : ((s.lead : Int) == (p : Int) + 1) = true := by simp; omega
            have H1 := Lib.hid h1
            clear h1
            go_wp2_with fail
            go_quiet (fail)
            go_wp2
            go_ret
            rw [HE.out, shrink, if_neg h0, if_pos (.inl H1.out)]
            exact ⟨rfl, vs, hB2.out.drewN _, (hO2.out.mono (fun _ _ q => q.elim)).drewN _, Nextv.refl _ _ _⟩
          · have hle : ((s.lead : Int) == (p : Int) + 1) = false := by simp; omega
            have H1 := Lib.hid h1
            clear h1
            cases u2 with
            | false =>
              go_wp2_with fail
              go_quiet (fail)
              go_wp2
              go_ret
              rw [HE.out, shrink, if_neg h0, if_pos (.inr HU2.out.symm)]
              exact ⟨rfl, vs, hB2.out.drewN _, (hO2.out.mono (fun _ _ q => q.elim)).drewN _, Nextv.refl _ _ _⟩
            | true =>
              go_wp2_with fail
              go_quiet (fail)
              have hB3 : Hid (RBox (w2.drewN nq) m bs N cap vs s) := Lib.hid (hB2.out.drewN nq)
              have hO3 : Hid (Only (fun _ => False) w (w2.drewN nq)) := Lib.hid (hO2.out.drewN nq)
              have hC3 : Hid ((w2.drewN nq).heap[cb]? = some (.cells #[.slice ma k mc, .bool u1, .bool true, .int .i64 u3] 66 (0, 0))) := hC2
              have g1 : (w2.drewN nq).cell? ⟨cd, 1, none⟩ = some (.int .i64 ((p : Int) + 1)) := g1
              have q2 : (w2.drewN nq).cell? ⟨cb, 2, none⟩ = some (.bool true) := q2
              have qf2 : (w2.drewN nq).frozen? ⟨cb, 2, none⟩ = false := qf2
              clear q0 q1 q3 qf1 g0 hB2 hO2 hC2
              generalize w2.drewN nq = w5 at hB3 hO3 hC3 g1 q2 qf2 ⊢
              go_wp2_with fail
              have HB4 : Hid (RBox (w5.setCell ⟨cb, 2, none⟩ (.bool false)) m bs N cap vs s) := Lib.hid (hB3.out.only ((Only.refl (fun k => k = cb) w5).setCell (p := ⟨cb, 2, none⟩) (.inr rfl) _) (fun k hk e => hNC.out k hk e))
              have HO4 : Hid (Only (fun _ => False) w (w5.setCell ⟨cb, 2, none⟩ (.bool false))) := Lib.hid (hO3.out.setCell (p := ⟨cb, 2, none⟩) (.inl hlo.out) _)
              have HC4 : Hid ((w5.setCell ⟨cb, 2, none⟩ (.bool false)).heap[cb]? = some (.cells #[.slice ma k mc, .bool u1, .bool false, .int .i64 u3] 66 (0, 0))) := Lib.hid (block_set hC3.out (i := 2) (.bool false))
              have k14 : (w5.setCell ⟨cb, 2, none⟩ (.bool false)).cell? ⟨cd, 1, none⟩ = some (.int .i64 ((p : Int) + 1)) := (World.cell?_of_block (Below.heap_setCell w5 _ _ _ hcdb)).trans g1
              have k24 : (w5.setCell ⟨cb, 2, none⟩ (.bool false)).cell? ⟨m, 2, none⟩ = some (.int .i64 s.lead) := cell_of HB4.out.obj 2
              have HBX := HB4
              have HCX := HC4
              have HOX : Hid (Only (RFt m bs) w (w5.setCell ⟨cb, 2, none⟩ (.bool false))) := Lib.hid (HO4.out.mono (fun _ _ q => q.elim))
              clear q2 qf2 g1 k24 HB4 HO4 HC4 hB3 hO3 hC3
              generalize w5.setCell ⟨cb, 2, none⟩ (.bool false) = w6 at HBX HCX HOX k14 ⊢
              have y0 : w6.cell? ⟨m, 0, none⟩ = some (.slice (some ⟨bs, 0, none⟩) N cap) := cell_of HBX.out.obj 0
              have z0 : w6.cell? ⟨cb, 0, none⟩ = some (.slice ma k mc) := cell_of HCX.out 0
              have z1 : w6.cell? ⟨cb, 1, none⟩ = some (.bool u1) := cell_of HCX.out 1
              have z2 : w6.cell? ⟨cb, 2, none⟩ = some (.bool false) := cell_of HCX.out 2
              have z3 : w6.cell? ⟨cb, 3, none⟩ = some (.int .i64 u3) := cell_of HCX.out 3
              have s0 : w6.cell? ⟨bs, p * 4, none⟩ = _ := HBX.out.log hn
              have s1 : w6.cell? ⟨bs, p * 4 + 1, none⟩ = _ := HBX.out.up hn
              have s2 : w6.cell? ⟨bs, p * 4 + 2, none⟩ = _ := HBX.out.in_ hn
              have s3 : w6.cell? ⟨bs, p * 4 + 3, none⟩ = _ := HBX.out.mat hn
              have xf : ∀ j, w6.frozen? ⟨bs, j, none⟩ = false := fun j => HBX.out.nodes.free j
              have xf0 := xf (p * 4)
              have xf1 := xf (p * 4 + 1)
              have xf2 := xf (p * 4 + 2)
              have xf3 := xf (p * 4 + 3)
              clear xf
              go_region
              have HB6 : Hid (RBox _ m bs N cap vs { s with ins := upd s.ins p false }) := Lib.hid (HBX.out.setSame (i := p) (v := .slice ma k mc) (u := u1) (c := false) (k := u3) (s' := { s with ins := upd s.ins p false }) hn HMV.out.symm HU3.out rfl rfl rfl rfl (by show s.ups = upd s.ups p u1; rw [upd_self _ _ _ HU1.out]) rfl rfl).drew
              have HO6 : Hid (Only (RFt m bs) w _) := Lib.hid ((((HOX.out.setCell (p := ⟨bs, p * 4, none⟩) (.inr (.inr rfl)) (.slice ma k mc)).setCell (p := ⟨bs, p * 4 + 1, none⟩) (.inr (.inr rfl)) (.bool u1)).setCell (p := ⟨bs, p * 4 + 2, none⟩) (.inr (.inr rfl)) (.bool false)).setCell (p := ⟨bs, p * 4 + 3, none⟩) (.inr (.inr rfl)) (.int .i64 u3)).drew
              have t2 : World.cell? _ ⟨m, 2, none⟩ = some (.int .i64 s.lead) := cell_of HB6.out.obj 2
              clear y0 z0 z1 z2 z3 s0 s1 s2 s3 xf0 xf1 xf2 xf3
              go_wp2_with (go_at_call 35; refine (rrise_any HB6.out (fit_set HF.out s.ups _) h0).mono ?_; rintro e w7 ⟨rfl, hb, ho⟩; have H5 := Lib.hid hb; have H6 := Lib.hid ho; clear hb ho)
              go_ret
              rw [HE.out, shrink, if_neg h0, if_neg (by rw [← HU2.out]; simp [H1.out])]
              exact ⟨rfl, vs, H5.out, HO6.out.trans H6.out (fun b _ hb => .inl hb), Nextv.refl _ _ _⟩
  · have e : doIt N s ⟨dk, dn, v⟩ = (1, s) := by unfold doIt; rw [if_neg k1, if_neg k6, if_neg kk]
    have HE := Lib.hid e
    by_cases hk2 : dk < 2
    · have hd1 : decide (dk < 2) = true := by simp; omega
      clear e kk
      go_enter Try.func22, Try.ntmps22
      go_wp2_with fail
      go_quiet (fail)
      go_wp2
      go_ret
      rw [HE.out]
      exact ⟨rfl, vs, hBA.out.drewN _, (hOA.out.mono (fun _ _ q => q.elim)).drewN _, Nextv.refl _ _ _⟩
    · have hd1 : decide (dk < 2) = false := by simp; omega
      have hd2 : decide (5 < dk) = true := by simp; omega
      clear e kk
      go_enter Try.func22, Try.ntmps22
      go_wp2_with fail
      go_quiet (fail)
      go_wp2
      go_ret
      rw [HE.out]
      exact ⟨rfl, vs, hBA.out.drewN _, (hOA.out.mono (fun _ _ q => q.elim)).drewN _, Nextv.refl _ _ _⟩
end Go.Proofs.Ytcehlajkpnhdiaa.Ra
