/- The contract of Do. -/
import Derived.Test.YtcehlajkpnhdiaaRh
import Derived.Test.YtcehlajkpnhdiaaRe
namespace Go.Proofs.Ytcehlajkpnhdiaa.Ra
open Go.RowKit Go.Proofs.Ytcehlajkpnhdiaa.Rw Go.Proofs.Ytcehlajkpnhdiaa.Rp
set_option linter.unusedSimpArgs false
set_option linter.unusedVariables false
variable {w w1 : World} {m bn bi bm N : Nat} {vs : Nat → Value} {s : St}
theorem Did.back {rs : Int × St} {wb w' : World} {e : Ending} (ho : Only (fun _ => False) w wb) (hd : Did m bn bi bm N vs rs wb e w') : Did m bn bi bm N vs rs w e w' := by
  obtain ⟨rfl, vs', hb, h1, h2⟩ := hd
  refine ⟨rfl, vs', hb, (ho.mono (fun _ _ q => q.elim)).trans h1 (fun _ _ q => q), fun i g hi hg => ?_⟩
  rcases h2 i g hi hg with q | q
  · exact .inl q
  · exact .inr (Nat.le_trans ho.size q)
def dv (d : Deed) : Value := .agg #[.int .i64 d.kind, .int .i64 d.n, .int .i64 d.v]
theorem isN_succ (N n : Nat) (h : n < N) : isN N ((n : Int) + 1) = true := by simp [isN]; omega
theorem isN_form {N : Nat} {x : Int} (h : isN N x = true) : ∃ n : Nat, x = (n : Int) + 1 ∧ n < N := by
  simp [isN] at h
  exact ⟨x.toNat - 1, by omega, by omega⟩
set_option maxHeartbeats 3200000 in
set_option maxRecDepth 100000 in
theorem do_any (h : Box w m bn bi bm N vs s) (hf : Fit N s) (he : s.epoch ≤ 1000000) (d : Deed) : Calls Try.prog 11 #[.pointer (some ⟨m, 0, none⟩), dv d] w (Did m bn bi bm N vs (doIt N s d) w) := by
  obtain ⟨dk, dn, v⟩ := d
  have hl := hf.lead
  have hN := hf.n5
  have hBA : Hid (Box (w.alloc (Obj.cells #[.int .i64 dk, .int .i64 dn, .int .i64 v] 29)) m bn bi bm N vs s) := Lib.hid (h.only ((Only.refl (fun _ => False) w).alloc _) (fun _ _ q => q))
  have hOA : Hid (Only (fun _ => False) w (w.alloc (Obj.cells #[.int .i64 dk, .int .i64 dn, .int .i64 v] 29))) := Lib.hid ((Only.refl (fun _ => False) w).alloc _)
  have HH := Lib.hid h
  have HF := Lib.hid hf
  clear h hf
  show Calls Try.prog 11 #[.pointer (some ⟨m, 0, none⟩), .agg #[.int .i64 dk, .int .i64 dn, .int .i64 v]] w (Did m bn bi bm N vs (doIt N s ⟨dk, dn, v⟩) w)
  by_cases k1 : dk = 1
  · subst k1
    go_enter Try.func11, Try.ntmps11
    go_wp2_with (go_at_call 25; refine (put_any hBA.out HF.out v).mono ?_; rintro e w' ⟨rfl, hd⟩; have HD := Lib.hid hd; clear hd)
    go_ret
    exact Did.back hOA.out ⟨rfl, HD.out⟩
  by_cases k6 : dk = 6
  · subst k6
    go_enter Try.func11, Try.ntmps11
    go_wp2_with (go_at_call 26; refine (elect_any hBA.out HF.out he).mono ?_; rintro e w' ⟨rfl, hd⟩; have HD := Lib.hid hd; clear hd)
    go_ret
    exact Did.back hOA.out ⟨rfl, HD.out⟩
  by_cases kk : dk = 2 ∨ dk = 3 ∨ dk = 4 ∨ dk = 5
  · have r0 : (w.alloc (Obj.cells #[.int .i64 dk, .int .i64 dn, .int .i64 v] 29)).cell? ⟨m, 0, none⟩ = some (.slice (some ⟨bn, 0, none⟩) N N) := cell_of hBA.out.obj 0
    cases hq : isN N dn with
    | false =>
      have e : doIt N s ⟨dk, dn, v⟩ = (1, s) := by unfold doIt; rw [if_neg k1, if_neg k6, if_pos kk, if_pos hq]
      have HQ := Lib.hid hq
      have HE := Lib.hid e
      clear e hq
      rcases kk with rfl | rfl | rfl | rfl
      all_goals
        go_enter Try.func11, Try.ntmps11
        go_wp2_with (go_at_call 27; refine (is_any dn N bn hN _ r0).mono ?_; rintro e w' ⟨rfl, rfl⟩; rw [HQ.out])
        go_ret
        rw [HE.out]
        exact ⟨rfl, vs, hBA.out, hOA.out.mono (fun _ _ q => q.elim), Nextv.refl _ _ _⟩
    | true =>
      obtain ⟨n, rfl, hn⟩ := isN_form hq
      have hnn : ((n : Int) + 1).toNat - 1 = n := by omega
      have hwr : IntKind.i64.wrap ((n : Int) + 1 - 1) = (n : Int) := by rw [IntKind.wrap_i64]; omega
      have HQ := Lib.hid hq
      clear hq
      rcases kk with rfl | rfl | rfl | rfl
      · have e : doIt N s ⟨2, (n : Int) + 1, v⟩ = fetch N s n := by unfold doIt; simp [HQ.out, hnn]
        have HE := Lib.hid e
        clear e
        go_enter Try.func11, Try.ntmps11
        go_wp2_with (first
          | (go_at_call 27; refine (is_any ((n : Int) + 1) N bn hN _ r0).mono ?_; rintro e w' ⟨rfl, rfl⟩; rw [HQ.out])
          | (go_at_call 28; refine (fetch_any hBA.out HF.out n hn).mono ?_; rintro e w' ⟨rfl, hd⟩; have HD := Lib.hid hd; clear hd))
        go_ret
        rw [HE.out]
        exact Did.back hOA.out ⟨rfl, HD.out⟩
      · have e : doIt N s ⟨3, (n : Int) + 1, v⟩ = fail N s n := by unfold doIt; simp [HQ.out, hnn]
        have HE := Lib.hid e
        clear e
        go_enter Try.func11, Try.ntmps11
        go_wp2_with (first
          | (go_at_call 27; refine (is_any ((n : Int) + 1) N bn hN _ r0).mono ?_; rintro e w' ⟨rfl, rfl⟩; rw [HQ.out])
          | (go_at_call 29; refine (fail_any hBA.out HF.out n hn).mono ?_; rintro e w' ⟨rfl, hd⟩; have HD := Lib.hid hd; clear hd))
        go_ret
        rw [HE.out]
        exact Did.back hOA.out ⟨rfl, HD.out⟩
      · have e : doIt N s ⟨4, (n : Int) + 1, v⟩ = begin_ s n := by unfold doIt; simp [HQ.out, hnn]
        have HE := Lib.hid e
        clear e
        have hp0 : (0 : Int) ≤ (n : Int) := by omega
        have hp1 : (n : Int) < (N : Int) := by omega
        have hmw : m < w.heap.size := lt_of_block HH.out.obj
        have hbw : bn < w.heap.size := HH.out.nodes.lt
        have cu : (w.alloc (Obj.cells #[.int .i64 4, .int .i64 ((n : Int) + 1), .int .i64 v] 29)).cell? ⟨bn, n * 2 + 1, none⟩ = some (.bool (s.ups n)) := hBA.out.up hn
        have pu : (w.alloc (Obj.cells #[.int .i64 4, .int .i64 ((n : Int) + 1), .int .i64 v] 29)).frozen? ⟨bn, n * 2 + 1, none⟩ = false := hBA.out.nodes.free _
        cases hu : s.ups n with
        | true =>
          rw [hu] at cu
          have HU := Lib.hid hu
          clear hu
          go_enter Try.func11, Try.ntmps11
          go_wp2_with (go_at_call 27; refine (is_any ((n : Int) + 1) N bn hN _ r0).mono ?_; rintro e w' ⟨rfl, rfl⟩; rw [HQ.out])
          go_ret
          rw [HE.out, begin_, if_pos HU.out]
          exact ⟨rfl, vs, hBA.out, hOA.out.mono (fun _ _ q => q.elim), Nextv.refl _ _ _⟩
        | false =>
          rw [hu] at cu
          have HU := Lib.hid hu
          clear hu
          go_enter Try.func11, Try.ntmps11
          go_wp2_with (go_at_call 27; refine (is_any ((n : Int) + 1) N bn hN _ r0).mono ?_; rintro e w' ⟨rfl, rfl⟩; rw [HQ.out])
          go_ret
          rw [HE.out, begin_, if_neg (by rw [HU.out]; decide)]
          exact ⟨rfl, vs, (HH.out.setUp n true).only ((Only.refl (fun _ => False) _).alloc _) (fun _ _ q => q), ((Only.refl _ w).setCell (p := ⟨bn, n * 2 + 1, none⟩) (.inr (.inr (.inl rfl))) _).alloc _, Nextv.refl _ _ _⟩
      · have e : doIt N s ⟨5, (n : Int) + 1, v⟩ = shrink N s n := by unfold doIt; simp [HQ.out, hnn]
        have HE := Lib.hid e
        clear e
        have hp0 : (0 : Int) ≤ (n : Int) := by omega
        have hp1 : (n : Int) < (N : Int) := by omega
        have r2 : (w.alloc (Obj.cells #[.int .i64 5, .int .i64 ((n : Int) + 1), .int .i64 v] 29)).cell? ⟨m, 2, none⟩ = some (.int .i64 s.lead) := cell_of hBA.out.obj 2
        have r3 : (w.alloc (Obj.cells #[.int .i64 5, .int .i64 ((n : Int) + 1), .int .i64 v] 29)).cell? ⟨m, 3, none⟩ = some (.slice (some ⟨bi, 0, none⟩) N N) := cell_of hBA.out.obj 3
        have ci : (w.alloc (Obj.cells #[.int .i64 5, .int .i64 ((n : Int) + 1), .int .i64 v] 29)).cell? ⟨bi, n, none⟩ = some (.bool (s.ins n)) := hBA.out.ins.cell _ hn
        have pi : (w.alloc (Obj.cells #[.int .i64 5, .int .i64 ((n : Int) + 1), .int .i64 v] 29)).frozen? ⟨bi, n, none⟩ = false := hBA.out.ins.free _
        have rb1 : (w.alloc (Obj.cells #[.int .i64 5, .int .i64 ((n : Int) + 1), .int .i64 v] 29)).cell? ⟨w.heap.size, 1, none⟩ = some (.int .i64 ((n : Int) + 1)) := cell_of (block_new w _) 1
        by_cases h0 : s.lead = 0
        · rw [h0] at r2
          go_enter Try.func11, Try.ntmps11
          go_wp2_with (go_at_call 27; refine (is_any ((n : Int) + 1) N bn hN _ r0).mono ?_; rintro e w' ⟨rfl, rfl⟩; rw [HQ.out])
          go_ret
          rw [HE.out, shrink, if_pos h0]
          exact ⟨rfl, vs, hBA.out, hOA.out.mono (fun _ _ q => q.elim), Nextv.refl _ _ _⟩
        have hne : ((s.lead : Int) == 0) = false := by simp; omega
        by_cases h1 : n + 1 = s.lead
        · have hd : (((n : Int) + 1) == (s.lead : Int)) = true := by simp; omega
          go_enter Try.func11, Try.ntmps11
          go_wp2_with (go_at_call 27; refine (is_any ((n : Int) + 1) N bn hN _ r0).mono ?_; rintro e w' ⟨rfl, rfl⟩; rw [HQ.out])
          go_quiet (fail)
          go_wp2
          go_ret
          rw [HE.out, shrink, if_neg h0, if_pos (.inl h1)]
          exact ⟨rfl, vs, hBA.out.drewN _, (hOA.out.mono (fun _ _ q => q.elim)).drewN _, Nextv.refl _ _ _⟩
        · have hd : (((n : Int) + 1) == (s.lead : Int)) = false := by simp; omega
          have H1 := Lib.hid h1
          clear h1
          cases hi : s.ins n with
          | false =>
            rw [hi] at ci
            have HI := Lib.hid hi
            clear hi
            go_enter Try.func11, Try.ntmps11
            go_wp2_with (go_at_call 27; refine (is_any ((n : Int) + 1) N bn hN _ r0).mono ?_; rintro e w' ⟨rfl, rfl⟩; rw [HQ.out])
            go_quiet (fail)
            go_wp2
            go_ret
            rw [HE.out, shrink, if_neg h0, if_pos (.inr HI.out)]
            exact ⟨rfl, vs, hBA.out.drewN _, (hOA.out.mono (fun _ _ q => q.elim)).drewN _, Nextv.refl _ _ _⟩
          | true =>
            rw [hi] at ci
            have HI := Lib.hid hi
            clear hi
            have hF2 : Hid (Fit N { s with ins := upd s.ins n false }) := Lib.hid ⟨HF.out.n1, HF.out.n5, HF.out.lead, HF.out.logs, HF.out.mat, HF.out.high, HF.out.ep⟩
            go_enter Try.func11, Try.ntmps11
            go_wp2_with (go_at_call 27; refine (is_any ((n : Int) + 1) N bn hN _ r0).mono ?_; rintro e w' ⟨rfl, rfl⟩; rw [HQ.out])
            go_quiet (fail)
            go_wp2_with (go_at_call 30; refine (rise_any ((hBA.out.drewN _).setIn n false) hF2.out h0).mono ?_; rintro e w' ⟨rfl, hb, ho⟩; have H5 := Lib.hid hb; have H6 := Lib.hid ho; clear hb ho)
            go_ret
            rw [HE.out, shrink, if_neg h0, if_neg (by rw [HI.out]; simp [H1.out])]
            exact ⟨rfl, vs, H5.out, (((hOA.out.mono (fun _ _ q => q.elim)).drewN _).setCell (p := ⟨bi, n, none⟩) (.inr (.inr (.inr (.inl rfl)))) _).trans H6.out (fun b _ hb => .inl hb), Nextv.refl _ _ _⟩
  · have e : doIt N s ⟨dk, dn, v⟩ = (1, s) := by unfold doIt; rw [if_neg k1, if_neg k6, if_neg kk]
    have HE := Lib.hid e
    have k2 : ¬ dk = 2 := fun q => kk (.inl q)
    have k3 : ¬ dk = 3 := fun q => kk (.inr (.inl q))
    have k4 : ¬ dk = 4 := fun q => kk (.inr (.inr (.inl q)))
    have k5 : ¬ dk = 5 := fun q => kk (.inr (.inr (.inr q)))
    clear e kk
    go_enter Try.func11, Try.ntmps11
    go_wp2_with fail
    go_ret
    rw [HE.out]
    exact ⟨rfl, vs, hBA.out, hOA.out.mono (fun _ _ q => q.elim), Nextv.refl _ _ _⟩
end Go.Proofs.Ytcehlajkpnhdiaa.Ra
