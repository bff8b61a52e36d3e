/- MailOnce: each packet is taken once at the most, and is gone then; numbers rise by one; there are never more than MaxMail: the law's walk. -/
import Derived.Test.YtcfmohhidbneoaaMn
import Derived.Lib.SmallJoins
namespace Go.Proofs.Ytcfmohhidbneoaa.Lc
open Go.RowKit Go.Proofs.Ytcfmohhidbneoaa.Mk Go.Proofs.Ytcfmohhidbneoaa.Mq Go.Proofs.Ytcfmohhidbneoaa.Ma Go.Proofs.Ytcfmohhidbneoaa.Mw Go.Proofs.Ytcfmohhidbneoaa.Ms Go.Proofs.Ytcfmohhidbneoaa.Mc Go.Proofs.Ytcfmohhidbneoaa.Mt Go.Proofs.Ytcfmohhidbneoaa.Mu Go.Proofs.Ytcfmohhidbneoaa.Me Go.Proofs.Ytcfmohhidbneoaa.Mf Go.Proofs.Ytcfmohhidbneoaa.Mg Go.Proofs.Ytcfmohhidbneoaa.Mh Go.Proofs.Ytcfmohhidbneoaa.Mi Go.Proofs.Ytcfmohhidbneoaa.Mn
set_option linter.unusedSimpArgs false
set_option linter.unusedVariables false
def True1 (w : World) (e : Ending) (w' : World) : Prop := e = .returned (.bool true) ∧ Below w.heap.size w w'
theorem info3 : (Try.prog.info? 3).map (fun i => (i.zero, i.size, i.bytes)) = some (some (.int .i64 0), 1, 8) := by kernel_rfl
def ics (l : List Int) : List Value := l.map (Value.int .i64)
/-- What the outer loop keeps. -/
structure OInv (w2 : World) (m : Nat) (st : St) (v : Value) (tv : Value) (tk : List Int) (wr : World) : Prop where
  inv : LInv w2 m st v wr
  good : GoodSt st
  gone : Gone1 st tk
  row : wr.ownsRow 0 3 1 tv tk.length (ics tk)
  far : ∀ b, tv.ownBlock = some b → w2.heap.size ≤ b
theorem ints_apart {w : World} {tv : Value} {tk : List Int} (h : w.ownsRow 0 3 1 tv tk.length (ics tk)) {b : Nat} {cs : Array Value} {t : TypeId} {fr : Nat × Nat} (hb : w.heap[b]? = some (.cells cs t fr)) (ht : t ≠ 3) : tv.ownBlock ≠ some b := by
  rcases h.2 with ⟨h1, _⟩ | ⟨g, cap, cur, h1, _, h2, _⟩
  · rw [h1]; intro e; cases e
  · rw [h1]; intro e; cases e; rw [h2] at hb; cases hb; exact ht rfl
theorem ints_move {w w1 : World} {tv : Value} {tk : List Int} (h : w.ownsRow 0 3 1 tv tk.length (ics tk)) (hb : ∀ g, tv.ownBlock = some g → w1.heap[g]? = w.heap[g]?) : w1.ownsRow 0 3 1 tv tk.length (ics tk) := by
  refine ⟨h.1, ?_⟩
  rcases h.2 with h1 | ⟨g, cap, cur, h1, h0, h2, h3⟩
  · exact .inl h1
  · exact .inr ⟨g, cap, cur, h1, h0, by rw [hb g (by rw [h1]; rfl), h2], h3⟩
theorem ints_lt {w : World} {tv : Value} {tk : List Int} (h : w.ownsRow 0 3 1 tv tk.length (ics tk)) {g : Nat} (hg : tv.ownBlock = some g) : g < w.heap.size := by
  rcases h.2 with ⟨h1, _⟩ | ⟨g', cap, cur, h1, _, h2, _⟩
  · rw [h1] at hg; cases hg
  · rw [h1] at hg; cases hg; exact lt_of_block h2
/-- The row of numbers behind a method's call. -/
theorem ints_did {w2 wr w' : World} {m : Nat} {st st' : St} {v r tv : Value} {tk : List Int} {e : Ending} (hI : LInv w2 m st v wr) (h : wr.ownsRow 0 3 1 tv tk.length (ics tk)) (hd : Did m v r st' wr e w') : w'.ownsRow 0 3 1 tv tk.length (ics tk) := by
  obtain ⟨_, v', _, h2, _⟩ := hd
  refine ints_move h fun g hg => h2.block g (ints_lt h hg) ?_
  rintro (q | q)
  · subst q; exact ints_apart h hI.mail.1 (by decide) hg
  · rcases hI.mail.2.form with ⟨h1, _⟩ | ⟨g', cap, cur, h1, hg', _⟩
    · rw [h1] at q; cases q
    · rw [h1] at q; cases q
      exact ints_apart h hg' (by decide) hg
theorem ints_later {w w' : World} {tv : Value} {tk : List Int} (h : w.ownsRow 0 3 1 tv tk.length (ics tk)) (hq : Only (fun _ => False) w w') : w'.ownsRow 0 3 1 tv tk.length (ics tk) :=
  ints_move h fun g hg => hq.block g (ints_lt h hg) (fun q => q)
/-- The mail behind an append to the row of numbers. -/
theorem inv_grown {w2 w w1 : World} {m : Nat} {st : St} {v tv : Value} {tk : List Int} (hI : LInv w2 m st v w) (hr : w.ownsRow 0 3 1 tv tk.length (ics tk)) (hf : ∀ b, tv.ownBlock = some b → w2.heap.size ≤ b) (hg : w.grownBy w1 tv.ownBlock) : LInv w2 m st v w1 := by
  have hm : tv.ownBlock ≠ some m := ints_apart hr hI.mail.1 (by decide)
  have hv : ∀ b, v.ownBlock = some b → tv.ownBlock ≠ some b := by
    intro b hb
    rcases hI.mail.2.form with ⟨h1, _⟩ | ⟨g', cap, cur, h1, hg', _⟩
    · rw [h1] at hb; cases hb
    · rw [h1] at hb; cases hb
      exact ints_apart hr hg' (by decide)
  refine ⟨⟨block_grown hI.mail.1 hg hm, hI.mail.2.move fun b hb => hg.block b (hI.mail.2.lt hb) (fun e => hv b hb e.symm)⟩, hI.only.grown hg (fun b hb => .inl (hf b hb)), hI.row⟩
set_option maxHeartbeats 6400000 in
set_option maxRecDepth 100000 in
theorem once_any (A : Option Addr) (rl : List DV) (ds : List Dd) (c : Nat) (W : World) (hc : rl.length ≤ c) (hn : rl.length ≤ 9223372036854775807) (hR : RawAt W A rl) (hfit : AllFit W W.heap.size rl ds) :
    Calls Try.prog 5 #[.slice A rl.length c] W (True1 W) := by
  have hptr := fits_ptr hfit
  have hR1 : RawAt (W.alloc (.cells #[.int .i64 0, .slice none 0 0] 56)) A rl := by
    rcases hR with h | ⟨b, off, e, h⟩
    · exact .inl h
    · refine .inr ⟨b, off, e, fun i hi => ?_⟩
      obtain ⟨h0, h1, h2, h3, h4⟩ := h i hi
      have hb : b < W.heap.size := World.block_lt_of_cell? _ _ h0
      have cc : ∀ j u, W.cell? ⟨b, j, none⟩ = some u → (W.alloc (.cells #[.int .i64 0, .slice none 0 0] 56)).cell? ⟨b, j, none⟩ = some u := fun j u h => (World.cell?_alloc_past _ _ _ hb).trans h
      exact ⟨cc _ _ h0, cc _ _ h1, cc _ _ h2, cc _ _ h3, cc _ _ h4⟩
  have HP := Lib.hid hptr
  have HR := Lib.hid hR1
  have HF := Lib.hid hfit
  clear hptr hR hR1 hfit
  go_enter Try.func5, Try.ntmps5
  go_wp2_with fail
  refine (new_any _).mono ?_
  rintro e w1 ⟨rfl, hw1⟩
  have b1 : Below W.heap.size W w1 := by rw [hw1]; exact (Below.refl _ _).alloc (Nat.le_refl _) _
  have s1 : w1.heap.size = W.heap.size + 1 := by rw [hw1]; simp
  have m1 : w1.heap[W.heap.size]? = some (.cells #[.int .i64 0, .slice none 0 0] 56 (0, 0)) := by rw [hw1]; exact block_new W _
  rw [← hw1] at HR
  have B1 := Lib.hid b1
  have S1 := Lib.hid s1
  have M1 := Lib.hid m1
  clear hw1 b1 s1 m1
  go_wp2_with fail
  refine (few_any A rl c w1 hc hn HR.out HP.out.1 HP.out.2).mono ?_
  rintro e w2 ⟨u, rfl, ho, hb, hg⟩
  obtain ⟨a, cc, rfl, hd⟩ := few_deeds HF.out B1.out (by have := S1.out; omega) ho hb hg
  have hI0 : LInv w2 W.heap.size st0 (.slice none 0 0) w2 := ⟨⟨by rw [hb.block _ (by have := S1.out; omega)]; exact M1.out, Row.nil _⟩, Only.refl _ _, fun b h => by cases h⟩
  have hfl := few_len ds
  have hft := few_texts HF.out
  have b2 : Below W.heap.size W w2 := B1.out.trans (hb.mono (by have := S1.out; omega))
  have hmw : W.heap.size < w2.heap.size := lt_of_block hI0.mail.1
  obtain ⟨D, hD⟩ : ∃ D, D = fewD ds := ⟨_, rfl⟩
  rw [← hD] at hd hfl hft ⊢
  have HD := Lib.hid hd
  have HFT := Lib.hid hft
  have HI0 := Lib.hid hI0
  have B2 := Lib.hid b2
  clear ho hb hg hI0 b2 hd hft hD
  go_wp2_with fail
  go_loopw [4, 5, 6] (fun t la i wr => ∃ (k : Nat) (v tv : Value) (tk : List Int), k ≤ D.length ∧ tk.length ≤ k ∧ i = .int .i64 k ∧ la = .int .i64 (run st0 (D.take k)).sent ∧ tv = t ∧ OInv w2 W.heap.size (run st0 (D.take k)) v tv tk wr) (fun _ _ i _ => D.length - (intOf i).toNat)
  case atStart => exact ⟨0, _, _, [], by omega, Nat.le_refl _, rfl, rfl, rfl, HI0.out, good_empty, (fun t h => by cases h), World.ownsRow_nil _ _ _ _, fun b h => by cases h⟩
  case round =>
    obtain ⟨k, v, tv, tk, hk, htk, rfl, rfl, rfl, hO⟩ := hrel
    have HO := Lib.hid hO
    have HI := Lib.hid hO.inv
    clear hO
    by_cases hlt : k < D.length
    · rcases HD.out with h0 | ⟨g, rfl, hg1, hg2, hdd⟩
      · rw [h0] at hlt; simp at hlt
      have hlt' : (k : Int) < D.length := by omega
      have hk0 : (0 : Int) ≤ (k : Int) := by omega
      have hgm : g ≠ W.heap.size := by have := S1.out; omega
      obtain ⟨a', c', d0, d1, d2, d3, d4, d5, d6⟩ := (hdd k hlt).move (w' := wr) (C := W.heap.size) (HI.out.only.block g hg2 hgm) (HI.out.below (Nat.le_refl _) (by omega)) (Nat.le_refl _)
      obtain ⟨x, hx⟩ : ∃ x, x = D[k] := ⟨_, rfl⟩
      rw [← hx] at d0 d1 d2 d3 d4 d5 d6
      have hxm : x ∈ D := by rw [hx]; exact List.getElem_mem hlt
      have hxt := HFT.out x hxm
      have HX := Lib.hid hx
      have D6 := Lib.hid d6
      have hfine : Fine (run st0 (D.take k)) (0 + 256 * (D.take k).length) := fine_run _ (fun y hy => (HFT.out y (List.mem_of_mem_take hy)).2) fine_empty
      have hkl : (D.take k).length = k := by rw [List.length_take]; omega
      rw [hkl] at hfine
      have HFN := Lib.hid hfine
      clear hx d6 hdd hfine hkl hxm
      have hend : run st0 (D.take (k + 1)) = doesS (run st0 (D.take k)) x := by rw [List.take_succ_eq_append_getElem hlt, run_snoc, ← HX.out]
      have HE := Lib.hid hend
      obtain ⟨st, hs⟩ : ∃ st, st = run st0 (D.take k) := ⟨_, rfl⟩
      rw [← hs] at HO HI HFN HE ⊢
      have HFD := Lib.hid (fine_does HFN.out x hxt.2)
      have HG := Lib.hid (good_does HO.out.good x)
      obtain ⟨o, ho⟩ := parts_does st x
      have HPT := Lib.hid ho
      clear hend hs ho
      go_wp2_with fail
      have hcd := does_any W.heap.size v st (0 + 256 * (k : Int)) x a' c' wr HI.out.mail HFN.out (by omega) d5 (by omega) (texts_wide D6.out (by have := HI.out.only.size; omega)) (fun b off e => (D6.out.2.1 b off e).imp id (fun q => HI.out.foot (by omega) (by omega)))
      obtain ⟨y, hy⟩ : ∃ y, y = doesP st x := ⟨_, rfl⟩
      obtain ⟨bb, hbb⟩ : ∃ bb, bb = doesB st x := ⟨_, rfl⟩
      obtain ⟨st', hs'⟩ : ∃ st', st' = doesS st x := ⟨_, rfl⟩
      have HY := Lib.hid hy
      have HBB := Lib.hid hbb
      have HS' := Lib.hid hs'
      rw [← hy, ← hbb, ← hs'] at hcd
      rw [← hs'] at HE HFD HG HPT
      clear hy hbb hs'
      refine hcd.mono ?_
      intro e w' hdid
      have rt := ints_did HI.out HO.out.row hdid
      obtain ⟨v', rfl, hI'⟩ := HI.out.did hdid
      have HI' := Lib.hid hI'
      have RT := Lib.hid rt
      clear hdid hI' d0 d1 d2 d3 d4 hcd rt
      simp only [Pk.agg]
      go_wp2_with fail
      have hn' : st'.l.length ≤ 256 := HFD.out.1
      have hq3 : Only (fun _ => False) w' (w'.alloc (.cells #[.int .i64 y.n, .int .i64 y.d, .int .i64 y.f, .string y.s] 27)) := (Only.refl _ _).alloc _
      have HQ3 := Lib.hid hq3
      have hyc : (w'.alloc (.cells #[.int .i64 y.n, .int .i64 y.d, .int .i64 y.f, .string y.s] 27)).cell? ⟨w'.heap.size, 0, none⟩ = some (.int .i64 y.n) := cell_of (block_new w' _) 0
      refine (list_any W.heap.size st'.sent v' st'.l _ hn' (HI'.out.later hq3).mail).mono ?_
      rintro e w5 ⟨u, rfl, r5, b5, g5⟩
      have hq5 : Only (fun _ => False) w' w5 := HQ3.out.trans (Only.ofBelow b5) (fun _ _ q => q)
      have y5 : w5.cell? ⟨w'.heap.size, 0, none⟩ = some (.int .i64 y.n) := (b5.cell (p := ⟨w'.heap.size, 0, none⟩) (World.block_lt_of_cell? _ _ hyc)).trans hyc
      have I5 := Lib.hid (HI'.out.later hq5)
      have T5 := Lib.hid (ints_later RT.out hq5)
      obtain ⟨ua, uc, hu⟩ := slice_form r5
      subst hu
      have R5 := Lib.hid r5
      obtain ⟨va, vc, hv5⟩ := slice_form I5.out.mail.2
      have vm : w5.cell? ⟨W.heap.size, 1, none⟩ = some (.slice va st'.l.length vc) := by rw [← hv5]; exact cell_of I5.out.mail.1 1
      obtain ⟨n, hn⟩ : ∃ n, n = st'.l.length := ⟨_, rfl⟩
      have HN := Lib.hid hn
      rw [← hn] at vm hn' ⊢
      have hd256 : decide ((256 : Int) < n) = false := by simp; omega
      have hl0 : lastAt st o 0 = st.sent := by simp [lastAt]
      obtain ⟨pb, hpb⟩ : ∃ pb, pb = w'.heap.size := ⟨_, rfl⟩
      rw [← hpb] at y5 ⊢
      clear hq3 hyc r5 b5 g5 hq5 hv5 hn hpb
      go_wp2_with (go_at_call 20; refine (len_any W.heap.size va n vc _ vm).mono ?_; rintro e w'' ⟨rfl, rfl⟩)
      rw [← hl0]
      clear hl0
      go_loopw [5, 10] (fun la i wq => ∃ (j nd : Nat), j ≤ n ∧ i = .int .i64 j ∧ la = .int .i64 (lastAt st o j) ∧ wq = w5.drewN nd) (fun _ i _ => n - (intOf i).toNat)
      case atStart => exact ⟨0, 0, by omega, rfl, rfl, rfl⟩
      case round =>
        obtain ⟨j, nd, hj, rfl, rfl, rfl⟩ := hrel
        by_cases hjl : j < n
        · have hjs : j < st'.l.length := by rw [← HN.out]; exact hjl
          rcases R5.out.form with ⟨_, h0⟩ | ⟨g5, _, _, e5, _⟩
          · rw [h0] at hjs; simp at hjs
          cases e5
          obtain ⟨z0, _, _, _⟩ := R5.out.at j hjs
          have hstep := last_step HPT.out HO.out.good j hjs
          obtain ⟨zj, hzj⟩ : ∃ z, z = st'.l[j].n := ⟨_, rfl⟩
          rw [← hzj] at z0 hstep
          obtain ⟨la, hla⟩ : ∃ la, la = lastAt st o j := ⟨_, rfl⟩
          have hlab : -1000000 ≤ la ∧ la ≤ 1000000 := by
            have h1 := HFN.out.2.1
            have h2 := HFN.out.2.2.1
            rw [hla]; unfold lastAt; omega
          rw [← hla] at hstep ⊢
          have HLA := Lib.hid hla
          have hjn : (j : Int) < n := by omega
          have hj0 : (0 : Int) ≤ (j : Int) := by omega
          have hok : bb = true → (zj == y.n) = false := by
            intro q
            have h1 := (gone_more HO.out.good HO.out.gone (x := x) (by rw [← HBB.out]; exact q)).2
            have h2 := (took HO.out.good (x := x) (by rw [← HBB.out]; exact q)).2 st'.l[j] (by rw [← HS'.out]; exact List.getElem_mem hjs)
            rw [← HY.out, ← hzj] at h2
            simpa using h2
          have HOK := Lib.hid hok
          have HZJ := Lib.hid hzj
          clear hok hla hzj
          by_cases hjz : 0 < j
          · have hjm : j - 1 < st'.l.length := by omega
            obtain ⟨z1, _, _, _⟩ := R5.out.at (j - 1) hjm
            have hris := rising HG.out (i := j - 1) (j := j) hjs (by omega)
            obtain ⟨zi, hzi⟩ : ∃ z, z = st'.l[j - 1].n := ⟨_, rfl⟩
            rw [← hzi] at z1 hris
            rw [← HZJ.out] at hris
            have hle : decide (zj ≤ zi) = false := by simp; omega
            have hj1 : decide ((0 : Int) < j) = true := by simp; omega
            have hwr : IntKind.i64.wrap ((j : Int) - 1) = (j : Int) - 1 := by rw [IntKind.wrap_i64]; omega
            have hb1 : (0 : Int) ≤ (j : Int) - 1 := by omega
            have hb2 : (1 : Int) ≤ (j : Int) := by omega
            have hb3 : (j : Int) - 1 < (n : Int) := by omega
            have hb4 : ((j : Int) - 1).toNat = j - 1 := by omega
            clear hris hzi
            rcases hstep with ⟨s1, s2⟩ | ⟨s1, s2, s3⟩
            · have hgt : decide (la < zj) = false := by simp; omega
              have S2 := Lib.hid s2
              clear s1 s2
              cases hb : bb with
              | true =>
                have hne := HOK.out hb
                have HB := Lib.hid hb
                clear hb
                go_wp2_with fail
                go_quiet (fail)
                go_wp2_with fail
                go_roundw
                case rel => exact ⟨j + 1, nd + nq, by omega, by go_num, by rw [S2.out], rfl⟩
                case measure => simp [intOf]; omega
              | false =>
                clear hb
                go_wp2_with fail
                go_quiet (fail)
                go_wp2_with fail
                go_roundw
                case rel => exact ⟨j + 1, nd + nq, by omega, by go_num, by rw [S2.out], rfl⟩
                case measure => simp [intOf]; omega
            · have hgt : decide (la < zj) = true := by simpa using s1
              have hnx : (zj != la + 1) = false := by simp; omega
              have S3 := Lib.hid s3
              clear s1 s2 s3
              cases hb : bb with
              | true =>
                have hne := HOK.out hb
                have HB := Lib.hid hb
                clear hb
                go_wp2_with fail
                go_quiet (fail)
                go_wp2_with fail
                go_roundw
                case rel => exact ⟨j + 1, nd + nq, by omega, by go_num, by rw [S3.out], rfl⟩
                case measure => simp [intOf]; omega
              | false =>
                clear hb
                go_wp2_with fail
                go_quiet (fail)
                go_wp2_with fail
                go_roundw
                case rel => exact ⟨j + 1, nd + nq, by omega, by go_num, by rw [S3.out], rfl⟩
                case measure => simp [intOf]; omega
          · have hj1 : decide ((0 : Int) < j) = false := by simp; omega
            rcases hstep with ⟨s1, s2⟩ | ⟨s1, s2, s3⟩
            · have hgt : decide (la < zj) = false := by simp; omega
              have S2 := Lib.hid s2
              clear s1 s2
              cases hb : bb with
              | true =>
                have hne := HOK.out hb
                have HB := Lib.hid hb
                clear hb
                go_wp2_with fail
                go_quiet (fail)
                go_wp2_with fail
                go_roundw
                case rel => exact ⟨j + 1, nd + nq, by omega, by go_num, by rw [S2.out], rfl⟩
                case measure => simp [intOf]; omega
              | false =>
                clear hb
                go_wp2_with fail
                go_quiet (fail)
                go_wp2_with fail
                go_roundw
                case rel => exact ⟨j + 1, nd + nq, by omega, by go_num, by rw [S2.out], rfl⟩
                case measure => simp [intOf]; omega
            · have hgt : decide (la < zj) = true := by simpa using s1
              have hnx : (zj != la + 1) = false := by simp; omega
              have S3 := Lib.hid s3
              clear s1 s2 s3
              cases hb : bb with
              | true =>
                have hne := HOK.out hb
                have HB := Lib.hid hb
                clear hb
                go_wp2_with fail
                go_quiet (fail)
                go_wp2_with fail
                go_roundw
                case rel => exact ⟨j + 1, nd + nq, by omega, by go_num, by rw [S3.out], rfl⟩
                case measure => simp [intOf]; omega
              | false =>
                clear hb
                go_wp2_with fail
                go_quiet (fail)
                go_wp2_with fail
                go_roundw
                case rel => exact ⟨j + 1, nd + nq, by omega, by go_num, by rw [S3.out], rfl⟩
                case measure => simp [intOf]; omega
        · obtain rfl : j = n := by omega
          have hend : lastAt st o j = st'.sent := by
            have h1 := HPT.out.sent
            have h2 := HN.out
            unfold lastAt
            rw [h1, h2]
          have HEND := Lib.hid hend
          clear hend
          have O5 : Hid (OInv w2 W.heap.size st' v' tv tk (w5.drewN nd)) := ⟨I5.out.later ((Only.refl _ _).drewN _), HG.out, by rw [HS'.out]; exact gone_keep HO.out.gone x, ints_later T5.out ((Only.refl _ _).drewN _), HO.out.far⟩
          cases hb : bb with
          | false =>
            clear hb
            go_wp2_with fail
            go_roundw
            case rel =>
              refine ⟨k + 1, v', tv, tk, by omega, by omega, by go_num, by rw [HE.out, HEND.out], rfl, ?_⟩
              rw [HE.out]
              exact O5.out
            case measure => simp [intOf]; omega
          | true =>
            have hmore := gone_more HO.out.good HO.out.gone (x := x) (by rw [← HBB.out]; exact hb)
            rw [← HY.out, ← HS'.out] at hmore
            have HM := Lib.hid hmore
            have htk80 : tk.length ≤ 80 := by omega
            clear hb hmore
            obtain ⟨ta, tc, htv⟩ : ∃ a c, tv = .slice a tk.length c := by
              rcases HO.out.row.2 with ⟨h1, h2⟩ | ⟨g, cap, cur, h1, _⟩
              · exact ⟨none, 0, by rw [h1, h2]⟩
              · exact ⟨_, _, h1⟩
            subst htv
            go_wp2_with fail
            go_loopw [11] (fun i wq => ∃ (q ne : Nat), q ≤ tk.length ∧ i = .int .i64 q ∧ wq = w5.drewN ne) (fun i _ => tk.length - (intOf i).toNat)
            case atStart => exact ⟨0, nd, by omega, rfl, rfl⟩
            case round =>
              obtain ⟨q, ne, hq, rfl, rfl⟩ := hrel
              by_cases hql : q < tk.length
              · have hcell := T5.out.2
                rcases hcell with ⟨_, h0⟩ | ⟨gt, ct, cur, ht, _, hgt, _, _, _, htake⟩
                · omega
                cases ht
                have hcq : w5.cell? ⟨gt, q, none⟩ = some (.int .i64 tk[q]) := by
                  have := T5.out.cells (g := gt) rfl q (.int .i64 tk[q]) (by simp [ics, hql])
                  rw [Addr.add_lit] at this
                  simpa using this
                have hne : (tk[q] == y.n) = false := by
                  have := HM.out.1 tk[q] (List.getElem_mem hql)
                  simpa using this
                obtain ⟨tq, htq⟩ : ∃ t, t = tk[q] := ⟨_, rfl⟩
                rw [← htq] at hcq hne
                have hq0 : (0 : Int) ≤ (q : Int) := by omega
                have hq1 : (q : Int) < (tk.length : Int) := by omega
                clear htq hgt htake
                go_wp2_with fail
                go_quiet (fail)
                go_wp2_with fail
                go_roundw
                case rel => exact ⟨q + 1, ne + nq, by omega, by go_num, rfl⟩
                case measure => simp [intOf]; omega
              · obtain rfl : q = tk.length := by omega
                obtain ⟨i0, hi0, hz0, hz1, hz2⟩ := info_parts info3
                have hown : (w5.drewN ne).ownsRow 0 3 1 (.slice ta tk.length tc) tk.length (ics tk) := ints_later T5.out ((Only.refl _ _).drewN _)
                have HOW := Lib.hid hown
                clear hown
                go_wp2_with (at_builtin; refine wpList_append_lies _ rfl (.tmp 112) (.tmp 115) 52 rfl 0 3 i0 _ 1 8 Try.underlying52 hi0 hz0 hz1 hz2 rfl (by decide) (.slice ta tk.length tc) tk.length (ics tk) rfl (HOW.out.alloc _) ⟨w5.heap.size, 0, none⟩ 1 1 [.int .i64 y.n] rfl rfl (World.news_of_block (cs := #[.int .i64 y.n]) (t := 3) (fr := (0, 0)) (block_new (w5.drewN ne) _)) (by simp [Value.oneCell']) (by omega) (by unfold maxLen; omega) (by omega) (by simp) (w5.heap.size + 1) (by simp) ?_; intro g cap w1 hown1 hgrow hat hlt1)
                go_roundw
                case rel =>
                  refine ⟨k + 1, v', .slice (some ⟨g, 0, none⟩) (tk.length + 1) cap, tk ++ [y.n], by omega, by simp; omega, by go_num, by rw [HE.out, HEND.out], rfl, ?_⟩
                  rw [HE.out]
                  have hq9 : Only (fun _ => False) w5 ((w5.drewN ne).alloc (.cells #[.int .i64 y.n] 3)) := ((Only.refl _ _).drewN _).alloc _
                  refine ⟨inv_grown (I5.out.later hq9) (ints_later T5.out hq9) HO.out.far hgrow, HG.out, HM.out.2, ?_, fun b hb => ?_⟩
                  · have e1 : (tk ++ [y.n]).length = tk.length + 1 := by simp
                    have e2 : ics (tk ++ [y.n]) = ics tk ++ [.int .i64 y.n] := by simp [ics]
                    rw [e1, e2]; exact hown1
                  · cases hb
                    rcases hat with q | q
                    · exact HO.out.far _ q
                    · have := I5.out.only.size; show w2.heap.size ≤ g; omega
                case measure => simp [intOf]; omega
    · obtain rfl : k = D.length := by omega
      go_wp2_with fail
      refine (awake_any _).mono ?_
      rintro e w7 ⟨rfl, q7⟩
      have Q7 := Lib.hid q7
      clear q7
      go_wp2_with fail
      go_ret
      exact ⟨rfl, (B2.out.trans (HI.out.below (Nat.le_refl _) (by omega))).trans (Q7.out.below (by have := HI.out.only.size; omega) (fun _ h => h.elim))⟩
end Go.Proofs.Ytcfmohhidbneoaa.Lc
