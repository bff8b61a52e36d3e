/- MailPlays: whatever is sent, taken and doubled, each answer, and all packets, are the document's: the law's walk. -/
import Derived.Test.YtcfmohhidbneoaaMj
import Derived.Lib.SmallJoins
namespace Go.Proofs.Ytcfmohhidbneoaa.Lp
open Go.RowKit Go.Proofs.Ytcfmohhidbneoaa.Mk Go.Proofs.Ytcfmohhidbneoaa.Mq Go.Proofs.Ytcfmohhidbneoaa.Ma Go.Proofs.Ytcfmohhidbneoaa.Mw Go.Proofs.Ytcfmohhidbneoaa.Ms Go.Proofs.Ytcfmohhidbneoaa.Mc Go.Proofs.Ytcfmohhidbneoaa.Mt Go.Proofs.Ytcfmohhidbneoaa.Mu Go.Proofs.Ytcfmohhidbneoaa.Mr Go.Proofs.Ytcfmohhidbneoaa.Me Go.Proofs.Ytcfmohhidbneoaa.Mf Go.Proofs.Ytcfmohhidbneoaa.Mg Go.Proofs.Ytcfmohhidbneoaa.Mh Go.Proofs.Ytcfmohhidbneoaa.Mi Go.Proofs.Ytcfmohhidbneoaa.Mj
set_option linter.unusedSimpArgs false
set_option linter.unusedVariables false
def True1 (w : World) (e : Ending) (w' : World) : Prop := e = .returned (.bool true) ∧ Below w.heap.size w w'
theorem raw_later {w w' : World} {A : Option Addr} {l : List DV} (h : RawAt w A l) (hq : Only (fun _ => False) w w') : RawAt w' A l := by
  rcases h with h | ⟨b, off, e, h⟩
  · exact .inl h
  · refine .inr ⟨b, off, e, fun i hi => ?_⟩
    obtain ⟨h0, h1, h2, h3, h4⟩ := h i hi
    exact ⟨only_cell hq h0 (fun q => q), only_cell hq h1 (fun q => q), only_cell hq h2 (fun q => q), only_cell hq h3 (fun q => q), only_cell hq h4 (fun q => q)⟩
set_option maxHeartbeats 6400000 in
set_option maxRecDepth 100000 in
theorem plays_any (A : Option Addr) (rl : List DV) (ds : List Dd) (c : Nat) (W : World) (hc : rl.length ≤ c) (hn : rl.length ≤ 9223372036854775807) (hR : RawAt W A rl) (hfit : AllFit W W.heap.size rl ds) :
    Calls Try.prog 4 #[.slice A rl.length c] W (True1 W) := by
  have hptr := fits_ptr hfit
  have HP := Lib.hid hptr
  have HR := Lib.hid hR
  have HF := Lib.hid hfit
  clear hptr hR hfit
  go_enter Try.func4, Try.ntmps4
  go_wp2_with fail
  refine (new_any _).mono ?_
  rintro e w0 ⟨rfl, hw0⟩
  have q0 : Only (fun _ => False) W w0 := by rw [hw0]; exact (Only.refl _ _).alloc _
  have s0 : w0.heap.size = W.heap.size + 1 := by rw [hw0]; simp
  have m0 : w0.heap[W.heap.size]? = some (.cells #[.int .i64 0, .slice none 0 0] 56 (0, 0)) := by rw [hw0]; exact block_new W _
  have Q0 := Lib.hid q0
  have S0 := Lib.hid s0
  have M0 := Lib.hid m0
  clear hw0 q0 s0 m0
  go_wp2_with fail
  generalize hw1 : w0.alloc (.cells #[.int .i64 0, .slice none 0 0] 42) = w1
  have q1 : Only (fun _ => False) W w1 := by rw [← hw1]; exact Q0.out.alloc _
  have s1 : w1.heap.size = W.heap.size + 2 := by rw [← hw1]; simp; have := S0.out; omega
  have m1 : w1.heap[W.heap.size]? = some (.cells #[.int .i64 0, .slice none 0 0] 56 (0, 0)) := by rw [← hw1]; exact block_alloc M0.out _
  have r1 : w1.heap[W.heap.size + 1]? = some (.cells #[.int .i64 0, .slice none 0 0] 42 (0, 0)) := by rw [← hw1, ← S0.out]; exact block_new w0 _
  have b1 : Below W.heap.size W w1 := q1.below (Nat.le_refl _) (fun _ h => h.elim)
  have HR1 := Lib.hid (raw_later HR.out q1)
  have B1 := Lib.hid b1
  have S1 := Lib.hid s1
  have M1 := Lib.hid m1
  have R1 := Lib.hid r1
  have e0 : w0.heap.size = W.heap.size + 1 := S0.out
  try rw [e0]
  clear hw1 b1 s1 m1 r1 q1 e0 HR Q0 M0 S0
  refine (few_any A rl c w1 hc hn HR1.out HP.out.1 HP.out.2).mono ?_
  rintro e w2 ⟨u, rfl, ho, hb, hg⟩
  obtain ⟨a, cc, rfl, hd⟩ := few_deeds HF.out B1.out (by have := S1.out; omega) ho hb hg
  have hI0 : PInv w2 W.heap.size (W.heap.size + 1) st0 st0 (.slice none 0 0) (.slice none 0 0) w2 :=
    ⟨⟨by rw [hb.block _ (by have := S1.out; omega)]; exact M1.out, Row.nil _⟩, ⟨by rw [hb.block _ (by have := S1.out; omega)]; exact R1.out, Row.nil _⟩, Only.refl _ _, (fun b h => by cases h), (fun b h => by cases h), (fun b h => by cases h), by omega⟩
  have hfl := few_len ds
  have hft := few_texts HF.out
  have b2 : Below W.heap.size W w2 := B1.out.trans (hb.mono (by have := S1.out; omega))
  have hmw : W.heap.size + 1 < w2.heap.size := lt_of_block hI0.ref.1
  obtain ⟨D, hD⟩ : ∃ D, D = fewD ds := ⟨_, rfl⟩
  rw [← hD] at hd hfl hft ⊢
  have HD := Lib.hid hd
  have HFT := Lib.hid hft
  have HI0 := Lib.hid hI0
  have B2 := Lib.hid b2
  clear ho hb hg hI0 b2 hd hft hD
  go_wp2_with fail
  go_loopw [5] (fun i wr => ∃ (k : Nat) (v vr : Value), k ≤ D.length ∧ i = .int .i64 k ∧ PInv w2 W.heap.size (W.heap.size + 1) (run st0 (D.take k)) (run st0 (D.take k)) v vr wr) (fun i _ => D.length - (intOf i).toNat)
  case atStart => exact ⟨0, _, _, by omega, rfl, HI0.out⟩
  case round =>
    obtain ⟨k, v, vr, hk, rfl, hI⟩ := hrel
    have HI := Lib.hid hI
    clear hI
    by_cases hlt : k < D.length
    · rcases HD.out with h0 | ⟨g, rfl, hg1, hg2, hdd⟩
      · rw [h0] at hlt; simp at hlt
      have hlt' : (k : Int) < D.length := by omega
      have hk0 : (0 : Int) ≤ (k : Int) := by omega
      have hgm : ¬ (g = W.heap.size ∨ g = W.heap.size + 1) := by have := S1.out; omega
      obtain ⟨a', c', d0, d1, d2, d3, d4, d5, d6⟩ := (hdd k hlt).move (w' := wr) (C := W.heap.size) (HI.out.only.block g hg2 hgm) (HI.out.only.below (by omega) (fun b hb => by rcases hb with q | q <;> omega)) (Nat.le_refl _)
      obtain ⟨x, hx⟩ : ∃ x, x = D[k] := ⟨_, rfl⟩
      rw [← hx] at d0 d1 d2 d3 d4 d5 d6
      have hxm : x ∈ D := by rw [hx]; exact List.getElem_mem hlt
      obtain ⟨hx300, hxs⟩ := HFT.out x hxm
      have HX := Lib.hid hx
      have D6 := Lib.hid d6
      have hfine : Fine (run st0 (D.take k)) (0 + 256 * (D.take k).length) := fine_run _ (fun y hy => (HFT.out y (List.mem_of_mem_take hy)).2) fine_empty
      have hkl : (D.take k).length = k := by rw [List.length_take]; omega
      rw [hkl] at hfine
      have hN : (0 + 256 * (k : Int)) ≤ 1000000 := by omega
      have HFN := Lib.hid hfine
      have hfd : Fine (doesS (run st0 (D.take k)) x) (0 + 256 * (k : Int) + 256) := fine_does hfine x hxs
      have HFD := Lib.hid hfd
      have hend : run st0 (D.take (k + 1)) = doesS (run st0 (D.take k)) x := by rw [List.take_succ_eq_append_getElem hlt, run_snoc, ← hx]
      have HE := Lib.hid hend
      obtain ⟨st, hs⟩ : ∃ st, st = run st0 (D.take k) := ⟨_, rfl⟩
      rw [← hs] at HI HFN HFD HE
      have hbm : ¬ Ms.foot W.heap.size v wr.heap.size := fun q => by have := HI.out.lt.1 _ q; omega
      have hbr : ¬ Ms.foot (W.heap.size + 1) vr wr.heap.size := fun q => by have := HI.out.lt.2 _ q; omega
      have q9 : Only (fun _ => False) wr (wr.alloc (.cells #[.int .i64 x.k, .int .i64 x.n, .int .i64 x.d, .int .i64 x.f, .slice a' x.L.length c'] 32)) := (Only.refl _ _).alloc _
      have b9 : (wr.alloc (.cells #[.int .i64 x.k, .int .i64 x.n, .int .i64 x.d, .int .i64 x.f, .slice a' x.L.length c'] 32)).heap[wr.heap.size]? = some (.cells #[.int .i64 x.k, .int .i64 x.n, .int .i64 x.d, .int .i64 x.f, .slice a' x.L.length c'] 32 (0, 0)) := block_new _ _
      have P9 := Lib.hid (HI.out.later q9)
      have T9 := Lib.hid (D6.out.move (q9.below (B := W.heap.size) (by have := HI.out.only.size; omega) (fun _ h => h.elim)))
      have Q9 := Lib.hid q9
      have B9 := Lib.hid b9
      clear hx d6 hdd hfine hkl hxm hend hs hfd q9 b9
      obtain ⟨xk, xn, xd, xf, xL⟩ := x
      simp only [] at *
      by_cases hsend : isSend xk
      · obtain ⟨ds1, _, _⟩ := does_send (st := st) (x := ⟨xk, xn, xd, xf, xL⟩) hsend
        rw [ds1] at HFD HE
        rcases hsend with rfl | rfl | rfl
        all_goals
          clear ds1
          go_wp2_with fail
          generalize wr.alloc (.cells _ 32) = w9 at P9 T9 Q9 B9 ⊢
          have hwq : wr.heap.size ≤ w9.heap.size := Q9.out.size
          have hw2q : w2.heap.size ≤ wr.heap.size := HI.out.only.size
          have hk2 : w9.cell? ⟨wr.heap.size, 2, none⟩ = some (.int .i64 xd) := cell_of B9.out 2
          have hk3 : w9.cell? ⟨wr.heap.size, 3, none⟩ = some (.int .i64 xf) := cell_of B9.out 3
          have hk4 : w9.cell? ⟨wr.heap.size, 4, none⟩ = some (.slice a' xL.length c') := cell_of B9.out 4
          have hWs : W.heap.size < w9.heap.size := by omega
          obtain ⟨bk, hbk⟩ : ∃ bk, bk = wr.heap.size := ⟨_, rfl⟩
          have HBK := Lib.hid hbk
          rw [← hbk] at hbm hbr hk2 hk3 hk4 ⊢
          clear hbk d0 d1 d2 d3 d4
          have cA : Calls Try.prog 15 #[.pointer (some ⟨W.heap.size, 0, none⟩), .int .i64 xd, .int .i64 xf, .slice a' xL.length c'] w9.drew (fun e w' => ∃ v', e = .returned (.int .i64 (sendR st xd xf xL)) ∧ PInv w2 W.heap.size (W.heap.size + 1) (sendS st xd xf xL) st v' vr w' ∧ Only (Ms.foot W.heap.size v) w9.drew w' ∧ Texts w' W.heap.size a' xL) := by
            refine Calls.mono (send_all W.heap.size v st (0 + 256 * (k : Int)) xd xf a' xL c' w9.drew P9.out.mail HFN.out hN d5 (by omega) T9.out.1 (fun b off e => (T9.out.2.1 b off e).imp id (fun q => P9.out.foot (by omega) (by omega))) T9.out.2.2) ?_
            intro e w' hd
            obtain ⟨v', h1, h2, h3⟩ := PInv.did (P9.out.later ((Only.refl _ _).drew)) (by omega) hd
            refine ⟨v', h1, h2, h3, Mg.Texts.move (w := w9.drew) T9.out (h3.below (B := W.heap.size) (by show W.heap.size ≤ w9.heap.size; omega) (fun b q => ?_))⟩
            rcases q with q | q
            · omega
            · have := P9.out.row b q; omega
          have cB : ∀ vA wA, PInv w2 W.heap.size (W.heap.size + 1) (sendS st xd xf xL) st vA vr wA → Texts wA W.heap.size a' xL → Calls Try.prog 16 #[.pointer (some ⟨W.heap.size + 1, 0, none⟩), .int .i64 xd, .int .i64 xf, .slice a' xL.length c'] wA
              (fun e w' => ∃ v', e = .returned (.int .i64 (sendR st xd xf xL)) ∧ PInv w2 W.heap.size (W.heap.size + 1) (sendS st xd xf xL) (sendS st xd xf xL) vA v' w' ∧ Only (Ms.foot (W.heap.size + 1) vr) wA w') := by
            intro vA wA PA TA
            refine Calls.mono (rsend_all (W.heap.size + 1) vr st (0 + 256 * (k : Int)) xd xf a' xL c' wA PA.ref HFN.out hN d5 (by omega) TA.1 (fun b off e => (TA.2.1 b off e).imp id (fun q => PA.rfoot (by omega) (by omega))) TA.2.2) ?_
            intro e w' hd
            exact PA.rdid (by omega) hd
          have CA := Lib.hid cA
          have CB := Lib.hid cB
          clear cA cB
          go_region_held3 (fun w' => w'.cell? ⟨bk, 2, none⟩ = some (.int .i64 xd) ∧ w'.cell? ⟨bk, 3, none⟩ = some (.int .i64 xf) ∧ w'.cell? ⟨bk, 4, none⟩ = some (.slice a' xL.length c'))
            (go_keep)
            (first
              | (go_at_call 15; refine CA.out.mono ?_; rintro eA wA ⟨vA, rfl, PA, oA, TA⟩; have u2 := only_cell oA (o := 2) hk2 hbm; have u3 := only_cell oA (o := 3) hk3 hbm; have u4 := only_cell oA (o := 4) hk4 hbm; have PAH := Lib.hid PA; have TAH := Lib.hid TA; clear PA oA TA)
              | (go_at_call 16; refine (CB.out _ _ PAH.out TAH.out).mono ?_; rintro eB wB ⟨vB, rfl, PB, oB⟩; have u2' := only_cell oB (o := 2) u2 hbr; have u3' := only_cell oB (o := 3) u3 hbr; have u4' := only_cell oB (o := 4) u4 hbr; have PBH := Lib.hid PB; clear PB oB))
          have hnn : (sendR st xd xf xL != sendR st xd xf xL) = false := by simp
          go_wp2_with fail
          have hl' : (sendS st xd xf xL).l.length ≤ 256 := HFD.out.1
          obtain ⟨am, cm, hvA⟩ := slice_form PBH.out.mail.2
          obtain ⟨ar, cr, hvB⟩ := slice_form PBH.out.ref.2
          subst hvA hvB
          have ka : wB.cell? ⟨W.heap.size, 1, none⟩ = some (.slice am (sendS st xd xf xL).l.length cm) := cell_of PBH.out.mail.1 1
          have kr : wB.cell? ⟨W.heap.size + 1, 1, none⟩ = some (.slice ar (sendS st xd xf xL).l.length cr) := cell_of PBH.out.ref.1 1
          have hWB : W.heap.size + 1 < wB.heap.size := World.block_lt_of_cell? _ _ kr
          have cL : Calls Try.prog 11 #[.pointer (some ⟨W.heap.size, 0, none⟩)] wB.drew (fun e w' => ∃ u, e = .returned u ∧ Row w' u (sendS st xd xf xL).l ∧ Row w' (.slice ar (sendS st xd xf xL).l.length cr) (sendS st xd xf xL).l ∧ Below wB.heap.size wB w' ∧ w'.cell? ⟨W.heap.size + 1, 1, none⟩ = some (.slice ar (sendS st xd xf xL).l.length cr)) := by
            refine (list_any W.heap.size (sendS st xd xf xL).sent _ (sendS st xd xf xL).l wB.drew hl' (PBH.out.later ((Only.refl _ _).drew)).mail).mono ?_
            rintro e w' ⟨u, h1, h2, h3, _⟩
            have hb : Below wB.heap.size wB w' := ⟨h3.os, h3.tape, h3.output, h3.size, h3.block⟩
            exact ⟨u, h1, h2, PBH.out.ref.2.move (fun b q => hb.block b (PBH.out.ref.2.lt q)), hb, (hb.cell (p := ⟨W.heap.size + 1, 1, none⟩) hWB).trans kr⟩
          have cS : ∀ u wC, Row wC u (sendS st xd xf xL).l → Row wC (.slice ar (sendS st xd xf xL).l.length cr) (sendS st xd xf xL).l → Calls Try.prog 13 #[u, .slice ar (sendS st xd xf xL).l.length cr] wC (fun e w' => e = .returned (.bool true) ∧ ∃ n, w' = wC.drewN n) := by
            intro u wC h1 h2
            refine (same_any u _ (sendS st xd xf xL).l (sendS st xd xf xL).l wC h1 h2 hl' hl').mono ?_
            rintro e w' ⟨⟨b, h3, h4⟩, h5⟩
            exact ⟨by rw [h3, h4.2 rfl], h5⟩
          have CL := Lib.hid cL
          have CS := Lib.hid cS
          have hpn : W.heap.size + 1 = W.heap.size + 1 := rfl
          clear cL cS hpn
          generalize hgl : (sendS st xd xf xL).l.length = nl at hl' ka kr CL CS ⊢
          have HGL := Lib.hid hgl
          clear hgl
          go_region_held3 (fun w' => w'.cell? ⟨W.heap.size + 1, 1, none⟩ = some (.slice ar nl cr))
            (go_keep)
            (first
              | (go_at_call 20; refine (len_any W.heap.size am nl cm _ (by exact ka)).mono ?_; rintro e w' ⟨rfl, rfl⟩)
              | (go_at_call 11; refine CL.out.mono ?_; rintro e wC ⟨u, rfl, r1, r2, b3, kc⟩; have R1 := Lib.hid r1; have R2 := Lib.hid r2; have B3 := Lib.hid b3; clear r1 r2 b3)
              | (go_at_call 13; refine (CS.out _ _ R1.out R2.out).mono ?_; rintro e w' ⟨rfl, nD, rfl⟩))
          go_wp2_with fail
          go_roundw
          case rel =>
            refine ⟨k + 1, .slice am (sendS st xd xf xL).l.length cm, .slice ar (sendS st xd xf xL).l.length cr, by omega, by go_num, ?_⟩
            rw [HE.out]
            have hq : Only (fun _ => False) wB (wC.drewN nD) := (Only.ofBelow B3.out).drewN nD
            exact PBH.out.later hq
          case measure => simp [intOf]; omega
      · by_cases htake : isTake xk
        · obtain ⟨ds1, _, _⟩ := does_take (st := st) (x := ⟨xk, xn, xd, xf, xL⟩) htake
          rw [ds1] at HFD HE
          clear hsend
          rcases htake with rfl | rfl
          all_goals
            clear ds1
            go_wp2_with fail
            generalize wr.alloc (.cells _ 32) = w9 at P9 T9 Q9 B9 ⊢
            have hwq : wr.heap.size ≤ w9.heap.size := Q9.out.size
            have hw2q : w2.heap.size ≤ wr.heap.size := HI.out.only.size
            have hk1 : w9.cell? ⟨wr.heap.size, 1, none⟩ = some (.int .i64 xn) := cell_of B9.out 1
            have hWs : W.heap.size < w9.heap.size := by omega
            obtain ⟨bk, hbk⟩ : ∃ bk, bk = wr.heap.size := ⟨_, rfl⟩
            have HBK := Lib.hid hbk
            rw [← hbk] at hbm hbr hk1 ⊢
            clear hbk d0 d1 d2 d3 d4
            obtain ⟨y, hy⟩ : ∃ y, y = takeP st xn := ⟨_, rfl⟩
            obtain ⟨r, hr⟩ : ∃ r, r = takeR st xn := ⟨_, rfl⟩
            have cA : Calls Try.prog 17 #[.pointer (some ⟨W.heap.size, 0, none⟩), .int .i64 xn] w9 (fun e w' => ∃ v', e = .returned (.tuple #[y.agg, .int .i64 r]) ∧ PInv w2 W.heap.size (W.heap.size + 1) (takeS st xn) st v' vr w' ∧ Only (Ms.foot W.heap.size v) w9 w') := by
              rw [hy, hr]
              refine Calls.mono (take_all W.heap.size v st (0 + 256 * (k : Int)) xn w9 P9.out.mail HFN.out) ?_
              intro e w' hd
              exact P9.out.did (by omega) hd
            have cB : ∀ vA wA, PInv w2 W.heap.size (W.heap.size + 1) (takeS st xn) st vA vr wA → Calls Try.prog 18 #[.pointer (some ⟨W.heap.size + 1, 0, none⟩), .int .i64 xn] wA
                (fun e w' => ∃ v', e = .returned (.tuple #[y.agg, .int .i64 r]) ∧ PInv w2 W.heap.size (W.heap.size + 1) (takeS st xn) (takeS st xn) vA v' w' ∧ Only (Ms.foot (W.heap.size + 1) vr) wA w') := by
              intro vA wA PA
              rw [hy, hr]
              refine Calls.mono (rtake_all (W.heap.size + 1) vr st (0 + 256 * (k : Int)) xn wA PA.ref HFN.out) ?_
              intro e w' hd
              exact PA.rdid (by omega) hd
            have CA := Lib.hid cA
            have CB := Lib.hid cB
            clear cA cB hy hr
            refine CA.out.mono ?_
            rintro eA wA ⟨vA, rfl, PA, oA⟩
            have u1 := only_cell oA (o := 1) hk1 hbm
            have hbA : bk < wA.heap.size := World.block_lt_of_cell? _ _ u1
            have PAH := Lib.hid PA
            clear PA oA
            have hq : ∀ w, (binOp .neq 27 (.agg #[.int .i64 y.n, .int .i64 y.d, .int .i64 y.f, .string y.s]) (.agg #[.int .i64 y.n, .int .i64 y.d, .int .i64 y.f, .string y.s])).run Try.prog w = .ok (.bool false) w := fun w => by
              have := run_neq27 y y w
              rwa [pkB_true.2 rfl] at this
            have hrr : (r != r) = false := by simp
            simp only [Pk.agg]
            go_wp2_with fail
            refine (CB.out _ _ (PAH.out.later ((Only.refl _ _).alloc _))).mono ?_
            rintro eB wB0 ⟨vB, rfl, PB, oB⟩
            have hqf : ¬ Ms.foot (W.heap.size + 1) vr wA.heap.size := fun q => by have := PAH.out.lt.2 _ q; omega
            have y0 : wB0.cell? ⟨wA.heap.size, 0, none⟩ = some (.int .i64 y.n) := only_cell oB (cell_of (block_new wA _) 0) hqf
            have y1 : wB0.cell? ⟨wA.heap.size, 1, none⟩ = some (.int .i64 y.d) := only_cell oB (cell_of (block_new wA _) 1) hqf
            have y2 : wB0.cell? ⟨wA.heap.size, 2, none⟩ = some (.int .i64 y.f) := only_cell oB (cell_of (block_new wA _) 2) hqf
            have y3 : wB0.cell? ⟨wA.heap.size, 3, none⟩ = some (.string y.s) := only_cell oB (cell_of (block_new wA _) 3) hqf
            have hqB : wA.heap.size < wB0.heap.size := World.block_lt_of_cell? _ _ y0
            have PB0 := Lib.hid (PB.later (w' := wB0.alloc (.cells #[.int .i64 y.n, .int .i64 y.d, .int .i64 y.f, .string y.s] 27)) ((Only.refl _ _).alloc _))
            clear PB oB
            simp only [Pk.agg]
            go_wp2_with fail
            generalize wB0.alloc (.cells #[.int .i64 y.n, .int .i64 y.d, .int .i64 y.f, .string y.s] 27) = wB at PB0 ⊢
            have PBH := PB0
            clear PB0 y0 y1 y2 y3
            have hl' : (takeS st xn).l.length ≤ 256 := HFD.out.1
            obtain ⟨am, cm, hvA⟩ := slice_form PBH.out.mail.2
            obtain ⟨ar, cr, hvB⟩ := slice_form PBH.out.ref.2
            subst hvA hvB
            have ka : wB.cell? ⟨W.heap.size, 1, none⟩ = some (.slice am (takeS st xn).l.length cm) := cell_of PBH.out.mail.1 1
            have kr : wB.cell? ⟨W.heap.size + 1, 1, none⟩ = some (.slice ar (takeS st xn).l.length cr) := cell_of PBH.out.ref.1 1
            have hWB : W.heap.size + 1 < wB.heap.size := World.block_lt_of_cell? _ _ kr
            have cL : Calls Try.prog 11 #[.pointer (some ⟨W.heap.size, 0, none⟩)] wB.drew (fun e w' => ∃ u, e = .returned u ∧ Row w' u (takeS st xn).l ∧ Row w' (.slice ar (takeS st xn).l.length cr) (takeS st xn).l ∧ Below wB.heap.size wB w' ∧ w'.cell? ⟨W.heap.size + 1, 1, none⟩ = some (.slice ar (takeS st xn).l.length cr)) := by
              refine (list_any W.heap.size (takeS st xn).sent _ (takeS st xn).l wB.drew hl' (PBH.out.later ((Only.refl _ _).drew)).mail).mono ?_
              rintro e w' ⟨u, h1, h2, h3, _⟩
              have hb : Below wB.heap.size wB w' := ⟨h3.os, h3.tape, h3.output, h3.size, h3.block⟩
              exact ⟨u, h1, h2, PBH.out.ref.2.move (fun b q => hb.block b (PBH.out.ref.2.lt q)), hb, (hb.cell (p := ⟨W.heap.size + 1, 1, none⟩) hWB).trans kr⟩
            have cS : ∀ u wC, Row wC u (takeS st xn).l → Row wC (.slice ar (takeS st xn).l.length cr) (takeS st xn).l → Calls Try.prog 13 #[u, .slice ar (takeS st xn).l.length cr] wC (fun e w' => e = .returned (.bool true) ∧ ∃ n, w' = wC.drewN n) := by
              intro u wC h1 h2
              refine (same_any u _ (takeS st xn).l (takeS st xn).l wC h1 h2 hl' hl').mono ?_
              rintro e w' ⟨⟨b, h3, h4⟩, h5⟩
              exact ⟨by rw [h3, h4.2 rfl], h5⟩
            have CL := Lib.hid cL
            have CS := Lib.hid cS
            have hpn : W.heap.size + 1 = W.heap.size + 1 := rfl
            clear cL cS hpn
            generalize hgl : (takeS st xn).l.length = nl at hl' ka kr CL CS ⊢
            have HGL := Lib.hid hgl
            clear hgl
            go_region_held3 (fun w' => w'.cell? ⟨W.heap.size + 1, 1, none⟩ = some (.slice ar nl cr))
              (go_keep)
              (first
                | (go_at_call 20; refine (len_any W.heap.size am nl cm _ (by exact ka)).mono ?_; rintro e w' ⟨rfl, rfl⟩)
                | (go_at_call 11; refine CL.out.mono ?_; rintro e wC ⟨u, rfl, r1, r2, b3, kc⟩; have R1 := Lib.hid r1; have R2 := Lib.hid r2; have B3 := Lib.hid b3; clear r1 r2 b3)
                | (go_at_call 13; refine (CS.out _ _ R1.out R2.out).mono ?_; rintro e w' ⟨rfl, nD, rfl⟩))
            go_wp2_with fail
            go_roundw
            case rel =>
              refine ⟨k + 1, .slice am (takeS st xn).l.length cm, .slice ar (takeS st xn).l.length cr, by omega, by go_num, ?_⟩
              rw [HE.out]
              have hq : Only (fun _ => False) wB (wC.drewN nD) := (Only.ofBelow B3.out).drewN nD
              exact PBH.out.later hq
            case measure => simp [intOf]; omega
        · obtain ⟨ds1, _, _⟩ := does_twice (st := st) (x := ⟨xk, xn, xd, xf, xL⟩) hsend htake
          rw [ds1] at HFD HE
          have z0 : (xk == 0) = false := by simp only [isSend] at hsend; simp; omega
          have z1 : (xk == 1) = false := by simp only [isSend] at hsend; simp; omega
          have z2 : (xk == 2) = false := by simp only [isSend] at hsend; simp; omega
          have z3 : (xk == 3) = false := by simp only [isTake] at htake; simp; omega
          have z4 : (xk == 4) = false := by simp only [isTake] at htake; simp; omega
          clear ds1 hsend htake
          go_wp2_with fail
          generalize wr.alloc (.cells _ 32) = w9 at P9 T9 Q9 B9 ⊢
          have hwq : wr.heap.size ≤ w9.heap.size := Q9.out.size
          have hw2q : w2.heap.size ≤ wr.heap.size := HI.out.only.size
          have hk1 : w9.cell? ⟨wr.heap.size, 1, none⟩ = some (.int .i64 xn) := cell_of B9.out 1
          have hWs : W.heap.size < w9.heap.size := by omega
          obtain ⟨bk, hbk⟩ : ∃ bk, bk = wr.heap.size := ⟨_, rfl⟩
          have HBK := Lib.hid hbk
          rw [← hbk] at hbm hbr hk1 ⊢
          clear hbk d0 d1 d2 d3 d4
          have cA : Calls Try.prog 12 #[.pointer (some ⟨W.heap.size, 0, none⟩), .int .i64 xn] w9.drew (fun e w' => ∃ v', e = .returned (.int .i64 (twiceR st xn)) ∧ PInv w2 W.heap.size (W.heap.size + 1) (twiceS st xn) st v' vr w' ∧ Only (Ms.foot W.heap.size v) w9.drew w') := by
            refine Calls.mono (twice_all W.heap.size v st (0 + 256 * (k : Int)) xn w9.drew P9.out.mail HFN.out hN) ?_
            intro e w' hd
            exact PInv.did (P9.out.later ((Only.refl _ _).drew)) (by omega) hd
          have cB : ∀ vA wA, PInv w2 W.heap.size (W.heap.size + 1) (twiceS st xn) st vA vr wA → Calls Try.prog 19 #[.pointer (some ⟨W.heap.size + 1, 0, none⟩), .int .i64 xn] wA
              (fun e w' => ∃ v', e = .returned (.int .i64 (twiceR st xn)) ∧ PInv w2 W.heap.size (W.heap.size + 1) (twiceS st xn) (twiceS st xn) vA v' w' ∧ Only (Ms.foot (W.heap.size + 1) vr) wA w') := by
            intro vA wA PA
            refine Calls.mono (rtwice_all (W.heap.size + 1) vr st (0 + 256 * (k : Int)) xn wA PA.ref HFN.out hN) ?_
            intro e w' hd
            exact PA.rdid (by omega) hd
          have CA := Lib.hid cA
          have CB := Lib.hid cB
          clear cA cB
          go_region_held3 (fun w' => w'.cell? ⟨bk, 1, none⟩ = some (.int .i64 xn))
            (go_keep)
            (first
              | (go_at_call 12; refine CA.out.mono ?_; rintro eA wA ⟨vA, rfl, PA, oA⟩; have u1 := only_cell oA (o := 1) hk1 hbm; have PAH := Lib.hid PA; clear PA oA)
              | (go_at_call 19; refine (CB.out _ _ PAH.out).mono ?_; rintro eB wB ⟨vB, rfl, PB, oB⟩; have u1' := only_cell oB (o := 1) u1 hbr; have PBH := Lib.hid PB; clear PB oB))
          have hnn : (twiceR st xn != twiceR st xn) = false := by simp
          go_wp2_with fail
          have hl' : (twiceS st xn).l.length ≤ 256 := HFD.out.1
          obtain ⟨am, cm, hvA⟩ := slice_form PBH.out.mail.2
          obtain ⟨ar, cr, hvB⟩ := slice_form PBH.out.ref.2
          subst hvA hvB
          have ka : wB.cell? ⟨W.heap.size, 1, none⟩ = some (.slice am (twiceS st xn).l.length cm) := cell_of PBH.out.mail.1 1
          have kr : wB.cell? ⟨W.heap.size + 1, 1, none⟩ = some (.slice ar (twiceS st xn).l.length cr) := cell_of PBH.out.ref.1 1
          have hWB : W.heap.size + 1 < wB.heap.size := World.block_lt_of_cell? _ _ kr
          have cL : Calls Try.prog 11 #[.pointer (some ⟨W.heap.size, 0, none⟩)] wB.drew (fun e w' => ∃ u, e = .returned u ∧ Row w' u (twiceS st xn).l ∧ Row w' (.slice ar (twiceS st xn).l.length cr) (twiceS st xn).l ∧ Below wB.heap.size wB w' ∧ w'.cell? ⟨W.heap.size + 1, 1, none⟩ = some (.slice ar (twiceS st xn).l.length cr)) := by
            refine (list_any W.heap.size (twiceS st xn).sent _ (twiceS st xn).l wB.drew hl' (PBH.out.later ((Only.refl _ _).drew)).mail).mono ?_
            rintro e w' ⟨u, h1, h2, h3, _⟩
            have hb : Below wB.heap.size wB w' := ⟨h3.os, h3.tape, h3.output, h3.size, h3.block⟩
            exact ⟨u, h1, h2, PBH.out.ref.2.move (fun b q => hb.block b (PBH.out.ref.2.lt q)), hb, (hb.cell (p := ⟨W.heap.size + 1, 1, none⟩) hWB).trans kr⟩
          have cS : ∀ u wC, Row wC u (twiceS st xn).l → Row wC (.slice ar (twiceS st xn).l.length cr) (twiceS st xn).l → Calls Try.prog 13 #[u, .slice ar (twiceS st xn).l.length cr] wC (fun e w' => e = .returned (.bool true) ∧ ∃ n, w' = wC.drewN n) := by
            intro u wC h1 h2
            refine (same_any u _ (twiceS st xn).l (twiceS st xn).l wC h1 h2 hl' hl').mono ?_
            rintro e w' ⟨⟨b, h3, h4⟩, h5⟩
            exact ⟨by rw [h3, h4.2 rfl], h5⟩
          have CL := Lib.hid cL
          have CS := Lib.hid cS
          have hpn : W.heap.size + 1 = W.heap.size + 1 := rfl
          clear cL cS hpn
          generalize hgl : (twiceS st xn).l.length = nl at hl' ka kr CL CS ⊢
          have HGL := Lib.hid hgl
          clear hgl
          go_region_held3 (fun w' => w'.cell? ⟨W.heap.size + 1, 1, none⟩ = some (.slice ar nl cr))
            (go_keep)
            (first
              | (go_at_call 20; refine (len_any W.heap.size am nl cm _ (by exact ka)).mono ?_; rintro e w' ⟨rfl, rfl⟩)
              | (go_at_call 11; refine CL.out.mono ?_; rintro e wC ⟨u, rfl, r1, r2, b3, kc⟩; have R1 := Lib.hid r1; have R2 := Lib.hid r2; have B3 := Lib.hid b3; clear r1 r2 b3)
              | (go_at_call 13; refine (CS.out _ _ R1.out R2.out).mono ?_; rintro e w' ⟨rfl, nD, rfl⟩))
          go_wp2_with fail
          go_roundw
          case rel =>
            refine ⟨k + 1, .slice am (twiceS st xn).l.length cm, .slice ar (twiceS st xn).l.length cr, by omega, by go_num, ?_⟩
            rw [HE.out]
            have hq : Only (fun _ => False) wB (wC.drewN nD) := (Only.ofBelow B3.out).drewN nD
            exact PBH.out.later hq
          case measure => simp [intOf]; omega
    · obtain rfl : k = D.length := by omega
      go_wp2_with fail
      refine (awake_any _).mono ?_
      rintro e w7 ⟨rfl, q7⟩
      have Q7 := Lib.hid q7
      clear q7
      go_wp2_with fail
      go_ret
      refine ⟨rfl, B2.out.trans ?_⟩
      have o1 : Below W.heap.size w2 wr := HI.out.only.below (by omega) (fun b hb => by rcases hb with q | q <;> omega)
      exact o1.trans (Q7.out.below (by have := HI.out.only.size; omega) (fun _ h => h.elim))
end Go.Proofs.Ytcfmohhidbneoaa.Lp
