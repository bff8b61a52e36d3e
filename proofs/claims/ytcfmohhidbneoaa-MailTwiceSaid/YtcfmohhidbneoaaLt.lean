/- MailTwice: what is sent twice is there once more, behind all others, and the one that was there stays: the law's walk. -/
import Derived.Test.YtcfmohhidbneoaaMi
import Derived.Lib.SmallJoins
namespace Go.Proofs.Ytcfmohhidbneoaa.Lt
open Go.RowKit Go.Proofs.Ytcfmohhidbneoaa.Mk Go.Proofs.Ytcfmohhidbneoaa.Mq Go.Proofs.Ytcfmohhidbneoaa.Ma Go.Proofs.Ytcfmohhidbneoaa.Mw Go.Proofs.Ytcfmohhidbneoaa.Ms Go.Proofs.Ytcfmohhidbneoaa.Mc Go.Proofs.Ytcfmohhidbneoaa.Mt Go.Proofs.Ytcfmohhidbneoaa.Mu Go.Proofs.Ytcfmohhidbneoaa.Me Go.Proofs.Ytcfmohhidbneoaa.Mf Go.Proofs.Ytcfmohhidbneoaa.Mg Go.Proofs.Ytcfmohhidbneoaa.Mh Go.Proofs.Ytcfmohhidbneoaa.Mi
set_option linter.unusedSimpArgs false
set_option linter.unusedVariables false
theorem quiet_cell {w w' : World} (h : Quiet w w') {a : Addr} {v : Value} (hv : w.cell? a = some v) : w'.cell? a = some v :=
  (World.cell?_of_block (w := w) (h.block a.block (World.block_lt_of_cell? _ _ hv) (fun q => q))).trans hv
def True1 (w : World) (e : Ending) (w' : World) : Prop := e = .returned (.bool true) ∧ Below w.heap.size w w'
set_option maxHeartbeats 3200000 in
set_option maxRecDepth 100000 in
theorem twice_any (A : Option Addr) (rl : List DV) (ds : List Dd) (c : Nat) (p : Int) (W : World) (hc : rl.length ≤ c) (hn : rl.length ≤ 9223372036854775807) (hR : RawAt W A rl) (hfit : AllFit W W.heap.size rl ds) :
    Calls Try.prog 3 #[.slice A rl.length c, .int .i64 p] W (True1 W) := by
  have hptr := fits_ptr hfit
  have hR1 : RawAt (W.alloc (.cells #[.int .i64 0, .slice none 0 0] 56)) A rl := by
    rcases hR with h | ⟨b, off, e, h⟩
    · exact .inl h
    · refine .inr ⟨b, off, e, fun i hi => ?_⟩
      obtain ⟨h0, h1, h2, h3, h4⟩ := h i hi
      have hb : b < W.heap.size := World.block_lt_of_cell? _ _ h0
      have cc : ∀ j u, W.cell? ⟨b, j, none⟩ = some u → (W.alloc (.cells #[.int .i64 0, .slice none 0 0] 56)).cell? ⟨b, j, none⟩ = some u := fun j u h => (World.cell?_alloc_past _ _ _ hb).trans h
      exact ⟨cc _ _ h0, cc _ _ h1, cc _ _ h2, cc _ _ h3, cc _ _ h4⟩
  have HP := Lib.hid hptr
  have HR := Lib.hid hR1
  have HF := Lib.hid hfit
  clear hptr hR hR1 hfit
  go_enter Try.func3, Try.ntmps3
  go_wp2_with fail
  refine (new_any _).mono ?_
  rintro e w1 ⟨rfl, hw1⟩
  have b1 : Below W.heap.size W w1 := by rw [hw1]; exact (Below.refl _ _).alloc (Nat.le_refl _) _
  have s1 : w1.heap.size = W.heap.size + 1 := by rw [hw1]; simp
  have m1 : w1.heap[W.heap.size]? = some (.cells #[.int .i64 0, .slice none 0 0] 56 (0, 0)) := by rw [hw1]; exact block_new W _
  rw [← hw1] at HR
  have B1 := Lib.hid b1
  have S1 := Lib.hid s1
  have M1 := Lib.hid m1
  clear hw1 b1 s1 m1
  go_wp2_with fail
  refine (few_any A rl c w1 hc hn HR.out HP.out.1 HP.out.2).mono ?_
  rintro e w2 ⟨u, rfl, ho, hb, hg⟩
  obtain ⟨a, cc, rfl, hd⟩ := few_deeds HF.out B1.out (by have := S1.out; omega) ho hb hg
  have hI0 : LInv w2 W.heap.size st0 (.slice none 0 0) w2 := ⟨⟨by rw [hb.block _ (by have := S1.out; omega)]; exact M1.out, Row.nil _⟩, Only.refl _ _, fun b h => by cases h⟩
  have hfl := few_len ds
  have hft := few_texts HF.out
  have b2 : Below W.heap.size W w2 := B1.out.trans (hb.mono (by have := S1.out; omega))
  have hmw : W.heap.size < w2.heap.size := lt_of_block hI0.mail.1
  obtain ⟨D, hD⟩ : ∃ D, D = fewD ds := ⟨_, rfl⟩
  rw [← hD] at hd hfl hft ⊢
  have HD := Lib.hid hd
  have HFT := Lib.hid hft
  have HI0 := Lib.hid hI0
  have B2 := Lib.hid b2
  clear ho hb hg hI0 b2 hd hft hD
  go_wp2_with fail
  go_loopw [6] (fun i wr => ∃ (k : Nat) (v : Value), k ≤ D.length ∧ i = .int .i64 k ∧ LInv w2 W.heap.size (run st0 (D.take k)) v wr) (fun i _ => D.length - (intOf i).toNat)
  case atStart => exact ⟨0, _, by omega, rfl, HI0.out⟩
  case round =>
    obtain ⟨k, v, hk, rfl, hI⟩ := hrel
    have HI := Lib.hid hI
    clear hI
    by_cases hlt : k < D.length
    · rcases HD.out with h0 | ⟨g, rfl, hg1, hg2, hdd⟩
      · rw [h0] at hlt; simp at hlt
      have hlt' : (k : Int) < D.length := by omega
      have hk0 : (0 : Int) ≤ (k : Int) := by omega
      have hgm : g ≠ W.heap.size := by have := S1.out; omega
      obtain ⟨a', c', d0, d1, d2, d3, d4, d5, d6⟩ := (hdd k hlt).move (w' := wr) (C := W.heap.size) (HI.out.only.block g hg2 hgm) (HI.out.below (Nat.le_refl _) (by omega)) (Nat.le_refl _)
      obtain ⟨x, hx⟩ : ∃ x, x = D[k] := ⟨_, rfl⟩
      rw [← hx] at d0 d1 d2 d3 d4 d5 d6
      have hxm : x ∈ D := by rw [hx]; exact List.getElem_mem hlt
      have hxt := HFT.out x hxm
      have HX := Lib.hid hx
      have D6 := Lib.hid d6
      have hfine : Fine (run st0 (D.take k)) (0 + 256 * (D.take k).length) := fine_run _ (fun y hy => (HFT.out y (List.mem_of_mem_take hy)).2) fine_empty
      have hkl : (D.take k).length = k := by rw [List.length_take]; omega
      rw [hkl] at hfine
      have HFN := Lib.hid hfine
      clear hx d6 hdd hfine hkl hxm
      go_wp2_with fail
      refine (does_any W.heap.size v (run st0 (D.take k)) (0 + 256 * (k : Int)) x a' c' wr HI.out.mail HFN.out (by omega) d5 (by omega) (texts_wide D6.out (by have := HI.out.only.size; omega)) (fun b off e => (D6.out.2.1 b off e).imp id (fun q => HI.out.foot (by omega) (by omega)))).mono ?_
      intro e w' hdid
      obtain ⟨v', rfl, hI'⟩ := HI.out.did hdid
      have HI' := Lib.hid hI'
      clear hdid hI' d0 d1 d2 d3 d4
      go_wp2_with fail
      go_roundw
      case rel =>
        refine ⟨k + 1, v', by omega, by go_num, ?_⟩
        rw [List.take_succ_eq_append_getElem hlt, run_snoc, ← HX.out]
        exact HI'.out
      case measure => simp [intOf]; omega
    · obtain rfl : k = D.length := by omega
      have hst : D.take D.length = D := List.take_length
      rw [hst] at HI
      have hfine : Fine (run st0 D) (0 + 256 * D.length) := fine_run _ (fun y hy => (HFT.out y hy).2) fine_empty
      have hgood : GoodSt (run st0 D) := good_run D good_empty
      have hN : (0 + 256 * (D.length : Int)) ≤ 1000000 := by omega
      obtain ⟨st, hs⟩ : ∃ st, st = run st0 D := ⟨_, rfl⟩
      rw [← hs] at HI hfine hgood
      have hl256 : st.l.length ≤ 256 := hfine.1
      have HFN := Lib.hid hfine
      have HG := Lib.hid hgood
      clear hst hfine hgood hs
      go_wp2_with fail
      refine (list_any W.heap.size st.sent v st.l wr hl256 HI.out.mail).mono ?_
      rintro e w3 ⟨u1, rfl, r1, b3, g1⟩
      have hI3 := HI.out.later (Only.ofBelow b3)
      have H3 := Lib.hid hI3
      have hu1 : ∀ g, u1.ownBlock = some g → ¬ foot W.heap.size v g := by
        intro g hg q
        have h1 := g1 g hg
        have hmr := lt_of_block HI.out.mail.1
        rcases q with q | q
        · omega
        · have := HI.out.mail.2.lt q; omega
      have HU1 := Lib.hid hu1
      have R1 := Lib.hid r1
      clear hI3 hu1 r1 b3 g1
      go_wp2_with fail
      refine (twice_all W.heap.size v st (0 + 256 * (D.length : Int)) p w3 H3.out.mail HFN.out hN).mono ?_
      intro e w4 hd4
      have r4 := R1.out.only hd4.2.choose_spec.2.1 HU1.out
      obtain ⟨v4, rfl, hI4⟩ := H3.out.did hd4
      have H4 := Lib.hid hI4
      have R4 := Lib.hid r4
      clear hd4 r4 hI4
      go_wp2_with fail
      have hfine4 : Fine (twiceS st p) (0 + 256 * (D.length : Int) + 256) := fine_twice HFN.out p
      have hl4 : (twiceS st p).l.length ≤ 256 := hfine4.1
      refine (list_any W.heap.size (twiceS st p).sent v4 (twiceS st p).l w4 hl4 H4.out.mail).mono ?_
      rintro e w5 ⟨u2, rfl, r5, b5, g5⟩
      have r15 : Row w5 u1 st.l := R4.out.move (fun g hg => b5.block g (R4.out.lt hg))
      have b6 : Below W.heap.size W w5 := (B2.out.trans (H4.out.below (Nat.le_refl _) (by omega))).trans (b5.mono (by have := H4.out.only.size; omega))
      have hw5 : W.heap.size ≤ w5.heap.size := b6.size
      obtain ⟨a1, c1, hu1⟩ := slice_form r15
      obtain ⟨a2, c2, hu2⟩ := slice_form r5
      subst hu1 hu2
      have R15 := Lib.hid r15
      have R5 := Lib.hid r5
      have B6 := Lib.hid b6
      clear r15 r5 b6 hfine4 g5 b5
      by_cases hp : 0 ≤ p ∧ p < st.l.length
      · obtain ⟨q, rfl⟩ := Int.eq_ofNat_of_zero_le hp.1
        have hq : q < st.l.length := by omega
        by_cases h256 : st.l.length = 256
        · obtain ⟨er, et⟩ := twice_full HG.out hq h256
          rw [et] at R5 ⊢
          rw [er]
          have hd : ((st.l.length : Int) == 256) = true := by simp; omega
          have hge : decide ((st.l.length : Int) ≤ (q : Int)) = false := by simp; omega
          clear hp et er h256
          go_wp2_with fail
          refine (same_any _ _ st.l st.l w5 R15.out R5.out hl256 hl256).mono ?_
          rintro e w6 ⟨⟨b, rfl, hb⟩, n6, rfl⟩
          obtain rfl : b = true := hb.2 rfl
          clear hb
          go_wp2_with fail
          refine (awake_any _).mono ?_
          rintro e w7 ⟨rfl, q7⟩
          have Q7 := Lib.hid q7
          clear q7
          go_wp2_with fail
          go_ret
          exact ⟨rfl, (B6.out.trans (Joins.below_draws _ _ _)).trans (Q7.out.below hw5 (fun _ h => h.elim))⟩
        · obtain ⟨er, et⟩ := twice_room HG.out hq (by omega)
          rw [et] at R5 ⊢
          rw [er]
          have hd : ((st.l.length : Int) == 256) = false := by simp; omega
          have hge : decide ((st.l.length : Int) ≤ (q : Int)) = false := by simp; omega
          obtain ⟨x, hx⟩ : ∃ x, x = st.l[q] := ⟨_, rfl⟩
          obtain ⟨z, hz⟩ : ∃ z, z = st.l[st.l.length - 1]'(by omega) := ⟨_, rfl⟩
          obtain ⟨y, hy⟩ : ∃ y : Pk, y = ⟨st.sent + 1, st.l[q].d, st.l[q].f, st.l[q].s⟩ := ⟨_, rfl⟩
          have hzn : z.n < y.n := by
            have := (HG.out.1 z (by rw [hz]; exact List.getElem_mem _)).2.2
            rw [hy]; show z.n < st.sent + 1; omega
          have hyx : y.d = x.d ∧ y.f = x.f ∧ y.s = x.s := by rw [hy, hx]; exact ⟨rfl, rfl, rfl⟩
          rw [← hy] at R5 ⊢
          have hl5 : (⟨st.sent + 1, st.l ++ [y]⟩ : St).l.length = st.l.length + 1 := by simp
          have R15' := R15.out
          have R5' : Row w5 (.slice a2 (st.l ++ [y]).length c2) (st.l ++ [y]) := R5.out
          rw [hl5]
          clear hl5 R5
          rcases R15'.form with ⟨_, h0⟩ | ⟨g1, _, _, e1, hg1, hk1, _⟩
          · rw [h0] at hq; simp at hq
          cases e1
          rcases R5'.form with ⟨_, h0⟩ | ⟨g2, _, _, e2, hg2, hk2, _⟩
          · simp at h0
          cases e2
          obtain ⟨p0, p1, p2, p3⟩ := R15'.at q hq
          obtain ⟨z0, _, _, _⟩ := R15'.at (st.l.length - 1) (by omega)
          obtain ⟨y0, y1, y2, y3⟩ := R5'.at st.l.length (by simp)
          have ey : (st.l ++ [y])[st.l.length]'(by simp) = y := by simp
          rw [ey] at y0 y1 y2 y3
          rw [← hx] at p0 p1 p2 p3
          rw [← hz] at z0
          rw [hyx.1] at y1
          rw [hyx.2.1] at y2
          rw [hyx.2.2] at y3
          have hyagg : y.agg = .agg #[.int .i64 y.n, .int .i64 x.d, .int .i64 x.f, .string x.s] := by rw [← hyx.1, ← hyx.2.1, ← hyx.2.2]; rfl
          have hlen1 : (st.l ++ [y]).length = st.l.length + 1 := by simp
          have RC := Lib.hid R5'.cut
          have hb1 := lt_of_block hg1
          have hb2 := lt_of_block hg2
          rw [hlen1] at hk2
          have hgt : decide (z.n < y.n) = true := by simpa using hzn
          have hn1 : (0 : Int) ≤ (st.l.length : Int) - 1 := by omega
          have hnq : (0 : Int) ≤ (st.l.length : Int) := by omega
          have hn4 : (1 : Int) ≤ (st.l.length : Int) := by omega
          have hn5 : 1 ≤ st.l.length := by omega
          have hn6 : 0 < st.l.length := by omega
          have hn2 : (st.l.length : Int) - 1 < (st.l.length : Int) := by omega
          have hn3 : ((st.l.length : Int) - 1).toNat = st.l.length - 1 := by omega
          have hcut : st.l.length ≤ c2 := by omega
          clear hx hz hy ey R5' R15' et er hg1 hg2 hzn hyx hyagg
          go_wp2_with fail
          generalize hw9 : (w5.alloc (.cells #[.int .i64 x.n, .int .i64 x.d, .int .i64 x.f, .string x.s] 27)).alloc (.cells #[.int .i64 y.n, .int .i64 x.d, .int .i64 x.f, .string x.s] 27) = w9
          have hq9 : Only (fun _ => False) w5 w9 := by rw [← hw9]; exact ((Only.refl _ _).alloc _).alloc _
          have bx : w9.heap[w5.heap.size]? = some (.cells #[.int .i64 x.n, .int .i64 x.d, .int .i64 x.f, .string x.s] 27 (0, 0)) := by rw [← hw9]; exact block_alloc (block_new _ _) _
          have b_y : w9.heap[w5.heap.size + 1]? = some (.cells #[.int .i64 y.n, .int .i64 x.d, .int .i64 x.f, .string x.s] 27 (0, 0)) := by rw [← hw9]; exact block_new2 _ _ _
          have x1 : w9.cell? ⟨w5.heap.size, 1, none⟩ = some (.int .i64 x.d) := cell_of bx 1
          have x2 : w9.cell? ⟨w5.heap.size, 2, none⟩ = some (.int .i64 x.f) := cell_of bx 2
          have x3 : w9.cell? ⟨w5.heap.size, 3, none⟩ = some (.string x.s) := cell_of bx 3
          have v0 : w9.cell? ⟨w5.heap.size + 1, 0, none⟩ = some (.int .i64 y.n) := cell_of b_y 0
          have v1 : w9.cell? ⟨w5.heap.size + 1, 1, none⟩ = some (.int .i64 x.d) := cell_of b_y 1
          have v2 : w9.cell? ⟨w5.heap.size + 1, 2, none⟩ = some (.int .i64 x.f) := cell_of b_y 2
          have v3 : w9.cell? ⟨w5.heap.size + 1, 3, none⟩ = some (.string x.s) := cell_of b_y 3
          have z9 : w9.cell? ⟨g1, (st.l.length - 1) * 4, none⟩ = some (.int .i64 z.n) := (World.cell?_of_block (w := w5) (hq9.block g1 hb1 (fun h => h))).trans z0
          have HQ9 := Lib.hid hq9
          have RA : Hid (Row w9 (.slice (some ⟨g2, 0, none⟩) st.l.length c2) st.l) := RC.out.only hq9 (fun _ _ h => h)
          have RB : Hid (Row w9 (.slice (some ⟨g1, 0, none⟩) st.l.length c1) st.l) := R15.out.only hq9 (fun _ _ h => h)
          have hsz9 : W.heap.size ≤ w9.heap.size := by have := hq9.size; omega
          obtain ⟨nb, hnb⟩ : ∃ nb, nb = w5.heap.size := ⟨_, rfl⟩
          rw [← hnb] at x1 x2 x3 v0 v1 v2 v3 ⊢
          have HNB := Lib.hid hnb
          clear hw9 hq9 bx b_y p0 p1 p2 p3 y0 y1 y2 y3 z0 hnb
          have hwr1 : IntKind.i64.wrap ((st.l.length : Int) + 1) = (st.l.length : Int) + 1 := by rw [IntKind.wrap_i64]; omega
          have hwr2 : IntKind.i64.wrap ((st.l.length : Int) - 1) = (st.l.length : Int) - 1 := by rw [IntKind.wrap_i64]; omega
          go_region_held3 (fun w' => w'.cell? ⟨nb, 1, none⟩ = some (.int .i64 x.d) ∧ w'.cell? ⟨nb, 2, none⟩ = some (.int .i64 x.f) ∧ w'.cell? ⟨nb, 3, none⟩ = some (.string x.s) ∧ w'.cell? ⟨nb + 1, 0, none⟩ = some (.int .i64 y.n) ∧ w'.cell? ⟨nb + 1, 1, none⟩ = some (.int .i64 x.d) ∧ w'.cell? ⟨nb + 1, 2, none⟩ = some (.int .i64 x.f) ∧ w'.cell? ⟨nb + 1, 3, none⟩ = some (.string x.s) ∧ w'.cell? ⟨g1, (st.l.length - 1) * 4, none⟩ = some (.int .i64 z.n))
            (first | go_keep | (go_split_ands; refine ⟨?_, ?_, ?_, ?_, ?_, ?_, ?_, ?_⟩ <;> exact quiet_cell q7 (by assumption)))
            (first
              | (go_at_call 13; refine (same_any _ _ st.l st.l _ (RA.out.only ((Only.refl (fun _ => False) _).drewN 1) (fun _ _ h => h)) (RB.out.only ((Only.refl (fun _ => False) _).drewN 1) (fun _ _ h => h)) hl256 hl256).mono ?_; rintro e w6 ⟨⟨b, rfl, hb⟩, n6, rfl⟩; obtain rfl : b = true := hb.2 rfl; clear hb)
              | (go_at_call 14; refine (awake_any _).mono ?_; rintro e w7 ⟨rfl, q7⟩))
          have Q7 := Lib.hid q7
          clear q7
          go_wp2_with fail
          go_ret
          exact ⟨rfl, (B6.out.trans (((HQ9.out.drewN (1 + n6)).trans Q7.out (fun _ _ h => h)).below hw5 (fun _ h => h.elim)))⟩
      · have et : twiceS st p = st := by simp [twiceS, hp]
        have er : twiceR st p = 6 := by simp [twiceR, hp]
        rw [et] at R5 ⊢
        rw [er]
        rcases not_in hp with h | ⟨h, h'⟩
        all_goals
          have HP' := Lib.hid hp
          clear hp et er
          go_wp2_with fail
          refine (same_any _ _ st.l st.l w5 R15.out R5.out hl256 hl256).mono ?_
          rintro e w6 ⟨⟨b, rfl, hb⟩, n6, rfl⟩
          obtain rfl : b = true := hb.2 rfl
          clear hb
          go_wp2_with fail
          refine (awake_any _).mono ?_
          rintro e w7 ⟨rfl, q7⟩
          have Q7 := Lib.hid q7
          clear q7
          go_wp2_with fail
          go_ret
          exact ⟨rfl, (B6.out.trans (Joins.below_draws _ _ _)).trans (Q7.out.below hw5 (fun _ h => h.elim))⟩
end Go.Proofs.Ytcfmohhidbneoaa.Lt
