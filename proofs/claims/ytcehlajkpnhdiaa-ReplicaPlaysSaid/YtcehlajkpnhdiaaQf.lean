/- The contract of the reference's fetch. -/
import Derived.Test.YtcehlajkpnhdiaaQc
import Derived.Test.YtcehlajkpnhdiaaPr
namespace Go.Proofs.Ytcehlajkpnhdiaa.Ra
open Go.RowKit Go.Proofs.Ytcehlajkpnhdiaa.Rw Go.Proofs.Ytcehlajkpnhdiaa.Rp
set_option linter.unusedSimpArgs false
set_option linter.unusedVariables false
variable {w w1 : World} {m bs N cap : Nat} {vs : Nat → Value} {s : St} {C : List Cp}
theorem rhas_nil (x : Int) : Calls Try.prog 40 #[.slice none 0 0, .int .i64 x] w fun e w' => e = .returned (.bool (hasTo [] x 0)) ∧ w' = w := by
  go_enter Try.func40, Try.ntmps40
  go_wp2_with fail
  go_loopw [5] (fun v wr => v = .int .i64 0 ∧ wr = w) (fun _ _ => 0)
  case atStart => exact ⟨rfl, rfl⟩
  case round =>
    obtain ⟨rfl, rfl⟩ := hrel
    go_wp2_with fail
    go_ret
    exact ⟨rfl, rfl⟩
theorem rhas_any (v : Value) (l : List Cp) (x : Int) (hl : l.length ≤ 1000) (h : Row w v l) : Calls Try.prog 40 #[v, .int .i64 x] w fun e w' => e = .returned (.bool (hasTo l x l.length)) ∧ w' = w := by
  rcases h with ⟨rfl, rfl⟩ | ⟨g, cap, cur, rfl, h1, h2⟩
  · exact rhas_nil x
  · exact rhas_some g cap l x hl (.inr ⟨g, cap, cur, rfl, h1, h2⟩)
set_option maxHeartbeats 25600000 in
set_option maxRecDepth 100000 in
theorem rfetch_any (h : RBox w m bs N cap vs s) (hall : All N s C) (p : Nat) (hn : p < N) : Calls Try.prog 34 #[.pointer (some ⟨m, 0, none⟩), .int .i64 ((p : Int) + 1)] w (RDid m bs N cap vs (fetch N s p) w) := by
  have hf := hall.fit
  have hl := hf.lead
  have hN := hf.n5
  have o0 : w.cell? ⟨m, 0, none⟩ = some (.slice (some ⟨bs, 0, none⟩) N cap) := cell_of h.obj 0
  have o2 : w.cell? ⟨m, 2, none⟩ = some (.int .i64 s.lead) := cell_of h.obj 2
  have cu := h.up hn
  have hp0 : (0 : Int) ≤ (p : Int) := by omega
  have hp1 : (p : Int) < (N : Int) := by omega
  have hwp : IntKind.i64.wrap ((p : Int) + 1 - 1) = (p : Int) := by rw [IntKind.wrap_i64]; omega
  have HF := Lib.hid hf
  by_cases h0 : s.lead = 0
  · have HH := Lib.hid h
    clear h hf
    rw [h0] at o2
    go_enter Try.func34, Try.ntmps34
    go_wp2_with fail
    go_ret
    have e : fetch N s p = (14, s) := by simp [fetch, h0]
    rw [e]
    exact ⟨rfl, vs, HH.out, Only.refl _ _, Nextv.refl _ _ _⟩
  have hne : ((s.lead : Int) == 0) = false := by simp; omega
  cases hu : s.ups p with
  | false =>
    have HH := Lib.hid h
    rw [hu] at cu
    have HU := Lib.hid hu
    clear h hf hu
    go_enter Try.func34, Try.ntmps34
    go_wp2_with fail
    go_ret
    have e : fetch N s p = (14, s) := by simp [fetch, HU.out]
    rw [e]
    exact ⟨rfl, vs, HH.out, Only.refl _ _, Nextv.refl _ _ _⟩
  | true =>
  rw [hu] at cu
  by_cases h1 : p + 1 = s.lead
  · have HH := Lib.hid h
    have HU := Lib.hid hu
    have hd : ((p : Int) + 1 == (s.lead : Int)) = true := by simp; omega
    clear h hf hu
    go_enter Try.func34, Try.ntmps34
    go_wp2_with fail
    go_ret
    have e : fetch N s p = (9, s) := by simp [fetch, HU.out, h0, h1]
    rw [e]
    exact ⟨rfl, vs, HH.out, Only.refl _ _, Nextv.refl _ _ _⟩
  have hd : ((p : Int) + 1 == (s.lead : Int)) = false := by simp; omega
  have hlg : s.lead - 1 < N := by omega
  have hle : s.his.length ≤ 200 := hf.logs _ hlg
  have hlm : (s.logs p).length ≤ 200 := hf.logs _ hn
  have hhigh : s.high ≤ s.his.length := hall.k.toKPre.high_le hlg (hall.ok h0).1
  obtain ⟨G, hG⟩ := hall.g
  have hgm := hG.logs p hn
  have hgh : Good s.epoch G s.his := hG.logs _ hlg
  obtain ⟨ha, hc, hv⟩ := (h.rows (s.lead - 1) hlg).slice
  obtain ⟨his, hhis⟩ : ∃ his, his = s.his := ⟨_, rfl⟩
  obtain ⟨mine, hmine⟩ : ∃ mine, mine = s.logs p := ⟨_, rfl⟩
  obtain ⟨hll, hhl⟩ : ∃ hll, hll = his.length := ⟨_, rfl⟩
  obtain ⟨ma, mc, hmv⟩ := (h.rows p hn).slice
  obtain ⟨k, hk⟩ : ∃ k, k = mine.length := ⟨_, rfl⟩
  have hv' : vs (s.lead - 1) = .slice ha hll hc := by rw [hhl, hhis]; exact hv
  have hmv' : vs p = .slice ma k mc := by rw [hk, hmine]; exact hmv
  have hrh : Row w (.slice ha hll hc) his := by have := h.rows _ hlg; rw [hv'] at this; rw [hhis]; exact this
  have hrm : Row w (.slice ma k mc) mine := by have := h.rows p hn; rw [hmv', ← hmine] at this; exact this
  rw [← hhis] at hle hhigh hgh
  rw [← hhl] at hle hhigh
  rw [← hmine] at hlm hgm
  rw [← hk] at hlm
  have ch : w.cell? ⟨bs, (s.lead - 1) * 4, none⟩ = some (.slice ha hll hc) := by rw [h.log hlg, hv']
  have c0 : w.cell? ⟨bs, p * 4, none⟩ = some (.slice ma k mc) := by rw [h.log hn, hmv']
  have c1 := cu
  obtain ⟨u2, hu2⟩ : ∃ u2, u2 = s.ins p := ⟨_, rfl⟩
  obtain ⟨u3, hu3⟩ : ∃ u3, u3 = s.mat p := ⟨_, rfl⟩
  have c2 : w.cell? ⟨bs, p * 4 + 2, none⟩ = some (.bool u2) := by rw [hu2]; exact h.in_ hn
  have c3 : w.cell? ⟨bs, p * 4 + 3, none⟩ = some (.int .i64 u3) := by rw [hu3]; exact h.mat hn
  have hwr : IntKind.i64.wrap ((s.lead : Int) - 1) = (s.lead : Int) - 1 := by rw [IntKind.wrap_i64]; omega
  have hl0 : (0 : Int) ≤ (s.lead : Int) - 1 := by omega
  have hl1 : (s.lead : Int) - 1 < (N : Int) := by omega
  have hl2 : ((s.lead : Int) - 1).toNat = s.lead - 1 := by omega
  have hA : Hid (At w (w.alloc (Obj.cells #[.slice ma k mc, .bool true, .bool u2, .int .i64 u3] 66)) m bs N cap vs s w.heap.size #[.slice ma k mc, .bool true, .bool u2, .int .i64 u3]) := Lib.hid ⟨h, (Only.refl _ w).alloc _, block_new w _, Nat.le_refl _⟩
  have x0 : (w.alloc (Obj.cells #[.slice ma k mc, .bool true, .bool u2, .int .i64 u3] 66)).cell? ⟨m, 0, none⟩ = some (.slice (some ⟨bs, 0, none⟩) N cap) := cell_of hA.out.box.obj 0
  have x2 : (w.alloc (Obj.cells #[.slice ma k mc, .bool true, .bool u2, .int .i64 u3] 66)).cell? ⟨m, 2, none⟩ = some (.int .i64 s.lead) := cell_of hA.out.box.obj 2
  have xh : (w.alloc (Obj.cells #[.slice ma k mc, .bool true, .bool u2, .int .i64 u3] 66)).cell? ⟨bs, (s.lead - 1) * 4, none⟩ = some (.slice ha hll hc) := by rw [hA.out.box.log hlg, hv']
  have xk : (w.alloc (Obj.cells #[.slice ma k mc, .bool true, .bool u2, .int .i64 u3] 66)).cell? ⟨w.heap.size, 0, none⟩ = some (.slice ma k mc) := cell_of hA.out.copy 0
  have HRH : Hid (∀ w', Only (fun _ => False) w w' → Row w' (.slice ha hll hc) his) := Lib.hid fun w' ho => hrh.only ho (fun _ _ q => q)
  have HRM : Hid (∀ w', Only (fun _ => False) w w' → Row w' (.slice ma k mc) mine) := Lib.hid fun w' ho => hrm.only ho (fun _ _ q => q)
  have hkm : k ≤ mc := by
    rcases hrm with ⟨q, q'⟩ | ⟨g, cap', cur, q, _, q2, _⟩
    · cases q; omega
    · cases q; omega
  have HHH := Lib.hid h
  have HU := Lib.hid hu
  have HU2 := Lib.hid hu2
  have HU3 := Lib.hid hu3
  have H1 := Lib.hid h1
  have HHIS := Lib.hid hhis
  have HMINE := Lib.hid hmine
  have HHL := Lib.hid hhl
  have HK := Lib.hid hk
  have HGM := Lib.hid hgm
  have HGH := Lib.hid hgh
  have HMV := Lib.hid hmv'
  have HALL := Lib.hid hall
  clear h hall hf hu hu2 hu3 h1 hhis hmine hhl hk hv hmv hv' hmv' hrh hrm hgm hgh hG cu
  by_cases hz : k = 0
  · have hkd : decide (0 < k) = false := by simp; omega
    obtain ⟨T, hT⟩ : ∃ T, T = min hll (k + 3) := ⟨_, rfl⟩
    have hTk : k ≤ T := by omega
    have hTh : T ≤ hll := by omega
    have HT := Lib.hid hT
    have hmn : mine = [] := List.length_eq_zero_iff.1 (HK.out.symm.trans hz)
    have HNC : Hid (mine.length ≤ his.length ∧ mine = his.take mine.length) := Lib.hid (by rw [hmn]; exact ⟨Nat.zero_le _, by simp⟩)
    have HCF : Hid (cuts (s.logs p) s.his = false) := Lib.hid (by rw [← HMINE.out, hmn]; simp [cuts])
    have HZ := Lib.hid hz
    clear hT hmn hz
    obtain ⟨i0, hi0, hz0, hz1, hz2⟩ := info_parts info45
    go_enter Try.func34, Try.ntmps34
    go_wp2_with fail
    generalize hcb : w.heap.size = cb at hA xk ⊢
    generalize w.alloc (Obj.cells #[.slice ma k mc, .bool true, .bool u2, .int .i64 u3] 66) = w1 at hA x0 x2 xh xk ⊢
    have HCB := Lib.hid hcb
    clear hcb o0 o2 ch c0 c1 c2 c3
    go_quiet (fail)
    have HA2 := Lib.hid (hA.out.next ((Only.refl _ w1).drewN nq))
    have xk2 : (w1.drewN nq).cell? ⟨cb, 0, none⟩ = some (.slice ma k mc) := xk
    generalize w1.drewN nq = w2 at HA2 xk2 ⊢
    clear x0 x2 xh xk hA
    go_wp2_with (at_builtin; refine wpList_append_nothing rfl (.tmp 108) (.tmp 110) 33 rfl i0 Try.underlying33 hi0 (.slice none 0 0) [] (by rfl) (Row.nil _) ma mc (by exact congrArg (fun z => Value.slice ma z mc) HZ.out) ?_; have hrv : Row w2 (.slice none 0 0) (his.take k) := (by rw [HZ.out]; exact Row.nil _); have hfr : ∀ b, Value.ownBlock (.slice none 0 0) = some b → w.heap.size ≤ b := (fun b hb => by cases hb); generalize Value.slice none 0 0 = va at hrv hfr ⊢; have HRV := Lib.hid hrv; have HFR := Lib.hid hfr; have HA3 := HA2; clear hrv hfr)
    go_loopw [11, 12] (fun xl xi wr => ∃ (j : Nat), k ≤ j ∧ j ≤ T ∧ xi = .int .i64 j ∧ Hid (At w wr m bs N cap vs s cb #[.slice ma k mc, .bool true, .bool u2, .int .i64 u3]) ∧ Hid (Row wr xl (his.take j)) ∧ Hid (∀ b, xl.ownBlock = some b → w.heap.size ≤ b)) (fun _ xi _ => T - (intOf xi).toNat)
    case atStart => exact ⟨k, Nat.le_refl _, by omega, rfl, HA3, HRV, HFR⟩
    case round =>
      obtain ⟨j, hkj, hjT, rfl, HAJ, HRJ, HFJ⟩ := hrel
      clear HA3 HRV HFR
      by_cases hjl : j < T
      · have hj1 : decide (j < hll) = true := by simp; omega
        have hj2 : decide (j < k + 3) = true := by have := HT.out; simp; omega
        have hj2' : decide ((j : Int) < (k : Int) + 3) = true := by have := HT.out; simp; omega
        have hjh : j < his.length := by have := HHL.out; omega
        have hrj := HRH.out _ HAJ.out.only
        obtain ⟨hg, hf1⟩ : ∃ hg, ha = some ⟨hg, 0, none⟩ := by
          rcases hrj with ⟨q, q'⟩ | ⟨g, cap', cur, q, _⟩
          · rw [q'] at hjh; simp at hjh
          · cases q; exact ⟨g, rfl⟩
        subst hf1
        obtain ⟨d0, d1⟩ := hrj.at j hjh
        obtain ⟨ce, hce⟩ : ∃ ce, ce = (his.getD j cz).1 := ⟨_, rfl⟩
        obtain ⟨cv, hcv⟩ : ∃ cv, cv = (his.getD j cz).2 := ⟨_, rfl⟩
        rw [← hce] at d0
        rw [← hcv] at d1
        have hj3 : (0 : Int) ≤ (j : Int) := by omega
        have hj4 : (j : Int) < (hll : Int) := by omega
        have hjlen : (his.take j).length = j := by rw [List.length_take]; omega
        have HCE := Lib.hid hce
        have HCV := Lib.hid hcv
        clear hrj hce hcv
        go_wp2_with (at_builtin; refine wpList_append_row rfl (.tmp 125) (.tmp 130) 33 rfl i0 _ Try.underlying33 hi0 hz0 hz1 hz2 rfl u11 (his.take j) [(ce, cv)] (by rfl) (HRJ.out.move (w1 := wr.alloc (Obj.cells #[.int .i64 ce, .int .i64 cv] 45)) fun b hb => Below.heap_alloc _ _ _ (HRJ.out.lt hb)) ⟨wr.heap.size, 0, none⟩ 1 1 (by rfl) (by rfl) (by omega) (World.news_of_block (cs := #[.int .i64 ce, .int .i64 cv]) (t := 45) (fr := (0, 0)) (block_new wr _)) (by omega) ?_; intro g3 cap3 w3 happ)
        have hAn := (HAJ.out.next ((Only.refl _ wr).alloc (Obj.cells #[.int .i64 ce, .int .i64 cv] 45))).grown (HRJ.out.move fun b hb => Below.heap_alloc _ _ _ (HRJ.out.lt hb)) HFJ.out happ
        have hfr3 := (HAJ.out.next ((Only.refl _ wr).alloc (Obj.cells #[.int .i64 ce, .int .i64 cv] 45))).fresh HFJ.out happ
        have hrow3 := happ.1
        have hsucc : his.take j ++ [(ce, cv)] = his.take (j + 1) := by
          have e : his[j]'hjh = (ce, cv) := by rw [HCE.out, HCV.out, getD_get _ _ hjh]
          rw [List.take_succ_eq_append_getElem hjh, e]
        rw [hsucc, hjlen] at hrow3
        have HAn := Lib.hid hAn
        have HRn := Lib.hid hrow3
        have HGn := Lib.hid hfr3
        clear hAn hfr3 hrow3 hsucc happ d0 d1
        go_roundw
        case rel => exact ⟨j + 1, by omega, by omega, by go_num, HAn, HRn, Lib.hid (fun b hb => by cases hb; exact HGn.out)⟩
        case measure => simp [intOf]; omega
      · obtain rfl : j = T := by omega
        have hjd : ¬ (j < hll ∧ j < k + 3) := by have := HT.out; omega
        obtain ⟨va9, vc9, hv9⟩ := HRJ.out.slice
        have hjlen : (his.take j).length = j := by rw [List.length_take]; have := HHL.out; omega
        rw [hjlen] at hv9
        subst hv9
        have hfin : s.logs p ++ more (s.logs p) s.his = his.take j := by
          rw [← HMINE.out, ← HHIS.out]
          have e := take_more HNC.out.2 HNC.out.1
          rw [e, ← HK.out, HT.out]
          by_cases q : k + 3 ≤ hll
          · rw [Nat.min_eq_right q]
          · rw [Nat.min_eq_left (by omega), List.take_of_length_le (by have := HHL.out; omega), List.take_of_length_le (by have := HHL.out; omega)]
        have e0 : wr.cell? ⟨cb, 0, none⟩ = some (.slice ma k mc) := cell_of HAJ.out.copy 0
        have e2 : wr.cell? ⟨cb, 2, none⟩ = some (.bool u2) := cell_of HAJ.out.copy 2
        have e3 : wr.cell? ⟨cb, 3, none⟩ = some (.int .i64 u3) := cell_of HAJ.out.copy 3
        have f0 : ∀ z, wr.frozen? ⟨cb, z, none⟩ = false := fun z => free_of HAJ.out.copy z
        have f00 := f0 0
        have f02 := f0 2
        have f03 := f0 3
        clear f0
        have hP : fetch N s p = (0, rise N (tookPre s p (his.take j))) := by
          unfold fetch
          rw [if_neg (by simp [h0, HU.out]), if_neg H1.out, HCF.out]
          show (0, took N s p (s.logs p ++ more (s.logs p) s.his)) = _
          rw [hfin]; rfl
        have HP := Lib.hid hP
        have HFIN := Lib.hid hjlen
        have HJD := Lib.hid hjd
        clear hfin hP hjlen hjd
        obtain ⟨u2n, hu2n⟩ : ∃ u2n, u2n = (u2 || decide (j = hll)) := ⟨_, rfl⟩
        have HU2N := Lib.hid hu2n
        have hjg : decide (j < hll) = false ∨ decide (j < k + 3) = false := by
          by_cases q : j < hll
          · right; simp; have := HJD.out; omega
          · left; simp; omega
        have HJG := Lib.hid hjg
        clear hjg hjl
        have hu2c : u2 = true ∧ u2n = true ∨ u2 = false ∧ j = hll ∧ u2n = true ∨ u2 = false ∧ j ≠ hll ∧ u2n = false := by
          cases u2 with
          | true => left; exact ⟨rfl, by rw [hu2n]; rfl⟩
          | false =>
            right
            by_cases q : j = hll
            · left; exact ⟨rfl, q, by rw [hu2n]; simp [q]⟩
            · right; exact ⟨rfl, q, by rw [hu2n]; simp [q]⟩
        clear hu2n
        have FINISH : True := trivial
        by_cases hjh : j < hll
        · have g1 : decide (j < hll) = true := by simp; omega
          have g2 : decide (j < k + 3) = false := by simp; have := HJD.out; omega
          have g3 : decide ((j : Int) < (k : Int) + 3) = false := by simp; have := HJD.out; omega
          have hjx : ((j : Int) == (hll : Int)) = false := by simp; omega
          have HJH := Lib.hid hjh
          clear hjh
          rcases hu2c with ⟨q1, q2⟩ | ⟨q1, q3, q2⟩ | ⟨q1, q3, q2⟩
          · subst q1
            go_wp2_with fail
            have HAX : Hid (At w (((wr.setCell ⟨cb, 0, none⟩ (.slice va9 j vc9)).setCell ⟨cb, 3, none⟩ (.int .i64 j)).setCell ⟨cb, 2, none⟩ (.bool true)) m bs N cap vs s cb #[.slice va9 j vc9, .bool true, .bool true, .int .i64 j]) := Lib.hid (((HAJ.out.set 0 (.slice va9 j vc9)).set 3 (.int .i64 j)).set 2 (.bool true))
            have HRX : Hid (Row (((wr.setCell ⟨cb, 0, none⟩ (.slice va9 j vc9)).setCell ⟨cb, 3, none⟩ (.int .i64 j)).setCell ⟨cb, 2, none⟩ (.bool true)) (.slice va9 j vc9) (his.take j)) := Lib.hid (HRJ.out.move fun b hb => by
              have hne : b ≠ cb := by rintro rfl; exact HRJ.out.apart HAJ.out.copy (by decide) hb
              rw [Below.heap_setCell _ _ _ _ hne, Below.heap_setCell _ _ _ _ hne, Below.heap_setCell _ _ _ _ hne])
            clear e0 e2 e3 f00 f02 f03
            generalize ((wr.setCell ⟨cb, 0, none⟩ (.slice va9 j vc9)).setCell ⟨cb, 3, none⟩ (.int .i64 j)).setCell ⟨cb, 2, none⟩ (.bool true) = wX at HAX HRX ⊢
            have hbx := HAX.out.box
            have y0 : wX.cell? ⟨m, 0, none⟩ = some (.slice (some ⟨bs, 0, none⟩) N cap) := cell_of hbx.obj 0
            have y2 : wX.cell? ⟨m, 2, none⟩ = some (.int .i64 s.lead) := cell_of hbx.obj 2
            have z0 : wX.cell? ⟨cb, 0, none⟩ = some (.slice va9 j vc9) := cell_of HAX.out.copy 0
            have z1 : wX.cell? ⟨cb, 1, none⟩ = some (.bool true) := cell_of HAX.out.copy 1
            have z2 : wX.cell? ⟨cb, 2, none⟩ = some (.bool true) := cell_of HAX.out.copy 2
            have z3 : wX.cell? ⟨cb, 3, none⟩ = some (.int .i64 j) := cell_of HAX.out.copy 3
            have s0 : wX.cell? ⟨bs, p * 4, none⟩ = _ := hbx.log hn
            have s1 : wX.cell? ⟨bs, p * 4 + 1, none⟩ = _ := hbx.up hn
            have s2 : wX.cell? ⟨bs, p * 4 + 2, none⟩ = _ := hbx.in_ hn
            have s3 : wX.cell? ⟨bs, p * 4 + 3, none⟩ = _ := hbx.mat hn
            have xf : ∀ j, wX.frozen? ⟨bs, j, none⟩ = false := fun j => hbx.nodes.free j
            have xf0 := xf (p * 4)
            have xf1 := xf (p * 4 + 1)
            have xf2 := xf (p * 4 + 2)
            have xf3 := xf (p * 4 + 3)
            clear hbx xf
            go_region
            have hb5 := (HAX.out.box.setNode hn (.slice va9 j vc9) (his.take j) true true j HRX.out).drew
            have hb6 := hb5.ext (tookPre s p (his.take j)) rfl rfl rfl (fun _ _ => rfl) (fun i _ => by show s.ups i = upd s.ups p true i; rw [upd_self _ _ _ HU.out.symm]) (fun i _ => by show (if s.high ≤ (his.take j).length ∧ (his.take j).length = s.his.length then upd s.ins p true else s.ins) i = upd s.ins p true i; rw [took_ins (by rw [← HHIS.out, ← HHL.out]; exact hhigh), HFIN.out, ← HHIS.out, ← HHL.out, ← HU2.out, ← HU2N.out, q2]) (fun i _ => by show upd s.mat p (his.take j).length i = upd s.mat p j i; rw [HFIN.out])
            have HB6 := Lib.hid hb6
            have HO6 : Hid (Only (RFt m bs) w _) := Lib.hid (((((HAX.out.only.mono (fun _ _ q => q.elim)).setCell (p := ⟨bs, p * 4, none⟩) (.inr (.inr rfl)) (.slice va9 j vc9)).setCell (p := ⟨bs, p * 4 + 1, none⟩) (.inr (.inr rfl)) (.bool true)).setCell (p := ⟨bs, p * 4 + 2, none⟩) (.inr (.inr rfl)) (.bool true)).setCell (p := ⟨bs, p * 4 + 3, none⟩) (.inr (.inr rfl)) (.int .i64 j)).drew
            clear hb5 hb6 y0 y2 z0 z1 z2 z3 s0 s1 s2 s3 xf0 xf1 xf2 xf3
            go_wp2_with (go_at_call 35; refine (rrise_any HB6.out (HF.out.tookPre p _ (by rw [HFIN.out]; omega)) h0).mono ?_; rintro e w6 ⟨rfl, hb, ho⟩; have H5 := Lib.hid hb; have H6 := Lib.hid ho; clear hb ho)
            go_ret
            rw [HP.out]
            refine ⟨rfl, _, H5.out, HO6.out.trans H6.out (fun b _ hb => .inl hb), ?_⟩
            intro i b hi hb
            by_cases e : i = p
            · rw [e, upd_same] at hb
              exact .inr (HFJ.out b hb)
            · rw [upd_other _ _ _ e] at hb; exact .inl hb
          · exact absurd q3 (by have := HJH.out; omega)
          · subst q1
            clear q3
            go_wp2_with fail
            have HAX : Hid (At w (((wr.setCell ⟨cb, 0, none⟩ (.slice va9 j vc9)).setCell ⟨cb, 3, none⟩ (.int .i64 j)).setCell ⟨cb, 2, none⟩ (.bool false)) m bs N cap vs s cb #[.slice va9 j vc9, .bool true, .bool false, .int .i64 j]) := Lib.hid (((HAJ.out.set 0 (.slice va9 j vc9)).set 3 (.int .i64 j)).set 2 (.bool false))
            have HRX : Hid (Row (((wr.setCell ⟨cb, 0, none⟩ (.slice va9 j vc9)).setCell ⟨cb, 3, none⟩ (.int .i64 j)).setCell ⟨cb, 2, none⟩ (.bool false)) (.slice va9 j vc9) (his.take j)) := Lib.hid (HRJ.out.move fun b hb => by
              have hne : b ≠ cb := by rintro rfl; exact HRJ.out.apart HAJ.out.copy (by decide) hb
              rw [Below.heap_setCell _ _ _ _ hne, Below.heap_setCell _ _ _ _ hne, Below.heap_setCell _ _ _ _ hne])
            clear e0 e2 e3 f00 f02 f03
            generalize ((wr.setCell ⟨cb, 0, none⟩ (.slice va9 j vc9)).setCell ⟨cb, 3, none⟩ (.int .i64 j)).setCell ⟨cb, 2, none⟩ (.bool false) = wX at HAX HRX ⊢
            have hbx := HAX.out.box
            have y0 : wX.cell? ⟨m, 0, none⟩ = some (.slice (some ⟨bs, 0, none⟩) N cap) := cell_of hbx.obj 0
            have y2 : wX.cell? ⟨m, 2, none⟩ = some (.int .i64 s.lead) := cell_of hbx.obj 2
            have z0 : wX.cell? ⟨cb, 0, none⟩ = some (.slice va9 j vc9) := cell_of HAX.out.copy 0
            have z1 : wX.cell? ⟨cb, 1, none⟩ = some (.bool true) := cell_of HAX.out.copy 1
            have z2 : wX.cell? ⟨cb, 2, none⟩ = some (.bool false) := cell_of HAX.out.copy 2
            have z3 : wX.cell? ⟨cb, 3, none⟩ = some (.int .i64 j) := cell_of HAX.out.copy 3
            have s0 : wX.cell? ⟨bs, p * 4, none⟩ = _ := hbx.log hn
            have s1 : wX.cell? ⟨bs, p * 4 + 1, none⟩ = _ := hbx.up hn
            have s2 : wX.cell? ⟨bs, p * 4 + 2, none⟩ = _ := hbx.in_ hn
            have s3 : wX.cell? ⟨bs, p * 4 + 3, none⟩ = _ := hbx.mat hn
            have xf : ∀ j, wX.frozen? ⟨bs, j, none⟩ = false := fun j => hbx.nodes.free j
            have xf0 := xf (p * 4)
            have xf1 := xf (p * 4 + 1)
            have xf2 := xf (p * 4 + 2)
            have xf3 := xf (p * 4 + 3)
            clear hbx xf
            go_region
            have hb5 := (HAX.out.box.setNode hn (.slice va9 j vc9) (his.take j) true false j HRX.out).drew
            have hb6 := hb5.ext (tookPre s p (his.take j)) rfl rfl rfl (fun _ _ => rfl) (fun i _ => by show s.ups i = upd s.ups p true i; rw [upd_self _ _ _ HU.out.symm]) (fun i _ => by show (if s.high ≤ (his.take j).length ∧ (his.take j).length = s.his.length then upd s.ins p true else s.ins) i = upd s.ins p false i; rw [took_ins (by rw [← HHIS.out, ← HHL.out]; exact hhigh), HFIN.out, ← HHIS.out, ← HHL.out, ← HU2.out, ← HU2N.out, q2]) (fun i _ => by show upd s.mat p (his.take j).length i = upd s.mat p j i; rw [HFIN.out])
            have HB6 := Lib.hid hb6
            have HO6 : Hid (Only (RFt m bs) w _) := Lib.hid (((((HAX.out.only.mono (fun _ _ q => q.elim)).setCell (p := ⟨bs, p * 4, none⟩) (.inr (.inr rfl)) (.slice va9 j vc9)).setCell (p := ⟨bs, p * 4 + 1, none⟩) (.inr (.inr rfl)) (.bool true)).setCell (p := ⟨bs, p * 4 + 2, none⟩) (.inr (.inr rfl)) (.bool false)).setCell (p := ⟨bs, p * 4 + 3, none⟩) (.inr (.inr rfl)) (.int .i64 j)).drew
            clear hb5 hb6 y0 y2 z0 z1 z2 z3 s0 s1 s2 s3 xf0 xf1 xf2 xf3
            go_wp2_with (go_at_call 35; refine (rrise_any HB6.out (HF.out.tookPre p _ (by rw [HFIN.out]; omega)) h0).mono ?_; rintro e w6 ⟨rfl, hb, ho⟩; have H5 := Lib.hid hb; have H6 := Lib.hid ho; clear hb ho)
            go_ret
            rw [HP.out]
            refine ⟨rfl, _, H5.out, HO6.out.trans H6.out (fun b _ hb => .inl hb), ?_⟩
            intro i b hi hb
            by_cases e : i = p
            · rw [e, upd_same] at hb
              exact .inr (HFJ.out b hb)
            · rw [upd_other _ _ _ e] at hb; exact .inl hb
        · have hje : j = hll := by omega
          have g1 : decide (j < hll) = false := by simp; omega
          have hjx : ((j : Int) == (hll : Int)) = true := by simp; omega
          have HJE := Lib.hid hje
          clear hje hjh
          rcases hu2c with ⟨q1, q2⟩ | ⟨q1, q3, q2⟩ | ⟨q1, q3, q2⟩
          · subst q1
            go_wp2_with fail
            have HAX : Hid (At w (((wr.setCell ⟨cb, 0, none⟩ (.slice va9 j vc9)).setCell ⟨cb, 3, none⟩ (.int .i64 j)).setCell ⟨cb, 2, none⟩ (.bool true)) m bs N cap vs s cb #[.slice va9 j vc9, .bool true, .bool true, .int .i64 j]) := Lib.hid (((HAJ.out.set 0 (.slice va9 j vc9)).set 3 (.int .i64 j)).set 2 (.bool true))
            have HRX : Hid (Row (((wr.setCell ⟨cb, 0, none⟩ (.slice va9 j vc9)).setCell ⟨cb, 3, none⟩ (.int .i64 j)).setCell ⟨cb, 2, none⟩ (.bool true)) (.slice va9 j vc9) (his.take j)) := Lib.hid (HRJ.out.move fun b hb => by
              have hne : b ≠ cb := by rintro rfl; exact HRJ.out.apart HAJ.out.copy (by decide) hb
              rw [Below.heap_setCell _ _ _ _ hne, Below.heap_setCell _ _ _ _ hne, Below.heap_setCell _ _ _ _ hne])
            clear e0 e2 e3 f00 f02 f03
            generalize ((wr.setCell ⟨cb, 0, none⟩ (.slice va9 j vc9)).setCell ⟨cb, 3, none⟩ (.int .i64 j)).setCell ⟨cb, 2, none⟩ (.bool true) = wX at HAX HRX ⊢
            have hbx := HAX.out.box
            have y0 : wX.cell? ⟨m, 0, none⟩ = some (.slice (some ⟨bs, 0, none⟩) N cap) := cell_of hbx.obj 0
            have y2 : wX.cell? ⟨m, 2, none⟩ = some (.int .i64 s.lead) := cell_of hbx.obj 2
            have z0 : wX.cell? ⟨cb, 0, none⟩ = some (.slice va9 j vc9) := cell_of HAX.out.copy 0
            have z1 : wX.cell? ⟨cb, 1, none⟩ = some (.bool true) := cell_of HAX.out.copy 1
            have z2 : wX.cell? ⟨cb, 2, none⟩ = some (.bool true) := cell_of HAX.out.copy 2
            have z3 : wX.cell? ⟨cb, 3, none⟩ = some (.int .i64 j) := cell_of HAX.out.copy 3
            have s0 : wX.cell? ⟨bs, p * 4, none⟩ = _ := hbx.log hn
            have s1 : wX.cell? ⟨bs, p * 4 + 1, none⟩ = _ := hbx.up hn
            have s2 : wX.cell? ⟨bs, p * 4 + 2, none⟩ = _ := hbx.in_ hn
            have s3 : wX.cell? ⟨bs, p * 4 + 3, none⟩ = _ := hbx.mat hn
            have xf : ∀ j, wX.frozen? ⟨bs, j, none⟩ = false := fun j => hbx.nodes.free j
            have xf0 := xf (p * 4)
            have xf1 := xf (p * 4 + 1)
            have xf2 := xf (p * 4 + 2)
            have xf3 := xf (p * 4 + 3)
            clear hbx xf
            go_region
            have hb5 := (HAX.out.box.setNode hn (.slice va9 j vc9) (his.take j) true true j HRX.out).drew
            have hb6 := hb5.ext (tookPre s p (his.take j)) rfl rfl rfl (fun _ _ => rfl) (fun i _ => by show s.ups i = upd s.ups p true i; rw [upd_self _ _ _ HU.out.symm]) (fun i _ => by show (if s.high ≤ (his.take j).length ∧ (his.take j).length = s.his.length then upd s.ins p true else s.ins) i = upd s.ins p true i; rw [took_ins (by rw [← HHIS.out, ← HHL.out]; exact hhigh), HFIN.out, ← HHIS.out, ← HHL.out, ← HU2.out, ← HU2N.out, q2]) (fun i _ => by show upd s.mat p (his.take j).length i = upd s.mat p j i; rw [HFIN.out])
            have HB6 := Lib.hid hb6
            have HO6 : Hid (Only (RFt m bs) w _) := Lib.hid (((((HAX.out.only.mono (fun _ _ q => q.elim)).setCell (p := ⟨bs, p * 4, none⟩) (.inr (.inr rfl)) (.slice va9 j vc9)).setCell (p := ⟨bs, p * 4 + 1, none⟩) (.inr (.inr rfl)) (.bool true)).setCell (p := ⟨bs, p * 4 + 2, none⟩) (.inr (.inr rfl)) (.bool true)).setCell (p := ⟨bs, p * 4 + 3, none⟩) (.inr (.inr rfl)) (.int .i64 j)).drew
            clear hb5 hb6 y0 y2 z0 z1 z2 z3 s0 s1 s2 s3 xf0 xf1 xf2 xf3
            go_wp2_with (go_at_call 35; refine (rrise_any HB6.out (HF.out.tookPre p _ (by rw [HFIN.out]; omega)) h0).mono ?_; rintro e w6 ⟨rfl, hb, ho⟩; have H5 := Lib.hid hb; have H6 := Lib.hid ho; clear hb ho)
            go_ret
            rw [HP.out]
            refine ⟨rfl, _, H5.out, HO6.out.trans H6.out (fun b _ hb => .inl hb), ?_⟩
            intro i b hi hb
            by_cases e : i = p
            · rw [e, upd_same] at hb
              exact .inr (HFJ.out b hb)
            · rw [upd_other _ _ _ e] at hb; exact .inl hb
          · subst q1
            clear q3
            go_wp2_with fail
            have HAX : Hid (At w (((wr.setCell ⟨cb, 0, none⟩ (.slice va9 j vc9)).setCell ⟨cb, 3, none⟩ (.int .i64 j)).setCell ⟨cb, 2, none⟩ (.bool true)) m bs N cap vs s cb #[.slice va9 j vc9, .bool true, .bool true, .int .i64 j]) := Lib.hid (((HAJ.out.set 0 (.slice va9 j vc9)).set 3 (.int .i64 j)).set 2 (.bool true))
            have HRX : Hid (Row (((wr.setCell ⟨cb, 0, none⟩ (.slice va9 j vc9)).setCell ⟨cb, 3, none⟩ (.int .i64 j)).setCell ⟨cb, 2, none⟩ (.bool true)) (.slice va9 j vc9) (his.take j)) := Lib.hid (HRJ.out.move fun b hb => by
              have hne : b ≠ cb := by rintro rfl; exact HRJ.out.apart HAJ.out.copy (by decide) hb
              rw [Below.heap_setCell _ _ _ _ hne, Below.heap_setCell _ _ _ _ hne, Below.heap_setCell _ _ _ _ hne])
            clear e0 e2 e3 f00 f02 f03
            generalize ((wr.setCell ⟨cb, 0, none⟩ (.slice va9 j vc9)).setCell ⟨cb, 3, none⟩ (.int .i64 j)).setCell ⟨cb, 2, none⟩ (.bool true) = wX at HAX HRX ⊢
            have hbx := HAX.out.box
            have y0 : wX.cell? ⟨m, 0, none⟩ = some (.slice (some ⟨bs, 0, none⟩) N cap) := cell_of hbx.obj 0
            have y2 : wX.cell? ⟨m, 2, none⟩ = some (.int .i64 s.lead) := cell_of hbx.obj 2
            have z0 : wX.cell? ⟨cb, 0, none⟩ = some (.slice va9 j vc9) := cell_of HAX.out.copy 0
            have z1 : wX.cell? ⟨cb, 1, none⟩ = some (.bool true) := cell_of HAX.out.copy 1
            have z2 : wX.cell? ⟨cb, 2, none⟩ = some (.bool true) := cell_of HAX.out.copy 2
            have z3 : wX.cell? ⟨cb, 3, none⟩ = some (.int .i64 j) := cell_of HAX.out.copy 3
            have s0 : wX.cell? ⟨bs, p * 4, none⟩ = _ := hbx.log hn
            have s1 : wX.cell? ⟨bs, p * 4 + 1, none⟩ = _ := hbx.up hn
            have s2 : wX.cell? ⟨bs, p * 4 + 2, none⟩ = _ := hbx.in_ hn
            have s3 : wX.cell? ⟨bs, p * 4 + 3, none⟩ = _ := hbx.mat hn
            have xf : ∀ j, wX.frozen? ⟨bs, j, none⟩ = false := fun j => hbx.nodes.free j
            have xf0 := xf (p * 4)
            have xf1 := xf (p * 4 + 1)
            have xf2 := xf (p * 4 + 2)
            have xf3 := xf (p * 4 + 3)
            clear hbx xf
            go_region
            have hb5 := (HAX.out.box.setNode hn (.slice va9 j vc9) (his.take j) true true j HRX.out).drew
            have hb6 := hb5.ext (tookPre s p (his.take j)) rfl rfl rfl (fun _ _ => rfl) (fun i _ => by show s.ups i = upd s.ups p true i; rw [upd_self _ _ _ HU.out.symm]) (fun i _ => by show (if s.high ≤ (his.take j).length ∧ (his.take j).length = s.his.length then upd s.ins p true else s.ins) i = upd s.ins p true i; rw [took_ins (by rw [← HHIS.out, ← HHL.out]; exact hhigh), HFIN.out, ← HHIS.out, ← HHL.out, ← HU2.out, ← HU2N.out, q2]) (fun i _ => by show upd s.mat p (his.take j).length i = upd s.mat p j i; rw [HFIN.out])
            have HB6 := Lib.hid hb6
            have HO6 : Hid (Only (RFt m bs) w _) := Lib.hid (((((HAX.out.only.mono (fun _ _ q => q.elim)).setCell (p := ⟨bs, p * 4, none⟩) (.inr (.inr rfl)) (.slice va9 j vc9)).setCell (p := ⟨bs, p * 4 + 1, none⟩) (.inr (.inr rfl)) (.bool true)).setCell (p := ⟨bs, p * 4 + 2, none⟩) (.inr (.inr rfl)) (.bool true)).setCell (p := ⟨bs, p * 4 + 3, none⟩) (.inr (.inr rfl)) (.int .i64 j)).drew
            clear hb5 hb6 y0 y2 z0 z1 z2 z3 s0 s1 s2 s3 xf0 xf1 xf2 xf3
            go_wp2_with (go_at_call 35; refine (rrise_any HB6.out (HF.out.tookPre p _ (by rw [HFIN.out]; omega)) h0).mono ?_; rintro e w6 ⟨rfl, hb, ho⟩; have H5 := Lib.hid hb; have H6 := Lib.hid ho; clear hb ho)
            go_ret
            rw [HP.out]
            refine ⟨rfl, _, H5.out, HO6.out.trans H6.out (fun b _ hb => .inl hb), ?_⟩
            intro i b hi hb
            by_cases e : i = p
            · rw [e, upd_same] at hb
              exact .inr (HFJ.out b hb)
            · rw [upd_other _ _ _ e] at hb; exact .inl hb
          · exact absurd HJE.out q3
  · have hkd : decide (0 < k) = true := by simp; omega
    have hrm2 := HRM.out w (Only.refl _ w)
    obtain ⟨g, rfl⟩ : ∃ g, ma = some ⟨g, 0, none⟩ := by
      rcases hrm2 with ⟨q, q'⟩ | ⟨g, cap', cur, q, _⟩
      · cases q; exact absurd rfl hz
      · cases q; exact ⟨g, rfl⟩
    clear hrm2
    obtain ⟨le, hle'⟩ : ∃ le, le = lastE mine := ⟨_, rfl⟩
    obtain ⟨Av, hAv⟩ : ∃ Av, Av = endN his le := ⟨_, rfl⟩
    obtain ⟨bv, hbv⟩ : ∃ bv, bv = hasTo his le his.length := ⟨_, rfl⟩
    have hCUT := ref_cut HGM.out HGH.out (by rw [← HK.out]; omega)
    rw [← hle', ← hbv, ← hAv, ← HK.out] at hCUT
    have hAle : Av ≤ hll := by rw [hAv, HHL.out]; exact endN_le _ _
    have hhasA : bv = true → 0 < Av := by
      intro q
      rw [hbv, hasTo_iff] at q
      obtain ⟨j, hj, he⟩ := q
      have := endN_ge (e := le) hj (by rw [he]; exact Int.le_refl _)
      omega
    have hwk : IntKind.i64.wrap ((k : Int) - 1) = (k : Int) - 1 := by rw [IntKind.wrap_i64]; omega
    have hk1 : (0 : Int) ≤ (k : Int) - 1 := by omega
    have hk2 : (k : Int) - 1 < (k : Int) := by omega
    have hk3 : ((k : Int) - 1).toNat = k - 1 := by omega
    have hck : Hid (∀ w', Only (fun _ => False) w w' → w'.cell? ⟨g, (k - 1) * 2, none⟩ = some (.int .i64 le)) := Lib.hid (by
      intro w' ho
      have := ((HRM.out w' ho).at (k - 1) (by have := HK.out; omega)).1
      rw [this, hle']; unfold lastE; rw [← HK.out])
    have HEND : Hid (∀ w', Only (fun _ => False) w w' → Calls Try.prog 39 #[.slice ha hll hc, .int .i64 le] w' fun e w'' => e = .returned (.int .i64 Av) ∧ w'' = w') := Lib.hid (fun w' ho => by rw [hAv]; exact rend_any _ his le (by have := HHL.out; omega) (HRH.out w' ho))
    have HHAS : Hid (∀ w', Only (fun _ => False) w w' → Calls Try.prog 40 #[.slice ha hll hc, .int .i64 le] w' fun e w'' => e = .returned (.bool bv) ∧ w'' = w') := Lib.hid (fun w' ho => by rw [hbv]; exact rhas_any _ his le (by have := HHL.out; omega) (HRH.out w' ho))
    have HLE := Lib.hid hle'
    have HAV := Lib.hid hAv
    have HCUT : Hid (cuts (s.logs p) s.his = (!bv || decide (Av < k))) := Lib.hid (by rw [← HMINE.out, ← HHIS.out]; exact hCUT)
    have HHASA := Lib.hid hhasA
    have HZN := Lib.hid hz
    clear hle' hAv hbv hCUT hhasA hz
    go_enter Try.func34, Try.ntmps34
    go_wp2_with fail
    generalize hcb : w.heap.size = cb at hA xk ⊢
    generalize w.alloc (Obj.cells #[.slice (some ⟨g, 0, none⟩) k mc, .bool true, .bool u2, .int .i64 u3] 66) = w1 at hA x0 x2 xh xk ⊢
    have HCB := Lib.hid hcb
    clear hcb o0 o2 ch c0 c1 c2 c3
    go_quiet (fail)
    have HA2 := Lib.hid (hA.out.next ((Only.refl _ w1).drewN nq))
    have xk2 : (w1.drewN nq).cell? ⟨cb, 0, none⟩ = some (.slice (some ⟨g, 0, none⟩) k mc) := xk
    generalize w1.drewN nq = w2 at HA2 xk2 ⊢
    clear x0 x2 xh xk hA
    cases bv with
    | false =>
      have HCT : Hid (cuts (s.logs p) s.his = true) := Lib.hid (by rw [HCUT.out]; rfl)
      by_cases hA0 : Av = 0
      · subst hA0
        have HXX : Hid (cutTo mine his = 0) := Lib.hid (ref_to0 (by rw [← HLE.out]; exact HAV.out.symm))
        have fX : w2.cell? ⟨cb, 0, none⟩ = some (.slice (some ⟨g, 0, none⟩) k mc) := xk2
        have ff0 : w2.frozen? ⟨cb, 0, none⟩ = false := free_of HA2.out.copy 0
        have gk := hck.out w2 HA2.out.only
        go_wp2_with fail
        go_at_call 39
        refine (HEND.out w2 HA2.out.only).mono ?_
        rintro e w' ⟨rfl, hw⟩
        have hw' := hw.symm
        clear hw
        subst hw'
        go_wp2_with fail
        go_at_call 40
        refine (HHAS.out _ HA2.out.only).mono ?_
        rintro e w' ⟨rfl, hw⟩
        have hw' := hw.symm
        clear hw
        subst hw'
        clear gk
        go_wp2_with fail
        have HXL : Hid ((s.logs p).take (cutTo (s.logs p) s.his) = mine.take 0) := Lib.hid (by rw [← HMINE.out, ← HHIS.out, HXX.out])
        have HP : Hid (fetch N s p = (0, { s with logs := upd s.logs p ((s.logs p).take (cutTo (s.logs p) s.his)) })) := Lib.hid (by
          unfold fetch
          rw [if_neg (by simp [h0, HU.out]), if_neg H1.out, if_pos HCT.out])
        have HAX : Hid (At w (w2.setCell ⟨cb, 0, none⟩ (.slice (some ⟨g, 0, none⟩) 0 mc)) m bs N cap vs s cb #[.slice (some ⟨g, 0, none⟩) 0 mc, .bool true, .bool u2, .int .i64 u3]) := Lib.hid (HA2.out.set 0 (.slice (some ⟨g, 0, none⟩) 0 mc))
        have HRX : Hid (Row (w2.setCell ⟨cb, 0, none⟩ (.slice (some ⟨g, 0, none⟩) 0 mc)) (.slice (some ⟨g, 0, none⟩) 0 mc) (mine.take 0)) := Lib.hid (by
          have h9 := (HRM.out w2 HA2.out.only)
          refine (h9.move fun b hb => ?_).cut 0 mc (by rw [← HK.out]; omega) (by omega) (Nat.le_refl _)
          have hne : b ≠ cb := by rintro rfl; exact h9.apart HA2.out.copy (by decide) hb
          rw [Below.heap_setCell _ _ _ _ hne])
        clear xk2
        generalize w2.setCell ⟨cb, 0, none⟩ (.slice (some ⟨g, 0, none⟩) 0 mc) = wX at HAX HRX ⊢
        have hbx := HAX.out.box
        have y0 : wX.cell? ⟨m, 0, none⟩ = some (.slice (some ⟨bs, 0, none⟩) N cap) := cell_of hbx.obj 0
        have y2 : wX.cell? ⟨m, 2, none⟩ = some (.int .i64 s.lead) := cell_of hbx.obj 2
        have z0 : wX.cell? ⟨cb, 0, none⟩ = some (.slice (some ⟨g, 0, none⟩) 0 mc) := cell_of HAX.out.copy 0
        have z1 : wX.cell? ⟨cb, 1, none⟩ = some (.bool true) := cell_of HAX.out.copy 1
        have z2 : wX.cell? ⟨cb, 2, none⟩ = some (.bool u2) := cell_of HAX.out.copy 2
        have z3 : wX.cell? ⟨cb, 3, none⟩ = some (.int .i64 u3) := cell_of HAX.out.copy 3
        have s0 : wX.cell? ⟨bs, p * 4, none⟩ = _ := hbx.log hn
        have s1 : wX.cell? ⟨bs, p * 4 + 1, none⟩ = _ := hbx.up hn
        have s2 : wX.cell? ⟨bs, p * 4 + 2, none⟩ = _ := hbx.in_ hn
        have s3 : wX.cell? ⟨bs, p * 4 + 3, none⟩ = _ := hbx.mat hn
        have xf : ∀ j, wX.frozen? ⟨bs, j, none⟩ = false := fun j => hbx.nodes.free j
        have xf0 := xf (p * 4)
        have xf1 := xf (p * 4 + 1)
        have xf2 := xf (p * 4 + 2)
        have xf3 := xf (p * 4 + 3)
        clear hbx xf
        go_region
        have hb5 := (HAX.out.box.setNode hn (.slice (some ⟨g, 0, none⟩) 0 mc) (mine.take 0) true u2 u3 HRX.out).drew
        have hb6 := hb5.ext { s with logs := upd s.logs p ((s.logs p).take (cutTo (s.logs p) s.his)) } rfl rfl rfl (fun i _ => by show upd s.logs p _ i = upd s.logs p _ i; rw [HXL.out]) (fun i _ => by show s.ups i = upd s.ups p true i; rw [upd_self _ _ _ HU.out.symm]) (fun i _ => by show s.ins i = upd s.ins p u2 i; rw [upd_self _ _ _ HU2.out]) (fun i _ => by show s.mat i = upd s.mat p u3 i; rw [upd_self _ _ _ HU3.out])
        have HB6 := Lib.hid hb6
        have HO6 : Hid (Only (RFt m bs) w _) := Lib.hid (((((HAX.out.only.mono (fun _ _ q => q.elim)).setCell (p := ⟨bs, p * 4, none⟩) (.inr (.inr rfl)) (.slice (some ⟨g, 0, none⟩) 0 mc)).setCell (p := ⟨bs, p * 4 + 1, none⟩) (.inr (.inr rfl)) (.bool true)).setCell (p := ⟨bs, p * 4 + 2, none⟩) (.inr (.inr rfl)) (.bool u2)).setCell (p := ⟨bs, p * 4 + 3, none⟩) (.inr (.inr rfl)) (.int .i64 u3)).drew
        clear hb5 hb6 y0 y2 z0 z1 z2 z3 s0 s1 s2 s3 xf0 xf1 xf2 xf3
        go_wp2_with fail
        go_ret
        rw [HP.out]
        refine ⟨rfl, _, HB6.out, HO6.out, ?_⟩
        intro i b hi hb
        by_cases e : i = p
        · rw [e, upd_same] at hb
          left
          rw [e, HMV.out]
          cases hb
          rfl
        · rw [upd_other _ _ _ e] at hb; exact .inl hb
      · have hApos : 0 < Av := by omega
        obtain ⟨Bv, hBv⟩ : ∃ Bv, Bv = ep his (Av - 1) := ⟨_, rfl⟩
        obtain ⟨Tn, hTn⟩ : ∃ Tn, Tn = endN mine Bv := ⟨_, rfl⟩
        have hTnk : Tn ≤ k := by rw [hTn, HK.out]; exact endN_le _ _
        have hxx : cutTo mine his = min Av Tn := by
          rw [ref_to (by rw [← HLE.out, ← HAV.out]; exact hApos), ← HLE.out, ← HAV.out, ← hBv, ← hTn]
        have hda : decide (0 < Av) = true := by simp; omega
        obtain ⟨hg, hf1⟩ : ∃ hg, ha = some ⟨hg, 0, none⟩ := by
          rcases HRH.out w (Only.refl _ w) with ⟨q, q'⟩ | ⟨g, cap', cur, q, _⟩
          · cases q; omega
          · cases q; exact ⟨g, rfl⟩
        subst hf1
        have hwa : IntKind.i64.wrap ((Av : Int) - 1) = (Av : Int) - 1 := by rw [IntKind.wrap_i64]; omega
        have ha1 : (0 : Int) ≤ (Av : Int) - 1 := by omega
        have ha2 : (Av : Int) - 1 < (hll : Int) := by omega
        have ha3 : ((Av : Int) - 1).toNat = Av - 1 := by omega
        have gb : w2.cell? ⟨hg, (Av - 1) * 2, none⟩ = some (.int .i64 Bv) := by
          have := ((HRH.out w2 HA2.out.only).at (Av - 1) (by have := HHL.out; omega)).1
          rw [this, hBv]; rfl
        have HEND2 : Hid (∀ n1, Calls Try.prog 39 #[.slice (some ⟨g, 0, none⟩) k mc, .int .i64 Bv] (w2.drewN n1) fun e w'' => e = .returned (.int .i64 Tn) ∧ ∃ n2, w'' = w2.drewN n2) := Lib.hid (by
          intro n1
          refine (rend_any (.slice (some ⟨g, 0, none⟩) k mc) mine Bv (by have := HK.out; omega) (HRM.out (w2.drewN n1) (HA2.out.only.drewN n1))).mono ?_
          rintro e w'' ⟨rfl, rfl⟩
          exact ⟨by rw [hTn], n1, rfl⟩)
        clear hBv hTn
        have fX : w2.cell? ⟨cb, 0, none⟩ = some (.slice (some ⟨g, 0, none⟩) k mc) := xk2
        have ff0 : w2.frozen? ⟨cb, 0, none⟩ = false := free_of HA2.out.copy 0
        have gk := hck.out w2 HA2.out.only
        go_wp2_with fail
        go_at_call 39
        refine (HEND.out w2 HA2.out.only).mono ?_
        rintro e w' ⟨rfl, hw⟩
        have hw' := hw.symm
        clear hw
        subst hw'
        go_wp2_with fail
        go_at_call 40
        refine (HHAS.out _ HA2.out.only).mono ?_
        rintro e w' ⟨rfl, hw⟩
        have hw' := hw.symm
        clear hw
        subst hw'
        clear gk
        go_wp2_with fail
        go_quiet (exact HEND2.out _)
        have HA2 := Lib.hid (HA2.out.next ((Only.refl _ w2).drewN nq))
        have fX2 : (w2.drewN nq).cell? ⟨cb, 0, none⟩ = some (.slice (some ⟨g, 0, none⟩) k mc) := fX
        have ff02 : (w2.drewN nq).frozen? ⟨cb, 0, none⟩ = false := ff0
        have xk2 := fX2
        clear fX ff0 gb HEND HHAS HEND2
        generalize w2.drewN nq = w2 at HA2 fX2 ff02 xk2 ⊢
        by_cases hgt : Av < Tn
        · have hgd : decide (Av < Tn) = true := by simp; omega
          have HXX : Hid (cutTo mine his = Av) := Lib.hid (by rw [hxx, Nat.min_eq_left (by omega)])
          have hAvk : Av ≤ k := by omega
          clear hxx hgt
          go_wp2_with fail
          have HXL : Hid ((s.logs p).take (cutTo (s.logs p) s.his) = mine.take Av) := Lib.hid (by rw [← HMINE.out, ← HHIS.out, HXX.out])
          have HP : Hid (fetch N s p = (0, { s with logs := upd s.logs p ((s.logs p).take (cutTo (s.logs p) s.his)) })) := Lib.hid (by
            unfold fetch
            rw [if_neg (by simp [h0, HU.out]), if_neg H1.out, if_pos HCT.out])
          have HAX : Hid (At w (w2.setCell ⟨cb, 0, none⟩ (.slice (some ⟨g, 0, none⟩) Av mc)) m bs N cap vs s cb #[.slice (some ⟨g, 0, none⟩) Av mc, .bool true, .bool u2, .int .i64 u3]) := Lib.hid (HA2.out.set 0 (.slice (some ⟨g, 0, none⟩) Av mc))
          have HRX : Hid (Row (w2.setCell ⟨cb, 0, none⟩ (.slice (some ⟨g, 0, none⟩) Av mc)) (.slice (some ⟨g, 0, none⟩) Av mc) (mine.take Av)) := Lib.hid (by
            have h9 := (HRM.out w2 HA2.out.only)
            refine (h9.move fun b hb => ?_).cut Av mc (by rw [← HK.out]; omega) (by omega) (Nat.le_refl _)
            have hne : b ≠ cb := by rintro rfl; exact h9.apart HA2.out.copy (by decide) hb
            rw [Below.heap_setCell _ _ _ _ hne])
          clear xk2
          generalize w2.setCell ⟨cb, 0, none⟩ (.slice (some ⟨g, 0, none⟩) Av mc) = wX at HAX HRX ⊢
          have hbx := HAX.out.box
          have y0 : wX.cell? ⟨m, 0, none⟩ = some (.slice (some ⟨bs, 0, none⟩) N cap) := cell_of hbx.obj 0
          have y2 : wX.cell? ⟨m, 2, none⟩ = some (.int .i64 s.lead) := cell_of hbx.obj 2
          have z0 : wX.cell? ⟨cb, 0, none⟩ = some (.slice (some ⟨g, 0, none⟩) Av mc) := cell_of HAX.out.copy 0
          have z1 : wX.cell? ⟨cb, 1, none⟩ = some (.bool true) := cell_of HAX.out.copy 1
          have z2 : wX.cell? ⟨cb, 2, none⟩ = some (.bool u2) := cell_of HAX.out.copy 2
          have z3 : wX.cell? ⟨cb, 3, none⟩ = some (.int .i64 u3) := cell_of HAX.out.copy 3
          have s0 : wX.cell? ⟨bs, p * 4, none⟩ = _ := hbx.log hn
          have s1 : wX.cell? ⟨bs, p * 4 + 1, none⟩ = _ := hbx.up hn
          have s2 : wX.cell? ⟨bs, p * 4 + 2, none⟩ = _ := hbx.in_ hn
          have s3 : wX.cell? ⟨bs, p * 4 + 3, none⟩ = _ := hbx.mat hn
          have xf : ∀ j, wX.frozen? ⟨bs, j, none⟩ = false := fun j => hbx.nodes.free j
          have xf0 := xf (p * 4)
          have xf1 := xf (p * 4 + 1)
          have xf2 := xf (p * 4 + 2)
          have xf3 := xf (p * 4 + 3)
          clear hbx xf
          go_region
          have hb5 := (HAX.out.box.setNode hn (.slice (some ⟨g, 0, none⟩) Av mc) (mine.take Av) true u2 u3 HRX.out).drew
          have hb6 := hb5.ext { s with logs := upd s.logs p ((s.logs p).take (cutTo (s.logs p) s.his)) } rfl rfl rfl (fun i _ => by show upd s.logs p _ i = upd s.logs p _ i; rw [HXL.out]) (fun i _ => by show s.ups i = upd s.ups p true i; rw [upd_self _ _ _ HU.out.symm]) (fun i _ => by show s.ins i = upd s.ins p u2 i; rw [upd_self _ _ _ HU2.out]) (fun i _ => by show s.mat i = upd s.mat p u3 i; rw [upd_self _ _ _ HU3.out])
          have HB6 := Lib.hid hb6
          have HO6 : Hid (Only (RFt m bs) w _) := Lib.hid (((((HAX.out.only.mono (fun _ _ q => q.elim)).setCell (p := ⟨bs, p * 4, none⟩) (.inr (.inr rfl)) (.slice (some ⟨g, 0, none⟩) Av mc)).setCell (p := ⟨bs, p * 4 + 1, none⟩) (.inr (.inr rfl)) (.bool true)).setCell (p := ⟨bs, p * 4 + 2, none⟩) (.inr (.inr rfl)) (.bool u2)).setCell (p := ⟨bs, p * 4 + 3, none⟩) (.inr (.inr rfl)) (.int .i64 u3)).drew
          clear hb5 hb6 y0 y2 z0 z1 z2 z3 s0 s1 s2 s3 xf0 xf1 xf2 xf3
          go_wp2_with fail
          go_ret
          rw [HP.out]
          refine ⟨rfl, _, HB6.out, HO6.out, ?_⟩
          intro i b hi hb
          by_cases e : i = p
          · rw [e, upd_same] at hb
            left
            rw [e, HMV.out]
            cases hb
            rfl
          · rw [upd_other _ _ _ e] at hb; exact .inl hb
        · have hgd : decide (Av < Tn) = false := by simp; omega
          have HXX : Hid (cutTo mine his = Tn) := Lib.hid (by rw [hxx, Nat.min_eq_right (by omega)])
          clear hxx hgt
          go_wp2_with fail
          have HXL : Hid ((s.logs p).take (cutTo (s.logs p) s.his) = mine.take Tn) := Lib.hid (by rw [← HMINE.out, ← HHIS.out, HXX.out])
          have HP : Hid (fetch N s p = (0, { s with logs := upd s.logs p ((s.logs p).take (cutTo (s.logs p) s.his)) })) := Lib.hid (by
            unfold fetch
            rw [if_neg (by simp [h0, HU.out]), if_neg H1.out, if_pos HCT.out])
          have HAX : Hid (At w (w2.setCell ⟨cb, 0, none⟩ (.slice (some ⟨g, 0, none⟩) Tn mc)) m bs N cap vs s cb #[.slice (some ⟨g, 0, none⟩) Tn mc, .bool true, .bool u2, .int .i64 u3]) := Lib.hid (HA2.out.set 0 (.slice (some ⟨g, 0, none⟩) Tn mc))
          have HRX : Hid (Row (w2.setCell ⟨cb, 0, none⟩ (.slice (some ⟨g, 0, none⟩) Tn mc)) (.slice (some ⟨g, 0, none⟩) Tn mc) (mine.take Tn)) := Lib.hid (by
            have h9 := (HRM.out w2 HA2.out.only)
            refine (h9.move fun b hb => ?_).cut Tn mc (by rw [← HK.out]; omega) (by omega) (Nat.le_refl _)
            have hne : b ≠ cb := by rintro rfl; exact h9.apart HA2.out.copy (by decide) hb
            rw [Below.heap_setCell _ _ _ _ hne])
          clear xk2
          generalize w2.setCell ⟨cb, 0, none⟩ (.slice (some ⟨g, 0, none⟩) Tn mc) = wX at HAX HRX ⊢
          have hbx := HAX.out.box
          have y0 : wX.cell? ⟨m, 0, none⟩ = some (.slice (some ⟨bs, 0, none⟩) N cap) := cell_of hbx.obj 0
          have y2 : wX.cell? ⟨m, 2, none⟩ = some (.int .i64 s.lead) := cell_of hbx.obj 2
          have z0 : wX.cell? ⟨cb, 0, none⟩ = some (.slice (some ⟨g, 0, none⟩) Tn mc) := cell_of HAX.out.copy 0
          have z1 : wX.cell? ⟨cb, 1, none⟩ = some (.bool true) := cell_of HAX.out.copy 1
          have z2 : wX.cell? ⟨cb, 2, none⟩ = some (.bool u2) := cell_of HAX.out.copy 2
          have z3 : wX.cell? ⟨cb, 3, none⟩ = some (.int .i64 u3) := cell_of HAX.out.copy 3
          have s0 : wX.cell? ⟨bs, p * 4, none⟩ = _ := hbx.log hn
          have s1 : wX.cell? ⟨bs, p * 4 + 1, none⟩ = _ := hbx.up hn
          have s2 : wX.cell? ⟨bs, p * 4 + 2, none⟩ = _ := hbx.in_ hn
          have s3 : wX.cell? ⟨bs, p * 4 + 3, none⟩ = _ := hbx.mat hn
          have xf : ∀ j, wX.frozen? ⟨bs, j, none⟩ = false := fun j => hbx.nodes.free j
          have xf0 := xf (p * 4)
          have xf1 := xf (p * 4 + 1)
          have xf2 := xf (p * 4 + 2)
          have xf3 := xf (p * 4 + 3)
          clear hbx xf
          go_region
          have hb5 := (HAX.out.box.setNode hn (.slice (some ⟨g, 0, none⟩) Tn mc) (mine.take Tn) true u2 u3 HRX.out).drew
          have hb6 := hb5.ext { s with logs := upd s.logs p ((s.logs p).take (cutTo (s.logs p) s.his)) } rfl rfl rfl (fun i _ => by show upd s.logs p _ i = upd s.logs p _ i; rw [HXL.out]) (fun i _ => by show s.ups i = upd s.ups p true i; rw [upd_self _ _ _ HU.out.symm]) (fun i _ => by show s.ins i = upd s.ins p u2 i; rw [upd_self _ _ _ HU2.out]) (fun i _ => by show s.mat i = upd s.mat p u3 i; rw [upd_self _ _ _ HU3.out])
          have HB6 := Lib.hid hb6
          have HO6 : Hid (Only (RFt m bs) w _) := Lib.hid (((((HAX.out.only.mono (fun _ _ q => q.elim)).setCell (p := ⟨bs, p * 4, none⟩) (.inr (.inr rfl)) (.slice (some ⟨g, 0, none⟩) Tn mc)).setCell (p := ⟨bs, p * 4 + 1, none⟩) (.inr (.inr rfl)) (.bool true)).setCell (p := ⟨bs, p * 4 + 2, none⟩) (.inr (.inr rfl)) (.bool u2)).setCell (p := ⟨bs, p * 4 + 3, none⟩) (.inr (.inr rfl)) (.int .i64 u3)).drew
          clear hb5 hb6 y0 y2 z0 z1 z2 z3 s0 s1 s2 s3 xf0 xf1 xf2 xf3
          go_wp2_with fail
          go_ret
          rw [HP.out]
          refine ⟨rfl, _, HB6.out, HO6.out, ?_⟩
          intro i b hi hb
          by_cases e : i = p
          · rw [e, upd_same] at hb
            left
            rw [e, HMV.out]
            cases hb
            rfl
          · rw [upd_other _ _ _ e] at hb; exact .inl hb
    | true =>
      have hApos : 0 < Av := HHASA.out rfl
      by_cases hAk : Av < k
      · have hdk : decide (Av < k) = true := by simp; omega
        have HCT : Hid (cuts (s.logs p) s.his = true) := Lib.hid (by rw [HCUT.out, hdk]; rfl)
        obtain ⟨Bv, hBv⟩ : ∃ Bv, Bv = ep his (Av - 1) := ⟨_, rfl⟩
        obtain ⟨Tn, hTn⟩ : ∃ Tn, Tn = endN mine Bv := ⟨_, rfl⟩
        have hTnk : Tn ≤ k := by rw [hTn, HK.out]; exact endN_le _ _
        have hxx : cutTo mine his = min Av Tn := by
          rw [ref_to (by rw [← HLE.out, ← HAV.out]; exact hApos), ← HLE.out, ← HAV.out, ← hBv, ← hTn]
        have hda : decide (0 < Av) = true := by simp; omega
        obtain ⟨hg, hf1⟩ : ∃ hg, ha = some ⟨hg, 0, none⟩ := by
          rcases HRH.out w (Only.refl _ w) with ⟨q, q'⟩ | ⟨g, cap', cur, q, _⟩
          · cases q; omega
          · cases q; exact ⟨g, rfl⟩
        subst hf1
        have hwa : IntKind.i64.wrap ((Av : Int) - 1) = (Av : Int) - 1 := by rw [IntKind.wrap_i64]; omega
        have ha1 : (0 : Int) ≤ (Av : Int) - 1 := by omega
        have ha2 : (Av : Int) - 1 < (hll : Int) := by omega
        have ha3 : ((Av : Int) - 1).toNat = Av - 1 := by omega
        have gb : w2.cell? ⟨hg, (Av - 1) * 2, none⟩ = some (.int .i64 Bv) := by
          have := ((HRH.out w2 HA2.out.only).at (Av - 1) (by have := HHL.out; omega)).1
          rw [this, hBv]; rfl
        have HEND2 : Hid (∀ n1, Calls Try.prog 39 #[.slice (some ⟨g, 0, none⟩) k mc, .int .i64 Bv] (w2.drewN n1) fun e w'' => e = .returned (.int .i64 Tn) ∧ ∃ n2, w'' = w2.drewN n2) := Lib.hid (by
          intro n1
          refine (rend_any (.slice (some ⟨g, 0, none⟩) k mc) mine Bv (by have := HK.out; omega) (HRM.out (w2.drewN n1) (HA2.out.only.drewN n1))).mono ?_
          rintro e w'' ⟨rfl, rfl⟩
          exact ⟨by rw [hTn], n1, rfl⟩)
        clear hBv hTn
        have fX : w2.cell? ⟨cb, 0, none⟩ = some (.slice (some ⟨g, 0, none⟩) k mc) := xk2
        have ff0 : w2.frozen? ⟨cb, 0, none⟩ = false := free_of HA2.out.copy 0
        have gk := hck.out w2 HA2.out.only
        go_wp2_with fail
        go_at_call 39
        refine (HEND.out w2 HA2.out.only).mono ?_
        rintro e w' ⟨rfl, hw⟩
        have hw' := hw.symm
        clear hw
        subst hw'
        go_wp2_with fail
        go_at_call 40
        refine (HHAS.out _ HA2.out.only).mono ?_
        rintro e w' ⟨rfl, hw⟩
        have hw' := hw.symm
        clear hw
        subst hw'
        clear gk
        go_wp2_with fail
        go_quiet (exact HEND2.out _)
        have HA2 := Lib.hid (HA2.out.next ((Only.refl _ w2).drewN nq))
        have fX2 : (w2.drewN nq).cell? ⟨cb, 0, none⟩ = some (.slice (some ⟨g, 0, none⟩) k mc) := fX
        have ff02 : (w2.drewN nq).frozen? ⟨cb, 0, none⟩ = false := ff0
        have xk2 := fX2
        clear fX ff0 gb HEND HHAS HEND2
        generalize w2.drewN nq = w2 at HA2 fX2 ff02 xk2 ⊢
        by_cases hgt : Av < Tn
        · have hgd : decide (Av < Tn) = true := by simp; omega
          have HXX : Hid (cutTo mine his = Av) := Lib.hid (by rw [hxx, Nat.min_eq_left (by omega)])
          have hAvk : Av ≤ k := by omega
          clear hxx hgt
          go_wp2_with fail
          have HXL : Hid ((s.logs p).take (cutTo (s.logs p) s.his) = mine.take Av) := Lib.hid (by rw [← HMINE.out, ← HHIS.out, HXX.out])
          have HP : Hid (fetch N s p = (0, { s with logs := upd s.logs p ((s.logs p).take (cutTo (s.logs p) s.his)) })) := Lib.hid (by
            unfold fetch
            rw [if_neg (by simp [h0, HU.out]), if_neg H1.out, if_pos HCT.out])
          have HAX : Hid (At w (w2.setCell ⟨cb, 0, none⟩ (.slice (some ⟨g, 0, none⟩) Av mc)) m bs N cap vs s cb #[.slice (some ⟨g, 0, none⟩) Av mc, .bool true, .bool u2, .int .i64 u3]) := Lib.hid (HA2.out.set 0 (.slice (some ⟨g, 0, none⟩) Av mc))
          have HRX : Hid (Row (w2.setCell ⟨cb, 0, none⟩ (.slice (some ⟨g, 0, none⟩) Av mc)) (.slice (some ⟨g, 0, none⟩) Av mc) (mine.take Av)) := Lib.hid (by
            have h9 := (HRM.out w2 HA2.out.only)
            refine (h9.move fun b hb => ?_).cut Av mc (by rw [← HK.out]; omega) (by omega) (Nat.le_refl _)
            have hne : b ≠ cb := by rintro rfl; exact h9.apart HA2.out.copy (by decide) hb
            rw [Below.heap_setCell _ _ _ _ hne])
          clear xk2
          generalize w2.setCell ⟨cb, 0, none⟩ (.slice (some ⟨g, 0, none⟩) Av mc) = wX at HAX HRX ⊢
          have hbx := HAX.out.box
          have y0 : wX.cell? ⟨m, 0, none⟩ = some (.slice (some ⟨bs, 0, none⟩) N cap) := cell_of hbx.obj 0
          have y2 : wX.cell? ⟨m, 2, none⟩ = some (.int .i64 s.lead) := cell_of hbx.obj 2
          have z0 : wX.cell? ⟨cb, 0, none⟩ = some (.slice (some ⟨g, 0, none⟩) Av mc) := cell_of HAX.out.copy 0
          have z1 : wX.cell? ⟨cb, 1, none⟩ = some (.bool true) := cell_of HAX.out.copy 1
          have z2 : wX.cell? ⟨cb, 2, none⟩ = some (.bool u2) := cell_of HAX.out.copy 2
          have z3 : wX.cell? ⟨cb, 3, none⟩ = some (.int .i64 u3) := cell_of HAX.out.copy 3
          have s0 : wX.cell? ⟨bs, p * 4, none⟩ = _ := hbx.log hn
          have s1 : wX.cell? ⟨bs, p * 4 + 1, none⟩ = _ := hbx.up hn
          have s2 : wX.cell? ⟨bs, p * 4 + 2, none⟩ = _ := hbx.in_ hn
          have s3 : wX.cell? ⟨bs, p * 4 + 3, none⟩ = _ := hbx.mat hn
          have xf : ∀ j, wX.frozen? ⟨bs, j, none⟩ = false := fun j => hbx.nodes.free j
          have xf0 := xf (p * 4)
          have xf1 := xf (p * 4 + 1)
          have xf2 := xf (p * 4 + 2)
          have xf3 := xf (p * 4 + 3)
          clear hbx xf
          go_region
          have hb5 := (HAX.out.box.setNode hn (.slice (some ⟨g, 0, none⟩) Av mc) (mine.take Av) true u2 u3 HRX.out).drew
          have hb6 := hb5.ext { s with logs := upd s.logs p ((s.logs p).take (cutTo (s.logs p) s.his)) } rfl rfl rfl (fun i _ => by show upd s.logs p _ i = upd s.logs p _ i; rw [HXL.out]) (fun i _ => by show s.ups i = upd s.ups p true i; rw [upd_self _ _ _ HU.out.symm]) (fun i _ => by show s.ins i = upd s.ins p u2 i; rw [upd_self _ _ _ HU2.out]) (fun i _ => by show s.mat i = upd s.mat p u3 i; rw [upd_self _ _ _ HU3.out])
          have HB6 := Lib.hid hb6
          have HO6 : Hid (Only (RFt m bs) w _) := Lib.hid (((((HAX.out.only.mono (fun _ _ q => q.elim)).setCell (p := ⟨bs, p * 4, none⟩) (.inr (.inr rfl)) (.slice (some ⟨g, 0, none⟩) Av mc)).setCell (p := ⟨bs, p * 4 + 1, none⟩) (.inr (.inr rfl)) (.bool true)).setCell (p := ⟨bs, p * 4 + 2, none⟩) (.inr (.inr rfl)) (.bool u2)).setCell (p := ⟨bs, p * 4 + 3, none⟩) (.inr (.inr rfl)) (.int .i64 u3)).drew
          clear hb5 hb6 y0 y2 z0 z1 z2 z3 s0 s1 s2 s3 xf0 xf1 xf2 xf3
          go_wp2_with fail
          go_ret
          rw [HP.out]
          refine ⟨rfl, _, HB6.out, HO6.out, ?_⟩
          intro i b hi hb
          by_cases e : i = p
          · rw [e, upd_same] at hb
            left
            rw [e, HMV.out]
            cases hb
            rfl
          · rw [upd_other _ _ _ e] at hb; exact .inl hb
        · have hgd : decide (Av < Tn) = false := by simp; omega
          have HXX : Hid (cutTo mine his = Tn) := Lib.hid (by rw [hxx, Nat.min_eq_right (by omega)])
          clear hxx hgt
          go_wp2_with fail
          have HXL : Hid ((s.logs p).take (cutTo (s.logs p) s.his) = mine.take Tn) := Lib.hid (by rw [← HMINE.out, ← HHIS.out, HXX.out])
          have HP : Hid (fetch N s p = (0, { s with logs := upd s.logs p ((s.logs p).take (cutTo (s.logs p) s.his)) })) := Lib.hid (by
            unfold fetch
            rw [if_neg (by simp [h0, HU.out]), if_neg H1.out, if_pos HCT.out])
          have HAX : Hid (At w (w2.setCell ⟨cb, 0, none⟩ (.slice (some ⟨g, 0, none⟩) Tn mc)) m bs N cap vs s cb #[.slice (some ⟨g, 0, none⟩) Tn mc, .bool true, .bool u2, .int .i64 u3]) := Lib.hid (HA2.out.set 0 (.slice (some ⟨g, 0, none⟩) Tn mc))
          have HRX : Hid (Row (w2.setCell ⟨cb, 0, none⟩ (.slice (some ⟨g, 0, none⟩) Tn mc)) (.slice (some ⟨g, 0, none⟩) Tn mc) (mine.take Tn)) := Lib.hid (by
            have h9 := (HRM.out w2 HA2.out.only)
            refine (h9.move fun b hb => ?_).cut Tn mc (by rw [← HK.out]; omega) (by omega) (Nat.le_refl _)
            have hne : b ≠ cb := by rintro rfl; exact h9.apart HA2.out.copy (by decide) hb
            rw [Below.heap_setCell _ _ _ _ hne])
          clear xk2
          generalize w2.setCell ⟨cb, 0, none⟩ (.slice (some ⟨g, 0, none⟩) Tn mc) = wX at HAX HRX ⊢
          have hbx := HAX.out.box
          have y0 : wX.cell? ⟨m, 0, none⟩ = some (.slice (some ⟨bs, 0, none⟩) N cap) := cell_of hbx.obj 0
          have y2 : wX.cell? ⟨m, 2, none⟩ = some (.int .i64 s.lead) := cell_of hbx.obj 2
          have z0 : wX.cell? ⟨cb, 0, none⟩ = some (.slice (some ⟨g, 0, none⟩) Tn mc) := cell_of HAX.out.copy 0
          have z1 : wX.cell? ⟨cb, 1, none⟩ = some (.bool true) := cell_of HAX.out.copy 1
          have z2 : wX.cell? ⟨cb, 2, none⟩ = some (.bool u2) := cell_of HAX.out.copy 2
          have z3 : wX.cell? ⟨cb, 3, none⟩ = some (.int .i64 u3) := cell_of HAX.out.copy 3
          have s0 : wX.cell? ⟨bs, p * 4, none⟩ = _ := hbx.log hn
          have s1 : wX.cell? ⟨bs, p * 4 + 1, none⟩ = _ := hbx.up hn
          have s2 : wX.cell? ⟨bs, p * 4 + 2, none⟩ = _ := hbx.in_ hn
          have s3 : wX.cell? ⟨bs, p * 4 + 3, none⟩ = _ := hbx.mat hn
          have xf : ∀ j, wX.frozen? ⟨bs, j, none⟩ = false := fun j => hbx.nodes.free j
          have xf0 := xf (p * 4)
          have xf1 := xf (p * 4 + 1)
          have xf2 := xf (p * 4 + 2)
          have xf3 := xf (p * 4 + 3)
          clear hbx xf
          go_region
          have hb5 := (HAX.out.box.setNode hn (.slice (some ⟨g, 0, none⟩) Tn mc) (mine.take Tn) true u2 u3 HRX.out).drew
          have hb6 := hb5.ext { s with logs := upd s.logs p ((s.logs p).take (cutTo (s.logs p) s.his)) } rfl rfl rfl (fun i _ => by show upd s.logs p _ i = upd s.logs p _ i; rw [HXL.out]) (fun i _ => by show s.ups i = upd s.ups p true i; rw [upd_self _ _ _ HU.out.symm]) (fun i _ => by show s.ins i = upd s.ins p u2 i; rw [upd_self _ _ _ HU2.out]) (fun i _ => by show s.mat i = upd s.mat p u3 i; rw [upd_self _ _ _ HU3.out])
          have HB6 := Lib.hid hb6
          have HO6 : Hid (Only (RFt m bs) w _) := Lib.hid (((((HAX.out.only.mono (fun _ _ q => q.elim)).setCell (p := ⟨bs, p * 4, none⟩) (.inr (.inr rfl)) (.slice (some ⟨g, 0, none⟩) Tn mc)).setCell (p := ⟨bs, p * 4 + 1, none⟩) (.inr (.inr rfl)) (.bool true)).setCell (p := ⟨bs, p * 4 + 2, none⟩) (.inr (.inr rfl)) (.bool u2)).setCell (p := ⟨bs, p * 4 + 3, none⟩) (.inr (.inr rfl)) (.int .i64 u3)).drew
          clear hb5 hb6 y0 y2 z0 z1 z2 z3 s0 s1 s2 s3 xf0 xf1 xf2 xf3
          go_wp2_with fail
          go_ret
          rw [HP.out]
          refine ⟨rfl, _, HB6.out, HO6.out, ?_⟩
          intro i b hi hb
          by_cases e : i = p
          · rw [e, upd_same] at hb
            left
            rw [e, HMV.out]
            cases hb
            rfl
          · rw [upd_other _ _ _ e] at hb; exact .inl hb
      · have hdk : decide (Av < k) = false := by simp; omega
        have HCF : Hid (cuts (s.logs p) s.his = false) := Lib.hid (by rw [HCUT.out, hdk]; rfl)
        have HNC : Hid (mine.length ≤ his.length ∧ mine = his.take mine.length) := Lib.hid (not_cut HGM.out HGH.out (by rw [HMINE.out, HHIS.out]; exact HCF.out))
        obtain ⟨T, hT⟩ : ∃ T, T = min hll (k + 3) := ⟨_, rfl⟩
        have hkh : k ≤ hll := by rw [HK.out, HHL.out]; exact HNC.out.1
        have hTk : k ≤ T := by omega
        have hTh : T ≤ hll := by omega
        have HT := Lib.hid hT
        obtain ⟨i0, hi0, hz0, hz1, hz2⟩ := info_parts info45
        have HN : Hid (∀ j u, (ccs mine)[j]? = some u → w2.cell? ((⟨g, 0, none⟩ : Addr).add j) = some u) := Lib.hid (by
          intro j u hu
          rw [Addr.add_lit, Nat.zero_add]
          exact (HRM.out w2 HA2.out.only).cells j u hu)
        clear hT hkh hAk hApos
        have gk := hck.out w2 HA2.out.only
        go_wp2_with fail
        go_at_call 39
        refine (HEND.out w2 HA2.out.only).mono ?_
        rintro e w' ⟨rfl, hw⟩
        have hw' := hw.symm
        clear hw
        subst hw'
        go_wp2_with fail
        go_at_call 40
        refine (HHAS.out _ HA2.out.only).mono ?_
        rintro e w' ⟨rfl, hw⟩
        have hw' := hw.symm
        clear hw
        subst hw'
        clear gk
        go_wp2_with (at_builtin; refine wpList_append_row rfl (.tmp 108) (.tmp 110) 33 rfl i0 _ Try.underlying33 hi0 hz0 hz1 hz2 rfl (.slice none 0 0) [] mine (by rfl) (Row.nil _) ⟨g, 0, none⟩ k mc (by rfl) HK.out.symm (by have := HZN.out; omega) HN.out (by simp; have := HK.out; omega) ?_; intro g2 cap2 w3 happ0; have hA3 := HA2.out.grown (Row.nil w2) (fun k hk => by cases hk) happ0; have hfr0 := HA2.out.fresh (fun k hk => by cases hk) happ0; have hrv := happ0.1; rw [List.nil_append, ← HK.out] at hrv; simp only [List.length_nil, Nat.zero_add] at hrv; have hmt : mine = his.take k := (by rw [HK.out]; exact HNC.out.2); rw [hmt] at hrv; have HA3 := Lib.hid hA3; have HRV := Lib.hid hrv; have HFR : Hid (∀ b, Value.ownBlock (.slice (some ⟨g2, 0, none⟩) k cap2) = some b → w.heap.size ≤ b) := Lib.hid (fun b hb => by cases hb; exact hfr0); clear hA3 hfr0 hrv hmt happ0)
        go_loopw [11, 12] (fun xl xi wr => ∃ (j : Nat), k ≤ j ∧ j ≤ T ∧ xi = .int .i64 j ∧ Hid (At w wr m bs N cap vs s cb #[.slice (some ⟨g, 0, none⟩) k mc, .bool true, .bool u2, .int .i64 u3]) ∧ Hid (Row wr xl (his.take j)) ∧ Hid (∀ b, xl.ownBlock = some b → w.heap.size ≤ b)) (fun _ xi _ => T - (intOf xi).toNat)
        case atStart => exact ⟨k, Nat.le_refl _, by omega, rfl, HA3, HRV, HFR⟩
        case round =>
          obtain ⟨j, hkj, hjT, rfl, HAJ, HRJ, HFJ⟩ := hrel
          clear HA3 HRV HFR
          by_cases hjl : j < T
          · have hj1 : decide (j < hll) = true := by simp; omega
            have hj2 : decide (j < k + 3) = true := by have := HT.out; simp; omega
            have hj2' : decide ((j : Int) < (k : Int) + 3) = true := by have := HT.out; simp; omega
            have hjh : j < his.length := by have := HHL.out; omega
            have hrj := HRH.out _ HAJ.out.only
            obtain ⟨hg, hf1⟩ : ∃ hg, ha = some ⟨hg, 0, none⟩ := by
              rcases hrj with ⟨q, q'⟩ | ⟨g, cap', cur, q, _⟩
              · rw [q'] at hjh; simp at hjh
              · cases q; exact ⟨g, rfl⟩
            subst hf1
            obtain ⟨d0, d1⟩ := hrj.at j hjh
            obtain ⟨ce, hce⟩ : ∃ ce, ce = (his.getD j cz).1 := ⟨_, rfl⟩
            obtain ⟨cv, hcv⟩ : ∃ cv, cv = (his.getD j cz).2 := ⟨_, rfl⟩
            rw [← hce] at d0
            rw [← hcv] at d1
            have hj3 : (0 : Int) ≤ (j : Int) := by omega
            have hj4 : (j : Int) < (hll : Int) := by omega
            have hjlen : (his.take j).length = j := by rw [List.length_take]; omega
            have HCE := Lib.hid hce
            have HCV := Lib.hid hcv
            clear hrj hce hcv
            go_wp2_with (at_builtin; refine wpList_append_row rfl (.tmp 125) (.tmp 130) 33 rfl i0 _ Try.underlying33 hi0 hz0 hz1 hz2 rfl u11 (his.take j) [(ce, cv)] (by rfl) (HRJ.out.move (w1 := wr.alloc (Obj.cells #[.int .i64 ce, .int .i64 cv] 45)) fun b hb => Below.heap_alloc _ _ _ (HRJ.out.lt hb)) ⟨wr.heap.size, 0, none⟩ 1 1 (by rfl) (by rfl) (by omega) (World.news_of_block (cs := #[.int .i64 ce, .int .i64 cv]) (t := 45) (fr := (0, 0)) (block_new wr _)) (by omega) ?_; intro g3 cap3 w3 happ)
            have hAn := (HAJ.out.next ((Only.refl _ wr).alloc (Obj.cells #[.int .i64 ce, .int .i64 cv] 45))).grown (HRJ.out.move fun b hb => Below.heap_alloc _ _ _ (HRJ.out.lt hb)) HFJ.out happ
            have hfr3 := (HAJ.out.next ((Only.refl _ wr).alloc (Obj.cells #[.int .i64 ce, .int .i64 cv] 45))).fresh HFJ.out happ
            have hrow3 := happ.1
            have hsucc : his.take j ++ [(ce, cv)] = his.take (j + 1) := by
              have e : his[j]'hjh = (ce, cv) := by rw [HCE.out, HCV.out, getD_get _ _ hjh]
              rw [List.take_succ_eq_append_getElem hjh, e]
            rw [hsucc, hjlen] at hrow3
            have HAn := Lib.hid hAn
            have HRn := Lib.hid hrow3
            have HGn := Lib.hid hfr3
            clear hAn hfr3 hrow3 hsucc happ d0 d1
            go_roundw
            case rel => exact ⟨j + 1, by omega, by omega, by go_num, HAn, HRn, Lib.hid (fun b hb => by cases hb; exact HGn.out)⟩
            case measure => simp [intOf]; omega
          · obtain rfl : j = T := by omega
            have hjd : ¬ (j < hll ∧ j < k + 3) := by have := HT.out; omega
            obtain ⟨va9, vc9, hv9⟩ := HRJ.out.slice
            have hjlen : (his.take j).length = j := by rw [List.length_take]; have := HHL.out; omega
            rw [hjlen] at hv9
            subst hv9
            have hfin : s.logs p ++ more (s.logs p) s.his = his.take j := by
              rw [← HMINE.out, ← HHIS.out]
              have e := take_more HNC.out.2 HNC.out.1
              rw [e, ← HK.out, HT.out]
              by_cases q : k + 3 ≤ hll
              · rw [Nat.min_eq_right q]
              · rw [Nat.min_eq_left (by omega), List.take_of_length_le (by have := HHL.out; omega), List.take_of_length_le (by have := HHL.out; omega)]
            have e0 : wr.cell? ⟨cb, 0, none⟩ = some (.slice (some ⟨g, 0, none⟩) k mc) := cell_of HAJ.out.copy 0
            have e2 : wr.cell? ⟨cb, 2, none⟩ = some (.bool u2) := cell_of HAJ.out.copy 2
            have e3 : wr.cell? ⟨cb, 3, none⟩ = some (.int .i64 u3) := cell_of HAJ.out.copy 3
            have f0 : ∀ z, wr.frozen? ⟨cb, z, none⟩ = false := fun z => free_of HAJ.out.copy z
            have f00 := f0 0
            have f02 := f0 2
            have f03 := f0 3
            clear f0
            have hP : fetch N s p = (0, rise N (tookPre s p (his.take j))) := by
              unfold fetch
              rw [if_neg (by simp [h0, HU.out]), if_neg H1.out, HCF.out]
              show (0, took N s p (s.logs p ++ more (s.logs p) s.his)) = _
              rw [hfin]; rfl
            have HP := Lib.hid hP
            have HFIN := Lib.hid hjlen
            have HJD := Lib.hid hjd
            clear hfin hP hjlen hjd
            obtain ⟨u2n, hu2n⟩ : ∃ u2n, u2n = (u2 || decide (j = hll)) := ⟨_, rfl⟩
            have HU2N := Lib.hid hu2n
            have hjg : decide (j < hll) = false ∨ decide (j < k + 3) = false := by
              by_cases q : j < hll
              · right; simp; have := HJD.out; omega
              · left; simp; omega
            have HJG := Lib.hid hjg
            clear hjg hjl
            have hu2c : u2 = true ∧ u2n = true ∨ u2 = false ∧ j = hll ∧ u2n = true ∨ u2 = false ∧ j ≠ hll ∧ u2n = false := by
              cases u2 with
              | true => left; exact ⟨rfl, by rw [hu2n]; rfl⟩
              | false =>
                right
                by_cases q : j = hll
                · left; exact ⟨rfl, q, by rw [hu2n]; simp [q]⟩
                · right; exact ⟨rfl, q, by rw [hu2n]; simp [q]⟩
            clear hu2n
            have FINISH : True := trivial
            by_cases hjh : j < hll
            · have g1 : decide (j < hll) = true := by simp; omega
              have g2 : decide (j < k + 3) = false := by simp; have := HJD.out; omega
              have g3 : decide ((j : Int) < (k : Int) + 3) = false := by simp; have := HJD.out; omega
              have hjx : ((j : Int) == (hll : Int)) = false := by simp; omega
              have HJH := Lib.hid hjh
              clear hjh
              rcases hu2c with ⟨q1, q2⟩ | ⟨q1, q3, q2⟩ | ⟨q1, q3, q2⟩
              · subst q1
                go_wp2_with fail
                have HAX : Hid (At w (((wr.setCell ⟨cb, 0, none⟩ (.slice va9 j vc9)).setCell ⟨cb, 3, none⟩ (.int .i64 j)).setCell ⟨cb, 2, none⟩ (.bool true)) m bs N cap vs s cb #[.slice va9 j vc9, .bool true, .bool true, .int .i64 j]) := Lib.hid (((HAJ.out.set 0 (.slice va9 j vc9)).set 3 (.int .i64 j)).set 2 (.bool true))
                have HRX : Hid (Row (((wr.setCell ⟨cb, 0, none⟩ (.slice va9 j vc9)).setCell ⟨cb, 3, none⟩ (.int .i64 j)).setCell ⟨cb, 2, none⟩ (.bool true)) (.slice va9 j vc9) (his.take j)) := Lib.hid (HRJ.out.move fun b hb => by
                  have hne : b ≠ cb := by rintro rfl; exact HRJ.out.apart HAJ.out.copy (by decide) hb
                  rw [Below.heap_setCell _ _ _ _ hne, Below.heap_setCell _ _ _ _ hne, Below.heap_setCell _ _ _ _ hne])
                clear e0 e2 e3 f00 f02 f03
                generalize ((wr.setCell ⟨cb, 0, none⟩ (.slice va9 j vc9)).setCell ⟨cb, 3, none⟩ (.int .i64 j)).setCell ⟨cb, 2, none⟩ (.bool true) = wX at HAX HRX ⊢
                have hbx := HAX.out.box
                have y0 : wX.cell? ⟨m, 0, none⟩ = some (.slice (some ⟨bs, 0, none⟩) N cap) := cell_of hbx.obj 0
                have y2 : wX.cell? ⟨m, 2, none⟩ = some (.int .i64 s.lead) := cell_of hbx.obj 2
                have z0 : wX.cell? ⟨cb, 0, none⟩ = some (.slice va9 j vc9) := cell_of HAX.out.copy 0
                have z1 : wX.cell? ⟨cb, 1, none⟩ = some (.bool true) := cell_of HAX.out.copy 1
                have z2 : wX.cell? ⟨cb, 2, none⟩ = some (.bool true) := cell_of HAX.out.copy 2
                have z3 : wX.cell? ⟨cb, 3, none⟩ = some (.int .i64 j) := cell_of HAX.out.copy 3
                have s0 : wX.cell? ⟨bs, p * 4, none⟩ = _ := hbx.log hn
                have s1 : wX.cell? ⟨bs, p * 4 + 1, none⟩ = _ := hbx.up hn
                have s2 : wX.cell? ⟨bs, p * 4 + 2, none⟩ = _ := hbx.in_ hn
                have s3 : wX.cell? ⟨bs, p * 4 + 3, none⟩ = _ := hbx.mat hn
                have xf : ∀ j, wX.frozen? ⟨bs, j, none⟩ = false := fun j => hbx.nodes.free j
                have xf0 := xf (p * 4)
                have xf1 := xf (p * 4 + 1)
                have xf2 := xf (p * 4 + 2)
                have xf3 := xf (p * 4 + 3)
                clear hbx xf
                go_region
                have hb5 := (HAX.out.box.setNode hn (.slice va9 j vc9) (his.take j) true true j HRX.out).drew
                have hb6 := hb5.ext (tookPre s p (his.take j)) rfl rfl rfl (fun _ _ => rfl) (fun i _ => by show s.ups i = upd s.ups p true i; rw [upd_self _ _ _ HU.out.symm]) (fun i _ => by show (if s.high ≤ (his.take j).length ∧ (his.take j).length = s.his.length then upd s.ins p true else s.ins) i = upd s.ins p true i; rw [took_ins (by rw [← HHIS.out, ← HHL.out]; exact hhigh), HFIN.out, ← HHIS.out, ← HHL.out, ← HU2.out, ← HU2N.out, q2]) (fun i _ => by show upd s.mat p (his.take j).length i = upd s.mat p j i; rw [HFIN.out])
                have HB6 := Lib.hid hb6
                have HO6 : Hid (Only (RFt m bs) w _) := Lib.hid (((((HAX.out.only.mono (fun _ _ q => q.elim)).setCell (p := ⟨bs, p * 4, none⟩) (.inr (.inr rfl)) (.slice va9 j vc9)).setCell (p := ⟨bs, p * 4 + 1, none⟩) (.inr (.inr rfl)) (.bool true)).setCell (p := ⟨bs, p * 4 + 2, none⟩) (.inr (.inr rfl)) (.bool true)).setCell (p := ⟨bs, p * 4 + 3, none⟩) (.inr (.inr rfl)) (.int .i64 j)).drew
                clear hb5 hb6 y0 y2 z0 z1 z2 z3 s0 s1 s2 s3 xf0 xf1 xf2 xf3
                go_wp2_with (go_at_call 35; refine (rrise_any HB6.out (HF.out.tookPre p _ (by rw [HFIN.out]; omega)) h0).mono ?_; rintro e w6 ⟨rfl, hb, ho⟩; have H5 := Lib.hid hb; have H6 := Lib.hid ho; clear hb ho)
                go_ret
                rw [HP.out]
                refine ⟨rfl, _, H5.out, HO6.out.trans H6.out (fun b _ hb => .inl hb), ?_⟩
                intro i b hi hb
                by_cases e : i = p
                · rw [e, upd_same] at hb
                  exact .inr (HFJ.out b hb)
                · rw [upd_other _ _ _ e] at hb; exact .inl hb
              · exact absurd q3 (by have := HJH.out; omega)
              · subst q1
                clear q3
                go_wp2_with fail
                have HAX : Hid (At w (((wr.setCell ⟨cb, 0, none⟩ (.slice va9 j vc9)).setCell ⟨cb, 3, none⟩ (.int .i64 j)).setCell ⟨cb, 2, none⟩ (.bool false)) m bs N cap vs s cb #[.slice va9 j vc9, .bool true, .bool false, .int .i64 j]) := Lib.hid (((HAJ.out.set 0 (.slice va9 j vc9)).set 3 (.int .i64 j)).set 2 (.bool false))
                have HRX : Hid (Row (((wr.setCell ⟨cb, 0, none⟩ (.slice va9 j vc9)).setCell ⟨cb, 3, none⟩ (.int .i64 j)).setCell ⟨cb, 2, none⟩ (.bool false)) (.slice va9 j vc9) (his.take j)) := Lib.hid (HRJ.out.move fun b hb => by
                  have hne : b ≠ cb := by rintro rfl; exact HRJ.out.apart HAJ.out.copy (by decide) hb
                  rw [Below.heap_setCell _ _ _ _ hne, Below.heap_setCell _ _ _ _ hne, Below.heap_setCell _ _ _ _ hne])
                clear e0 e2 e3 f00 f02 f03
                generalize ((wr.setCell ⟨cb, 0, none⟩ (.slice va9 j vc9)).setCell ⟨cb, 3, none⟩ (.int .i64 j)).setCell ⟨cb, 2, none⟩ (.bool false) = wX at HAX HRX ⊢
                have hbx := HAX.out.box
                have y0 : wX.cell? ⟨m, 0, none⟩ = some (.slice (some ⟨bs, 0, none⟩) N cap) := cell_of hbx.obj 0
                have y2 : wX.cell? ⟨m, 2, none⟩ = some (.int .i64 s.lead) := cell_of hbx.obj 2
                have z0 : wX.cell? ⟨cb, 0, none⟩ = some (.slice va9 j vc9) := cell_of HAX.out.copy 0
                have z1 : wX.cell? ⟨cb, 1, none⟩ = some (.bool true) := cell_of HAX.out.copy 1
                have z2 : wX.cell? ⟨cb, 2, none⟩ = some (.bool false) := cell_of HAX.out.copy 2
                have z3 : wX.cell? ⟨cb, 3, none⟩ = some (.int .i64 j) := cell_of HAX.out.copy 3
                have s0 : wX.cell? ⟨bs, p * 4, none⟩ = _ := hbx.log hn
                have s1 : wX.cell? ⟨bs, p * 4 + 1, none⟩ = _ := hbx.up hn
                have s2 : wX.cell? ⟨bs, p * 4 + 2, none⟩ = _ := hbx.in_ hn
                have s3 : wX.cell? ⟨bs, p * 4 + 3, none⟩ = _ := hbx.mat hn
                have xf : ∀ j, wX.frozen? ⟨bs, j, none⟩ = false := fun j => hbx.nodes.free j
                have xf0 := xf (p * 4)
                have xf1 := xf (p * 4 + 1)
                have xf2 := xf (p * 4 + 2)
                have xf3 := xf (p * 4 + 3)
                clear hbx xf
                go_region
                have hb5 := (HAX.out.box.setNode hn (.slice va9 j vc9) (his.take j) true false j HRX.out).drew
                have hb6 := hb5.ext (tookPre s p (his.take j)) rfl rfl rfl (fun _ _ => rfl) (fun i _ => by show s.ups i = upd s.ups p true i; rw [upd_self _ _ _ HU.out.symm]) (fun i _ => by show (if s.high ≤ (his.take j).length ∧ (his.take j).length = s.his.length then upd s.ins p true else s.ins) i = upd s.ins p false i; rw [took_ins (by rw [← HHIS.out, ← HHL.out]; exact hhigh), HFIN.out, ← HHIS.out, ← HHL.out, ← HU2.out, ← HU2N.out, q2]) (fun i _ => by show upd s.mat p (his.take j).length i = upd s.mat p j i; rw [HFIN.out])
                have HB6 := Lib.hid hb6
                have HO6 : Hid (Only (RFt m bs) w _) := Lib.hid (((((HAX.out.only.mono (fun _ _ q => q.elim)).setCell (p := ⟨bs, p * 4, none⟩) (.inr (.inr rfl)) (.slice va9 j vc9)).setCell (p := ⟨bs, p * 4 + 1, none⟩) (.inr (.inr rfl)) (.bool true)).setCell (p := ⟨bs, p * 4 + 2, none⟩) (.inr (.inr rfl)) (.bool false)).setCell (p := ⟨bs, p * 4 + 3, none⟩) (.inr (.inr rfl)) (.int .i64 j)).drew
                clear hb5 hb6 y0 y2 z0 z1 z2 z3 s0 s1 s2 s3 xf0 xf1 xf2 xf3
                go_wp2_with (go_at_call 35; refine (rrise_any HB6.out (HF.out.tookPre p _ (by rw [HFIN.out]; omega)) h0).mono ?_; rintro e w6 ⟨rfl, hb, ho⟩; have H5 := Lib.hid hb; have H6 := Lib.hid ho; clear hb ho)
                go_ret
                rw [HP.out]
                refine ⟨rfl, _, H5.out, HO6.out.trans H6.out (fun b _ hb => .inl hb), ?_⟩
                intro i b hi hb
                by_cases e : i = p
                · rw [e, upd_same] at hb
                  exact .inr (HFJ.out b hb)
                · rw [upd_other _ _ _ e] at hb; exact .inl hb
            · have hje : j = hll := by omega
              have g1 : decide (j < hll) = false := by simp; omega
              have hjx : ((j : Int) == (hll : Int)) = true := by simp; omega
              have HJE := Lib.hid hje
              clear hje hjh
              rcases hu2c with ⟨q1, q2⟩ | ⟨q1, q3, q2⟩ | ⟨q1, q3, q2⟩
              · subst q1
                go_wp2_with fail
                have HAX : Hid (At w (((wr.setCell ⟨cb, 0, none⟩ (.slice va9 j vc9)).setCell ⟨cb, 3, none⟩ (.int .i64 j)).setCell ⟨cb, 2, none⟩ (.bool true)) m bs N cap vs s cb #[.slice va9 j vc9, .bool true, .bool true, .int .i64 j]) := Lib.hid (((HAJ.out.set 0 (.slice va9 j vc9)).set 3 (.int .i64 j)).set 2 (.bool true))
                have HRX : Hid (Row (((wr.setCell ⟨cb, 0, none⟩ (.slice va9 j vc9)).setCell ⟨cb, 3, none⟩ (.int .i64 j)).setCell ⟨cb, 2, none⟩ (.bool true)) (.slice va9 j vc9) (his.take j)) := Lib.hid (HRJ.out.move fun b hb => by
                  have hne : b ≠ cb := by rintro rfl; exact HRJ.out.apart HAJ.out.copy (by decide) hb
                  rw [Below.heap_setCell _ _ _ _ hne, Below.heap_setCell _ _ _ _ hne, Below.heap_setCell _ _ _ _ hne])
                clear e0 e2 e3 f00 f02 f03
                generalize ((wr.setCell ⟨cb, 0, none⟩ (.slice va9 j vc9)).setCell ⟨cb, 3, none⟩ (.int .i64 j)).setCell ⟨cb, 2, none⟩ (.bool true) = wX at HAX HRX ⊢
                have hbx := HAX.out.box
                have y0 : wX.cell? ⟨m, 0, none⟩ = some (.slice (some ⟨bs, 0, none⟩) N cap) := cell_of hbx.obj 0
                have y2 : wX.cell? ⟨m, 2, none⟩ = some (.int .i64 s.lead) := cell_of hbx.obj 2
                have z0 : wX.cell? ⟨cb, 0, none⟩ = some (.slice va9 j vc9) := cell_of HAX.out.copy 0
                have z1 : wX.cell? ⟨cb, 1, none⟩ = some (.bool true) := cell_of HAX.out.copy 1
                have z2 : wX.cell? ⟨cb, 2, none⟩ = some (.bool true) := cell_of HAX.out.copy 2
                have z3 : wX.cell? ⟨cb, 3, none⟩ = some (.int .i64 j) := cell_of HAX.out.copy 3
                have s0 : wX.cell? ⟨bs, p * 4, none⟩ = _ := hbx.log hn
                have s1 : wX.cell? ⟨bs, p * 4 + 1, none⟩ = _ := hbx.up hn
                have s2 : wX.cell? ⟨bs, p * 4 + 2, none⟩ = _ := hbx.in_ hn
                have s3 : wX.cell? ⟨bs, p * 4 + 3, none⟩ = _ := hbx.mat hn
                have xf : ∀ j, wX.frozen? ⟨bs, j, none⟩ = false := fun j => hbx.nodes.free j
                have xf0 := xf (p * 4)
                have xf1 := xf (p * 4 + 1)
                have xf2 := xf (p * 4 + 2)
                have xf3 := xf (p * 4 + 3)
                clear hbx xf
                go_region
                have hb5 := (HAX.out.box.setNode hn (.slice va9 j vc9) (his.take j) true true j HRX.out).drew
                have hb6 := hb5.ext (tookPre s p (his.take j)) rfl rfl rfl (fun _ _ => rfl) (fun i _ => by show s.ups i = upd s.ups p true i; rw [upd_self _ _ _ HU.out.symm]) (fun i _ => by show (if s.high ≤ (his.take j).length ∧ (his.take j).length = s.his.length then upd s.ins p true else s.ins) i = upd s.ins p true i; rw [took_ins (by rw [← HHIS.out, ← HHL.out]; exact hhigh), HFIN.out, ← HHIS.out, ← HHL.out, ← HU2.out, ← HU2N.out, q2]) (fun i _ => by show upd s.mat p (his.take j).length i = upd s.mat p j i; rw [HFIN.out])
                have HB6 := Lib.hid hb6
                have HO6 : Hid (Only (RFt m bs) w _) := Lib.hid (((((HAX.out.only.mono (fun _ _ q => q.elim)).setCell (p := ⟨bs, p * 4, none⟩) (.inr (.inr rfl)) (.slice va9 j vc9)).setCell (p := ⟨bs, p * 4 + 1, none⟩) (.inr (.inr rfl)) (.bool true)).setCell (p := ⟨bs, p * 4 + 2, none⟩) (.inr (.inr rfl)) (.bool true)).setCell (p := ⟨bs, p * 4 + 3, none⟩) (.inr (.inr rfl)) (.int .i64 j)).drew
                clear hb5 hb6 y0 y2 z0 z1 z2 z3 s0 s1 s2 s3 xf0 xf1 xf2 xf3
                go_wp2_with (go_at_call 35; refine (rrise_any HB6.out (HF.out.tookPre p _ (by rw [HFIN.out]; omega)) h0).mono ?_; rintro e w6 ⟨rfl, hb, ho⟩; have H5 := Lib.hid hb; have H6 := Lib.hid ho; clear hb ho)
                go_ret
                rw [HP.out]
                refine ⟨rfl, _, H5.out, HO6.out.trans H6.out (fun b _ hb => .inl hb), ?_⟩
                intro i b hi hb
                by_cases e : i = p
                · rw [e, upd_same] at hb
                  exact .inr (HFJ.out b hb)
                · rw [upd_other _ _ _ e] at hb; exact .inl hb
              · subst q1
                clear q3
                go_wp2_with fail
                have HAX : Hid (At w (((wr.setCell ⟨cb, 0, none⟩ (.slice va9 j vc9)).setCell ⟨cb, 3, none⟩ (.int .i64 j)).setCell ⟨cb, 2, none⟩ (.bool true)) m bs N cap vs s cb #[.slice va9 j vc9, .bool true, .bool true, .int .i64 j]) := Lib.hid (((HAJ.out.set 0 (.slice va9 j vc9)).set 3 (.int .i64 j)).set 2 (.bool true))
                have HRX : Hid (Row (((wr.setCell ⟨cb, 0, none⟩ (.slice va9 j vc9)).setCell ⟨cb, 3, none⟩ (.int .i64 j)).setCell ⟨cb, 2, none⟩ (.bool true)) (.slice va9 j vc9) (his.take j)) := Lib.hid (HRJ.out.move fun b hb => by
                  have hne : b ≠ cb := by rintro rfl; exact HRJ.out.apart HAJ.out.copy (by decide) hb
                  rw [Below.heap_setCell _ _ _ _ hne, Below.heap_setCell _ _ _ _ hne, Below.heap_setCell _ _ _ _ hne])
                clear e0 e2 e3 f00 f02 f03
                generalize ((wr.setCell ⟨cb, 0, none⟩ (.slice va9 j vc9)).setCell ⟨cb, 3, none⟩ (.int .i64 j)).setCell ⟨cb, 2, none⟩ (.bool true) = wX at HAX HRX ⊢
                have hbx := HAX.out.box
                have y0 : wX.cell? ⟨m, 0, none⟩ = some (.slice (some ⟨bs, 0, none⟩) N cap) := cell_of hbx.obj 0
                have y2 : wX.cell? ⟨m, 2, none⟩ = some (.int .i64 s.lead) := cell_of hbx.obj 2
                have z0 : wX.cell? ⟨cb, 0, none⟩ = some (.slice va9 j vc9) := cell_of HAX.out.copy 0
                have z1 : wX.cell? ⟨cb, 1, none⟩ = some (.bool true) := cell_of HAX.out.copy 1
                have z2 : wX.cell? ⟨cb, 2, none⟩ = some (.bool true) := cell_of HAX.out.copy 2
                have z3 : wX.cell? ⟨cb, 3, none⟩ = some (.int .i64 j) := cell_of HAX.out.copy 3
                have s0 : wX.cell? ⟨bs, p * 4, none⟩ = _ := hbx.log hn
                have s1 : wX.cell? ⟨bs, p * 4 + 1, none⟩ = _ := hbx.up hn
                have s2 : wX.cell? ⟨bs, p * 4 + 2, none⟩ = _ := hbx.in_ hn
                have s3 : wX.cell? ⟨bs, p * 4 + 3, none⟩ = _ := hbx.mat hn
                have xf : ∀ j, wX.frozen? ⟨bs, j, none⟩ = false := fun j => hbx.nodes.free j
                have xf0 := xf (p * 4)
                have xf1 := xf (p * 4 + 1)
                have xf2 := xf (p * 4 + 2)
                have xf3 := xf (p * 4 + 3)
                clear hbx xf
                go_region
                have hb5 := (HAX.out.box.setNode hn (.slice va9 j vc9) (his.take j) true true j HRX.out).drew
                have hb6 := hb5.ext (tookPre s p (his.take j)) rfl rfl rfl (fun _ _ => rfl) (fun i _ => by show s.ups i = upd s.ups p true i; rw [upd_self _ _ _ HU.out.symm]) (fun i _ => by show (if s.high ≤ (his.take j).length ∧ (his.take j).length = s.his.length then upd s.ins p true else s.ins) i = upd s.ins p true i; rw [took_ins (by rw [← HHIS.out, ← HHL.out]; exact hhigh), HFIN.out, ← HHIS.out, ← HHL.out, ← HU2.out, ← HU2N.out, q2]) (fun i _ => by show upd s.mat p (his.take j).length i = upd s.mat p j i; rw [HFIN.out])
                have HB6 := Lib.hid hb6
                have HO6 : Hid (Only (RFt m bs) w _) := Lib.hid (((((HAX.out.only.mono (fun _ _ q => q.elim)).setCell (p := ⟨bs, p * 4, none⟩) (.inr (.inr rfl)) (.slice va9 j vc9)).setCell (p := ⟨bs, p * 4 + 1, none⟩) (.inr (.inr rfl)) (.bool true)).setCell (p := ⟨bs, p * 4 + 2, none⟩) (.inr (.inr rfl)) (.bool true)).setCell (p := ⟨bs, p * 4 + 3, none⟩) (.inr (.inr rfl)) (.int .i64 j)).drew
                clear hb5 hb6 y0 y2 z0 z1 z2 z3 s0 s1 s2 s3 xf0 xf1 xf2 xf3
                go_wp2_with (go_at_call 35; refine (rrise_any HB6.out (HF.out.tookPre p _ (by rw [HFIN.out]; omega)) h0).mono ?_; rintro e w6 ⟨rfl, hb, ho⟩; have H5 := Lib.hid hb; have H6 := Lib.hid ho; clear hb ho)
                go_ret
                rw [HP.out]
                refine ⟨rfl, _, H5.out, HO6.out.trans H6.out (fun b _ hb => .inl hb), ?_⟩
                intro i b hi hb
                by_cases e : i = p
                · rw [e, upd_same] at hb
                  exact .inr (HFJ.out b hb)
                · rw [upd_other _ _ _ e] at hb; exact .inl hb
              · exact absurd HJE.out q3
end Go.Proofs.Ytcehlajkpnhdiaa.Ra
