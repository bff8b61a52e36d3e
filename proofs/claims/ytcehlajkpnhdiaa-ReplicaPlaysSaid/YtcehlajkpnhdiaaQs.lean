/- The contracts of varints.Same at equal rows, and of same. -/
import Derived.Test.YtcehlajkpnhdiaaQa
import Derived.Test.YtcehlajkpnhdiaaLt
import Derived.Deep.RegionHeld3
import Derived.BigRegion
import Derived.Test.YtcehlajkpnhdiaaRs
namespace Go.Proofs.Ytcehlajkpnhdiaa.Ra
open Go.Proofs.Ytcehlajkpnhdiaa
open Go.RowKit Go.Proofs.Ytcehlajkpnhdiaa.Rw Go.Proofs.Ytcehlajkpnhdiaa.Rp
open Go.Proofs.Ytcehlajkpnhdiaa.Lt (mem_inTo irow_cell irow_form)
set_option linter.unusedSimpArgs false
set_option linter.unusedVariables false
variable {w w1 : World} {m bn bi bm m2 bs N cap : Nat} {vs vs2 : Nat → Value} {s : St}
set_option maxHeartbeats 1600000 in
theorem isame_eq {B B' : Nat} (v u : Value) (l : List Int) (w : World) (hv : IRow w B v l) (hu : IRow w B' u l) (hl : l.length ≤ 256) : Calls Try.prog 36 #[v, u] w fun e w' => e = .returned (.bool true) ∧ ∃ n, w' = w.drewN n := by
  obtain ⟨ll, hll⟩ : ∃ ll, ll = l.length := ⟨_, rfl⟩
  by_cases hz : ll = 0
  · obtain ⟨a, c, rfl⟩ := hv.slice
    obtain ⟨a', c', rfl⟩ := hu.slice
    rw [← hll, hz]
    clear hv hu hll hl hz
    go_enter Try.func36, Try.ntmps36
    go_wp2_with fail
    go_loop [5] (fun i => i = .int .i64 0) (fun _ => 0)
    case atStart => rfl
    case round =>
      subst hrel
      go_wp2_with fail
      go_ret
      exact ⟨rfl, 0, rfl⟩
  · obtain ⟨g, c, rfl⟩ := irow_form hv (by omega)
    obtain ⟨g', c', rfl⟩ := irow_form hu (by omega)
    have hA : ∀ i, i < ll → w.cell? ⟨g, i, none⟩ = some (.int .i64 (l.getD i 0)) := fun i hi => irow_cell hv i (by omega)
    have hB : ∀ i, i < ll → w.cell? ⟨g', i, none⟩ = some (.int .i64 (l.getD i 0)) := fun i hi => irow_cell hu i (by omega)
    rw [← hll]
    have hne : ((ll : Int) != (ll : Int)) = false := by simp
    have HA := Lib.hid hA
    have HB := Lib.hid hB
    have hl9 : ll ≤ 256 := by omega
    clear hA hB hv hu hll hl
    go_enter Try.func36, Try.ntmps36
    go_wp2_with fail
    go_loopw [5] (fun i wr => ∃ (j : Nat), j ≤ ll ∧ i = .int .i64 j ∧ ∃ n, wr = w.drewN n) (fun i _ => ll - (intOf i).toNat)
    case atStart => exact ⟨0, by omega, rfl, 0, rfl⟩
    case round =>
      obtain ⟨j, hj, rfl, n, rfl⟩ := hrel
      by_cases hlt : j < ll
      · have a0 := HA.out j hlt
        have b0 := HB.out j hlt
        obtain ⟨y, hy⟩ : ∃ y, y = l.getD j 0 := ⟨_, rfl⟩
        rw [← hy] at a0 b0
        clear hy
        have i0 : (0 : Int) ≤ (j : Int) := by omega
        have i1 : (j : Int) < (ll : Int) := by omega
        have hq : (y != y) = false := by simp
        go_wp2_with fail
        go_quiet (fail)
        go_wp2_with fail
        go_roundw
        case rel => exact ⟨j + 1, by omega, by go_num, _, rfl⟩
        case measure => simp [intOf]; omega
      · obtain rfl : j = ll := by omega
        go_wp2_with fail
        go_ret
        exact ⟨rfl, n, rfl⟩
set_option maxHeartbeats 6400000 in
set_option maxRecDepth 100000 in
theorem psame_any (h : Box w m bn bi bm N vs s) (hr : RBox w m2 bs N cap vs2 s) (hf : Fit N s) : Calls Try.prog 23 #[.pointer (some ⟨m, 0, none⟩), .pointer (some ⟨m2, 0, none⟩)] w fun e w' => e = .returned (.bool true) ∧ Only (fun _ => False) w w' := by
  have hN := hf.n5
  have HF := Lib.hid hf
  have HL := Lib.hid (leader_any h)
  have HB0 := Lib.hid h
  have HR0 := Lib.hid hr
  clear h hr hf
  obtain ⟨i0, hi0, hz0, hz1, hz2⟩ := info_parts info3
  go_enter Try.func23, Try.ntmps23
  go_wp2_with (go_at_call 13; refine HL.out.mono ?_; rintro e w' ⟨rfl, n1, rfl⟩)
  go_loopw [7, 8] (fun v u wr => ∃ (k : Nat), k ≤ N ∧ u = .int .i64 ((k : Int) + 1) ∧ Hid (IRow wr w.heap.size v (inTo s k)) ∧ Hid (Only (fun _ => False) w wr)) (fun _ u _ => N + 1 - (intOf u).toNat)
  case atStart => exact ⟨0, by omega, by simp, Lib.hid ⟨rfl, .inl ⟨rfl, rfl⟩⟩, Lib.hid ((Only.refl _ w).drewN _)⟩
  case round =>
    obtain ⟨k, hk, rfl, HI, HO⟩ := hrel
    have HB := Lib.hid (HB0.out.only HO.out (fun _ _ q => q))
    have HR := Lib.hid (HR0.out.only HO.out (fun _ _ q => q))
    have y0 : wr.cell? ⟨m2, 0, none⟩ = some (.slice (some ⟨bs, 0, none⟩) N cap) := cell_of HR.out.obj 0
    by_cases hkl : k < N
    · have hkd : decide ((k : Int) + 1 ≤ (N : Int)) = true := by simp; omega
      obtain ⟨L, hL⟩ : ∃ L, L = s.logs k := ⟨_, rfl⟩
      obtain ⟨u1, hu1⟩ : ∃ u1, u1 = s.ups k := ⟨_, rfl⟩
      have h200 : L.length ≤ 200 := by rw [hL]; exact HF.out.logs k hkl
      obtain ⟨ra, rc, hrv⟩ := (HR.out.rows k hkl).slice
      rw [← hL] at hrv
      have hrowR : Row wr (.slice ra L.length rc) L := by have := HR.out.rows k hkl; rw [hrv, ← hL] at this; exact this
      have yL : wr.cell? ⟨bs, k * 4, none⟩ = some (.slice ra L.length rc) := by rw [HR.out.log hkl, hrv]
      have yU : wr.cell? ⟨bs, k * 4 + 1, none⟩ = some (.bool u1) := by rw [HR.out.up hkl, hu1]
      have hwk : IntKind.i64.wrap ((k : Int) + 1 - 1) = (k : Int) := by rw [IntKind.wrap_i64]; omega
      have hwk2 : IntKind.i64.wrap (k : Int) = (k : Int) := by rw [IntKind.wrap_i64]; omega
      have hk0 : (0 : Int) ≤ (k : Int) := by omega
      have hk1 : (k : Int) < (N : Int) := by omega
      have hk2 : (k : Int).toNat = k := by omega
      have cA : Calls Try.prog 14 #[.pointer (some ⟨m, 0, none⟩), .int .i64 ((k : Int) + 1)] wr.drew (fun e w' => ∃ u, e = .returned u ∧ Row w' u L ∧ Row w' (.slice ra L.length rc) L ∧ Only (fun _ => False) wr w' ∧ w'.cell? ⟨m2, 0, none⟩ = some (.slice (some ⟨bs, 0, none⟩) N cap) ∧ w'.cell? ⟨bs, k * 4, none⟩ = some (.slice ra L.length rc) ∧ w'.cell? ⟨bs, k * 4 + 1, none⟩ = some (.bool u1)) := by
        have hd : Box wr.drew m bn bi bm N vs s := HB.out.drew
        refine (log_any hd hN k hkl (by rw [← hL]; exact h200)).mono ?_
        rintro e w' ⟨u, h1, h2⟩
        rw [← hL] at h2
        have ho : Only (fun _ => False) wr w' := ((Only.refl _ wr).drew).trans h2.2.1 (fun _ _ q => q)
        exact ⟨u, h1, h2.1, hrowR.only ho (fun _ _ q => q), ho, Mo.cell_on ho y0, Mo.cell_on ho yL, Mo.cell_on ho yU⟩
      have cB : ∀ u wC, Row wC u L → Row wC (.slice ra L.length rc) L → Calls Try.prog 15 #[u, .slice ra L.length rc] wC (fun e w' => e = .returned (.bool true) ∧ ∃ n, w' = wC.drewN n) := by
        intro u wC h1 h2
        refine (same_any u _ L L wC h1 h2 (by omega) (by omega)).mono ?_
        rintro e w' ⟨h3, h5⟩
        exact ⟨by rw [h3, decide_eq_true rfl], h5⟩
      have cU : ∀ wC, Only (fun _ => False) wr wC → Calls Try.prog 12 #[.pointer (some ⟨m, 0, none⟩), .int .i64 ((k : Int) + 1)] wC (fun e w' => e = .returned (.bool u1) ∧ w' = wC) := by
        intro wC ho
        rw [hu1]
        exact up_any (HB.out.only ho (fun _ _ q => q)) hN k hkl
      have CA := Lib.hid cA
      have CB := Lib.hid cB
      have CU := Lib.hid cU
      have hnn : (u1 != u1) = false := by simp
      clear cA cB cU hu1 hrv hrowR
      generalize hgl : L.length = nl at h200 yL CA CB ⊢
      have HGL := Lib.hid hgl
      clear hgl hL
      go_wp2_with fail
      go_region_held3 (fun w' => w'.cell? ⟨m2, 0, none⟩ = some (.slice (some ⟨bs, 0, none⟩) N cap) ∧ w'.cell? ⟨bs, k * 4, none⟩ = some (.slice ra nl rc) ∧ w'.cell? ⟨bs, k * 4 + 1, none⟩ = some (.bool u1))
        (go_keep)
        (first
          | (go_at_call 14; refine CA.out.mono ?_; rintro e wC ⟨u, rfl, r1, r2, b3, kc0, kc1, kc2⟩; have R1 := Lib.hid r1; have R2 := Lib.hid r2; have B3 := Lib.hid b3; clear r1 r2 b3)
          | (go_at_call 15; refine (CB.out _ _ R1.out R2.out).mono ?_; rintro e w' ⟨rfl, nD, rfl⟩)
          | (go_at_call 12; refine (CU.out _ (B3.out.drewN _)).mono ?_; rintro e w' ⟨rfl, hw⟩; subst hw))
      have HO9 := Lib.hid (HO.out.trans (B3.out.drewN nD) (fun _ _ q => q))
      have z0 : (wC.drewN nD).cell? ⟨m2, 0, none⟩ = some (.slice (some ⟨bs, 0, none⟩) N cap) := kc0
      have zI : (wC.drewN nD).cell? ⟨bs, k * 4 + 2, none⟩ = some (.bool (s.ins k)) := (HR.out.only (B3.out.drewN nD) (fun _ _ q => q)).in_ hkl
      have HI9 := Lib.hid (HI.out.only (B3.out.drewN nD))
      clear y0 yL yU kc0 kc1 kc2 R1 R2 B3 CA CB CU HB HR HO HI
      generalize wC.drewN nD = W9 at HO9 z0 zI HI9 ⊢
      have hlen5 : (inTo s k).length ≤ 5 := by have := inTo_le s k; omega
      cases hq : s.ins k with
      | false =>
        rw [hq] at zI
        have HQ : Hid (inTo s (k + 1) = inTo s k) := Lib.hid (by rw [inTo, if_neg (by rw [hq]; decide)])
        clear hq
        go_wp2_with fail
        go_roundw
        case rel => exact ⟨k + 1, by omega, by go_num, Lib.hid (by rw [HQ.out]; exact HI9.out), HO9⟩
        case measure => simp [intOf]; omega
      | true =>
        rw [hq] at zI
        have HQ : Hid (inTo s (k + 1) = inTo s k ++ [(k : Int) + 1]) := Lib.hid (by rw [inTo, if_pos hq])
        clear hq
        have HSZ := Lib.hid HO9.out.size
        obtain ⟨lk, hlk⟩ : ∃ lk, lk = (inTo s k).length := ⟨_, rfl⟩
        have HOW : Hid (W9.ownsRow w.heap.size 3 1 u7 lk (ics (inTo s k))) := Lib.hid (by have := HI9.out; unfold IRow at this; rwa [← hlk] at this)
        rw [← hlk] at hlen5
        have HLK := Lib.hid hlk
        clear hlk
        go_wp2_with (at_builtin; refine wpList_append_lies _ rfl (.tmp 61) (.tmp 63) 39 rfl w.heap.size 3 i0 _ 1 8 Try.underlying39 hi0 hz0 hz1 hz2 rfl (by decide) u7 lk (ics (inTo s k)) rfl (HOW.out.alloc _) ⟨W9.heap.size, 0, none⟩ 1 1 [.int .i64 ((k : Int) + 1)] rfl rfl (World.news_of_block (cs := #[.int .i64 ((k : Int) + 1)]) (t := 3) (fr := (0, 0)) (block_new W9 _)) (by simp [Value.oneCell']) (by omega) (by unfold maxLen; omega) (by omega) (by have := HSZ.out; simp; omega) (W9.heap.size + 1) (by simp) ?_; intro g cap9 w1 hown1 hgrow hat hlt1)
        go_roundw
        case rel =>
          refine ⟨k + 1, by omega, by go_num, Lib.hid ?_, Lib.hid ?_⟩
          · unfold IRow
            rw [HQ.out, List.length_append, ← HLK.out, show ics (inTo s k ++ [(k : Int) + 1]) = ics (inTo s k) ++ [.int .i64 ((k : Int) + 1)] by simp [ics]]
            exact hown1
          · refine (HO9.out.alloc _).grown hgrow (fun b hb => .inl ?_)
            rcases HOW.out.2 with ⟨q, _⟩ | ⟨g', cap', cur, q, q2, _⟩
            · rw [q] at hb; cases hb
            · rw [q] at hb; cases hb; exact q2
        case measure => simp [intOf]; omega
    · obtain rfl : k = N := by omega
      have y1 : wr.cell? ⟨m2, 1, none⟩ = some (.int .i64 s.epoch) := cell_of HR.out.obj 1
      have y2 : wr.cell? ⟨m2, 2, none⟩ = some (.int .i64 s.lead) := cell_of HR.out.obj 2
      have y3 : wr.cell? ⟨m2, 3, none⟩ = some (.int .i64 s.high) := cell_of HR.out.obj 3
      have cH : Calls Try.prog 17 #[.pointer (some ⟨m, 0, none⟩)] wr.drew (fun e w' => e = .returned (.int .i64 s.high) ∧ w' = wr.drew) := high_any HB.out.drew
      have cI : Calls Try.prog 18 #[.pointer (some ⟨m, 0, none⟩)] wr.drew (fun e w' => ∃ u, e = .returned u ∧ (∃ B, IRow w' B u (inTo s k)) ∧ Only (fun _ => False) wr w' ∧ w'.cell? ⟨m2, 1, none⟩ = some (.int .i64 s.epoch) ∧ w'.cell? ⟨m2, 2, none⟩ = some (.int .i64 s.lead) ∧ w'.cell? ⟨m2, 3, none⟩ = some (.int .i64 s.high)) := by
        refine (in_any HB.out.drew hN).mono ?_
        rintro e w' ⟨u, h1, h2, h3⟩
        have ho : Only (fun _ => False) wr w' := ((Only.refl _ wr).drew).trans h3 (fun _ _ q => q)
        exact ⟨u, h1, ⟨_, h2⟩, ho, Mo.cell_on ho y1, Mo.cell_on ho y2, Mo.cell_on ho y3⟩
      have cS : ∀ u wC, (∃ B, IRow wC B u (inTo s k)) → Only (fun _ => False) wr wC → Calls Try.prog 36 #[u, u7] wC (fun e w' => e = .returned (.bool true) ∧ ∃ n, w' = wC.drewN n) := by
        rintro u wC ⟨B, h1⟩ ho
        exact isame_eq u u7 (inTo s k) wC h1 (HI.out.only ho) (by have := inTo_le s k; omega)
      have CH := Lib.hid cH
      have CI := Lib.hid cI
      have CS := Lib.hid cS
      clear cH cI cS
      have hs1 : ((s.lead : Int) == (s.lead : Int)) = true := by simp
      have hs2 : (s.epoch == s.epoch) = true := by simp
      have hs3 : ((s.high : Int) == (s.high : Int)) = true := by simp
      go_wp2_with fail
      go_region_held3 (fun w' => w'.cell? ⟨m2, 1, none⟩ = some (.int .i64 s.epoch) ∧ w'.cell? ⟨m2, 2, none⟩ = some (.int .i64 s.lead) ∧ w'.cell? ⟨m2, 3, none⟩ = some (.int .i64 s.high))
        (go_keep)
        (first
          | (go_at_call 17; refine CH.out.mono ?_; rintro e w' ⟨rfl, hw⟩; subst hw)
          | (go_at_call 18; refine CI.out.mono ?_; rintro e wC ⟨u, rfl, r1, b3, kc0, kc1, kc2⟩; have R1 := Lib.hid r1; have B3 := Lib.hid b3; clear r1 b3)
          | (go_at_call 36; refine (CS.out _ _ R1.out B3.out).mono ?_; rintro e w' ⟨rfl, nD, rfl⟩))
      go_wp2_with fail
      go_ret
      exact ⟨rfl, HO.out.trans (B3.out.drewN nD) (fun _ _ q => q)⟩
end Go.Proofs.Ytcehlajkpnhdiaa.Ra
