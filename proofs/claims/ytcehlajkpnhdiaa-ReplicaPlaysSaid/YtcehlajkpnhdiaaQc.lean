/- The contract of the reference's append. -/
import Derived.Test.YtcehlajkpnhdiaaQb
namespace Go.Proofs.Ytcehlajkpnhdiaa.Ra
open Go.RowKit Go.Proofs.Ytcehlajkpnhdiaa.Rw Go.Proofs.Ytcehlajkpnhdiaa.Rp
set_option linter.unusedSimpArgs false
set_option linter.unusedVariables false
variable {w w1 : World} {m bs N cap : Nat} {vs : Nat → Value} {s : St}
theorem upd_self {α : Type} (f : Nat → α) (i : Nat) (v : α) (h : v = f i) : upd f i v = f := by
  funext j
  unfold upd
  split
  · rename_i e; rw [h, e]
  · rfl
/-- A call of the reference under way: nothing that was there has turned; a copy of a node lies at cb. -/
structure At (w0 w : World) (m bs N cap : Nat) (vs : Nat → Value) (s : St) (cb : Nat) (C : Array Value) : Prop where
  b0 : RBox w0 m bs N cap vs s
  only : Only (fun _ => False) w0 w
  copy : w.heap[cb]? = some (.cells C 66 (0, 0))
  lo : w0.heap.size ≤ cb
variable {w0 : World} {cb : Nat} {C : Array Value}
theorem At.box (h : At w0 w m bs N cap vs s cb C) : RBox w m bs N cap vs s := h.b0.only h.only (fun _ _ q => q)
theorem At.next (h : At w0 w m bs N cap vs s cb C) (ho : Only (fun _ => False) w w1) : At w0 w1 m bs N cap vs s cb C :=
  ⟨h.b0, h.only.trans ho (fun _ _ q => q), by rw [ho.block cb (lt_of_block h.copy) (fun q => q)]; exact h.copy, h.lo⟩
theorem At.set (h : At w0 w m bs N cap vs s cb C) (i : Nat) (v : Value) : At w0 (w.setCell ⟨cb, i, none⟩ v) m bs N cap vs s cb (C.setIfInBounds i v) :=
  ⟨h.b0, h.only.setCell (p := ⟨cb, i, none⟩) (.inl h.lo) v, block_set h.copy v, h.lo⟩
theorem At.grown (h : At w0 w m bs N cap vs s cb C) {v : Value} {l news : List Cp} {g c : Nat} (hr : Row w v l) (hv : ∀ k, v.ownBlock = some k → w0.heap.size ≤ k) (ha : Appended w v l news g c w1) : At w0 w1 m bs N cap vs s cb C :=
  ⟨h.b0, h.only.grown ha.2.1 (fun k hk => .inl (hv k hk)), block_grown h.copy ha.2.1 (hr.apart h.copy (by decide)), h.lo⟩
theorem At.fresh (h : At w0 w m bs N cap vs s cb C) {v : Value} {l news : List Cp} {g c : Nat} (hv : ∀ k, v.ownBlock = some k → w0.heap.size ≤ k) (ha : Appended w v l news g c w1) : w0.heap.size ≤ g := by
  rcases ha.2.2.1 with q | q
  · exact hv g q
  · exact Nat.le_trans h.only.size q
set_option maxHeartbeats 6400000 in
set_option maxRecDepth 100000 in
theorem rput_any (h : RBox w m bs N cap vs s) (hf : Fit N s) (v : Int) : Calls Try.prog 32 #[.pointer (some ⟨m, 0, none⟩), .int .i64 v] w (RDid m bs N cap vs (put N s v) w) := by
  have hl := hf.lead
  have hN := hf.n5
  have o2 : w.cell? ⟨m, 2, none⟩ = some (.int .i64 s.lead) := cell_of h.obj 2
  by_cases h0 : s.lead = 0
  · have HH := Lib.hid h
    clear h hf
    rw [h0] at o2
    go_enter Try.func32, Try.ntmps32
    go_wp2_with fail
    go_ret
    have e : put N s v = (14, s) := by simp [put, h0]
    rw [e]
    exact ⟨rfl, vs, HH.out, Only.refl _ _, Nextv.refl _ _ _⟩
  · have hlg : s.lead - 1 < N := by omega
    have o0 : w.cell? ⟨m, 0, none⟩ = some (.slice (some ⟨bs, 0, none⟩) N cap) := cell_of h.obj 0
    have c0 := h.log hlg
    have c1 := h.up hlg
    have c2 := h.in_ hlg
    have c3 := h.mat hlg
    have hle : (s.logs (s.lead - 1)).length ≤ 200 := hf.logs _ hlg
    obtain ⟨la, lc, hv⟩ := (h.rows (s.lead - 1) hlg).slice
    obtain ⟨ll, hll⟩ : ∃ ll, ll = (s.logs (s.lead - 1)).length := ⟨_, rfl⟩
    rw [← hll] at hv hle
    rw [hv] at c0
    have hne : ((s.lead : Int) == 0) = false := by simp; omega
    have hwr : IntKind.i64.wrap ((s.lead : Int) - 1) = (s.lead : Int) - 1 := by rw [IntKind.wrap_i64]; omega
    have hp0 : (0 : Int) ≤ (s.lead : Int) - 1 := by omega
    have hp1 : (s.lead : Int) - 1 < (N : Int) := by omega
    have hp2 : ((s.lead : Int) - 1).toNat = s.lead - 1 := by omega
    have hmw : m < w.heap.size := lt_of_block h.obj
    have hbw : bs < w.heap.size := h.nodes.lt
    have HH := Lib.hid h
    have HF := Lib.hid hf
    have HV := Lib.hid hv
    have HLL := Lib.hid hll
    clear h hf hv hll
    obtain ⟨u1, hu1⟩ : ∃ u1, u1 = s.ups (s.lead - 1) := ⟨_, rfl⟩
    obtain ⟨u2, hu2⟩ : ∃ u2, u2 = s.ins (s.lead - 1) := ⟨_, rfl⟩
    obtain ⟨u3, hu3⟩ : ∃ u3, u3 = s.mat (s.lead - 1) := ⟨_, rfl⟩
    rw [← hu1] at c1
    rw [← hu2] at c2
    rw [← hu3] at c3
    have HU1 := Lib.hid hu1
    have HU2 := Lib.hid hu2
    clear hu1 hu2 hu3
    go_enter Try.func32, Try.ntmps32
    go_wp2_with fail
    go_region
    have hA : At w (w.alloc (Obj.cells #[.slice la ll lc, .bool u1, .bool u2, .int .i64 u3] 66)).drew m bs N cap vs s w.heap.size #[.slice la ll lc, .bool u1, .bool u2, .int .i64 u3] :=
      ⟨HH.out, ((Only.refl _ w).alloc _).drew, block_new w _, Nat.le_refl _⟩
    have k0 : (w.alloc (Obj.cells #[.slice la ll lc, .bool u1, .bool u2, .int .i64 u3] 66)).drew.cell? ⟨w.heap.size, 0, none⟩ = some (.slice la ll lc) := cell_of hA.copy 0
    have HA := Lib.hid hA
    clear hA o0 o2 c0 c1 c2 c3
    generalize hcb : w.heap.size = cb at HA k0 ⊢
    generalize (w.alloc (Obj.cells #[.slice la ll lc, .bool u1, .bool u2, .int .i64 u3] 66)).drew = w1 at HA k0 ⊢
    have HCB := Lib.hid hcb
    clear hcb hmw hbw
    by_cases hfull : 200 ≤ ll
    · have hd : decide ((200 : Int) ≤ (ll : Int)) = true := by simp; omega
      go_wp2_with fail
      go_ret
      have e : put N s v = (5, s) := by simp [put, h0, St.his, ← HLL.out, hfull]
      rw [e]
      exact ⟨rfl, vs, HA.out.box, HA.out.only.mono (fun _ _ q => q.elim), Nextv.refl _ _ _⟩
    · have hd : decide ((200 : Int) ≤ (ll : Int)) = false := by simp; omega
      obtain ⟨i0, hi0, hz0, hz1, hz2⟩ := info_parts info45
      have hrow : Row w1 (.slice la ll lc) (s.logs (s.lead - 1)) := by have := HA.out.box.rows _ hlg; rwa [HV.out] at this
      have HROW := Lib.hid hrow
      clear hrow
      have hlen : (s.logs (s.lead - 1)).length = ll := HLL.out.symm
      by_cases hz : ll = 0
      · have hnil : s.logs (s.lead - 1) = [] := List.length_eq_zero_iff.1 (HLL.out.symm.trans hz)
        have HNIL := Lib.hid hnil
        have HZ := Lib.hid hz
        have HA2 := HA
        clear hnil hz
        go_wp2_with (first
          | (at_builtin; refine wpList_append_nothing rfl (.tmp 27) (.tmp 29) 33 rfl i0 Try.underlying33 hi0 (.slice none 0 0) [] (by rfl) (Row.nil _) la lc (by exact congrArg (fun z => Value.slice la z lc) HZ.out) ?_; have hrv : Row w1 (.slice none 0 0) (s.logs (s.lead - 1)) := by { rw [HNIL.out]; exact Row.nil _ }; have hfr : ∀ k, Value.ownBlock (.slice none 0 0) = some k → w.heap.size ≤ k := (fun k hk => by cases hk); generalize Value.slice none 0 0 = va at hrv hfr ⊢; have HRV := Lib.hid hrv; have HFR := Lib.hid hfr; have q1 : w1.cell? ⟨m, 1, none⟩ = some (.int .i64 s.epoch) := cell_of HA2.out.box.obj 1; have hmw : m < w1.heap.size := lt_of_block HA2.out.box.obj; clear hrv hfr)
          | (at_builtin; refine wpList_append_row rfl (.tmp 31) (.tmp 38) 33 rfl i0 _ Try.underlying33 hi0 hz0 hz1 hz2 rfl va (s.logs (s.lead - 1)) [(s.epoch, v)] (by rfl) (HRV.out.move (w1 := w1.alloc (Obj.cells #[.int .i64 s.epoch, .int .i64 v] 45)) fun b hb => Below.heap_alloc _ _ _ (HRV.out.lt hb)) ⟨w1.heap.size, 0, none⟩ 1 1 (by rfl) (by rfl) (by omega) (World.news_of_block (cs := #[.int .i64 s.epoch, .int .i64 v]) (t := 45) (fr := (0, 0)) (block_new w1 _)) (by omega) ?_; intro g3 cap3 w3 happ; have hA3 := (HA2.out.next ((Only.refl _ w1).alloc (Obj.cells #[.int .i64 s.epoch, .int .i64 v] 45))).grown (HRV.out.move fun b hb => Below.heap_alloc _ _ _ (HRV.out.lt hb)) HFR.out happ; have e0 : w3.cell? ⟨cb, 0, none⟩ = some (.slice la ll lc) := cell_of hA3.copy 0; have e3 : w3.cell? ⟨cb, 3, none⟩ = some (.int .i64 u3) := cell_of hA3.copy 3; have f0 : w3.frozen? ⟨cb, 0, none⟩ = false := free_of hA3.copy 0; have f3 : w3.frozen? ⟨cb, 3, none⟩ = false := free_of hA3.copy 3))
        have hfr3 := (HA2.out.next ((Only.refl _ w1).alloc (Obj.cells #[.int .i64 s.epoch, .int .i64 v] 45))).fresh HFR.out happ
        have hA4 := (hA3.set 0 (.slice (some ⟨g3, 0, none⟩) (ll + 1) cap3)).set 3 (.int .i64 ((ll : Int) + 1))
        have hrow3 := happ.1
        rw [hlen] at hrow3
        have hrow4 : Row ((w3.setCell ⟨cb, 0, none⟩ (.slice (some ⟨g3, 0, none⟩) (ll + 1) cap3)).setCell ⟨cb, 3, none⟩ (.int .i64 ((ll : Int) + 1))) (.slice (some ⟨g3, 0, none⟩) (ll + 1) cap3) (s.logs (s.lead - 1) ++ [(s.epoch, v)]) := by
          refine hrow3.move fun b hb => ?_
          have hne : b ≠ cb := by rintro rfl; exact hrow3.apart hA3.copy (by decide) hb
          rw [Below.heap_setCell _ _ _ _ hne, Below.heap_setCell _ _ _ _ hne]
        have HA4 : Hid (At w ((w3.setCell ⟨cb, 0, none⟩ (.slice (some ⟨g3, 0, none⟩) (ll + 1) cap3)).setCell ⟨cb, 3, none⟩ (.int .i64 ((ll : Int) + 1))) m bs N cap vs s cb #[.slice (some ⟨g3, 0, none⟩) (ll + 1) cap3, .bool u1, .bool u2, .int .i64 ((ll : Int) + 1)]) := Lib.hid hA4
        have HR4 := Lib.hid hrow4
        have HG3 := Lib.hid hfr3
        clear q1 hmw hA3 hA4 hrow3 hrow4 hfr3 happ e0 e3 f0 f3 HA2 HRV HFR
        generalize (w3.setCell ⟨cb, 0, none⟩ (.slice (some ⟨g3, 0, none⟩) (ll + 1) cap3)).setCell ⟨cb, 3, none⟩ (.int .i64 ((ll : Int) + 1)) = w4 at HA4 HR4 ⊢
        have hb4 := HA4.out.box
        have y0 : w4.cell? ⟨m, 0, none⟩ = some (.slice (some ⟨bs, 0, none⟩) N cap) := cell_of hb4.obj 0
        have y2 : w4.cell? ⟨m, 2, none⟩ = some (.int .i64 s.lead) := cell_of hb4.obj 2
        have z0 : w4.cell? ⟨cb, 0, none⟩ = some (.slice (some ⟨g3, 0, none⟩) (ll + 1) cap3) := cell_of HA4.out.copy 0
        have z1 : w4.cell? ⟨cb, 1, none⟩ = some (.bool u1) := cell_of HA4.out.copy 1
        have z2 : w4.cell? ⟨cb, 2, none⟩ = some (.bool u2) := cell_of HA4.out.copy 2
        have z3 : w4.cell? ⟨cb, 3, none⟩ = some (.int .i64 ((ll : Int) + 1)) := cell_of HA4.out.copy 3
        have x0 : w4.cell? ⟨bs, (s.lead - 1) * 4, none⟩ = _ := hb4.log hlg
        have x1 : w4.cell? ⟨bs, (s.lead - 1) * 4 + 1, none⟩ = _ := hb4.up hlg
        have x2 : w4.cell? ⟨bs, (s.lead - 1) * 4 + 2, none⟩ = _ := hb4.in_ hlg
        have x3 : w4.cell? ⟨bs, (s.lead - 1) * 4 + 3, none⟩ = _ := hb4.mat hlg
        have xf : ∀ j, w4.frozen? ⟨bs, j, none⟩ = false := fun j => hb4.nodes.free j
        have xf0 := xf ((s.lead - 1) * 4)
        have xf1 := xf ((s.lead - 1) * 4 + 1)
        have xf2 := xf ((s.lead - 1) * 4 + 2)
        have xf3 := xf ((s.lead - 1) * 4 + 3)
        have hnb : cb ≠ bs := by have := HA4.out.lo; have := HA4.out.b0.nodes.lt; omega
        clear hb4 xf
        go_region
        have hlenr : (s.logs (s.lead - 1) ++ [(s.epoch, v)]).length = ll + 1 := by rw [List.length_append, hlen]; rfl
        have hb5 := (HA4.out.box.setNode hlg (.slice (some ⟨g3, 0, none⟩) (ll + 1) cap3) (s.logs (s.lead - 1) ++ [(s.epoch, v)]) u1 u2 (ll + 1) HR4.out).drew
        have hb6 := hb5.ext (rowed s (s.epoch, v)) rfl rfl rfl (fun _ _ => rfl) (fun i _ => by show s.ups i = upd s.ups (s.lead - 1) u1 i; rw [upd_self _ _ _ HU1.out]) (fun i _ => by show s.ins i = upd s.ins (s.lead - 1) u2 i; rw [upd_self _ _ _ HU2.out]) (fun i _ => by show upd s.mat (s.lead - 1) ((s.logs (s.lead - 1)).length + 1) i = upd s.mat (s.lead - 1) (ll + 1) i; rw [hlen])
        have HB6 := Lib.hid hb6
        have HO6 : Hid (Only (RFt m bs) w _) := Lib.hid (((((HA4.out.only.mono (fun _ _ q => q.elim)).setCell (p := ⟨bs, (s.lead - 1) * 4, none⟩) (.inr (.inr rfl)) (.slice (some ⟨g3, 0, none⟩) (ll + 1) cap3)).setCell (p := ⟨bs, (s.lead - 1) * 4 + 1, none⟩) (.inr (.inr rfl)) (.bool u1)).setCell (p := ⟨bs, (s.lead - 1) * 4 + 2, none⟩) (.inr (.inr rfl)) (.bool u2)).setCell (p := ⟨bs, (s.lead - 1) * 4 + 3, none⟩) (.inr (.inr rfl)) (.int .i64 ((ll + 1 : Nat) : Int))).drew
        clear hb5 hb6 y0 y2 z0 z1 z2 z3 x0 x1 x2 x3 xf0 xf1 xf2 xf3
        go_wp2_with (go_at_call 35; refine (rrise_any HB6.out (HF.out.rowed (s.epoch, v) (by rw [hlen]; omega)) h0).mono ?_; rintro e w6 ⟨rfl, hb, ho⟩; have H5 := Lib.hid hb; have H6 := Lib.hid ho; clear hb ho)
        go_ret
        have hP : put N s v = (0, rise N (rowed s (s.epoch, v))) := by
          unfold put
          rw [if_neg h0, if_neg (by show ¬ 200 ≤ (s.logs (s.lead - 1)).length; rw [hlen]; exact hfull)]
          rfl
        rw [hP]
        refine ⟨rfl, _, H5.out, HO6.out.trans H6.out (fun b _ hb => .inl hb), ?_⟩
        intro i b hi hb
        by_cases e : i = s.lead - 1
        · rw [e, upd_same] at hb
          cases hb
          exact .inr HG3.out
        · rw [upd_other _ _ _ e] at hb; exact .inl hb
      · obtain ⟨g, c', hf, hcc⟩ : ∃ g c', la = some ⟨g, 0, none⟩ ∧ c' = lc := by
          rcases HROW.out with ⟨q, q'⟩ | ⟨g, cap, cur, q, _⟩
          · cases q; exact absurd rfl hz
          · cases q; exact ⟨g, _, rfl, rfl⟩
        subst hf hcc
        have hnews : ∀ j u, (ccs (s.logs (s.lead - 1)))[j]? = some u → w1.cell? ((⟨g, 0, none⟩ : Addr).add j) = some u := by
          intro j u hu
          rw [Addr.add_lit, Nat.zero_add]
          exact HROW.out.cells j u hu
        have HN := Lib.hid hnews
        clear hnews
        go_wp2_with (first
          | (at_builtin; refine wpList_append_row rfl (.tmp 27) (.tmp 29) 33 rfl i0 _ Try.underlying33 hi0 hz0 hz1 hz2 rfl (.slice none 0 0) [] (s.logs (s.lead - 1)) (by rfl) (Row.nil _) ⟨g, 0, none⟩ ll c' (by rfl) hlen (by omega) HN.out (by simp; omega) ?_; intro g2 cap2 w2 happ0; have hA2 := HA.out.grown (Row.nil w1) (fun k hk => by cases hk) happ0; have hfr0 := HA.out.fresh (fun k hk => by cases hk) happ0; have hrv := happ0.1; rw [List.nil_append, hlen] at hrv; simp only [List.length_nil, Nat.zero_add] at hrv; have HA2 := Lib.hid hA2; have HRV := Lib.hid hrv; have HFR : Hid (∀ k, Value.ownBlock (.slice (some ⟨g2, 0, none⟩) ll cap2) = some k → w.heap.size ≤ k) := Lib.hid (fun k hk => by cases hk; exact hfr0); have q1 : w2.cell? ⟨m, 1, none⟩ = some (.int .i64 s.epoch) := cell_of HA2.out.box.obj 1; have hmw : m < w2.heap.size := lt_of_block HA2.out.box.obj; clear hA2 hfr0 hrv happ0)
          | (at_builtin; refine wpList_append_row rfl (.tmp 31) (.tmp 38) 33 rfl i0 _ Try.underlying33 hi0 hz0 hz1 hz2 rfl (.slice (some ⟨g2, 0, none⟩) ll cap2) (s.logs (s.lead - 1)) [(s.epoch, v)] (by rfl) (HRV.out.move (w1 := w2.alloc (Obj.cells #[.int .i64 s.epoch, .int .i64 v] 45)) fun b hb => Below.heap_alloc _ _ _ (HRV.out.lt hb)) ⟨w2.heap.size, 0, none⟩ 1 1 (by rfl) (by rfl) (by omega) (World.news_of_block (cs := #[.int .i64 s.epoch, .int .i64 v]) (t := 45) (fr := (0, 0)) (block_new w2 _)) (by omega) ?_; intro g3 cap3 w3 happ; have hA3 := (HA2.out.next ((Only.refl _ w2).alloc (Obj.cells #[.int .i64 s.epoch, .int .i64 v] 45))).grown (HRV.out.move fun b hb => Below.heap_alloc _ _ _ (HRV.out.lt hb)) HFR.out happ; have e0 : w3.cell? ⟨cb, 0, none⟩ = some (.slice (some ⟨g, 0, none⟩) ll c') := cell_of hA3.copy 0; have e3 : w3.cell? ⟨cb, 3, none⟩ = some (.int .i64 u3) := cell_of hA3.copy 3; have f0 : w3.frozen? ⟨cb, 0, none⟩ = false := free_of hA3.copy 0; have f3 : w3.frozen? ⟨cb, 3, none⟩ = false := free_of hA3.copy 3))
        have hfr3 := (HA2.out.next ((Only.refl _ w2).alloc (Obj.cells #[.int .i64 s.epoch, .int .i64 v] 45))).fresh HFR.out happ
        have hA4 := (hA3.set 0 (.slice (some ⟨g3, 0, none⟩) (ll + 1) cap3)).set 3 (.int .i64 ((ll : Int) + 1))
        have hrow3 := happ.1
        rw [hlen] at hrow3
        have hrow4 : Row ((w3.setCell ⟨cb, 0, none⟩ (.slice (some ⟨g3, 0, none⟩) (ll + 1) cap3)).setCell ⟨cb, 3, none⟩ (.int .i64 ((ll : Int) + 1))) (.slice (some ⟨g3, 0, none⟩) (ll + 1) cap3) (s.logs (s.lead - 1) ++ [(s.epoch, v)]) := by
          refine hrow3.move fun b hb => ?_
          have hne : b ≠ cb := by rintro rfl; exact hrow3.apart hA3.copy (by decide) hb
          rw [Below.heap_setCell _ _ _ _ hne, Below.heap_setCell _ _ _ _ hne]
        have HA4 : Hid (At w ((w3.setCell ⟨cb, 0, none⟩ (.slice (some ⟨g3, 0, none⟩) (ll + 1) cap3)).setCell ⟨cb, 3, none⟩ (.int .i64 ((ll : Int) + 1))) m bs N cap vs s cb #[.slice (some ⟨g3, 0, none⟩) (ll + 1) cap3, .bool u1, .bool u2, .int .i64 ((ll : Int) + 1)]) := Lib.hid hA4
        have HR4 := Lib.hid hrow4
        have HG3 := Lib.hid hfr3
        clear q1 hmw hA3 hA4 hrow3 hrow4 hfr3 happ e0 e3 f0 f3 HA2 HRV HFR
        generalize (w3.setCell ⟨cb, 0, none⟩ (.slice (some ⟨g3, 0, none⟩) (ll + 1) cap3)).setCell ⟨cb, 3, none⟩ (.int .i64 ((ll : Int) + 1)) = w4 at HA4 HR4 ⊢
        have hb4 := HA4.out.box
        have y0 : w4.cell? ⟨m, 0, none⟩ = some (.slice (some ⟨bs, 0, none⟩) N cap) := cell_of hb4.obj 0
        have y2 : w4.cell? ⟨m, 2, none⟩ = some (.int .i64 s.lead) := cell_of hb4.obj 2
        have z0 : w4.cell? ⟨cb, 0, none⟩ = some (.slice (some ⟨g3, 0, none⟩) (ll + 1) cap3) := cell_of HA4.out.copy 0
        have z1 : w4.cell? ⟨cb, 1, none⟩ = some (.bool u1) := cell_of HA4.out.copy 1
        have z2 : w4.cell? ⟨cb, 2, none⟩ = some (.bool u2) := cell_of HA4.out.copy 2
        have z3 : w4.cell? ⟨cb, 3, none⟩ = some (.int .i64 ((ll : Int) + 1)) := cell_of HA4.out.copy 3
        have x0 : w4.cell? ⟨bs, (s.lead - 1) * 4, none⟩ = _ := hb4.log hlg
        have x1 : w4.cell? ⟨bs, (s.lead - 1) * 4 + 1, none⟩ = _ := hb4.up hlg
        have x2 : w4.cell? ⟨bs, (s.lead - 1) * 4 + 2, none⟩ = _ := hb4.in_ hlg
        have x3 : w4.cell? ⟨bs, (s.lead - 1) * 4 + 3, none⟩ = _ := hb4.mat hlg
        have xf : ∀ j, w4.frozen? ⟨bs, j, none⟩ = false := fun j => hb4.nodes.free j
        have xf0 := xf ((s.lead - 1) * 4)
        have xf1 := xf ((s.lead - 1) * 4 + 1)
        have xf2 := xf ((s.lead - 1) * 4 + 2)
        have xf3 := xf ((s.lead - 1) * 4 + 3)
        have hnb : cb ≠ bs := by have := HA4.out.lo; have := HA4.out.b0.nodes.lt; omega
        clear hb4 xf
        go_region
        have hlenr : (s.logs (s.lead - 1) ++ [(s.epoch, v)]).length = ll + 1 := by rw [List.length_append, hlen]; rfl
        have hb5 := (HA4.out.box.setNode hlg (.slice (some ⟨g3, 0, none⟩) (ll + 1) cap3) (s.logs (s.lead - 1) ++ [(s.epoch, v)]) u1 u2 (ll + 1) HR4.out).drew
        have hb6 := hb5.ext (rowed s (s.epoch, v)) rfl rfl rfl (fun _ _ => rfl) (fun i _ => by show s.ups i = upd s.ups (s.lead - 1) u1 i; rw [upd_self _ _ _ HU1.out]) (fun i _ => by show s.ins i = upd s.ins (s.lead - 1) u2 i; rw [upd_self _ _ _ HU2.out]) (fun i _ => by show upd s.mat (s.lead - 1) ((s.logs (s.lead - 1)).length + 1) i = upd s.mat (s.lead - 1) (ll + 1) i; rw [hlen])
        have HB6 := Lib.hid hb6
        have HO6 : Hid (Only (RFt m bs) w _) := Lib.hid (((((HA4.out.only.mono (fun _ _ q => q.elim)).setCell (p := ⟨bs, (s.lead - 1) * 4, none⟩) (.inr (.inr rfl)) (.slice (some ⟨g3, 0, none⟩) (ll + 1) cap3)).setCell (p := ⟨bs, (s.lead - 1) * 4 + 1, none⟩) (.inr (.inr rfl)) (.bool u1)).setCell (p := ⟨bs, (s.lead - 1) * 4 + 2, none⟩) (.inr (.inr rfl)) (.bool u2)).setCell (p := ⟨bs, (s.lead - 1) * 4 + 3, none⟩) (.inr (.inr rfl)) (.int .i64 ((ll + 1 : Nat) : Int))).drew
        clear hb5 hb6 y0 y2 z0 z1 z2 z3 x0 x1 x2 x3 xf0 xf1 xf2 xf3
        go_wp2_with (go_at_call 35; refine (rrise_any HB6.out (HF.out.rowed (s.epoch, v) (by rw [hlen]; omega)) h0).mono ?_; rintro e w6 ⟨rfl, hb, ho⟩; have H5 := Lib.hid hb; have H6 := Lib.hid ho; clear hb ho)
        go_ret
        have hP : put N s v = (0, rise N (rowed s (s.epoch, v))) := by
          unfold put
          rw [if_neg h0, if_neg (by show ¬ 200 ≤ (s.logs (s.lead - 1)).length; rw [hlen]; exact hfull)]
          rfl
        rw [hP]
        refine ⟨rfl, _, H5.out, HO6.out.trans H6.out (fun b _ hb => .inl hb), ?_⟩
        intro i b hi hb
        by_cases e : i = s.lead - 1
        · rw [e, upd_same] at hb
          cases hb
          exact .inr HG3.out
        · rw [upd_other _ _ _ e] at hb; exact .inl hb
end Go.Proofs.Ytcehlajkpnhdiaa.Ra
