/- The contracts of rise and end. -/
import Derived.Test.YtcehlajkpnhdiaaRa
namespace Go.Proofs.Ytcehlajkpnhdiaa.Ra
open Go.RowKit Go.Proofs.Ytcehlajkpnhdiaa.Rw Go.Proofs.Ytcehlajkpnhdiaa.Rp Go.Proofs.Ytcehlajkpnhdiaa.Ra
set_option linter.unusedSimpArgs false
set_option linter.unusedVariables false
variable {w w1 : World} {m bn bi bm N : Nat} {vs : Nat → Value} {s : St}
/-- A call that writes nothing that was there. -/
theorem leastTo_le (s : St) (hN : s.his.length ≤ 200) : ∀ k, leastTo s k ≤ 200
  | 0 => hN
  | k + 1 => by
    have := leastTo_le s hN k
    unfold leastTo; split
    · omega
    · exact this
theorem Box.ne (h : Box w m bn bi bm N vs s) : m ≠ bn ∧ m ≠ bi ∧ m ≠ bm ∧ bn ≠ bi ∧ bn ≠ bm ∧ bi ≠ bm := by
  have hm := Arr.of h.obj
  exact ⟨hm.ne h.nodes (by decide), hm.ne h.ins (by decide), hm.ne h.mat (by decide), h.nodes.ne h.ins (by decide), h.nodes.ne h.mat (by decide), h.ins.ne h.mat (by decide)⟩
theorem Box.neRow (h : Box w m bn bi bm N vs s) {i : Nat} (hi : i < N) : (vs i).ownBlock ≠ some m ∧ (vs i).ownBlock ≠ some bn ∧ (vs i).ownBlock ≠ some bi ∧ (vs i).ownBlock ≠ some bm :=
  ⟨(h.rows i hi).apart h.obj (by decide), h.nodes.row (by decide) (h.rows i hi), h.ins.row (by decide) (h.rows i hi), h.mat.row (by decide) (h.rows i hi)⟩
/-- A field of the object is written. -/
theorem Box.setObj (h : Box w m bn bi bm N vs s) (i : Nat) (v : Value) (s' : St)
    (hs : #[.slice (some ⟨bn, 0, none⟩) N N, .int .i64 s.epoch, .int .i64 s.lead, .slice (some ⟨bi, 0, none⟩) N N, .slice (some ⟨bm, 0, none⟩) N N, .int .i64 s.high].setIfInBounds i v = #[.slice (some ⟨bn, 0, none⟩) N N, .int .i64 s'.epoch, .int .i64 s'.lead, .slice (some ⟨bi, 0, none⟩) N N, .slice (some ⟨bm, 0, none⟩) N N, .int .i64 s'.high])
    (h1 : s'.ups = s.ups) (h2 : s'.ins = s.ins) (h3 : s'.mat = s.mat) (h4 : s'.logs = s.logs) : Box (w.setCell ⟨m, i, none⟩ v) m bn bi bm N vs s' := by
  obtain ⟨n1, n2, n3, _⟩ := Box.ne h
  refine ⟨?_, ?_, ?_, ?_, ?_, h.apart⟩
  · have := block_set (i := i) h.obj v
    rw [hs] at this; exact this
  · rw [h1]; exact h.nodes.move (Below.heap_setCell _ _ _ _ (Ne.symm n1))
  · rw [h2]; exact h.ins.move (Below.heap_setCell _ _ _ _ (Ne.symm n2))
  · rw [h3]; exact h.mat.move (Below.heap_setCell _ _ _ _ (Ne.symm n3))
  · intro i hi
    rw [h4]
    exact (h.rows i hi).move fun g hg => Below.heap_setCell _ _ _ _ (by rintro rfl; exact (Box.neRow h hi).1 hg)
theorem Box.setUp (h : Box w m bn bi bm N vs s) (i : Nat) (b : Bool) : Box (w.setCell ⟨bn, i * 2 + 1, none⟩ (.bool b)) m bn bi bm N vs { s with ups := upd s.ups i b } := by
  obtain ⟨n1, n2, n3, n4, n5, n6⟩ := Box.ne h
  refine ⟨block_far h.obj n1 _, ?_, h.ins.move (Below.heap_setCell _ _ _ _ (Ne.symm n4)), h.mat.move (Below.heap_setCell _ _ _ _ (Ne.symm n5)), ?_, h.apart⟩
  · have := h.nodes.set (i * 2 + 1) (.bool b)
    rwa [nodeF_setUp] at this
  · intro j hj
    exact (h.rows j hj).move fun g hg => Below.heap_setCell _ _ _ _ (by rintro rfl; exact (Box.neRow h hj).2.1 hg)
theorem Box.setIn (h : Box w m bn bi bm N vs s) (i : Nat) (b : Bool) : Box (w.setCell ⟨bi, i, none⟩ (.bool b)) m bn bi bm N vs { s with ins := upd s.ins i b } := by
  obtain ⟨n1, n2, n3, n4, n5, n6⟩ := Box.ne h
  refine ⟨block_far h.obj n2 _, h.nodes.move (Below.heap_setCell _ _ _ _ n4), ?_, h.mat.move (Below.heap_setCell _ _ _ _ (Ne.symm n6)), ?_, h.apart⟩
  · refine (h.ins.set i (.bool b)).ext fun j _ => ?_
    show upd (fun i => Value.bool (s.ins i)) i (.bool b) j = .bool (upd s.ins i b j)
    unfold upd; split <;> rfl
  · intro j hj
    exact (h.rows j hj).move fun g hg => Below.heap_setCell _ _ _ _ (by rintro rfl; exact (Box.neRow h hj).2.2.1 hg)
theorem Box.setMat (h : Box w m bn bi bm N vs s) (i : Nat) (k : Nat) : Box (w.setCell ⟨bm, i, none⟩ (.int .i64 k)) m bn bi bm N vs { s with mat := upd s.mat i k } := by
  obtain ⟨n1, n2, n3, n4, n5, n6⟩ := Box.ne h
  refine ⟨block_far h.obj n3 _, h.nodes.move (Below.heap_setCell _ _ _ _ n5), h.ins.move (Below.heap_setCell _ _ _ _ n6), ?_, ?_, h.apart⟩
  · refine (h.mat.set i (.int .i64 k)).ext fun j _ => ?_
    show upd (fun i => Value.int .i64 (s.mat i)) i (.int .i64 k) j = .int .i64 ((upd s.mat i k j : Nat) : Int)
    unfold upd; split <;> rfl
  · intro j hj
    exact (h.rows j hj).move fun g hg => Below.heap_setCell _ _ _ _ (by rintro rfl; exact (Box.neRow h hj).2.2.2 hg)
/-- A log's value is written: a row that no other node has. -/
theorem Box.setLog (h : Box w m bn bi bm N vs s) {i : Nat} (hi : i < N) (v : Value) (l : List Cp) (hr : Row w v l) (ha : ∀ j g, j < N → j ≠ i → v.ownBlock = some g → (vs j).ownBlock ≠ some g) :
    Box (w.setCell ⟨bn, i * 2, none⟩ v) m bn bi bm N (upd vs i v) { s with logs := upd s.logs i l } := by
  obtain ⟨n1, n2, n3, n4, n5, n6⟩ := Box.ne h
  have hv : v.ownBlock ≠ some bn := h.nodes.row (by decide) hr
  refine ⟨block_far h.obj n1 _, ?_, h.ins.move (Below.heap_setCell _ _ _ _ (Ne.symm n4)), h.mat.move (Below.heap_setCell _ _ _ _ (Ne.symm n5)), ?_, ?_⟩
  · have := h.nodes.set (i * 2) v
    rwa [nodeF_setLog] at this
  · intro j hj
    show Row _ (upd vs i v j) (upd s.logs i l j)
    by_cases e : j = i
    · subst e
      rw [upd_same, upd_same]
      exact hr.move fun g hg => Below.heap_setCell _ _ _ _ (by rintro rfl; exact hv hg)
    · rw [upd_other _ _ _ e, upd_other _ _ _ e]
      exact (h.rows j hj).move fun g hg => Below.heap_setCell _ _ _ _ (by rintro rfl; exact (Box.neRow h hj).2.1 hg)
  · intro j k g hj hk h1 h2
    by_cases e : j = i
    · by_cases e' : k = i
      · omega
      · subst e
        rw [upd_same] at h1
        rw [upd_other _ _ _ e'] at h2
        exact absurd h2 (ha k g hk e' h1)
    · by_cases e' : k = i
      · subst e'
        rw [upd_same] at h2
        rw [upd_other _ _ _ e] at h1
        exact absurd h1 (ha j g hj e h2)
      · rw [upd_other _ _ _ e] at h1
        rw [upd_other _ _ _ e'] at h2
        exact h.apart j k g hj hk h1 h2
theorem Box.drewN (h : Box w m bn bi bm N vs s) (n : Nat) : Box (w.drewN n) m bn bi bm N vs s := ⟨h.obj, h.nodes, h.ins, h.mat, h.rows, h.apart⟩
/-- What rise leaves. -/
def Rose (m bn bi bm N : Nat) (vs : Nat → Value) (s : St) (w : World) (e : Ending) (w' : World) : Prop := e = .returned (.tuple #[]) ∧ Box w' m bn bi bm N vs (rise N s) ∧ Only (fun k => k = m) w w'
set_option maxHeartbeats 800000 in
theorem rise_any (h : Box w m bn bi bm N vs s) (hf : Fit N s) (h0 : s.lead ≠ 0) : Calls Try.prog 30 #[.pointer (some ⟨m, 0, none⟩)] w (Rose m bn bi bm N vs s w) := by
  have hl := hf.lead
  have hN := hf.n5
  have hlg : s.lead - 1 < N := by omega
  obtain ⟨la, lc, hv⟩ := (h.rows (s.lead - 1) hlg).slice
  have c0 := h.log hlg
  rw [hv] at c0
  have hle : s.his.length ≤ 200 := hf.logs _ hlg
  have c0' : w.cell? ⟨bn, (s.lead - 1) * 2, none⟩ = some (.slice la s.his.length lc) := c0
  have o3 : w.cell? ⟨m, 3, none⟩ = some (.slice (some ⟨bi, 0, none⟩) N N) := cell_of h.obj 3
  have o4 : w.cell? ⟨m, 4, none⟩ = some (.slice (some ⟨bm, 0, none⟩) N N) := cell_of h.obj 4
  have o5 : w.cell? ⟨m, 5, none⟩ = some (.int .i64 s.high) := cell_of h.obj 5
  have p5 : w.frozen? ⟨m, 5, none⟩ = false := free_of h.obj 5
  have hci : ∀ i, i < N → w.cell? ⟨bi, i, none⟩ = some (.bool (s.ins i)) := fun i hi => h.ins.cell i hi
  have hcm : ∀ i, i < N → w.cell? ⟨bm, i, none⟩ = some (.int .i64 (s.mat i)) := fun i hi => h.mat.cell i hi
  have hml := leastTo_le s hle
  have HH := Lib.hid h
  have HF := Lib.hid hf
  have HI := Lib.hid hci
  have HM := Lib.hid hcm
  have HL := Lib.hid hml
  clear h hf hci hcm hml c0 hv
  go_enter Try.func30, Try.ntmps30
  go_wp2_with (go_at_call 37; refine (lead_any HH.out hl h0 hN).mono ?_; rintro e w' ⟨rfl, n1, rfl⟩)
  go_loopw [2, 16] (fun u i wr => ∃ (k : Nat), k ≤ N ∧ i = .int .i64 k ∧ u = .int .i64 (leastTo s k) ∧ wr = w.drewN n1) (fun _ i _ => N - (intOf i).toNat)
  case atStart => exact ⟨0, by omega, rfl, rfl, rfl⟩
  case round =>
    obtain ⟨k, hk, rfl, hu, rfl⟩ := hrel
    obtain ⟨L, hL⟩ : ∃ L, L = leastTo s k := ⟨_, rfl⟩
    rw [← hL] at hu
    subst hu
    have hL2 : L ≤ 200 := by rw [hL]; exact HL.out k
    have HLk := Lib.hid hL
    clear hL
    by_cases hlt : k < N
    · have ci := HI.out k hlt
      have cm := HM.out k hlt
      cases hb : s.ins k with
      | true =>
        rw [hb] at ci
        have HB := Lib.hid hb
        clear hb
        go_wp2_with fail
        go_roundw
        case rel =>
          refine ⟨k + 1, by omega, by go_num, ?_, trivial⟩
          have : leastTo s (k + 1) = min L (s.mat k) := by rw [HLk.out]; simp [leastTo, HB.out]
          rw [this]
          congr 1
          split <;> omega
        case measure => simp [intOf]; omega
      | false =>
        rw [hb] at ci
        have HB := Lib.hid hb
        clear hb
        go_wp2_with fail
        go_roundw
        case rel =>
          refine ⟨k + 1, by omega, by go_num, ?_, trivial⟩
          rw [HLk.out]; simp [leastTo, HB.out]
        case measure => simp [intOf]; omega
    · obtain rfl : k = N := by omega
      have key : ∀ X : Nat, X = max s.high L → Rose m bn bi bm k vs s w (.returned (.tuple #[])) ((w.drewN n1).setCell ⟨m, 5, none⟩ (.int .i64 X)) := fun X hX =>
        ⟨rfl, (HH.out.drewN n1).setObj 5 (.int .i64 X) (rise k s) (by simp [rise, hX, HLk.out]) rfl rfl rfl rfl, ((Only.refl (fun k => k = m) w).drewN n1).setCell (p := ⟨m, 5, none⟩) (.inr rfl) _⟩
      go_wp2_with fail
      · refine bodyPost_ret (v := .tuple #[]) (by simp [results, Try.results30, go_sem]) rfl (key L (by omega))
      · refine bodyPost_ret (v := .tuple #[]) (by simp [results, Try.results30, go_sem]) rfl (key s.high (by omega))
theorem endTo_le (l : List Cp) (e : Int) : ∀ n, endTo l e n ≤ n
  | 0 => Nat.le_refl _
  | n + 1 => by
    have := endTo_le l e n
    unfold endTo; split <;> omega
theorem endN_le (l : List Cp) (e : Int) : endN l e ≤ l.length := endTo_le l e _
/-- What end answers. -/
def Ended (l : List Cp) (x : Int) (w : World) (e : Ending) (w' : World) : Prop := e = .returned (.tuple #[.int .i64 (endN l x), .int .i64 (endE l x)]) ∧ ∃ n, w' = w.drewN n
set_option maxHeartbeats 800000 in
theorem end_some (g c : Nat) (l : List Cp) (x : Int) (hl : l.length ≤ 1000) (h : Row w (.slice (some ⟨g, 0, none⟩) l.length c) l) : Calls Try.prog 38 #[.slice (some ⟨g, 0, none⟩) l.length c, .int .i64 x] w (Ended l x w) := by
  have hc : ∀ i, i < l.length → w.cell? ⟨g, i * 2, none⟩ = some (.int .i64 (l.getD i cz).1) := fun i hi => (h.at i hi).1
  have HC := Lib.hid hc
  clear hc h
  go_enter Try.func38, Try.ntmps38
  go_wp2_with fail
  go_loopw [6] (fun u wr => ∃ (k : Nat), k ≤ l.length ∧ u = .int .i64 k ∧ Hid (endTo l x l.length = endTo l x k) ∧ wr = w) (fun u _ => (intOf u).toNat)
  case atStart => exact ⟨l.length, Nat.le_refl _, rfl, Lib.hid rfl, rfl⟩
  case round =>
    obtain ⟨k, hk, rfl, HE, rfl⟩ := hrel
    have hkn : ∀ n, endN l x = n → n = 0 → endE l x = 0 := by intro n h1 h2; unfold endE; rw [h1, if_pos h2]
    have hks : ∀ n, endN l x = n + 1 → endE l x = (l.getD n cz).1 := by
      intro n h1; unfold endE; rw [h1, if_neg (by omega)]; rfl
    have HKN := Lib.hid hkn
    have HKS := Lib.hid hks
    clear hkn hks
    cases k with
    | zero =>
      go_wp2_with fail
      go_ret2
      have e : endN l x = 0 := HE.out
      exact ⟨by rw [e, HKN.out 0 e rfl]; rfl, 0, rfl⟩
    | succ k =>
      have ck := HC.out k (by omega)
      obtain ⟨y, hy⟩ : ∃ y, y = (l.getD k cz).1 := ⟨_, rfl⟩
      rw [← hy] at ck
      have HY := Lib.hid hy
      clear hy
      have hwr : IntKind.i64.wrap (((k + 1 : Nat) : Int) - 1) = (k : Int) := by rw [IntKind.wrap_i64]; omega
      have hp2 : ((k : Int)).toNat = k := by omega
      by_cases hlt : x < y
      · go_wp2_with fail
        go_roundw
        case rel =>
          refine ⟨k, by omega, rfl, Lib.hid ?_, trivial⟩
          rw [HE.out]
          have : x < (l.getD k cz).1 := by rw [← HY.out]; exact hlt
          show endTo l x (k + 1) = _
          rw [endTo, if_pos this]
        case measure => simp [intOf]
      · have e : endN l x = k + 1 := by
          show endTo l x l.length = _
          rw [HE.out, endTo, if_neg (by rw [← HY.out]; exact hlt)]
        have e2 : endE l x = y := by rw [HKS.out k e, HY.out]
        have HE1 := Lib.hid e
        have HE2 := Lib.hid e2
        clear e e2
        go_wp2_with fail
        go_quiet (fail)
        go_wp2
        go_ret2
        exact ⟨by rw [HE1.out, HE2.out]; rfl, nq, rfl⟩
theorem end_nil (x : Int) : Calls Try.prog 38 #[.slice none 0 0, .int .i64 x] w (Ended [] x w) := by
  go_enter Try.func38, Try.ntmps38
  go_wp2_with fail
  go_loopw [6] (fun u wr => u = .int .i64 0 ∧ wr = w) (fun u _ => 0)
  case atStart => exact ⟨rfl, rfl⟩
  case round =>
    obtain ⟨rfl, rfl⟩ := hrel
    go_wp2_with fail
    go_ret2
    exact ⟨rfl, 0, rfl⟩
theorem end_any (v : Value) (l : List Cp) (x : Int) (hl : l.length ≤ 1000) (h : Row w v l) : Calls Try.prog 38 #[v, .int .i64 x] w (Ended l x w) := by
  rcases h with ⟨rfl, rfl⟩ | ⟨g, cap, cur, rfl, h1, h2⟩
  · exact end_nil x
  · exact end_some g cap l x hl (.inr ⟨g, cap, cur, rfl, h1, h2⟩)
end Go.Proofs.Ytcehlajkpnhdiaa.Ra
