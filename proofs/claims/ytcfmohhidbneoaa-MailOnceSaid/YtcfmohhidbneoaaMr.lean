/- The contract of the reference's Send. -/
import Derived.Test.YtcfmohhidbneoaaMu
import Derived.Deep.RegionLaw
import Derived.BigRegion
import Derived.OneCell
namespace Go.Proofs.Ytcfmohhidbneoaa.Mr
open Go.RowKit Go.Proofs.Ytcfmohhidbneoaa.Ma Go.Proofs.Ytcfmohhidbneoaa.Mw Go.Proofs.Ytcfmohhidbneoaa.Ms Go.Proofs.Ytcfmohhidbneoaa.Mc Go.Proofs.Ytcfmohhidbneoaa.Md Go.Proofs.Ytcfmohhidbneoaa.Mt Go.Proofs.Ytcfmohhidbneoaa.Mu
set_option linter.unusedSimpArgs false
set_option linter.unusedVariables false
/-- The reference's object at block m. -/
def RefAt (w : World) (m : Nat) (sent : Int) (v : Value) (l : List Pk) : Prop := w.heap[m]? = some (.cells #[.int .i64 sent, v] 42 (0, 0)) ∧ Row w v l
/-- What a round of Send's loop finds. -/
def RInv (w : World) (m : Nat) (sent : Int) (v : Value) (l : List Pk) (dd ff : Int) (L : List ByteArray) (k : Nat) (v' : Value) (wr : World) : Prop :=
  RefAt wr m (sent + k) v' (l ++ mk dd ff sent (L.take k)) ∧ Only (foot m v) w wr ∧ NextV w v v'
theorem rinv_start {w : World} {m : Nat} {sent : Int} {v : Value} {l : List Pk} (h : RefAt w m sent v l) (dd ff : Int) (L : List ByteArray) : RInv w m sent v l dd ff L 0 v w :=
  ⟨by simpa [mk] using h, Only.refl _ _, fun g hg => .inl hg⟩
theorem rinv_step {w wr w1 : World} {m : Nat} {sent : Int} {v : Value} {l : List Pk} {dd ff : Int} {L : List ByteArray} {k : Nat} {v' : Value} {g cap : Nat} (hI : RInv w m sent v l dd ff L k v' wr) (hk : k < L.length)
    (hown : w1.ownsRow 0 27 4 (.slice (some ⟨g, 0, none⟩) ((l ++ mk dd ff sent (L.take k)).length + 1) cap) ((l ++ mk dd ff sent (L.take k)).length + 1) (pcs (l ++ mk dd ff sent (L.take k)) ++ [.int .i64 (sent + k + 1), .int .i64 dd, .int .i64 ff, .string L[k]]))
    (hgrow : World.grownBy (((wr.setCell ⟨m, 0, none⟩ (.int .i64 (sent + k + 1))).alloc (.cells #[.int .i64 (sent + k + 1), .int .i64 dd, .int .i64 ff, .string L[k]] 27)).drew) w1 v'.ownBlock)
    (hat : v'.ownBlock = some g ∨ g = wr.heap.size + 1) :
    RInv w m sent v l dd ff L (k + 1) (.slice (some ⟨g, 0, none⟩) ((l ++ mk dd ff sent (L.take k)).length + 1) cap) (w1.setCell ⟨m, 1, none⟩ (.slice (some ⟨g, 0, none⟩) ((l ++ mk dd ff sent (L.take k)).length + 1) cap)) := by
  obtain ⟨⟨hm, hrow⟩, ho, hn⟩ := hI
  have et : L.take (k + 1) = L.take k ++ [L[k]] := by rw [List.take_succ_eq_append_getElem hk]
  have el : (L.take k).length = k := by rw [List.length_take]; omega
  have ec : l ++ mk dd ff sent (L.take (k + 1)) = (l ++ mk dd ff sent (L.take k)) ++ [⟨sent + k + 1, dd, ff, L[k]⟩] := by
    rw [et, mk_snoc, el, List.append_assoc]
  have en : (l ++ mk dd ff sent (L.take (k + 1))).length = (l ++ mk dd ff sent (L.take k)).length + 1 := by rw [ec]; simp; omega
  have hap : v'.ownBlock ≠ some m := hrow.apart hm (by decide)
  have hml := lt_of_block hm
  have hb0 := block_set (i := 0) hm (.int .i64 (sent + k + 1))
  have hb1 : (((wr.setCell ⟨m, 0, none⟩ (.int .i64 (sent + k + 1))).alloc (.cells #[.int .i64 (sent + k + 1), .int .i64 dd, .int .i64 ff, .string L[k]] 27)).drew).heap[m]? = some (.cells #[.int .i64 (sent + k + 1), v'] 42 (0, 0)) := block_alloc hb0 _
  have hb2 := block_grown hb1 hgrow (by intro e; exact hap e)
  have hgm : g ≠ m := by
    rcases hat with e | e
    · rintro rfl; exact hap e
    · omega
  refine ⟨⟨?_, ?_⟩, ?_, ?_⟩
  · have := block_set (i := 1) hb2 (.slice (some ⟨g, 0, none⟩) ((l ++ mk dd ff sent (L.take k)).length + 1) cap)
    rw [show sent + ((k + 1 : Nat) : Int) = sent + k + 1 by omega]
    simpa using this
  · have hr1 : Row w1 (.slice (some ⟨g, 0, none⟩) ((l ++ mk dd ff sent (L.take k)).length + 1) cap) (l ++ mk dd ff sent (L.take (k + 1))) := by
      unfold Row
      rw [en]
      have : pcs (l ++ mk dd ff sent (L.take (k + 1))) = pcs (l ++ mk dd ff sent (L.take k)) ++ [.int .i64 (sent + k + 1), .int .i64 dd, .int .i64 ff, .string L[k]] := by
        rw [ec, pcs_append]; rfl
      rw [this]; exact hown
    refine hr1.move fun b hb => ?_
    cases hb
    exact Below.heap_setCell _ _ _ _ hgm
  · have o1 : Only (foot m v) w (((wr.setCell ⟨m, 0, none⟩ (.int .i64 (sent + k + 1))).alloc (.cells #[.int .i64 (sent + k + 1), .int .i64 dd, .int .i64 ff, .string L[k]] 27)).drew) := ((ho.setCell (p := ⟨m, 0, none⟩) (.inr (.inl rfl)) _).alloc _).drew
    have o2 := o1.grown hgrow (fun b hb => by
      rcases hn b hb with q | q
      · exact .inr (.inr q)
      · exact .inl q)
    exact o2.setCell (p := ⟨m, 1, none⟩) (.inr (.inl rfl)) _
  · intro b hb
    cases hb
    rcases hat with e | e
    · exact hn _ e
    · right; have := ho.size; show w.heap.size ≤ g; omega
def RDid (m : Nat) (v : Value) (r : Value) (st' : St) (w : World) (e : Ending) (w' : World) : Prop :=
  e = .returned r ∧ ∃ v', RefAt w' m st'.sent v' st'.l ∧ Only (foot m v) w w' ∧ NextV w v v'
theorem rdid_quiet {w w' : World} {m : Nat} {v r : Value} {st : St} (hm : RefAt w m st.sent v st.l) (hq : Only (fun _ => False) w w') : RDid m v r st w (.returned r) w' :=
  ⟨rfl, v, ⟨hq.same hm.1 (fun h => h), hm.2.only hq (fun _ _ h => h)⟩, hq.mono (fun _ _ h => h.elim), fun g hg => .inl hg⟩
theorem whoB_false {n : Int} (h : whoB n = false) : n < 0 ∨ 8 < n := by simp [whoB] at h; omega
theorem whoB_true {n : Int} (h : whoB n = true) : 0 ≤ n ∧ n ≤ 8 := by simpa [whoB] using h
theorem rsend_who (m : Nat) (dd ff : Int) (V : Value) (w : World) (h : whoB dd = false ∨ whoB ff = false) :
    Calls Try.prog 16 #[.pointer (some ⟨m, 0, none⟩), .int .i64 dd, .int .i64 ff, V] w fun e w' => e = .returned (.int .i64 1) ∧ w = w' := by
  by_cases d0 : dd < 0
  · clear h
    go_enter Try.func16, Try.ntmps16
    go_wp2_with fail
    go_ret
    exact ⟨rfl, rfl⟩
  have d0' : 0 ≤ dd := by omega
  by_cases d1 : 8 < dd
  · clear h
    go_enter Try.func16, Try.ntmps16
    go_wp2_with fail
    go_ret
    exact ⟨rfl, rfl⟩
  have d1' : dd ≤ 8 := by omega
  by_cases f0 : ff < 0
  · clear h
    go_enter Try.func16, Try.ntmps16
    go_wp2_with fail
    go_ret
    exact ⟨rfl, rfl⟩
  have f0' : 0 ≤ ff := by omega
  have f1 : 8 < ff := by
    rcases h with h | h
    · have := whoB_false h; omega
    · have := whoB_false h; omega
  clear h
  go_enter Try.func16, Try.ntmps16
  go_wp2_with fail
  go_ret
  exact ⟨rfl, rfl⟩
set_option maxHeartbeats 400000 in
theorem rsend_long (m : Nat) (dd ff : Int) (a : Option Addr) (L : List ByteArray) (c : Nat) (w : World) (d0 : 0 ≤ dd) (d1 : dd ≤ 8) (f0 : 0 ≤ ff) (f1 : ff ≤ 8) (hc : L.length ≤ c) (hn : L.length ≤ 9223372036854775807) (hL : StrsAt w a L)
    (hs : ∀ s ∈ L, s.size ≤ 9223372036854775807) (h : L.any longB = true) :
    Calls Try.prog 16 #[.pointer (some ⟨m, 0, none⟩), .int .i64 dd, .int .i64 ff, .slice a L.length c] w fun e w' => e = .returned (.int .i64 1) ∧ w = w' := by
  rcases hL with rfl | ⟨b, off, rfl, hcell⟩
  · simp at h
  have HA := Lib.hid h
  have HC := Lib.hid hcell
  have HS := Lib.hid hs
  clear h hcell hs
  go_enter Try.func16, Try.ntmps16
  go_wp2_with fail
  go_loop [9] (fun i => ∃ k : Nat, k ≤ L.length ∧ i = .int .i64 k ∧ Hid (∀ j (h : j < L.length), j < k → longB L[j] = false)) (fun i => L.length - (intOf i).toNat)
  case atStart => exact ⟨0, by omega, rfl, fun j _ h => by omega⟩
  case round =>
    obtain ⟨k, hk, rfl, hall⟩ := hrel
    by_cases hlt : k < L.length
    · have hck := HC.out k hlt
      have hsk := HS.out _ (List.getElem_mem hlt)
      cases hb : longB L[k] with
      | true =>
        have hb' : 131072 < L[k].size := by simpa [longB] using hb
        obtain ⟨s, hs⟩ : ∃ s, s = L[k] := ⟨_, rfl⟩
        rw [← hs] at hck hsk hb'
        clear hb hs
        go_wp2_with fail
        go_ret
        exact ⟨rfl, rfl⟩
      | false =>
        have HB := Lib.hid hb
        have hb' : L[k].size ≤ 131072 := by simpa [longB] using hb
        obtain ⟨s, hs⟩ : ∃ s, s = L[k] := ⟨_, rfl⟩
        rw [← hs] at hck hsk hb'
        clear hb hs
        go_wp2_with fail
        go_round
        case rel =>
          refine ⟨k + 1, by omega, by go_num, fun j h hj => ?_⟩
          by_cases e : j = k
          · subst e; exact HB.out
          · exact hall.out j h (by omega)
        case measure => simp [intOf]; omega
    · exfalso
      obtain ⟨s, hs, hb⟩ := List.any_eq_true.1 HA.out
      obtain ⟨j, hj, rfl⟩ := List.mem_iff_getElem.1 hs
      rw [hall.out j hj (by omega)] at hb
      cases hb
def RSent (m : Nat) (v : Value) (st : St) (dd ff : Int) (L : List ByteArray) (w : World) (e : Ending) (w' : World) : Prop :=
  (256 < st.l.length + L.length ∧ e = .returned (.int .i64 5) ∧ w = w') ∨
  (st.l.length + L.length ≤ 256 ∧ e = .returned (.int .i64 0) ∧ ∃ v', RefAt w' m (st.sent + L.length) v' (st.l ++ mk dd ff st.sent L) ∧ Only (foot m v) w w' ∧ NextV w v v')
set_option maxHeartbeats 3200000 in
theorem rsend_good (m : Nat) (v : Value) (st : St) (N : Int) (dd ff : Int) (a : Option Addr) (L : List ByteArray) (c : Nat) (w : World) (hm : RefAt w m st.sent v st.l) (hf : Fine st N) (hN : N ≤ 1000000) (d0 : 0 ≤ dd) (d1 : dd ≤ 8) (f0 : 0 ≤ ff) (f1 : ff ≤ 8)
    (hc : L.length ≤ c) (hn : L.length ≤ 1099511627776) (hL : StrsAt w a L) (hap : ∀ b off, a = some ⟨b, off, none⟩ → L = [] ∨ ¬ foot m v b) (hs : ∀ s ∈ L, s.size ≤ 9223372036854775807) (h : L.any longB = false) :
    Calls Try.prog 16 #[.pointer (some ⟨m, 0, none⟩), .int .i64 dd, .int .i64 ff, .slice a L.length c] w
      (RSent m v st dd ff L w) := by
  have hall : ∀ j (h : j < L.length), longB L[j] = false := by
    intro j hj
    cases hb : longB L[j] with
    | false => rfl
    | true =>
      have : L.any longB = true := List.any_eq_true.2 ⟨_, List.getElem_mem hj, hb⟩
      rw [h] at this; cases this
  have hcell : ∀ j (h : j < L.length), ∃ b off, a = some ⟨b, off, none⟩ ∧ ¬ foot m v b ∧ w.cell? ⟨b, off + j, none⟩ = some (.string L[j]) := by
    intro j hj
    rcases hL with rfl | ⟨b, off, rfl, hcell⟩
    · simp at hj
    · exact ⟨b, off, rfl, (hap b off rfl).resolve_left (by intro h; rw [h] at hj; simp at hj), hcell j hj⟩
  have HA := Lib.hid hall
  have HC := Lib.hid hcell
  have HS := Lib.hid hs
  have HM := Lib.hid hm
  obtain ⟨hl, hs0, hs1, hxs⟩ := hf
  have hm1 : w.cell? ⟨m, 1, none⟩ = some v := cell_of hm.1 1
  obtain ⟨ao, co, rfl⟩ := slice_form hm.2
  have dF : decide ((8 : Int) < ff) = false := by simp; omega
  obtain ⟨sent, l⟩ := st
  simp only [] at *
  clear h hall hcell hs hm hxs hL hap
  go_enter Try.func16, Try.ntmps16
  go_wp2_with fail
  go_loop [9] (fun i => ∃ k : Nat, k ≤ L.length ∧ i = .int .i64 k) (fun i => L.length - (intOf i).toNat)
  case atStart => exact ⟨0, by omega, rfl⟩
  case round =>
    obtain ⟨k, hk, rfl⟩ := hrel
    by_cases hlt : k < L.length
    · obtain ⟨b, off, rfl, _, hck⟩ := HC.out k hlt
      have hsk := HS.out _ (List.getElem_mem hlt)
      have hb' : L[k].size ≤ 131072 := by have := HA.out k hlt; simpa [longB] using this
      obtain ⟨s, hs⟩ : ∃ s, s = L[k] := ⟨_, rfl⟩
      rw [← hs] at hck hsk hb'
      clear hs
      go_wp2_with fail
      go_round
      case rel => exact ⟨k + 1, by omega, by go_num⟩
      case measure => simp [intOf]; omega
    · obtain rfl : k = L.length := by omega
      by_cases hfull : 256 < l.length + L.length
      · have hd : decide ((256 : Int) < L.length + l.length) = true := by simp; omega
        go_wp2_with fail
        go_ret
        exact .inl ⟨hfull, rfl, rfl⟩
      · have hle : l.length + L.length ≤ 256 := by omega
        have hd : decide ((256 : Int) < L.length + l.length) = false := by simp; omega
        go_wp2_with fail
        go_loopw [10] (fun i wr => ∃ (k : Nat) (v' : Value), k ≤ L.length ∧ i = .int .i64 k ∧ RInv w m sent (.slice ao l.length co) l dd ff L k v' wr) (fun i _ => L.length - (intOf i).toNat)
        case atStart => exact ⟨0, _, by omega, rfl, rinv_start HM.out dd ff L⟩
        case round =>
          obtain ⟨k, v', hk, rfl, hI⟩ := hrel
          by_cases hlt : k < L.length
          · obtain ⟨b, off, rfl, hnf, hck0⟩ := HC.out k hlt
            have hck : wr.cell? ⟨b, off + k, none⟩ = some (.string L[k]) := by
              rw [← hck0]
              exact World.cell?_of_block (w := w) (hI.2.1.block b (World.block_lt_of_cell? _ _ hck0) hnf)
            have hbm : b ≠ m := fun e => hnf (.inl e)
            have k0 : wr.cell? ⟨m, 0, none⟩ = some (.int .i64 (sent + k)) := cell_of hI.1.1 0
            have k1 : wr.cell? ⟨m, 1, none⟩ = some v' := cell_of hI.1.1 1
            have g0 : wr.frozen? ⟨m, 0, none⟩ = false := free_of hI.1.1 0
            have hkL : k ≤ 256 := by omega
            have hrow : wr.ownsRow 0 27 4 v' (l ++ mk dd ff sent (L.take k)).length (pcs (l ++ mk dd ff sent (L.take k))) := hI.1.2
            have hne : v'.ownBlock ≠ some m := hI.1.2.apart hI.1.1 (by decide)
            have hlen : (l ++ mk dd ff sent (L.take k)).length ≤ 256 := by
              rw [List.length_append, mk_length, List.length_take]; omega
            obtain ⟨n, hN'⟩ : ∃ n, n = (l ++ mk dd ff sent (L.take k)).length := ⟨_, rfl⟩
            obtain ⟨X, hX⟩ : ∃ X, X = pcs (l ++ mk dd ff sent (L.take k)) := ⟨_, rfl⟩
            obtain ⟨s, hseq⟩ : ∃ s, s = L[k] := ⟨_, rfl⟩
            rw [← hN'] at hlen
            rw [← hN', ← hX] at hrow
            rw [← hseq] at hck
            have HI := Lib.hid hI
            have HN := Lib.hid hN'
            have HX := Lib.hid hX
            have HSq := Lib.hid hseq
            have hrow1 := ownsRow_setCell_other hrow (a := ⟨m, 0, none⟩) hne (.int .i64 (sent + k + 1))
            clear hI hN' hX hseq hnf hck0
            obtain ⟨i0, hi0, hz0, hz1, hz2⟩ := info_parts info27
            have q0 : (wr.setCell ⟨m, 0, none⟩ (.int .i64 (sent + k + 1))).cell? ⟨m, 0, none⟩ = some (.int .i64 (sent + k + 1)) := cell_of (block_set (i := 0) HI.out.1.1 _) 0
            have q1 : (wr.setCell ⟨m, 0, none⟩ (.int .i64 (sent + k + 1))).cell? ⟨m, 1, none⟩ = some v' := cell_of (block_set (i := 0) HI.out.1.1 _) 1
            have p1 : (wr.setCell ⟨m, 0, none⟩ (.int .i64 (sent + k + 1))).frozen? ⟨m, 1, none⟩ = false := free_of (block_set (i := 0) HI.out.1.1 _) 1
            have q2 : (wr.setCell ⟨m, 0, none⟩ (.int .i64 (sent + k + 1))).cell? ⟨b, off + k, none⟩ = some (.string s) := (World.cell?_of_block (w := wr) (Below.heap_setCell _ _ _ _ hbm)).trans hck
            have hz : (wr.setCell ⟨m, 0, none⟩ (.int .i64 (sent + k + 1))).heap.size = wr.heap.size := by simp [World.setCell]
            have hmw := lt_of_block HI.out.1.1
            have i1 : (0 : Int) ≤ (k : Int) := by omega
            have i2 : (k : Int) < (L.length : Int) := by omega
            go_wp2_with fail
            generalize hwq : wr.setCell ⟨m, 0, none⟩ (.int .i64 (sent + k + 1)) = wq at q0 q1 p1 q2 hz hrow1 ⊢
            have HWQ := Lib.hid hwq
            rw [← hz] at hmw
            have HZ := Lib.hid hz
            clear hwq hz k0 k1 g0 hrow hck
            have pa : ∀ o, (wq.alloc o).frozen? ⟨m, 1, none⟩ = false := fun o => (World.frozen?_alloc_past _ _ _ hmw).trans p1
            go_region_law (refine step_append_lies _ (by rfl) _ _ _ (by rfl) 0 27 i0 _ 4 40 Try.underlying33 hi0 hz0 hz1 hz2 rfl (by omega) v' n X (by rfl) ((hrow1.alloc _).drew) ⟨wq.heap.size, 0, none⟩ 1 1 [.int .i64 (sent + k + 1), .int .i64 dd, .int .i64 ff, .string s] (by rfl) (by rfl) (World.news_of_block (cs := #[.int .i64 (sent + k + 1), .int .i64 dd, .int .i64 ff, .string s]) (t := 27) (fr := (0, 0)) (heap_alloc_new wq _)) (by simp [Value.oneCell']) (by omega) (by unfold maxLen; omega) (by omega) (by simp) (wq.heap.size + 1) (by simp) ?_; intro g cap w1 hown1 hgrow hat hlt1; have e1 : w1.cell? ⟨m, 1, none⟩ = some v' := (hgrow.cell_far ⟨m, 1, none⟩ (by simp; try omega) (Ne.symm hne)).trans ((World.cell?_alloc_past _ _ _ hmw).trans q1); have e2 : w1.frozen? ⟨m, 1, none⟩ = false := (hgrow.frozen_far ⟨m, 1, none⟩ (by simp; try omega) (Ne.symm hne)).trans (pa _))
            all_goals
              go_wp2
              go_roundw
              case rel =>
                refine ⟨k + 1, .slice (some ⟨g, 0, none⟩) (n + 1) cap, by omega, by go_num, ?_⟩
                have eq1 := HWQ.out
                have eq2 := HN.out
                have eq3 := HX.out
                have eq4 := HSq.out
                subst eq1 eq2 eq3 eq4
                exact rinv_step HI.out hlt hown1 hgrow (by rcases hat with e | e; exact .inl e; right; rw [e, HZ.out])
              case measure => simp [intOf]; omega
          · obtain rfl : k = L.length := by omega
            have HI := Lib.hid hI
            clear hI
            go_wp2_with fail
            go_ret
            have := HI.out
            refine .inr ⟨hle, rfl, v', ?_, this.2.1, this.2.2⟩
            have h := this.1
            rwa [List.take_length] at h
end Go.Proofs.Ytcfmohhidbneoaa.Mr
