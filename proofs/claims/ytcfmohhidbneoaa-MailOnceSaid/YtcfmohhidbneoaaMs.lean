/- The contract of Send at an object that is not nil: what it answers, and what the object holds behind it. -/
import Derived.Test.YtcfmohhidbneoaaMa
import Derived.Test.YtcfmohhidbneoaaMw
import Derived.Deep.RegionHeld3
import Derived.Deep.AppendLies
import Derived.Deep.DeepCutAuto
import Derived.Deep.RegionLaw
import Derived.BigRegion
import Derived.OneCell
namespace Go.Proofs.Ytcfmohhidbneoaa.Ms
open Go.RowKit Go.Proofs.Ytcfmohhidbneoaa.Ma Go.Proofs.Ytcfmohhidbneoaa.Mw
set_option linter.unusedSimpArgs false
set_option linter.unusedVariables false
theorem info27 : (Try.prog.info? 27).map (fun i => (i.zero, i.size, i.bytes)) = some (some (.agg #[.int .i64 0, .int .i64 0, .int .i64 0, .string ⟨#[]⟩]), 4, 40) := by kernel_rfl
/-- The object at block m. -/
def MailAt (w : World) (m : Nat) (sent : Int) (v : Value) (l : List Pk) : Prop := w.heap[m]? = some (.cells #[.int .i64 sent, v] 56 (0, 0)) ∧ Row w v l
def foot (m : Nat) (v : Value) : Nat → Prop := fun k => k = m ∨ v.ownBlock = some k
/-- The new value's row: the old one's, or a new block. -/
def NextV (w : World) (v v' : Value) : Prop := ∀ g, v'.ownBlock = some g → v.ownBlock = some g ∨ w.heap.size ≤ g
def mk (dd ff : Int) : Int → List ByteArray → List Pk
  | _, [] => []
  | n, s :: L => ⟨n + 1, dd, ff, s⟩ :: mk dd ff (n + 1) L
theorem mk_length (dd ff : Int) : ∀ (L : List ByteArray) (n : Int), (mk dd ff n L).length = L.length
  | [], _ => rfl
  | s :: L, n => by simp [mk, mk_length dd ff L]
theorem mk_snoc (dd ff : Int) : ∀ (L : List ByteArray) (n : Int) (s : ByteArray), mk dd ff n (L ++ [s]) = mk dd ff n L ++ [⟨n + L.length + 1, dd, ff, s⟩]
  | [], n, s => by simp [mk]
  | t :: L, n, s => by simp [mk, mk_snoc dd ff L]; omega
/-- What a round of Send's loop finds. -/
def Inv (w : World) (m : Nat) (sent : Int) (v : Value) (l : List Pk) (dd ff : Int) (L : List ByteArray) (k : Nat) (v' : Value) (wr : World) : Prop :=
  MailAt wr m (sent + k) v' (l ++ mk dd ff sent (L.take k)) ∧ Only (foot m v) w wr ∧ NextV w v v'
theorem inv_start {w : World} {m : Nat} {sent : Int} {v : Value} {l : List Pk} (h : MailAt w m sent v l) (dd ff : Int) (L : List ByteArray) : Inv w m sent v l dd ff L 0 v w :=
  ⟨by simpa [mk] using h, Only.refl _ _, fun g hg => .inl hg⟩
theorem inv_step {w wr w1 : World} {m : Nat} {sent : Int} {v : Value} {l : List Pk} {dd ff : Int} {L : List ByteArray} {k : Nat} {v' : Value} {g cap : Nat} (hI : Inv w m sent v l dd ff L k v' wr) (hk : k < L.length)
    (hown : w1.ownsRow 0 27 4 (.slice (some ⟨g, 0, none⟩) ((l ++ mk dd ff sent (L.take k)).length + 1) cap) ((l ++ mk dd ff sent (L.take k)).length + 1) (pcs (l ++ mk dd ff sent (L.take k)) ++ [.int .i64 (sent + k + 1), .int .i64 dd, .int .i64 ff, .string L[k]]))
    (hgrow : World.grownBy (((wr.setCell ⟨m, 0, none⟩ (.int .i64 (sent + k + 1))).alloc (.cells #[.int .i64 (sent + k + 1), .int .i64 dd, .int .i64 ff, .string L[k]] 27)).drew) w1 v'.ownBlock)
    (hat : v'.ownBlock = some g ∨ g = wr.heap.size + 1) :
    Inv w m sent v l dd ff L (k + 1) (.slice (some ⟨g, 0, none⟩) ((l ++ mk dd ff sent (L.take k)).length + 1) cap) (w1.setCell ⟨m, 1, none⟩ (.slice (some ⟨g, 0, none⟩) ((l ++ mk dd ff sent (L.take k)).length + 1) cap)) := by
  obtain ⟨⟨hm, hrow⟩, ho, hn⟩ := hI
  have et : L.take (k + 1) = L.take k ++ [L[k]] := by rw [List.take_succ_eq_append_getElem hk]
  have el : (L.take k).length = k := by rw [List.length_take]; omega
  have ec : l ++ mk dd ff sent (L.take (k + 1)) = (l ++ mk dd ff sent (L.take k)) ++ [⟨sent + k + 1, dd, ff, L[k]⟩] := by
    rw [et, mk_snoc, el, List.append_assoc]
  have en : (l ++ mk dd ff sent (L.take (k + 1))).length = (l ++ mk dd ff sent (L.take k)).length + 1 := by rw [ec]; simp; omega
  have hap : v'.ownBlock ≠ some m := hrow.apart hm (by decide)
  have hml := lt_of_block hm
  have hb0 := block_set (i := 0) hm (.int .i64 (sent + k + 1))
  have hb1 : (((wr.setCell ⟨m, 0, none⟩ (.int .i64 (sent + k + 1))).alloc (.cells #[.int .i64 (sent + k + 1), .int .i64 dd, .int .i64 ff, .string L[k]] 27)).drew).heap[m]? = some (.cells #[.int .i64 (sent + k + 1), v'] 56 (0, 0)) := block_alloc hb0 _
  have hb2 := block_grown hb1 hgrow (by intro e; exact hap e)
  have hgm : g ≠ m := by
    rcases hat with e | e
    · rintro rfl; exact hap e
    · omega
  refine ⟨⟨?_, ?_⟩, ?_, ?_⟩
  · have := block_set (i := 1) hb2 (.slice (some ⟨g, 0, none⟩) ((l ++ mk dd ff sent (L.take k)).length + 1) cap)
    rw [show sent + ((k + 1 : Nat) : Int) = sent + k + 1 by omega]
    simpa using this
  · have hr1 : Row w1 (.slice (some ⟨g, 0, none⟩) ((l ++ mk dd ff sent (L.take k)).length + 1) cap) (l ++ mk dd ff sent (L.take (k + 1))) := by
      unfold Row
      rw [en]
      have : pcs (l ++ mk dd ff sent (L.take (k + 1))) = pcs (l ++ mk dd ff sent (L.take k)) ++ [.int .i64 (sent + k + 1), .int .i64 dd, .int .i64 ff, .string L[k]] := by
        rw [ec, pcs_append]; rfl
      rw [this]; exact hown
    refine hr1.move fun b hb => ?_
    cases hb
    exact Below.heap_setCell _ _ _ _ hgm
  · have o1 : Only (foot m v) w (((wr.setCell ⟨m, 0, none⟩ (.int .i64 (sent + k + 1))).alloc (.cells #[.int .i64 (sent + k + 1), .int .i64 dd, .int .i64 ff, .string L[k]] 27)).drew) := ((ho.setCell (p := ⟨m, 0, none⟩) (.inr (.inl rfl)) _).alloc _).drew
    have o2 := o1.grown hgrow (fun b hb => by
      rcases hn b hb with q | q
      · exact .inr (.inr q)
      · exact .inl q)
    exact o2.setCell (p := ⟨m, 1, none⟩) (.inr (.inl rfl)) _
  · intro b hb
    cases hb
    rcases hat with e | e
    · exact hn _ e
    · right; have := ho.size; show w.heap.size ≤ g; omega
def sendBad (dd ff : Int) (L : List ByteArray) : Bool := !whoB dd || !whoB ff || L.any longB
/-- What Send answers and leaves. -/
def Sent (w : World) (m : Nat) (sent : Int) (v : Value) (l : List Pk) (dd ff : Int) (L : List ByteArray) (e : Ending) (w' : World) : Prop :=
  (sendBad dd ff L = true ∧ e = .returned (.int .i64 1) ∧ w' = w) ∨
  (sendBad dd ff L = false ∧ 256 < l.length + L.length ∧ e = .returned (.int .i64 5) ∧ w' = w) ∨
  (sendBad dd ff L = false ∧ l.length + L.length ≤ 256 ∧ e = .returned (.int .i64 0) ∧ ∃ v', MailAt w' m (sent + L.length) v' (l ++ mk dd ff sent L) ∧ Only (foot m v) w w' ∧ NextV w v v')
set_option maxHeartbeats 400000 in
theorem send_bad (m : Nat) (sent : Int) (v : Value) (l : List Pk) (dd ff : Int) (a : Option Addr) (L : List ByteArray) (c : Nat) (w : World) (hc : L.length ≤ c) (hn : L.length ≤ 9223372036854775807) (hL : StrsAt w a L) (hs : ∀ s ∈ L, s.size ≤ 9223372036854775807)
    (hbad : sendBad dd ff L = true) : Calls Try.prog 15 #[.pointer (some ⟨m, 0, none⟩), .int .i64 dd, .int .i64 ff, .slice a L.length c] w (Sent w m sent v l dd ff L) := by
  have HB := Lib.hid hbad
  cases h1 : whoB dd with
  | false =>
    have H1 := Lib.hid h1
    clear h1 hbad
    go_enter Try.func15, Try.ntmps15
    go_wp2_with (first | (go_at_call 24; refine (who_any dd _).mono ?_; rintro e w' ⟨rfl, rfl⟩; rw [H1.out]))
    go_ret
    exact .inl ⟨HB.out, rfl, rfl⟩
  | true =>
    have H1 := Lib.hid h1
    cases h2 : whoB ff with
    | false =>
      have H2 := Lib.hid h2
      clear h1 h2 hbad
      go_enter Try.func15, Try.ntmps15
      go_wp2_with (first | (go_at_call 24; refine (who_any _ _).mono ?_; rintro e w' ⟨rfl, rfl⟩; first | rw [H1.out] | rw [H2.out]))
      go_ret
      exact .inl ⟨HB.out, rfl, rfl⟩
    | true =>
      have H2 := Lib.hid h2
      have h3 : L.any longB = true := by simpa [sendBad, h1, h2] using hbad
      have H3 := Lib.hid h3
      clear h1 h2 h3 hbad
      go_enter Try.func15, Try.ntmps15
      go_wp2_with (first | (go_at_call 24; refine (who_any _ _).mono ?_; rintro e w' ⟨rfl, rfl⟩; first | rw [H1.out] | rw [H2.out]) | (go_at_call 25; refine (contains_any a L c _ hc hn hL hs).mono ?_; rintro e w' ⟨rfl, rfl⟩; rw [H3.out]))
      go_ret
      exact .inl ⟨HB.out, rfl, rfl⟩
set_option maxHeartbeats 1600000 in
theorem send_good (m : Nat) (sent : Int) (v : Value) (l : List Pk) (dd ff : Int) (a : Option Addr) (L : List ByteArray) (c : Nat) (w : World) (hm : MailAt w m sent v l) (hl : l.length ≤ 256) (hs0 : 0 ≤ sent) (hs1 : sent ≤ 1000000)
    (hc : L.length ≤ c) (hn : L.length ≤ 9223372036854775807) (hL : StrsAt w a L) (hap : ∀ b off, a = some ⟨b, off, none⟩ → L = [] ∨ ¬ foot m v b) (hs : ∀ s ∈ L, s.size ≤ 9223372036854775807)
    (hbad : sendBad dd ff L = false) : Calls Try.prog 15 #[.pointer (some ⟨m, 0, none⟩), .int .i64 dd, .int .i64 ff, .slice a L.length c] w (Sent w m sent v l dd ff L) := by
  have HB := Lib.hid hbad
  have h1 : whoB dd = true := by simp [sendBad] at hbad; exact hbad.1.1
  have h2 : whoB ff = true := by simp [sendBad] at hbad; exact hbad.1.2
  have h3 : L.any longB = false := by simp only [sendBad, Bool.or_eq_false_iff] at hbad; exact hbad.2
  have H1 := Lib.hid h1
  have H2 := Lib.hid h2
  have H3 := Lib.hid h3
  clear h1 h2 h3 hbad
  have hm1 : w.cell? ⟨m, 1, none⟩ = some v := cell_of hm.1 1
  by_cases hfull : 256 < l.length + L.length
  · have hd : decide ((256 : Int) - l.length < L.length) = true := by simp; omega
    have HM := Lib.hid hm
    clear hm
    have HV : Hid (∃ ao co, v = .slice ao l.length co) := by
      rcases HM.out.2.form with ⟨h, rfl⟩ | ⟨g, cap, cur, h, _⟩
      · exact ⟨_, _, h⟩
      · exact ⟨_, _, h⟩
    obtain ⟨ao, co, rfl⟩ := HV.out
    go_enter Try.func15, Try.ntmps15
    go_wp2_with (first | (go_at_call 24; refine (who_any _ _).mono ?_; rintro e w' ⟨rfl, rfl⟩; first | rw [H1.out] | rw [H2.out]) | (go_at_call 25; refine (contains_any a L c _ hc hn hL hs).mono ?_; rintro e w' ⟨rfl, rfl⟩; rw [H3.out]))
    go_ret
    exact .inr (.inl ⟨HB.out, hfull, rfl, rfl⟩)
  · have hle : l.length + L.length ≤ 256 := by omega
    have hd : decide ((256 : Int) - l.length < L.length) = false := by simp; omega
    have HM := Lib.hid hm
    clear hm
    have HV : Hid (∃ ao co, v = .slice ao l.length co) := by
      rcases HM.out.2.form with ⟨h, rfl⟩ | ⟨g, cap, cur, h, _⟩
      · exact ⟨_, _, h⟩
      · exact ⟨_, _, h⟩
    obtain ⟨ao, co, rfl⟩ := HV.out
    go_enter Try.func15, Try.ntmps15
    go_wp2_with (first | (go_at_call 24; refine (who_any _ _).mono ?_; rintro e w' ⟨rfl, rfl⟩; first | rw [H1.out] | rw [H2.out]) | (go_at_call 25; refine (contains_any a L c _ hc hn hL hs).mono ?_; rintro e w' ⟨rfl, rfl⟩; rw [H3.out]))
    go_loopw [42] (fun i wr => ∃ (k : Nat) (v' : Value), k ≤ L.length ∧ i = .int .i64 k ∧ Inv w m sent (.slice ao l.length co) l dd ff L k v' wr) (fun i _ => L.length - (intOf i).toNat)
    case atStart => exact ⟨0, _, by omega, rfl, inv_start HM.out dd ff L⟩
    case round =>
      obtain ⟨k, v', hk, rfl, hI⟩ := hrel
      by_cases hlt : k < L.length
      · rcases hL with rfl | ⟨b, off, rfl, hcell⟩
        · simp at hlt
        have hnf := (hap b off rfl).resolve_left (by intro h; rw [h] at hlt; simp at hlt)
        have hck : wr.cell? ⟨b, off + k, none⟩ = some (.string L[k]) := by
          have h0 := hcell k hlt
          rw [← h0]
          exact World.cell?_of_block (w := w) (hI.2.1.block b (World.block_lt_of_cell? _ _ h0) hnf)
        have hbw : b < wr.heap.size := World.block_lt_of_cell? _ _ hck
        have hbm : b ≠ m := fun e => hnf (.inl e)
        have k0 : wr.cell? ⟨m, 0, none⟩ = some (.int .i64 (sent + k)) := cell_of hI.1.1 0
        have k1 : wr.cell? ⟨m, 1, none⟩ = some v' := cell_of hI.1.1 1
        have f0 : wr.frozen? ⟨m, 0, none⟩ = false := free_of hI.1.1 0
        have f1 : wr.frozen? ⟨m, 1, none⟩ = false := free_of hI.1.1 1
        have hkL : k ≤ 256 := by omega
        have hrow : wr.ownsRow 0 27 4 v' (l ++ mk dd ff sent (L.take k)).length (pcs (l ++ mk dd ff sent (L.take k))) := hI.1.2
        have hne : v'.ownBlock ≠ some m := hI.1.2.apart hI.1.1 (by decide)
        have hlen : (l ++ mk dd ff sent (L.take k)).length ≤ 256 := by
          rw [List.length_append, mk_length, List.length_take]; omega
        obtain ⟨N, hN⟩ : ∃ N, N = (l ++ mk dd ff sent (L.take k)).length := ⟨_, rfl⟩
        obtain ⟨X, hX⟩ : ∃ X, X = pcs (l ++ mk dd ff sent (L.take k)) := ⟨_, rfl⟩
        obtain ⟨s, hseq⟩ : ∃ s, s = L[k] := ⟨_, rfl⟩
        rw [← hN] at hlen
        rw [← hN, ← hX] at hrow
        rw [← hseq] at hck
        have HI := Lib.hid hI
        have HN := Lib.hid hN
        have HX := Lib.hid hX
        have HS := Lib.hid hseq
        have hrow1 := ownsRow_setCell_other hrow (a := ⟨m, 0, none⟩) hne (.int .i64 (sent + k + 1))
        clear hI hN hX hseq hcell hap hnf hs
        obtain ⟨i0, hi0, hz0, hz1, hz2⟩ := info_parts info27
        have q0 : (wr.setCell ⟨m, 0, none⟩ (.int .i64 (sent + k + 1))).cell? ⟨m, 0, none⟩ = some (.int .i64 (sent + k + 1)) := cell_of (block_set (i := 0) HI.out.1.1 _) 0
        have q1 : (wr.setCell ⟨m, 0, none⟩ (.int .i64 (sent + k + 1))).cell? ⟨m, 1, none⟩ = some v' := cell_of (block_set (i := 0) HI.out.1.1 _) 1
        have p1 : (wr.setCell ⟨m, 0, none⟩ (.int .i64 (sent + k + 1))).frozen? ⟨m, 1, none⟩ = false := free_of (block_set (i := 0) HI.out.1.1 _) 1
        have hz : (wr.setCell ⟨m, 0, none⟩ (.int .i64 (sent + k + 1))).heap.size = wr.heap.size := by simp [World.setCell]
        have hmw := lt_of_block HI.out.1.1
        go_wp2_with fail
        generalize hwq : wr.setCell ⟨m, 0, none⟩ (.int .i64 (sent + k + 1)) = wq at q0 q1 p1 hz hrow1 ⊢
        have HWQ := Lib.hid hwq
        rw [← hz] at hmw
        have HZ := Lib.hid hz
        clear hwq hz k0 k1 f0 f1 hrow hck hbw
        have pa : ∀ o, (wq.alloc o).frozen? ⟨m, 1, none⟩ = false := fun o => (World.frozen?_alloc_past _ _ _ hmw).trans p1
        go_region_law (refine step_append_lies _ (by rfl) _ _ _ (by rfl) 0 27 i0 _ 4 40 Try.underlying33 hi0 hz0 hz1 hz2 rfl (by omega) v' N X (by rfl) ((hrow1.alloc _).drew) ⟨wq.heap.size, 0, none⟩ 1 1 [.int .i64 (sent + k + 1), .int .i64 dd, .int .i64 ff, .string s] (by rfl) (by rfl) (World.news_of_block (cs := #[.int .i64 (sent + k + 1), .int .i64 dd, .int .i64 ff, .string s]) (t := 27) (fr := (0, 0)) (heap_alloc_new wq _)) (by simp [Value.oneCell']) (by omega) (by unfold maxLen; omega) (by omega) (by simp) (wq.heap.size + 1) (by simp) ?_; intro g cap w1 hown1 hgrow hat hlt1; have e1 : w1.cell? ⟨m, 1, none⟩ = some v' := (hgrow.cell_far ⟨m, 1, none⟩ (by simp; try omega) (Ne.symm hne)).trans ((World.cell?_alloc_past _ _ _ hmw).trans q1); have e2 : w1.frozen? ⟨m, 1, none⟩ = false := (hgrow.frozen_far ⟨m, 1, none⟩ (by simp; try omega) (Ne.symm hne)).trans (pa _))
        all_goals
          go_wp2
          go_roundw
          case rel =>
            refine ⟨k + 1, .slice (some ⟨g, 0, none⟩) (N + 1) cap, by omega, by go_num, ?_⟩
            have eq1 := HWQ.out
            have eq2 := HN.out
            have eq3 := HX.out
            have eq4 := HS.out
            subst eq1 eq2 eq3 eq4
            exact inv_step HI.out hlt hown1 hgrow (by rcases hat with e | e; exact .inl e; right; rw [e, HZ.out])
          case measure => simp [intOf]; omega
      · obtain rfl : k = L.length := by omega
        have HI := Lib.hid hI
        clear hI
        go_wp2_with fail
        go_ret
        have := HI.out
        refine .inr (.inr ⟨HB.out, hle, rfl, v', ?_, this.2.1, this.2.2⟩)
        have h := this.1
        rwa [List.take_length] at h
end Go.Proofs.Ytcfmohhidbneoaa.Ms
