/- The contracts of the reference's Take, Twice and Same. -/
import Derived.Test.YtcfmohhidbneoaaMr
namespace Go.Proofs.Ytcfmohhidbneoaa.Mq
open Go.RowKit Go.Proofs.Ytcfmohhidbneoaa.Ma Go.Proofs.Ytcfmohhidbneoaa.Mw Go.Proofs.Ytcfmohhidbneoaa.Ms Go.Proofs.Ytcfmohhidbneoaa.Mc Go.Proofs.Ytcfmohhidbneoaa.Md Go.Proofs.Ytcfmohhidbneoaa.Mt Go.Proofs.Ytcfmohhidbneoaa.Mu Go.Proofs.Ytcfmohhidbneoaa.Mr
set_option linter.unusedSimpArgs false
set_option linter.unusedVariables false
theorem rsend_all (m : Nat) (v : Value) (st : St) (N : Int) (dd ff : Int) (a : Option Addr) (L : List ByteArray) (c : Nat) (w : World) (hm : RefAt w m st.sent v st.l) (hf : Fine st N) (hN : N ≤ 1000000)
    (hc : L.length ≤ c) (hn : L.length ≤ 1099511627776) (hL : StrsAt w a L) (hap : ∀ b off, a = some ⟨b, off, none⟩ → L = [] ∨ ¬ foot m v b) (hs : ∀ s ∈ L, s.size ≤ 9223372036854775807) :
    Calls Try.prog 16 #[.pointer (some ⟨m, 0, none⟩), .int .i64 dd, .int .i64 ff, .slice a L.length c] w (RDid m v (.int .i64 (sendR st dd ff L)) (sendS st dd ff L) w) := by
  cases h1 : whoB dd with
  | false =>
    have er : sendR st dd ff L = 1 := by simp [sendR, sendBad, h1]
    have es : sendS st dd ff L = st := by simp [sendS, sendBad, h1]
    rw [er, es]
    refine (rsend_who m dd ff _ w (.inl h1)).mono ?_
    rintro e w' ⟨rfl, rfl⟩
    exact rdid_quiet hm (Only.refl _ _)
  | true =>
    cases h2 : whoB ff with
    | false =>
      have er : sendR st dd ff L = 1 := by simp [sendR, sendBad, h2]
      have es : sendS st dd ff L = st := by simp [sendS, sendBad, h2]
      rw [er, es]
      refine (rsend_who m dd ff _ w (.inr h2)).mono ?_
      rintro e w' ⟨rfl, rfl⟩
      exact rdid_quiet hm (Only.refl _ _)
    | true =>
      obtain ⟨d0, d1⟩ := whoB_true h1
      obtain ⟨f0, f1⟩ := whoB_true h2
      cases h3 : L.any longB with
      | true =>
        have er : sendR st dd ff L = 1 := by simp only [sendR, sendBad, h3]; simp
        have es : sendS st dd ff L = st := by simp only [sendS, sendBad, h3]; simp
        rw [er, es]
        refine (rsend_long m dd ff a L c w d0 d1 f0 f1 hc (by omega) hL hs h3).mono ?_
        rintro e w' ⟨rfl, rfl⟩
        exact rdid_quiet hm (Only.refl _ _)
      | false =>
        have hb : sendBad dd ff L = false := by simp only [sendBad, h1, h2, h3]; rfl
        refine (rsend_good m v st N dd ff a L c w hm hf hN d0 d1 f0 f1 hc hn hL hap hs h3).mono ?_
        rintro e w' (⟨h4, rfl, rfl⟩ | ⟨h4, rfl, v', h5, h6, h7⟩)
        · have er : sendR st dd ff L = 5 := by simp [sendR, hb, h4]
          have es : sendS st dd ff L = st := by simp [sendS, hb, h4]
          rw [er, es]
          exact rdid_quiet hm (Only.refl _ _)
        · have er : sendR st dd ff L = 0 := by simp [sendR, hb, show ¬ 256 < st.l.length + L.length by omega]
          have es : sendS st dd ff L = ⟨st.sent + L.length, st.l ++ mk dd ff st.sent L⟩ := by simp [sendS, hb, show ¬ 256 < st.l.length + L.length by omega]
          rw [er, es]
          exact ⟨rfl, v', h5, h6, h7⟩
theorem not_in {p : Int} {n : Nat} (hp : ¬ (0 ≤ p ∧ p < n)) : p < 0 ∨ (0 ≤ p ∧ (n : Int) ≤ p) := by omega
theorem rtake_no (m : Nat) (sent : Int) (v : Value) (l : List Pk) (p : Int) (w : World) (hm : RefAt w m sent v l) (hp : ¬ (0 ≤ p ∧ p < l.length)) :
    Calls Try.prog 18 #[.pointer (some ⟨m, 0, none⟩), .int .i64 p] w (TakeNo w) := by
  have hm1 : w.cell? ⟨m, 1, none⟩ = some v := cell_of hm.1 1
  have hml := lt_of_block hm.1
  obtain ⟨a, c, rfl⟩ := slice_form hm.2
  have hm1' := fun o => (World.cell?_alloc_past (w := w) o m 1 hml).trans hm1
  clear hm
  rcases not_in hp with h | ⟨h, h'⟩
  · clear hp
    go_enter Try.func18, Try.ntmps18
    go_wp2_with fail
    refine bodyPost_ret (v := .tuple #[Pk.zero.agg, .int .i64 6]) (by simp [results, Try.results18, go_sem, Pk.zero, Pk.agg]) rfl ⟨rfl, ((Only.refl _ _).alloc _)⟩
  · clear hp
    have hd : decide ((l.length : Int) ≤ p) = true := by simpa using h'
    have hd0 : decide (p < 0) = false := by simp; omega
    go_enter Try.func18, Try.ntmps18
    go_wp2_with fail
    refine bodyPost_ret (v := .tuple #[Pk.zero.agg, .int .i64 6]) (by simp [results, Try.results18, go_sem, Pk.zero, Pk.agg]) rfl ⟨rfl, ((Only.refl _ _).alloc _)⟩
theorem news_grown {w0 w1 : World} {A : Addr} {xs : List Value} (h : ∀ j u, xs[j]? = some u → w0.cell? (A.add j) = some u) (hg : w0.grownBy w1 none) : ∀ j u, xs[j]? = some u → w1.cell? (A.add j) = some u := fun j u hu =>
  (hg.cell_far _ (World.block_lt_of_cell? _ _ (h j u hu)) (by simp)).trans (h j u hu)
theorem two_grown {w0 w1 w2 : World} {v1 : Value} (h1 : w0.grownBy w1 none) (h2 : w1.grownBy w2 v1.ownBlock) (hat : v1.ownBlock = none ∨ v1.ownBlock = some w0.heap.size) : ∀ b, b < w0.heap.size → w2.heap[b]? = w0.heap[b]? := by
  intro b hb
  rw [h2.block b (by have := h1.size; omega) (by rcases hat with e | e <;> rw [e] <;> simp; omega), h1.block b hb (by simp)]
def RTook (m : Nat) (sent : Int) (v : Value) (l : List Pk) (p : Nat) (x : Pk) (w : World) (e : Ending) (w' : World) : Prop :=
  e = .returned (.tuple #[x.agg, .int .i64 0]) ∧ ∃ v', RefAt w' m sent v' (l.eraseIdx p) ∧ Only (foot m v) w w' ∧ NextV w v v'
set_option maxHeartbeats 1600000 in
theorem rtake_yes (m : Nat) (sent : Int) (v : Value) (l : List Pk) (p : Nat) (w : World) (hl : l.length ≤ 256) (hm : RefAt w m sent v l) (hp : p < l.length) :
    Calls Try.prog 18 #[.pointer (some ⟨m, 0, none⟩), .int .i64 p] w (RTook m sent v l p l[p] w) := by
  have hm1 : w.cell? ⟨m, 1, none⟩ = some v := cell_of hm.1 1
  have hml := lt_of_block hm.1
  rcases hm.2.form with ⟨h, rfl⟩ | ⟨g, cap, cur, rfl, hg, hcap, hcap2, _⟩
  · simp at hp
  unfold maxLen at hcap2
  have hgm : g ≠ m := by intro e; subst e; exact hm.2.apart hm.1 (by decide) rfl
  have hgl := lt_of_block hg
  obtain ⟨c0, c1, c2, c3⟩ := hm.2.at p hp
  obtain ⟨x, hx⟩ : ∃ x, x = l[p] := ⟨_, rfl⟩
  rw [← hx] at c0 c1 c2 c3
  have HX := Lib.hid hx
  have HM := Lib.hid hm
  have HG := Lib.hid hg
  have d0 := fun o => (World.cell?_alloc_past (w := w) o g (p * 4) hgl).trans c0
  have d1 := fun o => (World.cell?_alloc_past (w := w) o g (p * 4 + 1) hgl).trans c1
  have d2 := fun o => (World.cell?_alloc_past (w := w) o g (p * 4 + 2) hgl).trans c2
  have d3 := fun o => (World.cell?_alloc_past (w := w) o g (p * 4 + 3) hgl).trans c3
  rw [← hx]
  have hge : decide ((l.length : Int) ≤ p) = false := by simp; omega
  clear hm hg hx
  obtain ⟨i0, hi0, hz0, hz1, hz2⟩ := info_parts info27
  obtain ⟨w0, hw0⟩ : ∃ w0, w0 = (w.alloc (.cells #[.int .i64 0, .int .i64 0, .int .i64 0, .string ⟨#[]⟩] 27)).alloc (.cells #[.int .i64 x.n, .int .i64 x.d, .int .i64 x.f, .string x.s] 27) := ⟨_, rfl⟩
  have hR0 : Row w0 (.slice (some ⟨g, 0, none⟩) l.length cap) l := by
    rw [hw0]; exact (HM.out.2.only (Only.refl (fun _ => False) w) (fun _ _ h => h)).move fun b hb => by cases hb; rw [Below.heap_alloc _ _ _ (by simp; omega), Below.heap_alloc _ _ _ hgl]
  have hsz0 : w0.heap.size = w.heap.size + 2 := by rw [hw0]; simp
  have n1 : ∀ j u, (pcs (l.take p))[j]? = some u → w0.cell? ((⟨g, 0, none⟩ : Addr).add j) = some u := by
    intro j u hu
    rw [pcs_take l p (by omega)] at hu
    exact hR0.cells rfl j u (by rw [List.getElem?_take] at hu; split at hu <;> simp_all)
  have hml' : (pcs (l.drop (p + 1))).length = (l.length - (p + 1)) * 4 := by rw [pcs_length, List.length_drop]
  have hml1 : (pcs (l.take p)).length = p * 4 := by rw [pcs_length, List.length_take]; congr 1; omega
  obtain ⟨A, hA, n2⟩ : ∃ A : Addr, (if cap = p + 1 then some (⟨g, 0, none⟩ : Addr) else some ⟨g, (p + 1) * 4, none⟩) = some A ∧ (∀ j u, (pcs (l.drop (p + 1)))[j]? = some u → w0.cell? (A.add j) = some u) := by
    by_cases h : cap = p + 1
    · refine ⟨⟨g, 0, none⟩, by simp [h], fun j u hu => ?_⟩
      have h0 : (pcs (l.drop (p + 1))).length = 0 := by rw [hml']; omega
      rw [List.length_eq_zero_iff.1 h0] at hu
      simp at hu
    · refine ⟨⟨g, (p + 1) * 4, none⟩, by simp [h], fun j u hu => ?_⟩
      rw [pcs_drop l (p + 1) (by omega), List.getElem?_drop] at hu
      have := hR0.cells (g := g) rfl ((p + 1) * 4 + j) u hu
      rw [Addr.add_lit] at this ⊢
      simpa using this
  have N1 := Lib.hid n1
  have N2 := Lib.hid n2
  have L1 := Lib.hid hml1
  have L2 := Lib.hid hml'
  have W0 := Lib.hid hw0
  have hb1 : (0 : Int) ≤ (p : Int) + 1 := by omega
  have hb2 : (p : Int) + 1 ≤ (l.length : Int) := by omega
  have m0 : w0.heap[m]? = some (.cells #[.int .i64 sent, .slice (some ⟨g, 0, none⟩) l.length cap] 42 (0, 0)) := by rw [hw0]; exact block_alloc (block_alloc HM.out.1 _) _
  have M0 := Lib.hid m0
  have mc0 : w0.cell? ⟨m, 1, none⟩ = some (.slice (some ⟨g, 0, none⟩) l.length cap) := cell_of m0 1
  clear n1 n2 hml' hml1 hR0 m0
  have hgo : ∀ K : World → Prop, K w0 → K ((w.alloc (.cells #[.int .i64 0, .int .i64 0, .int .i64 0, .string ⟨#[]⟩] 27)).alloc (.cells #[.int .i64 x.n, .int .i64 x.d, .int .i64 x.f, .string x.s] 27)) := by intro K h; rw [← hw0]; exact h
  have GO := Lib.hid hgo
  clear hgo hw0
  have hc1 : p ≤ cap := by omega
  have hml0 : m < w0.heap.size := by omega
  have HSZ := Lib.hid hsz0
  clear hsz0
  go_enter Try.func18, Try.ntmps18
  go_wp2_with (first
    | (at_builtin; refine GO.out (fun W => wpList _ _ _ _ _ W) ?_; refine wpList_append_own_at _ rfl (.tmp 27) (.tmp 33) 33 rfl 0 27 i0 _ 4 40 Try.underlying33 hi0 hz0 hz1 hz2 rfl (by decide) (.slice none 0 0) 0 [] rfl (World.ownsRow_nil _ _ _ _) ⟨g, 0, none⟩ p cap (pcs (l.take p)) rfl L1.out N1.out (pcs_one _) (by unfold maxLen; omega) (by omega) (by omega) ?_; intro v1 w1 hown1 hgrow1 hnil1 hat1; simp only [Nat.zero_add, List.nil_append] at hown1; have mc1 : w1.cell? ⟨m, 1, none⟩ = some (.slice (some ⟨g, 0, none⟩) l.length cap) := (World.grownBy.cell_far hgrow1 ⟨m, 1, none⟩ hml0 (by simp [Value.ownBlock])).trans mc0; have OW1 := Lib.hid hown1; have GR1 := Lib.hid hgrow1; have AT1 := Lib.hid hat1; clear hown1 hgrow1 hnil1 hat1)
    | (at_builtin; refine wpList_append_own_at _ rfl (.tmp 35) (.tmp 42) 33 rfl 0 27 i0 _ 4 40 Try.underlying33 hi0 hz0 hz1 hz2 rfl (by decide) v1 p (pcs (l.take p)) rfl OW1.out A (l.length - (p + 1)) (cap - (p + 1)) (pcs (l.drop (p + 1))) rfl L2.out (news_grown N2.out GR1.out) (pcs_one _) (by unfold maxLen; omega) (by omega) (by omega) ?_; intro v2 w2 hown2 hgrow2 hnil2 hat2; obtain ⟨a2, k2, rfl⟩ : ∃ a2 k2, v2 = .slice a2 (p + (l.length - (p + 1))) k2 := (by rcases hown2.2 with ⟨e, e'⟩ | ⟨gg, cc, _, e, _⟩; exact ⟨none, 0, by rw [e, e']⟩; exact ⟨_, _, e⟩); have TW := two_grown GR1.out hgrow2 AT1.out; have b4 : w2.heap[w.heap.size]? = some (.cells #[.int .i64 0, .int .i64 0, .int .i64 0, .string ⟨#[]⟩] 27 (0, 0)) := (TW _ (by rw [HSZ.out]; omega)).trans (by rw [W0.out]; exact block_alloc (block_new w _) _); have b6 : w2.heap[w.heap.size + 1]? = some (.cells #[.int .i64 x.n, .int .i64 x.d, .int .i64 x.f, .string x.s] 27 (0, 0)) := (TW _ (by rw [HSZ.out]; omega)).trans (by rw [W0.out]; have := block_new (w.alloc (.cells #[.int .i64 0, .int .i64 0, .int .i64 0, .string ⟨#[]⟩] 27)) (.cells #[.int .i64 x.n, .int .i64 x.d, .int .i64 x.f, .string x.s] 27); simpa using this); have bm := (TW m hml0).trans M0.out; have z0 : w2.cell? ⟨w.heap.size, 0, none⟩ = some (.int .i64 0) := cell_of b4 0; have z1 : w2.cell? ⟨w.heap.size, 1, none⟩ = some (.int .i64 0) := cell_of b4 1; have z2 : w2.cell? ⟨w.heap.size, 2, none⟩ = some (.int .i64 0) := cell_of b4 2; have z3 : w2.cell? ⟨w.heap.size, 3, none⟩ = some (.string ⟨#[]⟩) := cell_of b4 3; have e0 : w2.frozen? ⟨w.heap.size, 0, none⟩ = false := free_of b4 0; have e1 : w2.frozen? ⟨w.heap.size, 1, none⟩ = false := free_of b4 1; have e2 : w2.frozen? ⟨w.heap.size, 2, none⟩ = false := free_of b4 2; have e3 : w2.frozen? ⟨w.heap.size, 3, none⟩ = false := free_of b4 3; have y0 : w2.cell? ⟨w.heap.size + 1, 0, none⟩ = some (.int .i64 x.n) := cell_of b6 0; have y1 : w2.cell? ⟨w.heap.size + 1, 1, none⟩ = some (.int .i64 x.d) := cell_of b6 1; have y2 : w2.cell? ⟨w.heap.size + 1, 2, none⟩ = some (.int .i64 x.f) := cell_of b6 2; have y3 : w2.cell? ⟨w.heap.size + 1, 3, none⟩ = some (.string x.s) := cell_of b6 3; have k1 : w2.cell? ⟨m, 1, none⟩ = some (.slice (some ⟨g, 0, none⟩) l.length cap) := cell_of bm 1; have f1 : w2.frozen? ⟨m, 1, none⟩ = false := free_of bm 1; have hsz : w.heap.size + 1 < w2.heap.size := lt_of_block b6; have B4 := Lib.hid b4; have B6 := Lib.hid b6; have BM := Lib.hid bm; have OW2 := Lib.hid hown2; have GR2 := Lib.hid hgrow2; have AT2 := Lib.hid hat2; clear hown2 hgrow2 hnil2 hat2 b4 b6 bm TW d0 d1 d2 d3 c0 c1 c2 c3 hm1 mc0 mc1))
  have far : ∀ b, (Value.slice a2 (p + (l.length - (p + 1))) k2).ownBlock = some b → w.heap.size + 2 ≤ b := by
    intro b hb
    have e1 := HSZ.out
    have e2 := GR1.out.size
    rcases AT2.out with e | e
    · rw [e] at hb
      rcases AT1.out with e' | e'
      · rw [e'] at hb; cases hb
      · rw [e'] at hb; simp at hb; omega
    · rw [e] at hb; simp at hb; omega
  refine bodyPost_ret (v := .tuple #[x.agg, .int .i64 0]) (by simp [results, Try.results18, go_sem, Pk.agg, hsz, z0, z1, z2, z3]) rfl ⟨rfl, .slice a2 (p + (l.length - (p + 1))) k2, ⟨?_, ?_⟩, ?_, ?_⟩
  · refine block_far (block_far (block_far (block_far ?_ ?_ _) ?_ _) ?_ _) ?_ _
    · exact block_set (i := 1) BM.out _
    all_goals (show m ≠ w.heap.size; omega)
  · have el : (l.eraseIdx p).length = p + (l.length - (p + 1)) := by rw [List.length_eraseIdx]; simp [hp]; omega
    have hw : Row w2 (.slice a2 (p + (l.length - (p + 1))) k2) (l.eraseIdx p) := by
      unfold Row
      rw [el, List.eraseIdx_eq_take_drop_succ, pcs_append]; exact OW2.out
    refine hw.move fun b hb => ?_
    have := far b hb
    rw [Below.heap_setCell _ _ _ _ (by show b ≠ w.heap.size; omega), Below.heap_setCell _ _ _ _ (by show b ≠ w.heap.size; omega), Below.heap_setCell _ _ _ _ (by show b ≠ w.heap.size; omega), Below.heap_setCell _ _ _ _ (by show b ≠ w.heap.size; omega), Below.heap_setCell _ _ _ _ (by show b ≠ m; omega)]
  · have o0 : Only (foot m (.slice (some ⟨g, 0, none⟩) l.length cap)) w w0 := by rw [W0.out]; exact ((Only.refl _ w).alloc _).alloc _
    have o1 := (o0.grown GR1.out (fun k h => by cases h)).grown GR2.out (fun k h => by
      rcases AT1.out with e' | e'
      · rw [e'] at h; cases h
      · rw [e'] at h; simp at h; left; have := HSZ.out; omega)
    exact ((((o1.setCell (p := ⟨m, 1, none⟩) (.inr (.inl rfl)) _).setCell (p := ⟨w.heap.size, 0, none⟩) (.inl (Nat.le_refl _)) _).setCell (p := ⟨w.heap.size, 1, none⟩) (.inl (Nat.le_refl _)) _).setCell (p := ⟨w.heap.size, 2, none⟩) (.inl (Nat.le_refl _)) _).setCell (p := ⟨w.heap.size, 3, none⟩) (.inl (Nat.le_refl _)) _
  · intro b hb
    right; have := far b hb; omega
theorem rtake_all (m : Nat) (v : Value) (st : St) (N : Int) (p : Int) (w : World) (hm : RefAt w m st.sent v st.l) (hf : Fine st N) :
    Calls Try.prog 18 #[.pointer (some ⟨m, 0, none⟩), .int .i64 p] w (RDid m v (.tuple #[(takeP st p).agg, .int .i64 (takeR st p)]) (takeS st p) w) := by
  by_cases hp : 0 ≤ p ∧ p < st.l.length
  · have er : takeR st p = 0 := by simp [takeR, hp]
    have ep : takeP st p = st.l.getD p.toNat Pk.zero := by simp [takeP, hp]
    have es : takeS st p = ⟨st.sent, st.l.eraseIdx p.toNat⟩ := by simp [takeS, hp]
    rw [er, ep, es]
    obtain ⟨q, rfl⟩ := Int.eq_ofNat_of_zero_le hp.1
    have hq : q < st.l.length := by omega
    have eg : st.l.getD q Pk.zero = st.l[q] := by simp [List.getD, hq]
    refine (rtake_yes m st.sent v st.l q w hf.1 hm hq).mono ?_
    rintro e w' ⟨rfl, v', h1, h2, h3⟩
    rw [show ((q : Nat) : Int).toNat = q by omega, eg]
    exact ⟨rfl, v', h1, h2, h3⟩
  · have er : takeR st p = 6 := by simp [takeR, hp]
    have ep : takeP st p = Pk.zero := by simp [takeP, hp]
    have es : takeS st p = st := by simp [takeS, hp]
    rw [er, ep, es]
    refine (rtake_no m st.sent v st.l p w hm hp).mono ?_
    rintro e w' ⟨rfl, h⟩
    exact rdid_quiet hm h
theorem rtwice_no (m : Nat) (sent : Int) (v : Value) (l : List Pk) (p : Int) (w : World) (hm : RefAt w m sent v l) (hp : ¬ (0 ≤ p ∧ p < l.length)) :
    Calls Try.prog 19 #[.pointer (some ⟨m, 0, none⟩), .int .i64 p] w fun e w' => e = .returned (.int .i64 6) ∧ w = w' := by
  have hm1 : w.cell? ⟨m, 1, none⟩ = some v := cell_of hm.1 1
  obtain ⟨a, c, rfl⟩ := slice_form hm.2
  clear hm
  rcases not_in hp with h | ⟨h, h'⟩
  · clear hp
    go_enter Try.func19, Try.ntmps19
    go_wp2_with fail
    go_ret
    exact ⟨rfl, rfl⟩
  · clear hp
    go_enter Try.func19, Try.ntmps19
    go_wp2_with fail
    go_ret
    exact ⟨rfl, rfl⟩
set_option maxHeartbeats 800000 in
theorem rtwice_yes (m : Nat) (v : Value) (st : St) (N : Int) (p : Nat) (w : World) (hm : RefAt w m st.sent v st.l) (hf : Fine st N) (hN : N ≤ 1000000) (hp : p < st.l.length) :
    Calls Try.prog 19 #[.pointer (some ⟨m, 0, none⟩), .int .i64 p] w (RDid m v (.int .i64 (sendR st st.l[p].d st.l[p].f [st.l[p].s])) (sendS st st.l[p].d st.l[p].f [st.l[p].s]) w) := by
  have hm1 : w.cell? ⟨m, 1, none⟩ = some v := cell_of hm.1 1
  have hml := lt_of_block hm.1
  rcases hm.2.form with ⟨_, h0⟩ | ⟨g, cap, cur, rfl, hg, _⟩
  · simp [h0] at hp
  have hgl := lt_of_block hg
  obtain ⟨c0, c1, c2, c3⟩ := hm.2.at p hp
  have hxs : st.l[p].s.size ≤ 9223372036854775807 := hf.2.2.2 _ (List.getElem_mem hp)
  obtain ⟨x, hx⟩ : ∃ x, x = st.l[p] := ⟨_, rfl⟩
  rw [← hx] at c0 c1 c2 c3 hxs ⊢
  have HM := Lib.hid hm
  have HF := Lib.hid hf
  obtain ⟨n, hnn⟩ : ∃ n, n = st.l.length := ⟨_, rfl⟩
  rw [← hnn] at hm1 hp
  have HN := Lib.hid hnn
  have hge : decide ((n : Int) ≤ p) = false := by simp; omega
  clear hm hg hx hf hnn
  go_enter Try.func19, Try.ntmps19
  go_wp2_with fail
  have hq : Only (fun _ => False) w ((w.alloc (.cells #[.int .i64 x.n, .int .i64 x.d, .int .i64 x.f, .string x.s] 27)).alloc (.cells #[.string x.s] 9)) := ((Only.refl _ w).alloc _).alloc _
  have HQ := Lib.hid hq
  clear hq
  refine (rsend_all m _ st N x.d x.f _ [x.s] 1 _ ⟨HQ.out.same HM.out.1 (fun h => h), HM.out.2.only HQ.out (fun _ _ h => h)⟩ HF.out hN (by simp) (by simp) (.inr ⟨w.heap.size + 1, 0, rfl, ?_⟩) ?_ ?_).mono ?_
  · intro i hi
    simp at hi
    subst hi
    exact World.cell?_alloc_at #[.string x.s] 9 (w.heap.size + 1) 0 (by simp)
  · intro b off hb
    right
    intro h
    cases hb
    rcases h with h | h
    · omega
    · have h' : some g = some (w.heap.size + 1) := h
      simp at h'
      omega
  · intro s hs
    simp at hs
    subst hs
    exact hxs
  · rintro e w' ⟨rfl, v', h1, h2, h3⟩
    have H1 := Lib.hid h1
    have H2 := Lib.hid h2
    have H3 := Lib.hid h3
    clear h1 h2 h3
    go_wp2_with fail
    go_ret
    refine ⟨rfl, v', H1.out, (HQ.out.mono (fun _ _ h => h.elim)).trans H2.out (fun _ _ h => h), fun b hb => ?_⟩
    rcases H3.out b hb with h | h
    · exact .inl h
    · right; have := HQ.out.size; omega
theorem rtwice_all (m : Nat) (v : Value) (st : St) (N : Int) (p : Int) (w : World) (hm : RefAt w m st.sent v st.l) (hf : Fine st N) (hN : N ≤ 1000000) :
    Calls Try.prog 19 #[.pointer (some ⟨m, 0, none⟩), .int .i64 p] w (RDid m v (.int .i64 (twiceR st p)) (twiceS st p) w) := by
  by_cases hp : 0 ≤ p ∧ p < st.l.length
  · have er : twiceR st p = sendR st (st.l.getD p.toNat Pk.zero).d (st.l.getD p.toNat Pk.zero).f [(st.l.getD p.toNat Pk.zero).s] := by simp [twiceR, hp]
    have es : twiceS st p = sendS st (st.l.getD p.toNat Pk.zero).d (st.l.getD p.toNat Pk.zero).f [(st.l.getD p.toNat Pk.zero).s] := by simp [twiceS, hp]
    rw [er, es]
    obtain ⟨q, rfl⟩ := Int.eq_ofNat_of_zero_le hp.1
    have hq : q < st.l.length := by omega
    have eg : st.l.getD q Pk.zero = st.l[q] := by simp [List.getD, hq]
    rw [show ((q : Nat) : Int).toNat = q by omega, eg]
    exact rtwice_yes m v st N q w hm hf hN hq
  · have er : twiceR st p = 6 := by simp [twiceR, hp]
    have es : twiceS st p = st := by simp [twiceS, hp]
    rw [er, es]
    refine (rtwice_no m st.sent v st.l p w hm hp).mono ?_
    rintro e w' ⟨rfl, rfl⟩
    exact rdid_quiet hm (Only.refl _ _)
end Go.Proofs.Ytcfmohhidbneoaa.Mq
