/- What the laws' loops keep: the state behind the first deeds, where the object and the deeds lie. -/
import Derived.Test.YtcfmohhidbneoaaMg
namespace Go.Proofs.Ytcfmohhidbneoaa.Mh
open Go.RowKit Go.Proofs.Ytcfmohhidbneoaa.Ma Go.Proofs.Ytcfmohhidbneoaa.Mw Go.Proofs.Ytcfmohhidbneoaa.Ms Go.Proofs.Ytcfmohhidbneoaa.Mc Go.Proofs.Ytcfmohhidbneoaa.Mt Go.Proofs.Ytcfmohhidbneoaa.Mu Go.Proofs.Ytcfmohhidbneoaa.Mf Go.Proofs.Ytcfmohhidbneoaa.Mg
set_option linter.unusedSimpArgs false
set_option linter.unusedVariables false
/-! ### The state stays fine -/
theorem mk_mem {dd ff : Int} : ∀ {L : List ByteArray} {n : Int} {x : Pk}, x ∈ mk dd ff n L → x.s ∈ L
  | [], n, x, h => by simp [mk] at h
  | s :: L, n, x, h => by
    simp only [mk, List.mem_cons] at h
    rcases h with rfl | h
    · simp
    · exact List.mem_cons_of_mem _ (mk_mem h)
theorem fine_mono {st : St} {N M : Int} (h : Fine st N) (hM : N ≤ M) : Fine st M := ⟨h.1, h.2.1, by have := h.2.2.1; omega, h.2.2.2⟩
theorem fine_send {st : St} {N : Int} (h : Fine st N) (dd ff : Int) (L : List ByteArray) (hL : ∀ s ∈ L, s.size ≤ 9223372036854775807) : Fine (sendS st dd ff L) (N + 256) := by
  unfold sendS
  split
  · exact fine_mono h (by omega)
  · split
    · exact fine_mono h (by omega)
    · obtain ⟨h1, h2, h3, h4⟩ := h
      refine ⟨by simp [mk_length]; omega, by show 0 ≤ st.sent + (L.length : Int); omega, by show st.sent + (L.length : Int) ≤ N + 256; omega, fun x hx => ?_⟩
      rcases List.mem_append.1 hx with hx | hx
      · exact h4 x hx
      · exact hL _ (mk_mem hx)
theorem fine_take {st : St} {N : Int} (h : Fine st N) (p : Int) : Fine (takeS st p) N := by
  unfold takeS
  split
  · refine ⟨Nat.le_trans (List.length_eraseIdx_le _ _) h.1, h.2.1, h.2.2.1, fun x hx => h.2.2.2 x (List.mem_of_mem_eraseIdx hx)⟩
  · exact h
theorem fine_twice {st : St} {N : Int} (h : Fine st N) (p : Int) : Fine (twiceS st p) (N + 256) := by
  unfold twiceS
  split
  · rename_i hp
    refine fine_send h _ _ _ (fun s hs => ?_)
    simp at hs
    subst hs
    obtain ⟨q, rfl⟩ := Int.eq_ofNat_of_zero_le hp.1
    have hq : q < st.l.length := by omega
    rw [show ((q : Nat) : Int).toNat = q by omega]
    simp [List.getD, hq]
    exact h.2.2.2 _ (List.getElem_mem hq)
  · exact fine_mono h (by omega)
theorem fine_does {st : St} {N : Int} (h : Fine st N) (x : Dd) (hL : ∀ s ∈ x.L, s.size ≤ 9223372036854775807) : Fine (doesS st x) (N + 256) := by
  unfold doesS
  split
  · exact fine_send h _ _ _ hL
  · split
    · exact fine_mono (fine_take h _) (by omega)
    · exact fine_twice h _
/-- The state behind the first k deeds. -/
def run (st : St) (l : List Dd) : St := l.foldl doesS st
theorem run_snoc (st : St) (l : List Dd) (x : Dd) : run st (l ++ [x]) = doesS (run st l) x := by simp [run]
theorem fine_run (l : List Dd) (hl : ∀ x ∈ l, ∀ s ∈ x.L, s.size ≤ 9223372036854775807) : ∀ {st : St} {N : Int}, Fine st N → Fine (run st l) (N + 256 * l.length) := by
  induction l with
  | nil => intro st N h; simpa [run] using h
  | cons x l ih =>
    intro st N h
    have := ih (fun y hy => hl y (List.mem_cons_of_mem _ hy)) (fine_does h x (hl x (by simp)))
    exact fine_mono this (by simp; omega)
/-! ### Deeds as they lie, and as they are -/
def Fits (w : World) (B : Nat) (d : DV) (x : Dd) : Prop := d.k = x.k ∧ d.n = x.n ∧ d.d = x.d ∧ d.f = x.f ∧ d.len = x.L.length ∧ d.len ≤ d.c ∧ Texts w B d.a x.L
theorem texts_take {w : World} {B : Nat} {a : Option Addr} {L : List ByteArray} (h : Texts w B a L) (n : Nat) : Texts w B a (L.take n) := by
  obtain ⟨h1, h2, h3⟩ := h
  refine ⟨?_, fun b off e => (h2 b off e).imp (fun h => by rw [h]; simp) id, fun s hs => h3 s (List.mem_of_mem_take hs)⟩
  rcases h1 with rfl | ⟨b, off, rfl, hc⟩
  · exact .inl (by simp)
  · exact .inr ⟨b, off, rfl, fun i hi => by
      have e : (L.take n)[i] = L[i]'(by simp at hi; omega) := by simp
      rw [e]; exact hc i _⟩
theorem texts_wide {w : World} {B C : Nat} {a : Option Addr} {L : List ByteArray} (h : Texts w B a L) (hB : B ≤ C) : Texts w C a L := ⟨h.1, fun b off e => (h.2.1 b off e).imp id (fun q => Nat.lt_of_lt_of_le q hB), h.2.2⟩
def truncD (x : Dd) : Dd := { x with L := x.L.take 300 }
theorem fits_trunc {w : World} {B : Nat} {d : DV} {x : Dd} (h : Fits w B d x) : Fits w B (trunc d) (truncD x) := by
  obtain ⟨h1, h2, h3, h4, h5, h6, h7⟩ := h
  unfold trunc truncD
  split
  · exact ⟨h1, h2, h3, h4, by simp; omega, by show 300 ≤ d.c; omega, texts_take h7 300⟩
  · exact ⟨h1, h2, h3, h4, by simp; omega, h6, texts_take h7 300⟩
def fewD (l : List Dd) : List Dd := (l.take 80).map truncD
def AllFit (w : World) (B : Nat) (l : List DV) (k : List Dd) : Prop := l.length = k.length ∧ ∀ i (h : i < l.length) (h' : i < k.length), Fits w B l[i] k[i]
theorem few_fit {w : World} {B : Nat} {l : List DV} {k : List Dd} (h : AllFit w B l k) : AllFit w B (fewL l) (fewD k) := by
  obtain ⟨h1, h2⟩ := h
  refine ⟨by simp [fewL, fewD, h1], fun i hi hi' => ?_⟩
  simp only [fewL, fewD, List.getElem_map, List.getElem_take]
  exact fits_trunc (h2 i _ _)
theorem few_len (l : List Dd) : (fewD l).length ≤ 80 := by simp [fewD]; omega
theorem few_texts {w : World} {B : Nat} {l : List DV} {k : List Dd} (h : AllFit w B l k) : ∀ x ∈ fewD k, x.L.length ≤ 300 ∧ ∀ s ∈ x.L, s.size ≤ 9223372036854775807 := by
  intro x hx
  have hf := few_fit h
  obtain ⟨i, hi, rfl⟩ := List.mem_iff_getElem.1 hx
  have := hf.2 i (by rw [hf.1]; exact hi) hi
  refine ⟨?_, this.2.2.2.2.2.2.2.2⟩
  simp [fewD, truncD]; omega
/-! ### What a loop keeps: w2 is the world ahead of the loop -/
structure LInv (w2 : World) (m : Nat) (st : St) (v : Value) (wr : World) : Prop where
  mail : MailAt wr m st.sent v st.l
  only : Only (fun b => b = m) w2 wr
  row : ∀ b, v.ownBlock = some b → w2.heap.size ≤ b
theorem LInv.foot {w2 wr : World} {m : Nat} {st : St} {v : Value} (h : LInv w2 m st v wr) {b : Nat} (hb : b < w2.heap.size) (hm : b ≠ m) : ¬ foot m v b := by
  rintro (q | q)
  · exact hm q
  · have := h.row b q; omega
theorem LInv.did {w2 wr w' : World} {m : Nat} {st st' : St} {v r : Value} {e : Ending} (h : LInv w2 m st v wr) (hd : Did m v r st' wr e w') : ∃ v', e = .returned r ∧ LInv w2 m st' v' w' := by
  obtain ⟨he, v', h1, h2, h3⟩ := hd
  refine ⟨v', he, h1, h.only.trans h2 (fun b hb q => ?_), fun b hb => ?_⟩
  · rcases q with q | q
    · exact q
    · have := h.row b q; omega
  · rcases h3 b hb with q | q
    · exact h.row b q
    · have := h.only.size; omega
/-- A change of new blocks alone. -/
theorem LInv.later {w2 wr w' : World} {m : Nat} {st : St} {v : Value} (h : LInv w2 m st v wr) (hq : Only (fun _ => False) wr w') : LInv w2 m st v w' :=
  ⟨⟨hq.same h.mail.1 (fun q => q), h.mail.2.only hq (fun _ _ q => q)⟩, h.only.trans hq (fun _ _ q => q.elim), h.row⟩
theorem LInv.below {w2 wr : World} {m : Nat} {st : St} {v : Value} (h : LInv w2 m st v wr) {B : Nat} (hB : B ≤ m) (hm : B ≤ w2.heap.size) : Below B w2 wr := h.only.below hm (fun k hk => by rw [hk]; exact hB)
/-- A deed's cells, with what it is. -/
def DeedAt (w : World) (B : Nat) (b o : Nat) (x : Dd) : Prop := ∃ a c, w.cell? ⟨b, o, none⟩ = some (.int .i64 x.k) ∧ w.cell? ⟨b, o + 1, none⟩ = some (.int .i64 x.n) ∧ w.cell? ⟨b, o + 2, none⟩ = some (.int .i64 x.d) ∧ w.cell? ⟨b, o + 3, none⟩ = some (.int .i64 x.f) ∧
  w.cell? ⟨b, o + 4, none⟩ = some (.slice a x.L.length c) ∧ x.L.length ≤ c ∧ Texts w B a x.L
theorem deed_at {w : World} {B g cap : Nat} {l : List DV} {k : List Dd} (h : w.ownsRow 0 32 5 (.slice (some ⟨g, 0, none⟩) l.length cap) l.length (dcs l)) (hf : AllFit w B l k) (i : Nat) (hi : i < k.length) : DeedAt w B g (i * 5) k[i] := by
  have hi' : i < l.length := by rw [hf.1]; exact hi
  obtain ⟨e0, e1, e2, e3, e4⟩ := dcs_get l i hi'
  have hc := h.cells (g := g) rfl
  have add0 : ∀ j, (⟨g, 0, none⟩ : Addr).add j = ⟨g, j, none⟩ := fun j => by rw [Addr.add_lit]; simp
  obtain ⟨f1, f2, f3, f4, f5, f6, f7⟩ := hf.2 i hi' hi
  refine ⟨l[i].a, l[i].c, ?_, ?_, ?_, ?_, ?_, by omega, f7⟩
  · rw [← f1, ← add0]; exact hc _ _ e0
  · rw [← f2, ← add0]; exact hc _ _ e1
  · rw [← f3, ← add0]; exact hc _ _ e2
  · rw [← f4, ← add0]; exact hc _ _ e3
  · rw [← f5, ← add0]; exact hc _ _ e4
theorem DeedAt.move {w w' : World} {B C b o : Nat} {x : Dd} (h : DeedAt w B b o x) (hb : w'.heap[b]? = w.heap[b]?) (hB : Below B w w') (hC : B ≤ C) : DeedAt w' C b o x := by
  obtain ⟨a, c, h0, h1, h2, h3, h4, h5, h6⟩ := h
  have cc : ∀ j u, w.cell? ⟨b, j, none⟩ = some u → w'.cell? ⟨b, j, none⟩ = some u := fun j u h => (World.cell?_of_block (w := w) hb).trans h
  exact ⟨a, c, cc _ _ h0, cc _ _ h1, cc _ _ h2, cc _ _ h3, cc _ _ h4, h5, texts_wide (h6.move hB) hC⟩
/-- What few leaves, for the loops: the slice, and each deed. -/
theorem few_deeds {W w1 w2 : World} {rl : List DV} {ds : List Dd} {u : Value} (hf : AllFit W W.heap.size rl ds) (h1 : Below W.heap.size W w1) (hsz : W.heap.size ≤ w1.heap.size)
    (ho : w2.ownsRow 0 32 5 u (fewL rl).length (dcs (fewL rl))) (hb : Below w1.heap.size w1 w2) (hg : ∀ g, u.ownBlock = some g → w1.heap.size ≤ g) :
    ∃ a c, u = .slice a (fewD ds).length c ∧ (fewD ds = [] ∨ ∃ g, a = some ⟨g, 0, none⟩ ∧ w1.heap.size ≤ g ∧ g < w2.heap.size ∧ ∀ i (h : i < (fewD ds).length), DeedAt w2 W.heap.size g (i * 5) (fewD ds)[i]) := by
  have hff := few_fit hf
  have hl : (fewL rl).length = (fewD ds).length := hff.1
  have hB : Below W.heap.size W w2 := h1.trans (hb.mono hsz)
  have hm : AllFit w2 W.heap.size (fewL rl) (fewD ds) := ⟨hl, fun i h h' => by
    obtain ⟨f1, f2, f3, f4, f5, f6, f7⟩ := hff.2 i h h'
    exact ⟨f1, f2, f3, f4, f5, f6, Mg.Texts.move f7 hB⟩⟩
  rcases ho.2 with ⟨hu, h0⟩ | ⟨g, cap, cur, hu, _, hgr, hle, _⟩
  · refine ⟨none, 0, by rw [hu, ← hl, h0], .inl (List.length_eq_zero_iff.1 (by omega))⟩
  · refine ⟨_, cap, by rw [hu, hl], .inr ⟨g, rfl, hg g (by rw [hu]; rfl), lt_of_block hgr, fun i hi => ?_⟩⟩
    rw [hu] at ho
    exact deed_at ho hm i hi
theorem fits_ptr {W : World} {B : Nat} {rl : List DV} {ds : List Dd} (h : AllFit W B rl ds) : (∀ x ∈ rl, x.len ≤ x.c) ∧ ∀ x ∈ rl, (∃ aa, x.a = some aa) ∨ x.len = 0 := by
  refine ⟨fun x hx => ?_, fun x hx => ?_⟩
  · obtain ⟨i, hi, rfl⟩ := List.mem_iff_getElem.1 hx
    exact (h.2 i hi (by rw [← h.1]; exact hi)).2.2.2.2.2.1
  · obtain ⟨i, hi, rfl⟩ := List.mem_iff_getElem.1 hx
    obtain ⟨_, _, _, _, f5, _, f7, _, _⟩ := h.2 i hi (by rw [← h.1]; exact hi)
    rcases f7 with f7 | ⟨b, off, e, _⟩
    · right; rw [f5, f7]; rfl
    · exact .inl ⟨_, e⟩
end Go.Proofs.Ytcfmohhidbneoaa.Mh
