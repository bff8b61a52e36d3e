/- The contract of does: what a deed does, as a plain function on the state. -/
import Derived.Test.YtcfmohhidbneoaaMf
namespace Go.Proofs.Ytcfmohhidbneoaa.Mg
open Go.RowKit Go.Proofs.Ytcfmohhidbneoaa.Ma Go.Proofs.Ytcfmohhidbneoaa.Mw Go.Proofs.Ytcfmohhidbneoaa.Ms Go.Proofs.Ytcfmohhidbneoaa.Mc Go.Proofs.Ytcfmohhidbneoaa.Mt Go.Proofs.Ytcfmohhidbneoaa.Mu Go.Proofs.Ytcfmohhidbneoaa.Mf
set_option linter.unusedSimpArgs false
set_option linter.unusedVariables false
/-- A deed. -/
structure Dd where
  k : Int
  n : Int
  d : Int
  f : Int
  L : List ByteArray
def isSend (k : Int) : Prop := k = 0 ∨ k = 1 ∨ k = 2
def isTake (k : Int) : Prop := k = 3 ∨ k = 4
instance (k : Int) : Decidable (isSend k) := by unfold isSend; infer_instance
instance (k : Int) : Decidable (isTake k) := by unfold isTake; infer_instance
def doesS (st : St) (x : Dd) : St := if isSend x.k then sendS st x.d x.f x.L else if isTake x.k then takeS st x.n else twiceS st x.n
def doesP (st : St) (x : Dd) : Pk := if isSend x.k then Pk.zero else if isTake x.k then takeP st x.n else Pk.zero
def doesB (st : St) (x : Dd) : Bool := if isSend x.k then false else if isTake x.k then decide (takeR st x.n = 0) else false
/-- The deed's texts lie in memory, in a block below B. -/
def Texts (w : World) (B : Nat) (a : Option Addr) (L : List ByteArray) : Prop :=
  StrsAt w a L ∧ (∀ b off, a = some ⟨b, off, none⟩ → L = [] ∨ b < B) ∧ ∀ s ∈ L, s.size ≤ 9223372036854775807
theorem Texts.move {w w' : World} {B : Nat} {a : Option Addr} {L : List ByteArray} (h : Texts w B a L) (hb : Below B w w') : Texts w' B a L := by
  obtain ⟨h1, h2, h3⟩ := h
  refine ⟨?_, h2, h3⟩
  rcases h1 with h1 | ⟨b, off, rfl, hc⟩
  · exact .inl h1
  · exact .inr ⟨b, off, rfl, fun i hi => (hb.cell (p := ⟨b, off + i, none⟩) ((h2 b off rfl).resolve_left (by intro h; rw [h] at hi; simp at hi))).trans (hc i hi)⟩
/-- Boxes of the call's own ahead of the method's call, and a store into one of them behind it. -/
theorem did_lift {w W1 w2 : World} {m : Nat} {v r : Value} {st' : St} {e : Ending} (hq : Quiet w W1) (hd : Did m v r st' W1 e w2) (hm : MailAt w m st'.sent v [] ∨ m < w.heap.size) (hv : ∀ g, v.ownBlock = some g → g < w.heap.size) :
    ∃ v', MailAt w2 m st'.sent v' st'.l ∧ Only (foot m v) w w2 ∧ NextV w v v' ∧ ∀ g, v'.ownBlock = some g → g < w.heap.size ∨ W1.heap.size ≤ g := by
  obtain ⟨_, v', h1, h2, h3⟩ := hd
  refine ⟨v', h1, (hq.mono (fun _ _ h => h.elim)).trans h2 (fun _ _ h => h), fun g hg => ?_, fun g hg => ?_⟩
  · rcases h3 g hg with h | h
    · exact .inl h
    · right; have := hq.size; omega
  · rcases h3 g hg with h | h
    · exact .inl (hv g h)
    · exact .inr h
theorem block_new2 (w : World) (o o' : Obj) : ((w.alloc o).alloc o').heap[w.heap.size + 1]? = some o' := by
  have := block_new (w.alloc o) o'
  simpa using this
theorem mail_set {w2 : World} {m q i : Nat} {st' : St} {v' u : Value} (h : MailAt w2 m st'.sent v' st'.l) (hq : m ≠ q) (hv : v'.ownBlock ≠ some q) : MailAt (w2.setCell ⟨q, i, none⟩ u) m st'.sent v' st'.l :=
  ⟨block_far h.1 hq _, h.2.move fun b hb => Below.heap_setCell _ _ _ _ (by rintro rfl; exact hv hb)⟩
theorem mail_alloc {w2 : World} {m : Nat} {st' : St} {v' : Value} (h : MailAt w2 m st'.sent v' st'.l) (o : Obj) : MailAt (w2.alloc o) m st'.sent v' st'.l :=
  ⟨block_alloc h.1 _, h.2.move fun b hb => Below.heap_alloc _ _ _ (h.2.lt hb)⟩
theorem does_send {st : St} {x : Dd} (h : isSend x.k) : doesS st x = sendS st x.d x.f x.L ∧ doesP st x = Pk.zero ∧ doesB st x = false := by simp [doesS, doesP, doesB, h]
theorem does_take {st : St} {x : Dd} (h : isTake x.k) : doesS st x = takeS st x.n ∧ doesP st x = takeP st x.n ∧ doesB st x = decide (takeR st x.n = 0) := by
  have : ¬ isSend x.k := by unfold isTake at h; unfold isSend; omega
  simp [doesS, doesP, doesB, h, this]
theorem does_twice {st : St} {x : Dd} (h : ¬ isSend x.k) (h' : ¬ isTake x.k) : doesS st x = twiceS st x.n ∧ doesP st x = Pk.zero ∧ doesB st x = false := by simp [doesS, doesP, doesB, h, h']
set_option maxHeartbeats 1600000 in
theorem does_any_send (m : Nat) (v : Value) (st : St) (N : Int) (x : Dd) (a : Option Addr) (c : Nat) (w : World) (hm : MailAt w m st.sent v st.l) (hf : Fine st N) (hN : N ≤ 1000000) (hc : x.L.length ≤ c) (hn : x.L.length ≤ 9223372036854775807)
    (hL : Texts w w.heap.size a x.L) (hap : ∀ b off, a = some ⟨b, off, none⟩ → x.L = [] ∨ ¬ foot m v b) (hk : isSend x.k) :
    Calls Try.prog 10 #[.pointer (some ⟨m, 0, none⟩), .agg #[.int .i64 x.k, .int .i64 x.n, .int .i64 x.d, .int .i64 x.f, .slice a x.L.length c]] w (Did m v (.tuple #[(doesP st x).agg, .bool (doesB st x)]) (doesS st x) w) := by
  obtain ⟨e1, e2, e3⟩ := does_send (st := st) hk
  rw [e1, e2, e3]
  have hml := lt_of_block hm.1
  have hvl : ∀ g, v.ownBlock = some g → g < w.heap.size := fun g hg => hm.2.lt hg
  obtain ⟨k, n, d, f, L⟩ := x
  simp only [] at *
  have HM := Lib.hid hm
  have HF := Lib.hid hf
  have HL := Lib.hid hL
  have HAP := Lib.hid hap
  have HV := Lib.hid hvl
  clear e1 e2 e3 hm hf hL hap hvl
  rcases hk with rfl | rfl | rfl
  all_goals
    go_enter Try.func10, Try.ntmps10
    go_wp2_with fail
    refine Calls.mono (send_all m v st N d f a L c _ ?_ HF.out hN hc hn ?_ HAP.out HL.out.2.2) ?_
    case refine_1 => exact ⟨block_alloc (block_alloc HM.out.1 _) _, HM.out.2.only (((Only.refl (fun _ => False) w).alloc _).alloc _) (fun _ _ h => h)⟩
    case refine_2 => exact (HL.out.move (((Below.refl _ _).alloc (Nat.le_refl _) _).alloc (by simp) _)).1
    case refine_3 =>
      intro e w2 hd
      have he := hd.1
      subst he
      obtain ⟨v', h1, h2, h3, h4⟩ := did_lift (((Only.refl (fun _ => False) w).alloc _).alloc _) hd (.inr hml) HV.out
      have b4 : w2.heap[w.heap.size + 1]? = some (.cells #[.int .i64 0, .int .i64 0, .int .i64 0, .string ⟨#[]⟩] 27 (0, 0)) := by
        obtain ⟨_, v'', _, g2, _⟩ := hd
        refine g2.same (b := w.heap.size + 1) (block_new2 _ _ _) ?_
        · rintro (q | q)
          · omega
          · have := HV.out _ q; omega
      have H1 := Lib.hid h1
      have H2 := Lib.hid h2
      have H3 := Lib.hid h3
      have H4 := Lib.hid h4
      have hsz : w.heap.size + 1 < w2.heap.size := lt_of_block b4
      have z0 : w2.cell? ⟨w.heap.size + 1, 0, none⟩ = some (.int .i64 0) := cell_of b4 0
      have z1 : w2.cell? ⟨w.heap.size + 1, 1, none⟩ = some (.int .i64 0) := cell_of b4 1
      have z2 : w2.cell? ⟨w.heap.size + 1, 2, none⟩ = some (.int .i64 0) := cell_of b4 2
      have z3 : w2.cell? ⟨w.heap.size + 1, 3, none⟩ = some (.string ⟨#[]⟩) := cell_of b4 3
      have y0 : w2.frozen? ⟨w.heap.size + 1, 0, none⟩ = false := free_of b4 0
      have y1 : w2.frozen? ⟨w.heap.size + 1, 1, none⟩ = false := free_of b4 1
      have y2 : w2.frozen? ⟨w.heap.size + 1, 2, none⟩ = false := free_of b4 2
      have y3 : w2.frozen? ⟨w.heap.size + 1, 3, none⟩ = false := free_of b4 3
      clear hd h1 h2 h3 h4 b4
      go_wp2_with fail
      have hmq : m ≠ w.heap.size + 1 := by omega
      have hvq : v'.ownBlock ≠ some (w.heap.size + 1) := by
        intro q
        have := H4.out _ q
        simp at this
        omega
      refine bodyPost_ret (v := .tuple #[Pk.zero.agg, .bool false]) (by simp [results, Try.results10, go_sem, Pk.agg, Pk.zero, hsz, z0, z1, z2, z3]) rfl ⟨rfl, v', mail_set (mail_set (mail_set (mail_set H1.out hmq hvq) hmq hvq) hmq hvq) hmq hvq, ?_, H3.out⟩
      exact (((H2.out.setCell (p := ⟨w.heap.size + 1, 0, none⟩) (.inl (by show w.heap.size ≤ w.heap.size + 1; omega)) _).setCell (p := ⟨w.heap.size + 1, 1, none⟩) (.inl (by show w.heap.size ≤ w.heap.size + 1; omega)) _).setCell (p := ⟨w.heap.size + 1, 2, none⟩) (.inl (by show w.heap.size ≤ w.heap.size + 1; omega)) _).setCell (p := ⟨w.heap.size + 1, 3, none⟩) (.inl (by show w.heap.size ≤ w.heap.size + 1; omega)) _
set_option maxHeartbeats 1600000 in
theorem does_any_twice (m : Nat) (v : Value) (st : St) (N : Int) (x : Dd) (a : Option Addr) (c : Nat) (w : World) (hm : MailAt w m st.sent v st.l) (hf : Fine st N) (hN : N ≤ 1000000) (hc : x.L.length ≤ c) (hn : x.L.length ≤ 9223372036854775807)
    (hL : Texts w w.heap.size a x.L) (hap : ∀ b off, a = some ⟨b, off, none⟩ → x.L = [] ∨ ¬ foot m v b) (hk : ¬ isSend x.k) (hk' : ¬ isTake x.k) :
    Calls Try.prog 10 #[.pointer (some ⟨m, 0, none⟩), .agg #[.int .i64 x.k, .int .i64 x.n, .int .i64 x.d, .int .i64 x.f, .slice a x.L.length c]] w (Did m v (.tuple #[(doesP st x).agg, .bool (doesB st x)]) (doesS st x) w) := by
  obtain ⟨e1, e2, e3⟩ := does_twice (st := st) hk hk'
  rw [e1, e2, e3]
  have hml := lt_of_block hm.1
  have hvl : ∀ g, v.ownBlock = some g → g < w.heap.size := fun g hg => hm.2.lt hg
  obtain ⟨k, n, d, f, L⟩ := x
  simp only [] at *
  have HM := Lib.hid hm
  have HF := Lib.hid hf
  have HL := Lib.hid hL
  have HAP := Lib.hid hap
  have HV := Lib.hid hvl
  clear e1 e2 e3 hm hf hL hap hvl
  have k0 : (k == 0) = false := by simp only [isSend] at hk; simp; omega
  have k1 : (k == 1) = false := by simp only [isSend] at hk; simp; omega
  have k2 : (k == 2) = false := by simp only [isSend] at hk; simp; omega
  have k3 : (k == 3) = false := by simp only [isTake] at hk'; simp; omega
  have k4 : (k == 4) = false := by simp only [isTake] at hk'; simp; omega
  clear hk hk'
  all_goals
    go_enter Try.func10, Try.ntmps10
    go_wp2_with fail
    refine Calls.mono (twice_all m v st N n _ ?_ HF.out hN) ?_
    case refine_1 => exact ⟨block_alloc (block_alloc HM.out.1 _) _, HM.out.2.only (((Only.refl (fun _ => False) w).alloc _).alloc _) (fun _ _ h => h)⟩
    case refine_2 =>
      intro e w2 hd
      have he := hd.1
      subst he
      obtain ⟨v', h1, h2, h3, h4⟩ := did_lift (((Only.refl (fun _ => False) w).alloc _).alloc _) hd (.inr hml) HV.out
      have b4 : w2.heap[w.heap.size + 1]? = some (.cells #[.int .i64 0, .int .i64 0, .int .i64 0, .string ⟨#[]⟩] 27 (0, 0)) := by
        obtain ⟨_, v'', _, g2, _⟩ := hd
        refine g2.same (b := w.heap.size + 1) (block_new2 _ _ _) ?_
        · rintro (q | q)
          · omega
          · have := HV.out _ q; omega
      have H1 := Lib.hid h1
      have H2 := Lib.hid h2
      have H3 := Lib.hid h3
      have H4 := Lib.hid h4
      have hsz : w.heap.size + 1 < w2.heap.size := lt_of_block b4
      have z0 : w2.cell? ⟨w.heap.size + 1, 0, none⟩ = some (.int .i64 0) := cell_of b4 0
      have z1 : w2.cell? ⟨w.heap.size + 1, 1, none⟩ = some (.int .i64 0) := cell_of b4 1
      have z2 : w2.cell? ⟨w.heap.size + 1, 2, none⟩ = some (.int .i64 0) := cell_of b4 2
      have z3 : w2.cell? ⟨w.heap.size + 1, 3, none⟩ = some (.string ⟨#[]⟩) := cell_of b4 3
      have y0 : w2.frozen? ⟨w.heap.size + 1, 0, none⟩ = false := free_of b4 0
      have y1 : w2.frozen? ⟨w.heap.size + 1, 1, none⟩ = false := free_of b4 1
      have y2 : w2.frozen? ⟨w.heap.size + 1, 2, none⟩ = false := free_of b4 2
      have y3 : w2.frozen? ⟨w.heap.size + 1, 3, none⟩ = false := free_of b4 3
      clear hd h1 h2 h3 h4 b4
      go_wp2_with fail
      have hmq : m ≠ w.heap.size + 1 := by omega
      have hvq : v'.ownBlock ≠ some (w.heap.size + 1) := by
        intro q
        have := H4.out _ q
        simp at this
        omega
      refine bodyPost_ret (v := .tuple #[Pk.zero.agg, .bool false]) (by simp [results, Try.results10, go_sem, Pk.agg, Pk.zero, hsz, z0, z1, z2, z3]) rfl ⟨rfl, v', mail_set (mail_set (mail_set (mail_set H1.out hmq hvq) hmq hvq) hmq hvq) hmq hvq, ?_, H3.out⟩
      exact (((H2.out.setCell (p := ⟨w.heap.size + 1, 0, none⟩) (.inl (by show w.heap.size ≤ w.heap.size + 1; omega)) _).setCell (p := ⟨w.heap.size + 1, 1, none⟩) (.inl (by show w.heap.size ≤ w.heap.size + 1; omega)) _).setCell (p := ⟨w.heap.size + 1, 2, none⟩) (.inl (by show w.heap.size ≤ w.heap.size + 1; omega)) _).setCell (p := ⟨w.heap.size + 1, 3, none⟩) (.inl (by show w.heap.size ≤ w.heap.size + 1; omega)) _
set_option maxHeartbeats 1600000 in
theorem does_any_take (m : Nat) (v : Value) (st : St) (N : Int) (x : Dd) (a : Option Addr) (c : Nat) (w : World) (hm : MailAt w m st.sent v st.l) (hf : Fine st N) (hN : N ≤ 1000000) (hc : x.L.length ≤ c) (hn : x.L.length ≤ 9223372036854775807)
    (hL : Texts w w.heap.size a x.L) (hap : ∀ b off, a = some ⟨b, off, none⟩ → x.L = [] ∨ ¬ foot m v b) (hk : isTake x.k) :
    Calls Try.prog 10 #[.pointer (some ⟨m, 0, none⟩), .agg #[.int .i64 x.k, .int .i64 x.n, .int .i64 x.d, .int .i64 x.f, .slice a x.L.length c]] w (Did m v (.tuple #[(doesP st x).agg, .bool (doesB st x)]) (doesS st x) w) := by
  obtain ⟨e1, e2, e3⟩ := does_take (st := st) hk
  rw [e1, e2, e3]
  have hml := lt_of_block hm.1
  have hvl : ∀ g, v.ownBlock = some g → g < w.heap.size := fun g hg => hm.2.lt hg
  obtain ⟨k, n, d, f, L⟩ := x
  simp only [] at *
  have HM := Lib.hid hm
  have HF := Lib.hid hf
  have HL := Lib.hid hL
  have HAP := Lib.hid hap
  have HV := Lib.hid hvl
  clear e1 e2 e3 hm hf hL hap hvl
  rcases hk with rfl | rfl
  all_goals
    go_enter Try.func10, Try.ntmps10
    go_wp2_with fail
    refine Calls.mono (take_all m v st N n _ ?_ HF.out) ?_
    case refine_1 => exact ⟨block_alloc (block_alloc HM.out.1 _) _, HM.out.2.only (((Only.refl (fun _ => False) w).alloc _).alloc _) (fun _ _ h => h)⟩
    case refine_2 =>
      intro e w2 hd
      have he := hd.1
      subst he
      obtain ⟨v', h1, h2, h3, h4⟩ := did_lift (((Only.refl (fun _ => False) w).alloc _).alloc _) hd (.inr hml) HV.out
      have b4 : w2.heap[w.heap.size + 1]? = some (.cells #[.int .i64 0, .int .i64 0, .int .i64 0, .string ⟨#[]⟩] 27 (0, 0)) := by
        obtain ⟨_, v'', _, g2, _⟩ := hd
        refine g2.same (b := w.heap.size + 1) (block_new2 _ _ _) ?_
        · rintro (q | q)
          · omega
          · have := HV.out _ q; omega
      have H1 := Lib.hid h1
      have H2 := Lib.hid h2
      have H3 := Lib.hid h3
      have H4 := Lib.hid h4
      have hsz : w.heap.size + 1 < w2.heap.size := lt_of_block b4
      have z0 : w2.cell? ⟨w.heap.size + 1, 0, none⟩ = some (.int .i64 0) := cell_of b4 0
      have z1 : w2.cell? ⟨w.heap.size + 1, 1, none⟩ = some (.int .i64 0) := cell_of b4 1
      have z2 : w2.cell? ⟨w.heap.size + 1, 2, none⟩ = some (.int .i64 0) := cell_of b4 2
      have z3 : w2.cell? ⟨w.heap.size + 1, 3, none⟩ = some (.string ⟨#[]⟩) := cell_of b4 3
      have y0 : w2.frozen? ⟨w.heap.size + 1, 0, none⟩ = false := free_of b4 0
      have y1 : w2.frozen? ⟨w.heap.size + 1, 1, none⟩ = false := free_of b4 1
      have y2 : w2.frozen? ⟨w.heap.size + 1, 2, none⟩ = false := free_of b4 2
      have y3 : w2.frozen? ⟨w.heap.size + 1, 3, none⟩ = false := free_of b4 3
      clear hd h1 h2 h3 h4 b4
      generalize hy : takeP st n = y
      generalize hr : takeR st n = r
      have HY := Lib.hid hy
      have HR := Lib.hid hr
      clear hy hr
      have er : (r == 0) = decide (r = 0) := by rw [Bool.eq_iff_iff]; simp
      have ER := Lib.hid er
      clear er
      simp only [Pk.agg]
      go_wp2_with fail
      have hmq : m ≠ w.heap.size + 1 := by omega
      have hvq : v'.ownBlock ≠ some (w.heap.size + 1) := by
        intro q
        have := H4.out _ q
        simp at this
        omega
      rw [HY.out, HR.out]
      refine bodyPost_ret (v := .tuple #[y.agg, .bool (decide (r = 0))]) (by rw [← ER.out]; simp [results, Try.results10, go_sem, Pk.agg, hsz, z0, z1, z2, z3]) rfl ⟨rfl, v', mail_alloc (mail_set (mail_set (mail_set (mail_set H1.out hmq hvq) hmq hvq) hmq hvq) hmq hvq) _, ?_, H3.out⟩
      exact ((((H2.out.setCell (p := ⟨w.heap.size + 1, 0, none⟩) (.inl (by show w.heap.size ≤ w.heap.size + 1; omega)) _).setCell (p := ⟨w.heap.size + 1, 1, none⟩) (.inl (by show w.heap.size ≤ w.heap.size + 1; omega)) _).setCell (p := ⟨w.heap.size + 1, 2, none⟩) (.inl (by show w.heap.size ≤ w.heap.size + 1; omega)) _).setCell (p := ⟨w.heap.size + 1, 3, none⟩) (.inl (by show w.heap.size ≤ w.heap.size + 1; omega)) _).alloc _
/-- Whatever the deed. -/
theorem does_any (m : Nat) (v : Value) (st : St) (N : Int) (x : Dd) (a : Option Addr) (c : Nat) (w : World) (hm : MailAt w m st.sent v st.l) (hf : Fine st N) (hN : N ≤ 1000000) (hc : x.L.length ≤ c) (hn : x.L.length ≤ 9223372036854775807)
    (hL : Texts w w.heap.size a x.L) (hap : ∀ b off, a = some ⟨b, off, none⟩ → x.L = [] ∨ ¬ foot m v b) :
    Calls Try.prog 10 #[.pointer (some ⟨m, 0, none⟩), .agg #[.int .i64 x.k, .int .i64 x.n, .int .i64 x.d, .int .i64 x.f, .slice a x.L.length c]] w (Did m v (.tuple #[(doesP st x).agg, .bool (doesB st x)]) (doesS st x) w) := by
  by_cases h : isSend x.k
  · exact does_any_send m v st N x a c w hm hf hN hc hn hL hap h
  by_cases h' : isTake x.k
  · exact does_any_take m v st N x a c w hm hf hN hc hn hL hap h'
  · exact does_any_twice m v st N x a c w hm hf hN hc hn hL hap h h'
end Go.Proofs.Ytcfmohhidbneoaa.Mg
