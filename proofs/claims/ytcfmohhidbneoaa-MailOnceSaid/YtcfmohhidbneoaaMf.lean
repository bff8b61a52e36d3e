/- Deeds in memory, and the contract of few: the first 80 deeds, of each the first 300 texts. -/
import Derived.Test.YtcfmohhidbneoaaMk
namespace Go.Proofs.Ytcfmohhidbneoaa.Mf
open Go.RowKit Go.Proofs.Ytcfmohhidbneoaa.Ma Go.Proofs.Ytcfmohhidbneoaa.Mw Go.Proofs.Ytcfmohhidbneoaa.Ms
set_option linter.unusedSimpArgs false
set_option linter.unusedVariables false
theorem info32 : (Try.prog.info? 32).map (fun i => (i.zero, i.size, i.bytes)) = some (some (.agg #[.int .i64 0, .int .i64 0, .int .i64 0, .int .i64 0, .slice none 0 0]), 5, 56) := by kernel_rfl
/-- A deed as it lies in memory: four numbers and a slice. -/
structure DV where
  k : Int
  n : Int
  d : Int
  f : Int
  a : Option Addr
  len : Nat
  c : Nat
def DV.cells (x : DV) : List Value := [.int .i64 x.k, .int .i64 x.n, .int .i64 x.d, .int .i64 x.f, .slice x.a x.len x.c]
def dcs (l : List DV) : List Value := l.flatMap DV.cells
theorem dcs_append (l k : List DV) : dcs (l ++ k) = dcs l ++ dcs k := by simp [dcs]
theorem dcs_length (l : List DV) : (dcs l).length = l.length * 5 := by
  induction l with
  | nil => rfl
  | cons p l ih => show (p.cells ++ dcs l).length = _; rw [List.length_append, ih]; simp [DV.cells]; omega
theorem dcs_get (l : List DV) : ∀ i (h : i < l.length), (dcs l)[i * 5]? = some (.int .i64 l[i].k) ∧ (dcs l)[i * 5 + 1]? = some (.int .i64 l[i].n) ∧ (dcs l)[i * 5 + 2]? = some (.int .i64 l[i].d) ∧ (dcs l)[i * 5 + 3]? = some (.int .i64 l[i].f) ∧ (dcs l)[i * 5 + 4]? = some (.slice l[i].a l[i].len l[i].c) := by
  induction l with
  | nil => intro i h; simp at h
  | cons p l ih =>
    intro i h
    cases i with
    | zero => simp [dcs, DV.cells]
    | succ i =>
      have := ih i (by simpa using h)
      have e (k : Nat) : (dcs (p :: l))[(i + 1) * 5 + k]? = (dcs l)[i * 5 + k]? := by
        show (p.cells ++ dcs l)[(i + 1) * 5 + k]? = _
        rw [List.getElem?_append_right (by simp [DV.cells]; omega)]
        congr 1; simp [DV.cells]; omega
      have e0 := e 0
      simp only [Nat.add_zero] at e0
      rw [e0, e 1, e 2, e 3, e 4]
      simpa using this
/-- Deeds behind a slice's address. -/
def RawAt (w : World) (A : Option Addr) (l : List DV) : Prop :=
  l = [] ∨ ∃ b off, A = some ⟨b, off, none⟩ ∧ ∀ i (h : i < l.length), w.cell? ⟨b, off + i * 5, none⟩ = some (.int .i64 l[i].k) ∧ w.cell? ⟨b, off + i * 5 + 1, none⟩ = some (.int .i64 l[i].n) ∧ w.cell? ⟨b, off + i * 5 + 2, none⟩ = some (.int .i64 l[i].d) ∧
    w.cell? ⟨b, off + i * 5 + 3, none⟩ = some (.int .i64 l[i].f) ∧ w.cell? ⟨b, off + i * 5 + 4, none⟩ = some (.slice l[i].a l[i].len l[i].c)
def trunc (x : DV) : DV := if 300 < x.len then { x with len := 300 } else x
def fewL (l : List DV) : List DV := (l.take 80).map trunc
/-- What few leaves: a slice of its own. -/
def Few (w : World) (l : List DV) (e : Ending) (w' : World) : Prop := ∃ u, e = .returned u ∧ w'.ownsRow 0 32 5 u (fewL l).length (dcs (fewL l)) ∧ Below w.heap.size w w' ∧ ∀ g, u.ownBlock = some g → w.heap.size ≤ g
/-- What a round finds. -/
def FInv (w : World) (l : List DV) (k : Nat) (v : Value) (wr : World) : Prop :=
  wr.ownsRow 0 32 5 v k (dcs ((l.take k).map trunc)) ∧ Below w.heap.size w wr ∧ ∀ g, v.ownBlock = some g → w.heap.size ≤ g
theorem finv_step {w wr W1 w1 : World} {l : List DV} {k : Nat} {v : Value} {g cap : Nat} (h : FInv w l k v wr) (hk : k < l.length) (hW : Below w.heap.size wr W1) (hsz : wr.heap.size ≤ W1.heap.size)
    (hown : w1.ownsRow 0 32 5 (.slice (some ⟨g, 0, none⟩) (k + 1) cap) (k + 1) (dcs ((l.take k).map trunc) ++ (trunc l[k]).cells)) (hgrow : W1.grownBy w1 v.ownBlock) (hat : v.ownBlock = some g ∨ w.heap.size ≤ g) :
    FInv w l (k + 1) (.slice (some ⟨g, 0, none⟩) (k + 1) cap) w1 := by
  obtain ⟨h1, h2, h3⟩ := h
  refine ⟨?_, (h2.trans hW).grown hgrow (by have := h2.size; omega) h3, fun b hb => ?_⟩
  · have e : dcs ((l.take (k + 1)).map trunc) = dcs ((l.take k).map trunc) ++ (trunc l[k]).cells := by
      rw [List.take_succ_eq_append_getElem hk, List.map_append, dcs_append]; simp [dcs]
    rw [e]; exact hown
  · cases hb
    rcases hat with q | q
    · exact h3 _ q
    · exact q
set_option maxHeartbeats 1600000 in
theorem few_any (A : Option Addr) (l : List DV) (c : Nat) (w : World) (hc : l.length ≤ c) (hn : l.length ≤ 9223372036854775807) (hR : RawAt w A l) (hl : ∀ x ∈ l, x.len ≤ x.c) (ha : ∀ x ∈ l, (∃ aa, x.a = some aa) ∨ x.len = 0) :
    Calls Try.prog 9 #[.slice A l.length c] w (Few w l) := by
  rcases hR with rfl | ⟨b, off, rfl, hcell⟩
  · go_enter Try.func9, Try.ntmps9
    go_wp2_with fail
    go_loop [3, 4] (fun v i => v = .slice none 0 0 ∧ i = .int .i64 0) (fun _ _ => 0)
    case atStart => exact ⟨rfl, rfl⟩
    case round =>
      obtain ⟨rfl, rfl⟩ := hrel
      go_wp2_with fail
      go_ret
      exact ⟨_, rfl, World.ownsRow_nil _ _ _ _, Below.refl _ _, fun g hg => by cases hg⟩
  by_cases h80 : 80 < l.length
  · obtain ⟨L, hL⟩ : ∃ L, L = l.take 80 := ⟨_, rfl⟩
    have hLl : L.length = 80 := by rw [hL, List.length_take]; omega
    have hf : fewL l = L.map trunc := by rw [hL]; rfl
    have hcL : ∀ i (h : i < L.length), w.cell? ⟨b, off + i * 5, none⟩ = some (.int .i64 L[i].k) ∧ w.cell? ⟨b, off + i * 5 + 1, none⟩ = some (.int .i64 L[i].n) ∧ w.cell? ⟨b, off + i * 5 + 2, none⟩ = some (.int .i64 L[i].d) ∧
        w.cell? ⟨b, off + i * 5 + 3, none⟩ = some (.int .i64 L[i].f) ∧ w.cell? ⟨b, off + i * 5 + 4, none⟩ = some (.slice L[i].a L[i].len L[i].c) := by
      intro i hi
      have e : L[i] = l[i]'(by omega) := by simp [hL]
      rw [e]; exact hcell i (by omega)
    have hlL : ∀ i (h : i < L.length), L[i].len ≤ L[i].c := by intro i hi; exact hl _ (by simp only [hL]; exact List.mem_of_mem_take (List.getElem_mem _))
    have haL : ∀ i (h : i < L.length), (∃ aa, L[i].a = some aa) ∨ L[i].len = 0 := by intro i hi; exact ha _ (by simp only [hL]; exact List.mem_of_mem_take (List.getElem_mem _))
    have h80c : 80 ≤ c := by omega
    have h80d : decide ((80 : Int) < l.length) = true := by simp; omega
    have hLl' : L.length ≤ 80 := by omega
    have hLg : 80 ≤ L.length := by omega
    have HC := Lib.hid hcL
    have HL := Lib.hid hlL
    have HA := Lib.hid haL
    have HF := Lib.hid hf
    clear hcell hcL hL hl ha hlL haL hLl hf
    go_enter Try.func9, Try.ntmps9
    go_wp2_with fail
    go_loopw [3, 4] (fun v i wr => ∃ (k : Nat) (u : Value), k ≤ L.length ∧ i = .int .i64 k ∧ u = v ∧ FInv w L k u wr) (fun _ i _ => L.length - (intOf i).toNat)
    case atStart => exact ⟨0, _, by omega, rfl, rfl, World.ownsRow_nil _ _ _ _, Below.refl _ _, fun g hg => by cases hg⟩
    case round =>
      obtain ⟨k, u, hk, rfl, rfl, hI⟩ := hrel
      have HI := Lib.hid hI
      have hkL : k ≤ 80 := by omega
      by_cases hlt : k < L.length
      · obtain ⟨c0, c1, c2, c3, c4⟩ := HC.out k hlt
        have hbel := hI.2.1
        have cc : ∀ j v, w.cell? ⟨b, j, none⟩ = some v → wr.cell? ⟨b, j, none⟩ = some v := fun j v h => (hbel.cell (p := ⟨b, j, none⟩) (World.block_lt_of_cell? _ _ h)).trans h
        have c0 := cc _ _ c0
        have c1 := cc _ _ c1
        have c2 := cc _ _ c2
        have c3 := cc _ _ c3
        have c4 := cc _ _ c4
        have hbw : b < wr.heap.size := World.block_lt_of_cell? _ _ c0
        obtain ⟨x, hx⟩ : ∃ x, x = L[k] := ⟨_, rfl⟩
        rw [← hx] at c0 c1 c2 c3 c4
        have HX := Lib.hid hx
        obtain ⟨X, hX⟩ : ∃ X, X = dcs ((L.take k).map trunc) := ⟨_, rfl⟩
        have hown := hI.1
        rw [← hX] at hown
        have HX2 := Lib.hid hX
        have HO := Lib.hid hown
        have hlt' : (k : Int) < 80 := by omega
        have hk0 : (0 : Int) ≤ (k : Int) := by omega
        obtain ⟨i0, hi0, hz0, hz1, hz2⟩ := info_parts info32
        by_cases h300 : 300 < x.len
        · have e300 : trunc x = { x with len := 300 } := by simp [trunc, h300]
          have E300 := Lib.hid e300
          have hxc : 300 ≤ x.c := by have := HL.out k hlt; rw [HX.out] at h300 ⊢; omega
          have hxc' : x.len ≤ x.c := by have := HL.out k hlt; rw [HX.out]; omega
          obtain ⟨aa, ha⟩ : ∃ aa, x.a = some aa := by
            rcases HA.out k hlt with h | h
            · rw [HX.out]; exact h
            · rw [HX.out] at h300; omega
          rw [ha] at c4
          have HA2 := Lib.hid ha
          clear hI hx hX hown cc hbel e300 ha
          go_wp2_with (at_builtin; refine wpList_append_lies _ rfl (.tmp 29) (.tmp 31) 22 rfl 0 32 i0 _ 5 56 Try.underlying22 hi0 hz0 hz1 hz2 rfl (by decide) u k X rfl ((HO.out.alloc _).alloc _) ⟨wr.heap.size + 1, 0, none⟩ 1 1 [.int .i64 x.k, .int .i64 x.n, .int .i64 x.d, .int .i64 x.f, .slice (some aa) 300 x.c] rfl rfl (World.news_of_block (cs := #[.int .i64 x.k, .int .i64 x.n, .int .i64 x.d, .int .i64 x.f, .slice (some aa) 300 x.c]) (t := 32) (fr := (0, 0)) (by have := block_new (wr.alloc (.cells #[.int .i64 x.k, .int .i64 x.n, .int .i64 x.d, .int .i64 x.f, .slice (some aa) 300 x.c] 32)) (.cells #[.int .i64 x.k, .int .i64 x.n, .int .i64 x.d, .int .i64 x.f, .slice (some aa) 300 x.c] 32); simpa using this)) (by simp [Value.oneCell']) (by omega) (by unfold maxLen; omega) (by omega) (by simp) (wr.heap.size + 2) (by simp) ?_; intro g cap w1 hown1 hgrow hat hlt1)
          go_roundw
          case rel =>
            refine ⟨k + 1, _, by omega, by go_num, rfl, ?_⟩
            have eq := HX2.out
            subst eq
            refine finv_step HI.out hlt ((((Below.refl _ _).alloc (by have := HI.out.2.1.size; omega) _)).alloc (by have := HI.out.2.1.size; simp; omega) _) (by simp; omega) ?_ hgrow ?_
            · rw [← HX.out, E300.out]; simp only [DV.cells]; rw [HA2.out]; exact hown1
            · rcases hat with e | e
              · exact .inl e
              · right; have := HI.out.2.1.size; omega
          case measure => simp [intOf]; omega
        · have e300 : trunc x = x := by simp [trunc, h300]
          have E300 := Lib.hid e300
          clear hI hx hX hown cc hbel e300
          go_wp2_with (at_builtin; refine wpList_append_lies _ rfl (.tmp 29) (.tmp 31) 22 rfl 0 32 i0 _ 5 56 Try.underlying22 hi0 hz0 hz1 hz2 rfl (by decide) u k X rfl ((HO.out.alloc _).alloc _) ⟨wr.heap.size + 1, 0, none⟩ 1 1 [.int .i64 x.k, .int .i64 x.n, .int .i64 x.d, .int .i64 x.f, .slice x.a x.len x.c] rfl rfl (World.news_of_block (cs := #[.int .i64 x.k, .int .i64 x.n, .int .i64 x.d, .int .i64 x.f, .slice x.a x.len x.c]) (t := 32) (fr := (0, 0)) (by have := block_new (wr.alloc (.cells #[.int .i64 x.k, .int .i64 x.n, .int .i64 x.d, .int .i64 x.f, .slice x.a x.len x.c] 32)) (.cells #[.int .i64 x.k, .int .i64 x.n, .int .i64 x.d, .int .i64 x.f, .slice x.a x.len x.c] 32); simpa using this)) (by simp [Value.oneCell']) (by omega) (by unfold maxLen; omega) (by omega) (by simp) (wr.heap.size + 2) (by simp) ?_; intro g cap w1 hown1 hgrow hat hlt1)
          go_roundw
          case rel =>
            refine ⟨k + 1, _, by omega, by go_num, rfl, ?_⟩
            have eq := HX2.out
            subst eq
            refine finv_step HI.out hlt ((((Below.refl _ _).alloc (by have := HI.out.2.1.size; omega) _)).alloc (by have := HI.out.2.1.size; simp; omega) _) (by simp; omega) ?_ hgrow ?_
            · rw [← HX.out, E300.out]; exact hown1
            · rcases hat with e | e
              · exact .inl e
              · right; have := HI.out.2.1.size; omega
          case measure => simp [intOf]; omega
      · obtain rfl : k = L.length := by omega
        clear hI
        go_wp2_with fail
        go_ret
        have h := HI.out
        refine ⟨u, rfl, ?_, h.2.1, h.2.2⟩
        have e := h.1
        rw [List.take_length] at e
        rw [HF.out]
        simpa using e
  · obtain ⟨L, hL⟩ : ∃ L, L = l := ⟨_, rfl⟩
    subst hL
    have hLl' : L.length ≤ 80 := by omega
    have hf : fewL L = L.map trunc := by unfold fewL; rw [List.take_of_length_le hLl']
    have hlL : ∀ i (h : i < L.length), L[i].len ≤ L[i].c := by intro i hi; exact hl _ (List.getElem_mem _)
    have haL : ∀ i (h : i < L.length), (∃ aa, L[i].a = some aa) ∨ L[i].len = 0 := by intro i hi; exact ha _ (List.getElem_mem _)
    have h80d : decide ((80 : Int) < L.length) = false := by simp; omega
    have HC := Lib.hid hcell
    have HL := Lib.hid hlL
    have HA := Lib.hid haL
    have HF := Lib.hid hf
    clear hcell hl ha hlL haL hf
    go_enter Try.func9, Try.ntmps9
    go_wp2_with fail
    go_loopw [3, 4] (fun v i wr => ∃ (k : Nat) (u : Value), k ≤ L.length ∧ i = .int .i64 k ∧ u = v ∧ FInv w L k u wr) (fun _ i _ => L.length - (intOf i).toNat)
    case atStart => exact ⟨0, _, by omega, rfl, rfl, World.ownsRow_nil _ _ _ _, Below.refl _ _, fun g hg => by cases hg⟩
    case round =>
      obtain ⟨k, u, hk, rfl, rfl, hI⟩ := hrel
      have HI := Lib.hid hI
      have hkL : k ≤ 80 := by omega
      by_cases hlt : k < L.length
      · obtain ⟨c0, c1, c2, c3, c4⟩ := HC.out k hlt
        have hbel := hI.2.1
        have cc : ∀ j v, w.cell? ⟨b, j, none⟩ = some v → wr.cell? ⟨b, j, none⟩ = some v := fun j v h => (hbel.cell (p := ⟨b, j, none⟩) (World.block_lt_of_cell? _ _ h)).trans h
        have c0 := cc _ _ c0
        have c1 := cc _ _ c1
        have c2 := cc _ _ c2
        have c3 := cc _ _ c3
        have c4 := cc _ _ c4
        have hbw : b < wr.heap.size := World.block_lt_of_cell? _ _ c0
        obtain ⟨x, hx⟩ : ∃ x, x = L[k] := ⟨_, rfl⟩
        rw [← hx] at c0 c1 c2 c3 c4
        have HX := Lib.hid hx
        obtain ⟨X, hX⟩ : ∃ X, X = dcs ((L.take k).map trunc) := ⟨_, rfl⟩
        have hown := hI.1
        rw [← hX] at hown
        have HX2 := Lib.hid hX
        have HO := Lib.hid hown
        have hlt' : (k : Int) < L.length := by omega
        have hk0 : (0 : Int) ≤ (k : Int) := by omega
        obtain ⟨i0, hi0, hz0, hz1, hz2⟩ := info_parts info32
        by_cases h300 : 300 < x.len
        · have e300 : trunc x = { x with len := 300 } := by simp [trunc, h300]
          have E300 := Lib.hid e300
          have hxc : 300 ≤ x.c := by have := HL.out k hlt; rw [HX.out] at h300 ⊢; omega
          have hxc' : x.len ≤ x.c := by have := HL.out k hlt; rw [HX.out]; omega
          obtain ⟨aa, ha⟩ : ∃ aa, x.a = some aa := by
            rcases HA.out k hlt with h | h
            · rw [HX.out]; exact h
            · rw [HX.out] at h300; omega
          rw [ha] at c4
          have HA2 := Lib.hid ha
          clear hI hx hX hown cc hbel e300 ha
          go_wp2_with (at_builtin; refine wpList_append_lies _ rfl (.tmp 29) (.tmp 31) 22 rfl 0 32 i0 _ 5 56 Try.underlying22 hi0 hz0 hz1 hz2 rfl (by decide) u k X rfl ((HO.out.alloc _).alloc _) ⟨wr.heap.size + 1, 0, none⟩ 1 1 [.int .i64 x.k, .int .i64 x.n, .int .i64 x.d, .int .i64 x.f, .slice (some aa) 300 x.c] rfl rfl (World.news_of_block (cs := #[.int .i64 x.k, .int .i64 x.n, .int .i64 x.d, .int .i64 x.f, .slice (some aa) 300 x.c]) (t := 32) (fr := (0, 0)) (by have := block_new (wr.alloc (.cells #[.int .i64 x.k, .int .i64 x.n, .int .i64 x.d, .int .i64 x.f, .slice (some aa) 300 x.c] 32)) (.cells #[.int .i64 x.k, .int .i64 x.n, .int .i64 x.d, .int .i64 x.f, .slice (some aa) 300 x.c] 32); simpa using this)) (by simp [Value.oneCell']) (by omega) (by unfold maxLen; omega) (by omega) (by simp) (wr.heap.size + 2) (by simp) ?_; intro g cap w1 hown1 hgrow hat hlt1)
          go_roundw
          case rel =>
            refine ⟨k + 1, _, by omega, by go_num, rfl, ?_⟩
            have eq := HX2.out
            subst eq
            refine finv_step HI.out hlt ((((Below.refl _ _).alloc (by have := HI.out.2.1.size; omega) _)).alloc (by have := HI.out.2.1.size; simp; omega) _) (by simp; omega) ?_ hgrow ?_
            · rw [← HX.out, E300.out]; simp only [DV.cells]; rw [HA2.out]; exact hown1
            · rcases hat with e | e
              · exact .inl e
              · right; have := HI.out.2.1.size; omega
          case measure => simp [intOf]; omega
        · have e300 : trunc x = x := by simp [trunc, h300]
          have E300 := Lib.hid e300
          clear hI hx hX hown cc hbel e300
          go_wp2_with (at_builtin; refine wpList_append_lies _ rfl (.tmp 29) (.tmp 31) 22 rfl 0 32 i0 _ 5 56 Try.underlying22 hi0 hz0 hz1 hz2 rfl (by decide) u k X rfl ((HO.out.alloc _).alloc _) ⟨wr.heap.size + 1, 0, none⟩ 1 1 [.int .i64 x.k, .int .i64 x.n, .int .i64 x.d, .int .i64 x.f, .slice x.a x.len x.c] rfl rfl (World.news_of_block (cs := #[.int .i64 x.k, .int .i64 x.n, .int .i64 x.d, .int .i64 x.f, .slice x.a x.len x.c]) (t := 32) (fr := (0, 0)) (by have := block_new (wr.alloc (.cells #[.int .i64 x.k, .int .i64 x.n, .int .i64 x.d, .int .i64 x.f, .slice x.a x.len x.c] 32)) (.cells #[.int .i64 x.k, .int .i64 x.n, .int .i64 x.d, .int .i64 x.f, .slice x.a x.len x.c] 32); simpa using this)) (by simp [Value.oneCell']) (by omega) (by unfold maxLen; omega) (by omega) (by simp) (wr.heap.size + 2) (by simp) ?_; intro g cap w1 hown1 hgrow hat hlt1)
          go_roundw
          case rel =>
            refine ⟨k + 1, _, by omega, by go_num, rfl, ?_⟩
            have eq := HX2.out
            subst eq
            refine finv_step HI.out hlt ((((Below.refl _ _).alloc (by have := HI.out.2.1.size; omega) _)).alloc (by have := HI.out.2.1.size; simp; omega) _) (by simp; omega) ?_ hgrow ?_
            · rw [← HX.out, E300.out]; exact hown1
            · rcases hat with e | e
              · exact .inl e
              · right; have := HI.out.2.1.size; omega
          case measure => simp [intOf]; omega
      · obtain rfl : k = L.length := by omega
        clear hI
        go_wp2_with fail
        go_ret
        have h := HI.out
        refine ⟨u, rfl, ?_, h.2.1, h.2.2⟩
        have e := h.1
        rw [List.take_length] at e
        rw [HF.out]
        simpa using e
end Go.Proofs.Ytcfmohhidbneoaa.Mf
