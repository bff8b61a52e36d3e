/- MailOrder: whoever takes the first one each time has all texts in the order in which they were sent: the law's walk. -/
import Derived.Test.YtcfmohhidbneoaaMi
import Derived.Lib.SmallJoins
namespace Go.Proofs.Ytcfmohhidbneoaa.Lo
open Go.RowKit Go.Proofs.Ytcfmohhidbneoaa.Mk Go.Proofs.Ytcfmohhidbneoaa.Mq Go.Proofs.Ytcfmohhidbneoaa.Ma Go.Proofs.Ytcfmohhidbneoaa.Mw Go.Proofs.Ytcfmohhidbneoaa.Ms Go.Proofs.Ytcfmohhidbneoaa.Mc Go.Proofs.Ytcfmohhidbneoaa.Mt Go.Proofs.Ytcfmohhidbneoaa.Mu Go.Proofs.Ytcfmohhidbneoaa.Me Go.Proofs.Ytcfmohhidbneoaa.Mf Go.Proofs.Ytcfmohhidbneoaa.Mg Go.Proofs.Ytcfmohhidbneoaa.Mh Go.Proofs.Ytcfmohhidbneoaa.Mi
set_option linter.unusedSimpArgs false
set_option linter.unusedVariables false
def True1 (w : World) (e : Ending) (w' : World) : Prop := e = .returned (.bool true) ∧ Below w.heap.size w w'
theorem and7 (x : Int) : 0 ≤ Go.bits .and .i64 x 7 ∧ Go.bits .and .i64 x 7 ≤ 7 := by
  have b : (BitVec.ofInt IntKind.i64.bits x &&& BitVec.ofInt IntKind.i64.bits 7).toNat ≤ 7 := by
    rw [BitVec.toNat_and]
    exact Nat.and_le_right
  unfold Go.bits
  simp only []
  generalize (BitVec.ofInt IntKind.i64.bits x &&& BitVec.ofInt IntKind.i64.bits 7).toNat = q at b
  rw [IntKind.wrap_i64]
  omega
/-- One text sent where there is room. -/
theorem send_one {st : St} {t f : Int} {s : ByteArray} (ht : 0 ≤ t ∧ t ≤ 7) (hf : 0 ≤ f ∧ f ≤ 7) (hs : s.size ≤ 1000) (hl : st.l.length < 256) :
    sendR st t f [s] = 0 ∧ sendS st t f [s] = ⟨st.sent + 1, st.l ++ [⟨st.sent + 1, t, f, s⟩]⟩ := by
  have hb : sendBad t f [s] = false := by
    have h1 : whoB t = true := by simp [whoB]; omega
    have h2 : whoB f = true := by simp [whoB]; omega
    have h3 : longB s = false := by simp [longB]; omega
    simp [sendBad, h1, h2, h3]
  have hl' : ¬ 256 < st.l.length + [s].length := by simp; omega
  simp only [sendR, sendS, hb, Bool.false_eq_true, if_false, if_neg hl']
  exact ⟨trivial, rfl⟩
/-- The packets of the first k texts. -/
def upto (t f : Int) (L : List ByteArray) (k : Nat) : St := ⟨k, mk t f 0 (L.take k)⟩
theorem upto_succ (t f : Int) (L : List ByteArray) (k : Nat) (hk : k < L.length) : upto t f L (k + 1) = ⟨(upto t f L k).sent + 1, (upto t f L k).l ++ [⟨(upto t f L k).sent + 1, t, f, L[k]⟩]⟩ := by
  unfold upto
  rw [List.take_succ_eq_append_getElem hk, mk_snoc, List.length_take, show min k L.length = k by omega]
  simp
theorem upto_len (t f : Int) (L : List ByteArray) (k : Nat) (hk : k ≤ L.length) : (upto t f L k).l.length = k := by simp [upto, mk_length]; omega
theorem mk_get (t f : Int) : ∀ (L : List ByteArray) (n : Int) (i : Nat) (h : i < L.length), (mk t f n L)[i]? = some ⟨n + i + 1, t, f, L[i]⟩
  | s :: L, n, 0, _ => by simp [mk]
  | s :: L, n, i + 1, h => by
    have := mk_get t f L (n + 1) i (by simpa using h)
    simp only [mk, List.getElem?_cons_succ, this]
    simp; omega
/-- What is there behind i takes of the first one. -/
def drops (t f : Int) (L : List ByteArray) (i : Nat) : St := ⟨L.length, (mk t f 0 L).drop i⟩
theorem take_first (t f : Int) (L : List ByteArray) (i : Nat) (hi : i < L.length) : takeR (drops t f L i) 0 = 0 ∧ takeP (drops t f L i) 0 = ⟨i + 1, t, f, L[i]⟩ ∧ takeS (drops t f L i) 0 = drops t f L (i + 1) := by
  have hl : (drops t f L i).l.length = L.length - i := by simp [drops, mk_length]
  have hp : (0 : Int) ≤ 0 ∧ (0 : Int) < ((drops t f L i).l.length : Int) := by omega
  have hg := mk_get t f L 0 i hi
  unfold takeR takeP takeS
  rw [if_pos hp, if_pos hp, if_pos hp]
  refine ⟨rfl, ?_, ?_⟩
  · simp [drops, List.getD, hg]
  · simp [drops, List.eraseIdx_zero, List.tail_drop]
theorem take_none (t f : Int) (L : List ByteArray) : takeR (drops t f L L.length) 0 = 6 ∧ takeP (drops t f L L.length) 0 = Pk.zero ∧ takeS (drops t f L L.length) 0 = drops t f L L.length := by
  have hl : (drops t f L L.length).l.length = 0 := by simp [drops, mk_length]
  have hp : ¬ ((0 : Int) ≤ 0 ∧ (0 : Int) < ((drops t f L L.length).l.length : Int)) := by omega
  unfold takeR takeP takeS
  rw [if_neg hp, if_neg hp, if_neg hp]
  exact ⟨rfl, rfl, rfl⟩
theorem fine_upto (t f : Int) (L : List ByteArray) (k : Nat) (hk : k ≤ L.length) (h : L.length ≤ 256) (hs : ∀ s ∈ L, s.size ≤ 9223372036854775807) : Fine (upto t f L k) 256 := by
  refine ⟨by rw [upto_len _ _ _ _ hk]; omega, by simp [upto], by simp [upto]; omega, fun x hx => hs _ (List.mem_of_mem_take (mk_mem hx))⟩
theorem fine_drops (t f : Int) (L : List ByteArray) (i : Nat) (h : L.length ≤ 256) (hs : ∀ s ∈ L, s.size ≤ 9223372036854775807) : Fine (drops t f L i) 256 := by
  refine ⟨by simp [drops, mk_length]; omega, by simp [drops], by simp [drops]; omega, fun x hx => hs _ (mk_mem (List.mem_of_mem_drop hx))⟩
set_option maxHeartbeats 3200000 in
set_option maxRecDepth 100000 in
theorem order_any (A : Option Addr) (T : List ByteArray) (c : Nat) (t f : Int) (W : World) (hc : T.length ≤ c) (hn : T.length ≤ 9223372036854775807) (hT : Texts W W.heap.size A T) :
    Calls Try.prog 6 #[.slice A T.length c, .int .i64 t, .int .i64 f] W (True1 W) := by
  obtain ⟨tt, htt⟩ : ∃ tt, tt = Go.bits .and .i64 t 7 := ⟨_, rfl⟩
  obtain ⟨ff, hff⟩ : ∃ ff, ff = Go.bits .and .i64 f 7 := ⟨_, rfl⟩
  have ht7 : 0 ≤ tt ∧ tt ≤ 7 := by rw [htt]; exact and7 t
  have hf7 : 0 ≤ ff ∧ ff ≤ 7 := by rw [hff]; exact and7 f
  have hcl (L : List ByteArray) (hp : L = T.take 256) : ∀ i (h : i < L.length), ∃ b off, A = some ⟨b, off, none⟩ ∧ b < W.heap.size ∧ W.cell? ⟨b, off + i, none⟩ = some (.string L[i]) := by
    intro i hi
    have hi' : i < T.length := by rw [hp] at hi; simp at hi; omega
    rcases hT.1 with h | ⟨b, off, e, h⟩
    · rw [h] at hi'; simp at hi'
    · have g := h i hi'
      refine ⟨b, off, e, World.block_lt_of_cell? _ _ g, ?_⟩
      have e2 : L[i] = T[i] := by simp [hp]
      rw [e2]; exact g
  obtain ⟨L, hL⟩ : ∃ L, L = T.take 256 := ⟨_, rfl⟩
  have HL := Lib.hid (hcl L hL)
  have HS : Hid (∀ s ∈ L, s.size ≤ 9223372036854775807) := fun s hs => hT.2.2 s (List.mem_of_mem_take (by rw [← hL]; exact hs))
  have hL256 : L.length ≤ 256 := by rw [hL, List.length_take]; omega
  clear hcl hT
  by_cases h256 : 256 < T.length
  · have hLn : 256 ≤ L.length := by rw [hL, List.length_take]; omega
    have h256c : 256 ≤ c := by omega
    have hd : decide ((256 : Int) < T.length) = true := by simp; omega
    clear hL
    go_enter Try.func6, Try.ntmps6
    go_wp2_with fail
    refine (new_any _).mono ?_
    rintro e w1 ⟨rfl, hw1⟩
    have b1 : Only (fun _ => False) W w1 := by rw [hw1]; exact (Only.refl _ _).alloc _
    have s1 : w1.heap.size = W.heap.size + 1 := by rw [hw1]; simp
    have I1 : LInv w1 W.heap.size (upto tt ff L 0) (.slice none 0 0) w1 := ⟨by rw [hw1]; exact ⟨block_new W _, Row.nil _⟩, Only.refl _ _, fun b h => by cases h⟩
    have B1 := Lib.hid b1
    have S1 := Lib.hid s1
    have HI1 := Lib.hid I1
    clear hw1 b1 s1 I1
    go_wp2_with fail
    rw [← htt, ← hff]
    clear htt hff
    go_loopw [8, 9] (fun n i wr => ∃ (k : Nat) (v : Value), k ≤ L.length ∧ i = .int .i64 k ∧ n = .int .i64 k ∧ LInv w1 W.heap.size (upto tt ff L k) v wr) (fun _ i _ => L.length - (intOf i).toNat)
    case atStart => exact ⟨0, _, by omega, rfl, rfl, HI1.out⟩
    case round =>
      obtain ⟨k, v, hk, rfl, rfl, hI⟩ := hrel
      have HI := Lib.hid hI
      have hw1r : w1.heap.size ≤ wr.heap.size := hI.only.size
      have hbw : Below W.heap.size W wr := (B1.out.below (Nat.le_refl _) (fun _ h => h.elim)).trans (hI.below (Nat.le_refl _) (by have := S1.out; omega))
      have HBW := Lib.hid hbw
      clear hI hbw
      by_cases hlt : k < L.length
      · obtain ⟨b, off, rfl, hbs, hcell⟩ := HL.out k hlt
        have hck := (HBW.out.cell (p := ⟨b, off + k, none⟩) hbs).trans hcell
        have hsk := HS.out _ (List.getElem_mem hlt)
        obtain ⟨s, hs⟩ : ∃ s, s = L[k] := ⟨_, rfl⟩
        rw [← hs] at hck hsk
        have HSE := Lib.hid hs
        have hbw' : b < wr.heap.size := World.block_lt_of_cell? _ _ hck
        have hlt' : (k : Int) < 256 := by omega
        have hk0 : (0 : Int) ≤ (k : Int) := by omega
        clear hs hcell
        by_cases hbig : 1000 < s.size
        · go_wp2_with fail
          refine (awake_any _).mono ?_
          rintro e w7 ⟨rfl, q7⟩
          have Q7 := Lib.hid q7
          clear q7
          go_wp2_with fail
          go_ret
          exact ⟨rfl, HBW.out.trans (Q7.out.below (by have := S1.out; omega) (fun _ h => h.elim))⟩
        · have hsm : s.size ≤ 1000 := by omega
          go_wp2_with fail
          have hq : Only (fun _ => False) wr (wr.alloc (.cells #[.string s] 9)) := (Only.refl _ _).alloc _
          have hne := send_one (st := upto tt ff L k) ht7 hf7 hsm (by rw [upto_len _ _ _ _ hk]; omega)
          have hc := send_all W.heap.size v (upto tt ff L k) 256 tt ff (some ⟨wr.heap.size, 0, none⟩) [s] 1 (wr.alloc (.cells #[.string s] 9)) (HI.out.later hq).mail (fine_upto tt ff L k hk hL256 HS.out) (by omega) (by simp) (by simp)
            (.inr ⟨_, 0, rfl, by intro i hi; simp at hi; subst hi; exact cell_of (block_new wr _) 0⟩)
            (by
              intro b' off' e'
              right
              intro q
              have e2 : wr.heap.size = b' := by simpa using congrArg (fun o => o.map Addr.block) e'
              rcases q with q | q
              · have := lt_of_block HI.out.mail.1; omega
              · have := HI.out.mail.2.lt q; omega)
            (by intro s' hs'; simp at hs'; subst hs'; omega)
          rw [hne.1, hne.2] at hc
          refine hc.mono ?_
          intro e w' hd
          obtain ⟨v', rfl, hI'⟩ := (HI.out.later hq).did hd
          have HI' := Lib.hid hI'
          clear hd hI' hc hne hq
          go_wp2_with fail
          go_roundw
          case rel =>
            refine ⟨k + 1, v', by omega, by go_num, by go_num, ?_⟩
            rw [upto_succ _ _ _ _ hlt, ← HSE.out]
            exact HI'.out
          case measure => simp [intOf]; omega
      · obtain rfl : k = L.length := by omega
        have hud : upto tt ff L L.length = drops tt ff L 0 := by simp [upto, drops]
        rw [hud] at HI
        clear hud
        go_wp2_with fail
        go_loopw [10] (fun i wr => ∃ (j : Nat) (v : Value), j ≤ L.length ∧ i = .int .i64 j ∧ LInv w1 W.heap.size (drops tt ff L j) v wr) (fun i _ => L.length - (intOf i).toNat)
        case atStart => exact ⟨0, _, by omega, rfl, HI.out⟩
        case round =>
          rename_i wr0
          obtain ⟨j, v, hj, rfl, hI⟩ := hrel
          have HI := Lib.hid hI
          have hw1r : w1.heap.size ≤ wr.heap.size := hI.only.size
          have hbw : Below W.heap.size W wr := (B1.out.below (Nat.le_refl _) (fun _ h => h.elim)).trans (hI.below (Nat.le_refl _) (by have := S1.out; omega))
          have HBW := Lib.hid hbw
          clear hI hbw
          by_cases hlt2 : j < L.length
          · obtain ⟨b, off, rfl, hbs, hcell⟩ := HL.out j hlt2
            obtain ⟨s, hs⟩ : ∃ s, s = L[j] := ⟨_, rfl⟩
            rw [← hs] at hcell
            have hlt' : (j : Int) < 256 := by omega
            have hltL : (j : Int) < L.length := by omega
            have hk0 : (0 : Int) ≤ (j : Int) := by omega
            obtain ⟨t1, t2, t3⟩ := take_first tt ff L j hlt2
            have hc := take_all W.heap.size v (drops tt ff L j) 256 0 wr HI.out.mail (fine_drops tt ff L j hL256 HS.out)
            rw [t1, t2, t3, ← hs] at hc
            go_wp2_with fail
            refine hc.mono ?_
            intro e w' hd
            obtain ⟨v', rfl, hI'⟩ := HI.out.did hd
            have HI' := Lib.hid hI'
            have hw1' : w1.heap.size ≤ w'.heap.size := hI'.only.size
            have hbel' : Below W.heap.size W w' := (B1.out.below (Nat.le_refl _) (fun _ h => h.elim)).trans (hI'.below (Nat.le_refl _) (by have := S1.out; omega))
            have hcs := (hbel'.cell (p := ⟨b, off + j, none⟩) hbs).trans hcell
            have hbl : b < w'.heap.size := World.block_lt_of_cell? _ _ hcs
            have hq : ∀ w, (binOp .neq 27 (.agg #[.int .i64 (j + 1), .int .i64 tt, .int .i64 ff, .string s]) (.agg #[.int .i64 (j + 1), .int .i64 tt, .int .i64 ff, .string s])).run Try.prog w = .ok (.bool false) w := fun w => by
              have := run_neq27 ⟨j + 1, tt, ff, s⟩ ⟨j + 1, tt, ff, s⟩ w
              rwa [pkB_true.2 rfl] at this
            have hwr : IntKind.i64.wrap ((j : Int) + 1) = (j : Int) + 1 := by rw [IntKind.wrap_i64]; omega
            have hcs2 := (World.cell?_alloc_past (w := w') (.cells #[.int .i64 (j + 1), .int .i64 tt, .int .i64 ff, .string s] 27) b (off + j) hbl).trans hcs
            clear hd hI' hc hbel' hcell t1 t2 t3 hs
            simp only [Pk.agg]
            go_wp2_with fail
            go_quiet (fail)
            go_wp2_with fail
            go_roundw
            case rel => exact ⟨j + 1, v', by omega, by go_num, (HI'.out.later ((Only.refl _ _).alloc _)).later ((Only.refl _ _).drewN _)⟩
            case measure => simp [intOf]; omega
          · obtain rfl : j = L.length := by omega
            obtain ⟨t1, t2, t3⟩ := take_none tt ff L
            have hc := take_all W.heap.size v (drops tt ff L L.length) 256 0 wr HI.out.mail (fine_drops tt ff L _ hL256 HS.out)
            rw [t1, t2, t3] at hc
            go_wp2_with fail
            refine hc.mono ?_
            intro e w' hd
            obtain ⟨v', rfl, hI'⟩ := HI.out.did hd
            have HI' := Lib.hid hI'
            have hl0 : (drops tt ff L L.length).l.length = 0 := by simp [drops, mk_length]
            obtain ⟨a', c', hv'⟩ := slice_form hI'.mail.2
            rw [hl0] at hv'
            have hmc : ∀ o, (w'.alloc o).cell? ⟨W.heap.size, 1, none⟩ = some (.slice a' 0 c') := fun o => by rw [World.cell?_alloc_past _ _ _ (lt_of_block hI'.mail.1), ← hv']; exact cell_of hI'.mail.1 1
            have HMC := Lib.hid hmc
            clear hd hI' hc t1 t2 t3 hl0 hv' hmc
            simp only [Pk.agg, Pk.zero]
            go_wp2_with (go_at_call 20; refine (len_any W.heap.size a' 0 c' _ (HMC.out _)).mono ?_; rintro e w'' ⟨rfl, rfl⟩)
            refine (awake_any _).mono ?_
            rintro e w7 ⟨rfl, q7⟩
            have Q7 := Lib.hid q7
            clear q7
            go_wp2_with fail
            go_ret
            refine ⟨rfl, ?_⟩
            have hbel' : Below W.heap.size W w' := (B1.out.below (Nat.le_refl _) (fun _ h => h.elim)).trans (HI'.out.below (Nat.le_refl _) (by have := S1.out; omega))
            have o8 := ((Only.refl (fun _ => False) w').alloc _).trans Q7.out (fun _ _ h => h)
            exact hbel'.trans (o8.below (by have := HI'.out.only.size; have := S1.out; omega) (fun _ h => h.elim))
  · have hLT : L = T := by rw [hL]; exact List.take_of_length_le (by omega)
    subst hLT
    have hd : decide ((256 : Int) < L.length) = false := by simp; omega
    clear hL
    go_enter Try.func6, Try.ntmps6
    go_wp2_with fail
    refine (new_any _).mono ?_
    rintro e w1 ⟨rfl, hw1⟩
    have b1 : Only (fun _ => False) W w1 := by rw [hw1]; exact (Only.refl _ _).alloc _
    have s1 : w1.heap.size = W.heap.size + 1 := by rw [hw1]; simp
    have I1 : LInv w1 W.heap.size (upto tt ff L 0) (.slice none 0 0) w1 := ⟨by rw [hw1]; exact ⟨block_new W _, Row.nil _⟩, Only.refl _ _, fun b h => by cases h⟩
    have B1 := Lib.hid b1
    have S1 := Lib.hid s1
    have HI1 := Lib.hid I1
    clear hw1 b1 s1 I1
    go_wp2_with fail
    rw [← htt, ← hff]
    clear htt hff
    go_loopw [8, 9] (fun n i wr => ∃ (k : Nat) (v : Value), k ≤ L.length ∧ i = .int .i64 k ∧ n = .int .i64 k ∧ LInv w1 W.heap.size (upto tt ff L k) v wr) (fun _ i _ => L.length - (intOf i).toNat)
    case atStart => exact ⟨0, _, by omega, rfl, rfl, HI1.out⟩
    case round =>
      obtain ⟨k, v, hk, rfl, rfl, hI⟩ := hrel
      have HI := Lib.hid hI
      have hw1r : w1.heap.size ≤ wr.heap.size := hI.only.size
      have hbw : Below W.heap.size W wr := (B1.out.below (Nat.le_refl _) (fun _ h => h.elim)).trans (hI.below (Nat.le_refl _) (by have := S1.out; omega))
      have HBW := Lib.hid hbw
      clear hI hbw
      by_cases hlt : k < L.length
      · obtain ⟨b, off, rfl, hbs, hcell⟩ := HL.out k hlt
        have hck := (HBW.out.cell (p := ⟨b, off + k, none⟩) hbs).trans hcell
        have hsk := HS.out _ (List.getElem_mem hlt)
        obtain ⟨s, hs⟩ : ∃ s, s = L[k] := ⟨_, rfl⟩
        rw [← hs] at hck hsk
        have HSE := Lib.hid hs
        have hbw' : b < wr.heap.size := World.block_lt_of_cell? _ _ hck
        have hlt' : (k : Int) < L.length := by omega
        have hk0 : (0 : Int) ≤ (k : Int) := by omega
        clear hs hcell
        by_cases hbig : 1000 < s.size
        · go_wp2_with fail
          refine (awake_any _).mono ?_
          rintro e w7 ⟨rfl, q7⟩
          have Q7 := Lib.hid q7
          clear q7
          go_wp2_with fail
          go_ret
          exact ⟨rfl, HBW.out.trans (Q7.out.below (by have := S1.out; omega) (fun _ h => h.elim))⟩
        · have hsm : s.size ≤ 1000 := by omega
          go_wp2_with fail
          have hq : Only (fun _ => False) wr (wr.alloc (.cells #[.string s] 9)) := (Only.refl _ _).alloc _
          have hne := send_one (st := upto tt ff L k) ht7 hf7 hsm (by rw [upto_len _ _ _ _ hk]; omega)
          have hc := send_all W.heap.size v (upto tt ff L k) 256 tt ff (some ⟨wr.heap.size, 0, none⟩) [s] 1 (wr.alloc (.cells #[.string s] 9)) (HI.out.later hq).mail (fine_upto tt ff L k hk hL256 HS.out) (by omega) (by simp) (by simp)
            (.inr ⟨_, 0, rfl, by intro i hi; simp at hi; subst hi; exact cell_of (block_new wr _) 0⟩)
            (by
              intro b' off' e'
              right
              intro q
              have e2 : wr.heap.size = b' := by simpa using congrArg (fun o => o.map Addr.block) e'
              rcases q with q | q
              · have := lt_of_block HI.out.mail.1; omega
              · have := HI.out.mail.2.lt q; omega)
            (by intro s' hs'; simp at hs'; subst hs'; omega)
          rw [hne.1, hne.2] at hc
          refine hc.mono ?_
          intro e w' hd
          obtain ⟨v', rfl, hI'⟩ := (HI.out.later hq).did hd
          have HI' := Lib.hid hI'
          clear hd hI' hc hne hq
          go_wp2_with fail
          go_roundw
          case rel =>
            refine ⟨k + 1, v', by omega, by go_num, by go_num, ?_⟩
            rw [upto_succ _ _ _ _ hlt, ← HSE.out]
            exact HI'.out
          case measure => simp [intOf]; omega
      · obtain rfl : k = L.length := by omega
        have hud : upto tt ff L L.length = drops tt ff L 0 := by simp [upto, drops]
        rw [hud] at HI
        clear hud
        go_wp2_with fail
        go_loopw [10] (fun i wr => ∃ (j : Nat) (v : Value), j ≤ L.length ∧ i = .int .i64 j ∧ LInv w1 W.heap.size (drops tt ff L j) v wr) (fun i _ => L.length - (intOf i).toNat)
        case atStart => exact ⟨0, _, by omega, rfl, HI.out⟩
        case round =>
          rename_i wr0
          obtain ⟨j, v, hj, rfl, hI⟩ := hrel
          have HI := Lib.hid hI
          have hw1r : w1.heap.size ≤ wr.heap.size := hI.only.size
          have hbw : Below W.heap.size W wr := (B1.out.below (Nat.le_refl _) (fun _ h => h.elim)).trans (hI.below (Nat.le_refl _) (by have := S1.out; omega))
          have HBW := Lib.hid hbw
          clear hI hbw
          by_cases hlt2 : j < L.length
          · obtain ⟨b, off, rfl, hbs, hcell⟩ := HL.out j hlt2
            obtain ⟨s, hs⟩ : ∃ s, s = L[j] := ⟨_, rfl⟩
            rw [← hs] at hcell
            have hlt' : (j : Int) < L.length := by omega
            have hltL : (j : Int) < L.length := by omega
            have hk0 : (0 : Int) ≤ (j : Int) := by omega
            obtain ⟨t1, t2, t3⟩ := take_first tt ff L j hlt2
            have hc := take_all W.heap.size v (drops tt ff L j) 256 0 wr HI.out.mail (fine_drops tt ff L j hL256 HS.out)
            rw [t1, t2, t3, ← hs] at hc
            go_wp2_with fail
            refine hc.mono ?_
            intro e w' hd
            obtain ⟨v', rfl, hI'⟩ := HI.out.did hd
            have HI' := Lib.hid hI'
            have hw1' : w1.heap.size ≤ w'.heap.size := hI'.only.size
            have hbel' : Below W.heap.size W w' := (B1.out.below (Nat.le_refl _) (fun _ h => h.elim)).trans (hI'.below (Nat.le_refl _) (by have := S1.out; omega))
            have hcs := (hbel'.cell (p := ⟨b, off + j, none⟩) hbs).trans hcell
            have hbl : b < w'.heap.size := World.block_lt_of_cell? _ _ hcs
            have hq : ∀ w, (binOp .neq 27 (.agg #[.int .i64 (j + 1), .int .i64 tt, .int .i64 ff, .string s]) (.agg #[.int .i64 (j + 1), .int .i64 tt, .int .i64 ff, .string s])).run Try.prog w = .ok (.bool false) w := fun w => by
              have := run_neq27 ⟨j + 1, tt, ff, s⟩ ⟨j + 1, tt, ff, s⟩ w
              rwa [pkB_true.2 rfl] at this
            have hwr : IntKind.i64.wrap ((j : Int) + 1) = (j : Int) + 1 := by rw [IntKind.wrap_i64]; omega
            have hcs2 := (World.cell?_alloc_past (w := w') (.cells #[.int .i64 (j + 1), .int .i64 tt, .int .i64 ff, .string s] 27) b (off + j) hbl).trans hcs
            clear hd hI' hc hbel' hcell t1 t2 t3 hs
            simp only [Pk.agg]
            go_wp2_with fail
            go_quiet (fail)
            go_wp2_with fail
            go_roundw
            case rel => exact ⟨j + 1, v', by omega, by go_num, (HI'.out.later ((Only.refl _ _).alloc _)).later ((Only.refl _ _).drewN _)⟩
            case measure => simp [intOf]; omega
          · obtain rfl : j = L.length := by omega
            obtain ⟨t1, t2, t3⟩ := take_none tt ff L
            have hc := take_all W.heap.size v (drops tt ff L L.length) 256 0 wr HI.out.mail (fine_drops tt ff L _ hL256 HS.out)
            rw [t1, t2, t3] at hc
            go_wp2_with fail
            refine hc.mono ?_
            intro e w' hd
            obtain ⟨v', rfl, hI'⟩ := HI.out.did hd
            have HI' := Lib.hid hI'
            have hl0 : (drops tt ff L L.length).l.length = 0 := by simp [drops, mk_length]
            obtain ⟨a', c', hv'⟩ := slice_form hI'.mail.2
            rw [hl0] at hv'
            have hmc : ∀ o, (w'.alloc o).cell? ⟨W.heap.size, 1, none⟩ = some (.slice a' 0 c') := fun o => by rw [World.cell?_alloc_past _ _ _ (lt_of_block hI'.mail.1), ← hv']; exact cell_of hI'.mail.1 1
            have HMC := Lib.hid hmc
            clear hd hI' hc t1 t2 t3 hl0 hv' hmc
            simp only [Pk.agg, Pk.zero]
            go_wp2_with (go_at_call 20; refine (len_any W.heap.size a' 0 c' _ (HMC.out _)).mono ?_; rintro e w'' ⟨rfl, rfl⟩)
            refine (awake_any _).mono ?_
            rintro e w7 ⟨rfl, q7⟩
            have Q7 := Lib.hid q7
            clear q7
            go_wp2_with fail
            go_ret
            refine ⟨rfl, ?_⟩
            have hbel' : Below W.heap.size W w' := (B1.out.below (Nat.le_refl _) (fun _ h => h.elim)).trans (HI'.out.below (Nat.le_refl _) (by have := S1.out; omega))
            have o8 := ((Only.refl (fun _ => False) w').alloc _).trans Q7.out (fun _ _ h => h)
            exact hbel'.trans (o8.below (by have := HI'.out.only.size; have := S1.out; omega) (fun _ h => h.elim))
end Go.Proofs.Ytcfmohhidbneoaa.Lo
