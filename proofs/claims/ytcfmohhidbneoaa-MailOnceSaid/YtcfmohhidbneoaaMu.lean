/- Twice, and the contracts of Send, Take and Twice in one form: a plain function on the state, and what may have turned. -/
import Derived.Test.YtcfmohhidbneoaaMt
namespace Go.Proofs.Ytcfmohhidbneoaa.Mu
open Go.RowKit Go.Proofs.Ytcfmohhidbneoaa.Ma Go.Proofs.Ytcfmohhidbneoaa.Mw Go.Proofs.Ytcfmohhidbneoaa.Ms Go.Proofs.Ytcfmohhidbneoaa.Mc Go.Proofs.Ytcfmohhidbneoaa.Md Go.Proofs.Ytcfmohhidbneoaa.Mt
set_option linter.unusedSimpArgs false
set_option linter.unusedVariables false
/-- How many were sent, and those that are there. -/
structure St where
  sent : Int
  l : List Pk
def sendR (st : St) (dd ff : Int) (L : List ByteArray) : Int := if sendBad dd ff L = true then 1 else if 256 < st.l.length + L.length then 5 else 0
def sendS (st : St) (dd ff : Int) (L : List ByteArray) : St := if sendBad dd ff L = true then st else if 256 < st.l.length + L.length then st else ⟨st.sent + L.length, st.l ++ mk dd ff st.sent L⟩
def takeR (st : St) (p : Int) : Int := if 0 ≤ p ∧ p < st.l.length then 0 else 6
def takeP (st : St) (p : Int) : Pk := if 0 ≤ p ∧ p < st.l.length then st.l.getD p.toNat Pk.zero else Pk.zero
def takeS (st : St) (p : Int) : St := if 0 ≤ p ∧ p < st.l.length then ⟨st.sent, st.l.eraseIdx p.toNat⟩ else st
def twiceR (st : St) (p : Int) : Int := if 0 ≤ p ∧ p < st.l.length then sendR st (st.l.getD p.toNat Pk.zero).d (st.l.getD p.toNat Pk.zero).f [(st.l.getD p.toNat Pk.zero).s] else 6
def twiceS (st : St) (p : Int) : St := if 0 ≤ p ∧ p < st.l.length then sendS st (st.l.getD p.toNat Pk.zero).d (st.l.getD p.toNat Pk.zero).f [(st.l.getD p.toNat Pk.zero).s] else st
/-- What the walks ask of a state. -/
def Fine (st : St) (N : Int) : Prop := st.l.length ≤ 256 ∧ 0 ≤ st.sent ∧ st.sent ≤ N ∧ ∀ x ∈ st.l, x.s.size ≤ 9223372036854775807
/-- An answer of one value, and the object behind it. -/
def Did (m : Nat) (v : Value) (r : Value) (st' : St) (w : World) (e : Ending) (w' : World) : Prop :=
  e = .returned r ∧ ∃ v', MailAt w' m st'.sent v' st'.l ∧ Only (foot m v) w w' ∧ NextV w v v'
theorem did_quiet {w w' : World} {m : Nat} {v r : Value} {st : St} (hm : MailAt w m st.sent v st.l) (hq : Only (fun _ => False) w w') : Did m v r st w (.returned r) w' :=
  ⟨rfl, v, ⟨hq.same hm.1 (fun h => h), hm.2.only hq (fun _ _ h => h)⟩, hq.mono (fun _ _ h => h.elim), fun g hg => .inl hg⟩
theorem send_all (m : Nat) (v : Value) (st : St) (N : Int) (dd ff : Int) (a : Option Addr) (L : List ByteArray) (c : Nat) (w : World) (hm : MailAt w m st.sent v st.l) (hf : Fine st N) (hN : N ≤ 1000000)
    (hc : L.length ≤ c) (hn : L.length ≤ 9223372036854775807) (hL : StrsAt w a L) (hap : ∀ b off, a = some ⟨b, off, none⟩ → L = [] ∨ ¬ foot m v b) (hs : ∀ s ∈ L, s.size ≤ 9223372036854775807) :
    Calls Try.prog 15 #[.pointer (some ⟨m, 0, none⟩), .int .i64 dd, .int .i64 ff, .slice a L.length c] w (Did m v (.int .i64 (sendR st dd ff L)) (sendS st dd ff L) w) := by
  have key : ∀ e w', Sent w m st.sent v st.l dd ff L e w' → Did m v (.int .i64 (sendR st dd ff L)) (sendS st dd ff L) w e w' := by
    intro e w' h
    rcases h with ⟨h1, rfl, rfl⟩ | ⟨h1, h2, rfl, rfl⟩ | ⟨h1, h2, rfl, v', h3, h4, h5⟩
    · have er : sendR st dd ff L = 1 := by simp [sendR, h1]
      have es : sendS st dd ff L = st := by simp [sendS, h1]
      rw [er, es]; exact did_quiet hm (Only.refl _ _)
    · have er : sendR st dd ff L = 5 := by simp [sendR, h1, h2]
      have es : sendS st dd ff L = st := by simp [sendS, h1, h2]
      rw [er, es]; exact did_quiet hm (Only.refl _ _)
    · have er : sendR st dd ff L = 0 := by simp [sendR, h1, show ¬ 256 < st.l.length + L.length by omega]
      have es : sendS st dd ff L = ⟨st.sent + L.length, st.l ++ mk dd ff st.sent L⟩ := by simp [sendS, h1, show ¬ 256 < st.l.length + L.length by omega]
      rw [er, es]; exact ⟨rfl, v', h3, h4, h5⟩
  cases hb : sendBad dd ff L with
  | true => exact (send_bad m st.sent v st.l dd ff a L c w hc hn hL hs hb).mono key
  | false => exact (send_good m st.sent v st.l dd ff a L c w hm hf.1 hf.2.1 (by have := hf.2.2.1; omega) hc hn hL hap hs hb).mono key
/-- A packet's answer and an error's. -/
theorem take_all (m : Nat) (v : Value) (st : St) (N : Int) (p : Int) (w : World) (hm : MailAt w m st.sent v st.l) (hf : Fine st N) :
    Calls Try.prog 17 #[.pointer (some ⟨m, 0, none⟩), .int .i64 p] w (Did m v (.tuple #[(takeP st p).agg, .int .i64 (takeR st p)]) (takeS st p) w) := by
  by_cases hp : 0 ≤ p ∧ p < st.l.length
  · have er : takeR st p = 0 := by simp [takeR, hp]
    have ep : takeP st p = st.l.getD p.toNat Pk.zero := by simp [takeP, hp]
    have es : takeS st p = ⟨st.sent, st.l.eraseIdx p.toNat⟩ := by simp [takeS, hp]
    rw [er, ep, es]
    obtain ⟨q, rfl⟩ := Int.eq_ofNat_of_zero_le hp.1
    have hq : q < st.l.length := by omega
    have eg : st.l.getD q Pk.zero = st.l[q] := by simp [List.getD, hq]
    refine (take_yes m st.sent v st.l q w hf.1 hm hq).mono ?_
    rintro e w' ⟨rfl, v', h1, h2, h3⟩
    rw [show ((q : Nat) : Int).toNat = q by omega, eg]
    exact ⟨rfl, v', h1, h2, h3⟩
  · have er : takeR st p = 6 := by simp [takeR, hp]
    have ep : takeP st p = Pk.zero := by simp [takeP, hp]
    have es : takeS st p = st := by simp [takeS, hp]
    rw [er, ep, es]
    refine (take_no m st.sent v st.l p w hm hp).mono ?_
    rintro e w' ⟨rfl, h⟩
    exact did_quiet hm h
theorem twice_nil (p : Int) (w : World) : Calls Try.prog 12 #[.pointer none, .int .i64 p] w fun e w' => e = .returned (.int .i64 6) ∧ w = w' := by
  go_enter Try.func12, Try.ntmps12
  go_wp2_with (go_at_call 22; refine (at_nil _ _).mono ?_; rintro e w' ⟨rfl, rfl⟩)
  go_ret
  exact ⟨rfl, rfl⟩
set_option maxHeartbeats 400000 in
theorem twice_no (m : Nat) (sent : Int) (v : Value) (l : List Pk) (p : Int) (w : World) (hm : MailAt w m sent v l) (hp : ¬ (0 ≤ p ∧ p < l.length)) :
    Calls Try.prog 12 #[.pointer (some ⟨m, 0, none⟩), .int .i64 p] w fun e w' => e = .returned (.int .i64 6) ∧ w = w' := by
  have hm1 : w.cell? ⟨m, 1, none⟩ = some v := cell_of hm.1 1
  obtain ⟨a, c, rfl⟩ := slice_form hm.2
  have HP := Lib.hid hp
  clear hm hp
  go_enter Try.func12, Try.ntmps12
  go_wp2_with (go_at_call 22; refine (at_no m p a l.length c _ hm1 HP.out).mono ?_; rintro e w' ⟨rfl, rfl⟩)
  go_ret
  exact ⟨rfl, rfl⟩
set_option maxHeartbeats 800000 in
theorem twice_yes (m : Nat) (v : Value) (st : St) (N : Int) (p : Nat) (w : World) (hm : MailAt w m st.sent v st.l) (hf : Fine st N) (hN : N ≤ 1000000) (hp : p < st.l.length) :
    Calls Try.prog 12 #[.pointer (some ⟨m, 0, none⟩), .int .i64 p] w (Did m v (.int .i64 (sendR st st.l[p].d st.l[p].f [st.l[p].s])) (sendS st st.l[p].d st.l[p].f [st.l[p].s]) w) := by
  have hm1 : w.cell? ⟨m, 1, none⟩ = some v := cell_of hm.1 1
  have hml := lt_of_block hm.1
  rcases hm.2.form with ⟨_, h0⟩ | ⟨g, cap, cur, rfl, hg, _⟩
  · simp [h0] at hp
  have hgl := lt_of_block hg
  obtain ⟨c0, c1, c2, c3⟩ := hm.2.at p hp
  have hxs : st.l[p].s.size ≤ 9223372036854775807 := hf.2.2.2 _ (List.getElem_mem hp)
  obtain ⟨x, hx⟩ : ∃ x, x = st.l[p] := ⟨_, rfl⟩
  rw [← hx] at c0 c1 c2 c3 hxs ⊢
  have HM := Lib.hid hm
  have HF := Lib.hid hf
  obtain ⟨n, hnn⟩ : ∃ n, n = st.l.length := ⟨_, rfl⟩
  rw [← hnn] at hm1 hp
  have HN := Lib.hid hnn
  have hV : Hid ((.slice (some ⟨g, 0, none⟩) st.l.length cap : Value) = .slice (some ⟨g, 0, none⟩) n cap) := by rw [hnn]; exact rfl
  clear hm hg hx hf hnn
  go_enter Try.func12, Try.ntmps12
  go_wp2_with (go_at_call 22; refine (at_yes m p _ n cap _ hm1 hp).mono ?_; rintro e w' ⟨rfl, rfl⟩)
  have hq : Only (fun _ => False) w ((w.alloc (.cells #[.int .i64 x.n, .int .i64 x.d, .int .i64 x.f, .string x.s] 27)).alloc (.cells #[.string x.s] 9)) := ((Only.refl _ w).alloc _).alloc _
  have HQ := Lib.hid hq
  clear hq
  refine (send_all m _ st N x.d x.f _ [x.s] 1 _ ⟨HQ.out.same HM.out.1 (fun h => h), HM.out.2.only HQ.out (fun _ _ h => h)⟩ HF.out hN (by simp) (by simp) (.inr ⟨w.heap.size + 1, 0, rfl, ?_⟩) ?_ ?_).mono ?_
  · intro i hi
    simp at hi
    subst hi
    exact World.cell?_alloc_at #[.string x.s] 9 (w.heap.size + 1) 0 (by simp)
  · intro b off hb
    right
    intro h
    cases hb
    rcases h with h | h
    · omega
    · have h' : some g = some (w.heap.size + 1) := h
      simp at h'
      omega
  · intro s hs
    simp at hs
    subst hs
    exact hxs
  · rintro e w' ⟨rfl, v', h1, h2, h3⟩
    have H1 := Lib.hid h1
    have H2 := Lib.hid h2
    have H3 := Lib.hid h3
    clear h1 h2 h3
    go_wp2_with fail
    go_ret
    refine ⟨rfl, v', H1.out, (HQ.out.mono (fun _ _ h => h.elim)).trans H2.out (fun _ _ h => h), fun b hb => ?_⟩
    rcases H3.out b hb with h | h
    · exact .inl h
    · right; have := HQ.out.size; omega
theorem twice_all (m : Nat) (v : Value) (st : St) (N : Int) (p : Int) (w : World) (hm : MailAt w m st.sent v st.l) (hf : Fine st N) (hN : N ≤ 1000000) :
    Calls Try.prog 12 #[.pointer (some ⟨m, 0, none⟩), .int .i64 p] w (Did m v (.int .i64 (twiceR st p)) (twiceS st p) w) := by
  by_cases hp : 0 ≤ p ∧ p < st.l.length
  · have er : twiceR st p = sendR st (st.l.getD p.toNat Pk.zero).d (st.l.getD p.toNat Pk.zero).f [(st.l.getD p.toNat Pk.zero).s] := by simp [twiceR, hp]
    have es : twiceS st p = sendS st (st.l.getD p.toNat Pk.zero).d (st.l.getD p.toNat Pk.zero).f [(st.l.getD p.toNat Pk.zero).s] := by simp [twiceS, hp]
    rw [er, es]
    obtain ⟨q, rfl⟩ := Int.eq_ofNat_of_zero_le hp.1
    have hq : q < st.l.length := by omega
    have eg : st.l.getD q Pk.zero = st.l[q] := by simp [List.getD, hq]
    rw [show ((q : Nat) : Int).toNat = q by omega, eg]
    exact twice_yes m v st N q w hm hf hN hq
  · have er : twiceR st p = 6 := by simp [twiceR, hp]
    have es : twiceS st p = st := by simp [twiceS, hp]
    rw [er, es]
    refine (twice_no m st.sent v st.l p w hm hp).mono ?_
    rintro e w' ⟨rfl, rfl⟩
    exact did_quiet hm (Only.refl _ _)
end Go.Proofs.Ytcfmohhidbneoaa.Mu
