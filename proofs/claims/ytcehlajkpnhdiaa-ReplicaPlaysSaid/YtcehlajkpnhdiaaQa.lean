/- The reference's set in memory; the contracts of its End, has, rise. -/
import Derived.Test.YtcehlajkpnhdiaaPc
import Derived.Test.YtcehlajkpnhdiaaRs
namespace Go.Proofs.Ytcehlajkpnhdiaa.Ra
open Go.RowKit Go.Proofs.Ytcehlajkpnhdiaa.Rw Go.Proofs.Ytcehlajkpnhdiaa.Rp
set_option linter.unusedSimpArgs false
set_option linter.unusedVariables false
variable {w w1 : World} {m bs N cap : Nat} {vs : Nat → Value} {s : St}
/-- A block whose first n cells are known. -/
def Blk (w : World) (b : Nat) (t : TypeId) (n : Nat) (f : Nat → Value) : Prop := ∃ cur : Array Value, w.heap[b]? = some (.cells cur t (0, 0)) ∧ n ≤ cur.size ∧ ∀ i, i < n → cur[i]? = some (f i)
variable {b n : Nat} {t : TypeId} {f : Nat → Value}
theorem Blk.cell (h : Blk w b t n f) (i : Nat) (hi : i < n) : w.cell? ⟨b, i, none⟩ = some (f i) := by
  obtain ⟨cur, h1, h2, h3⟩ := h
  rw [cell_of h1]; exact h3 i hi
theorem Blk.free (h : Blk w b t n f) (i : Nat) : w.frozen? ⟨b, i, none⟩ = false := by
  obtain ⟨cur, h1, h2, h3⟩ := h
  exact free_of h1 i
theorem Blk.lt (h : Blk w b t n f) : b < w.heap.size := by
  obtain ⟨cur, h1, h2, h3⟩ := h
  exact lt_of_block h1
theorem Blk.move (h : Blk w b t n f) (hb : w1.heap[b]? = w.heap[b]?) : Blk w1 b t n f := by
  obtain ⟨cur, h1, h2, h3⟩ := h
  exact ⟨cur, by rw [hb, h1], h2, h3⟩
theorem Blk.set (h : Blk w b t n f) (i : Nat) (hi : i < n) (v : Value) : Blk (w.setCell ⟨b, i, none⟩ v) b t n (upd f i v) := by
  obtain ⟨cur, h1, h2, h3⟩ := h
  refine ⟨_, block_set h1 v, by simp; exact h2, fun j hj => ?_⟩
  by_cases e : j = i
  · subst e
    have : j < cur.size := by omega
    simp [upd, Array.getElem?_setIfInBounds, this]
  · simp [upd, e, Array.getElem?_setIfInBounds, Ne.symm e]
    exact h3 j hj
theorem Blk.ext (h : Blk w b t n f) {f' : Nat → Value} (hf : ∀ i, i < n → f i = f' i) : Blk w b t n f' := by
  obtain ⟨cur, h1, h2, h3⟩ := h
  exact ⟨cur, h1, h2, fun i hi => by rw [h3 i hi, hf i hi]⟩
theorem Blk.ne (h : Blk w b t n f) {o : Array Value} {b' : Nat} {t' : TypeId} {fr : Nat × Nat} (h' : w.heap[b']? = some (.cells o t' fr)) (ht : t ≠ t') : b ≠ b' := by
  rintro rfl
  obtain ⟨cur, h1, _⟩ := h
  rw [h1] at h'; cases h'; exact ht rfl
theorem Blk.row (h : Blk w b t n f) (ht : t ≠ 45) {v : Value} {l : List Cp} (hr : Row w v l) : v.ownBlock ≠ some b := by
  obtain ⟨cur, h1, _⟩ := h
  exact hr.apart h1 ht
def rF (vs : Nat → Value) (s : St) : Nat → Value := fun j => if j % 4 = 0 then vs (j / 4) else if j % 4 = 1 then .bool (s.ups (j / 4)) else if j % 4 = 2 then .bool (s.ins (j / 4)) else .int .i64 (s.mat (j / 4))
theorem rF_0 (vs : Nat → Value) (s : St) (i : Nat) : rF vs s (i * 4) = vs i := by
  have h1 : (i * 4) % 4 = 0 := by omega
  have h2 : (i * 4) / 4 = i := by omega
  simp [rF, h1, h2]
theorem rF_1 (vs : Nat → Value) (s : St) (i : Nat) : rF vs s (i * 4 + 1) = .bool (s.ups i) := by
  have h1 : (i * 4 + 1) % 4 = 1 := by omega
  have h2 : (i * 4 + 1) / 4 = i := by omega
  simp [rF, h1, h2]
theorem rF_2 (vs : Nat → Value) (s : St) (i : Nat) : rF vs s (i * 4 + 2) = .bool (s.ins i) := by
  have h1 : (i * 4 + 2) % 4 = 2 := by omega
  have h2 : (i * 4 + 2) / 4 = i := by omega
  simp [rF, h1, h2]
theorem rF_3 (vs : Nat → Value) (s : St) (i : Nat) : rF vs s (i * 4 + 3) = .int .i64 (s.mat i) := by
  have h1 : (i * 4 + 3) % 4 = 3 := by omega
  have h2 : (i * 4 + 3) / 4 = i := by omega
  simp [rF, h1, h2]
/-- A node is written. -/
def setN (s : St) (i : Nat) (l : List Cp) (u c : Bool) (k : Nat) : St := { s with logs := upd s.logs i l, ups := upd s.ups i u, ins := upd s.ins i c, mat := upd s.mat i k }
theorem rF_set (vs : Nat → Value) (s : St) (i : Nat) (v : Value) (l : List Cp) (u c : Bool) (k : Nat) :
    upd (upd (upd (upd (rF vs s) (i * 4) v) (i * 4 + 1) (.bool u)) (i * 4 + 2) (.bool c)) (i * 4 + 3) (.int .i64 k) = rF (upd vs i v) (setN s i l u c k) := by
  funext j
  have hj : j % 4 < 4 := Nat.mod_lt _ (by omega)
  by_cases e : j / 4 = i
  · have h0 : j % 4 = 0 ∨ j % 4 = 1 ∨ j % 4 = 2 ∨ j % 4 = 3 := by omega
    rcases h0 with h0 | h0 | h0 | h0
    · obtain rfl : j = i * 4 := by omega
      rw [rF_0, upd_same]
      unfold upd
      simp
    · obtain rfl : j = i * 4 + 1 := by omega
      rw [rF_1]
      simp [setN, upd_same, upd]
    · obtain rfl : j = i * 4 + 2 := by omega
      rw [rF_2]
      simp [setN, upd_same, upd]
    · obtain rfl : j = i * 4 + 3 := by omega
      rw [rF_3]
      simp [setN, upd_same, upd]
  · have n0 : j ≠ i * 4 := by omega
    have n1 : j ≠ i * 4 + 1 := by omega
    have n2 : j ≠ i * 4 + 2 := by omega
    have n3 : j ≠ i * 4 + 3 := by omega
    rw [upd_other _ _ _ n3, upd_other _ _ _ n2, upd_other _ _ _ n1, upd_other _ _ _ n0]
    unfold rF setN
    simp only [upd_other _ _ _ e]
/-- The reference's set at block m, its nodes at block bs. -/
structure RBox (w : World) (m bs N cap : Nat) (vs : Nat → Value) (s : St) : Prop where
  obj : w.heap[m]? = some (.cells #[.slice (some ⟨bs, 0, none⟩) N cap, .int .i64 s.epoch, .int .i64 s.lead, .int .i64 s.high] 64 (0, 0))
  nodes : Blk w bs 66 (N * 4) (rF vs s)
  rows : ∀ i, i < N → Row w (vs i) (s.logs i)
  room : N ≤ cap
theorem RBox.ne (h : RBox w m bs N cap vs s) : bs ≠ m := h.nodes.ne h.obj (by decide)
theorem RBox.neRow (h : RBox w m bs N cap vs s) {i : Nat} (hi : i < N) : (vs i).ownBlock ≠ some m ∧ (vs i).ownBlock ≠ some bs := ⟨(h.rows i hi).apart h.obj (by decide), h.nodes.row (by decide) (h.rows i hi)⟩
theorem RBox.move (h : RBox w m bs N cap vs s) (hb : ∀ k, (k = m ∨ k = bs ∨ ∃ i, i < N ∧ (vs i).ownBlock = some k) → w1.heap[k]? = w.heap[k]?) : RBox w1 m bs N cap vs s :=
  ⟨by rw [hb m (.inl rfl)]; exact h.obj, h.nodes.move (hb bs (.inr (.inl rfl))), fun i hi => (h.rows i hi).move fun g hg => hb g (.inr (.inr ⟨i, hi, hg⟩)), h.room⟩
theorem RBox.lt (h : RBox w m bs N cap vs s) {k : Nat} (hk : k = m ∨ k = bs ∨ ∃ i, i < N ∧ (vs i).ownBlock = some k) : k < w.heap.size := by
  rcases hk with rfl | rfl | ⟨i, hi, hg⟩
  · exact lt_of_block h.obj
  · exact h.nodes.lt
  · exact (h.rows i hi).lt hg
theorem RBox.only {S : Nat → Prop} (h : RBox w m bs N cap vs s) (ho : Only S w w1) (hS : ∀ k, (k = m ∨ k = bs ∨ ∃ i, i < N ∧ (vs i).ownBlock = some k) → ¬ S k) : RBox w1 m bs N cap vs s :=
  h.move fun k hk => ho.block k (h.lt hk) (hS k hk)
theorem RBox.drewN (h : RBox w m bs N cap vs s) (k : Nat) : RBox (w.drewN k) m bs N cap vs s := ⟨h.obj, h.nodes, h.rows, h.room⟩
theorem RBox.drew (h : RBox w m bs N cap vs s) : RBox w.drew m bs N cap vs s := ⟨h.obj, h.nodes, h.rows, h.room⟩
theorem RBox.log (h : RBox w m bs N cap vs s) {i : Nat} (hi : i < N) : w.cell? ⟨bs, i * 4, none⟩ = some (vs i) := by rw [h.nodes.cell _ (by omega), rF_0]
theorem RBox.up (h : RBox w m bs N cap vs s) {i : Nat} (hi : i < N) : w.cell? ⟨bs, i * 4 + 1, none⟩ = some (.bool (s.ups i)) := by rw [h.nodes.cell _ (by omega), rF_1]
theorem RBox.in_ (h : RBox w m bs N cap vs s) {i : Nat} (hi : i < N) : w.cell? ⟨bs, i * 4 + 2, none⟩ = some (.bool (s.ins i)) := by rw [h.nodes.cell _ (by omega), rF_2]
theorem RBox.mat (h : RBox w m bs N cap vs s) {i : Nat} (hi : i < N) : w.cell? ⟨bs, i * 4 + 3, none⟩ = some (.int .i64 (s.mat i)) := by rw [h.nodes.cell _ (by omega), rF_3]
theorem RBox.setNode (h : RBox w m bs N cap vs s) {i : Nat} (hi : i < N) (v : Value) (l : List Cp) (u c : Bool) (k : Nat) (hr : Row w v l) :
    RBox ((((w.setCell ⟨bs, i * 4, none⟩ v).setCell ⟨bs, i * 4 + 1, none⟩ (.bool u)).setCell ⟨bs, i * 4 + 2, none⟩ (.bool c)).setCell ⟨bs, i * 4 + 3, none⟩ (.int .i64 k)) m bs N cap (upd vs i v) (setN s i l u c k) := by
  have hfar : ∀ g, g ≠ bs → ((((w.setCell ⟨bs, i * 4, none⟩ v).setCell ⟨bs, i * 4 + 1, none⟩ (.bool u)).setCell ⟨bs, i * 4 + 2, none⟩ (.bool c)).setCell ⟨bs, i * 4 + 3, none⟩ (.int .i64 k)).heap[g]? = w.heap[g]? := by
    intro g hg
    rw [Below.heap_setCell _ _ _ _ hg, Below.heap_setCell _ _ _ _ hg, Below.heap_setCell _ _ _ _ hg, Below.heap_setCell _ _ _ _ hg]
  refine ⟨by rw [hfar m (Ne.symm h.ne)]; exact h.obj, ?_, ?_, h.room⟩
  · have := (((h.nodes.set (i * 4) (by omega) v).set (i * 4 + 1) (by omega) (.bool u)).set (i * 4 + 2) (by omega) (.bool c)).set (i * 4 + 3) (by omega) (.int .i64 k)
    rwa [rF_set vs s i v l u c k] at this
  · intro j hj
    show Row _ (upd vs i v j) (upd s.logs i l j)
    by_cases e : j = i
    · rw [e, upd_same, upd_same]
      exact hr.move fun g hg => hfar g (by rintro rfl; exact h.nodes.row (by decide) hr hg)
    · rw [upd_other _ _ _ e, upd_other _ _ _ e]
      exact (h.rows j hj).move fun g hg => hfar g (by rintro rfl; exact (h.neRow hj).2 hg)
theorem RBox.setObj (h : RBox w m bs N cap vs s) (i : Nat) (v : Value) (s' : St)
    (hs : #[.slice (some ⟨bs, 0, none⟩) N cap, .int .i64 s.epoch, .int .i64 s.lead, .int .i64 s.high].setIfInBounds i v = #[.slice (some ⟨bs, 0, none⟩) N cap, .int .i64 s'.epoch, .int .i64 s'.lead, .int .i64 s'.high])
    (h1 : s'.ups = s.ups) (h2 : s'.ins = s.ins) (h3 : s'.mat = s.mat) (h4 : s'.logs = s.logs) : RBox (w.setCell ⟨m, i, none⟩ v) m bs N cap vs s' := by
  refine ⟨?_, ?_, ?_, h.room⟩
  · have := block_set (i := i) h.obj v
    rw [hs] at this; exact this
  · have := h.nodes.move (w1 := w.setCell ⟨m, i, none⟩ v) (Below.heap_setCell _ _ _ _ h.ne)
    have e : rF vs s' = rF vs s := by unfold rF; rw [h1, h2, h3]
    rw [e]; exact this
  · intro j hj
    rw [h4]
    exact (h.rows j hj).move fun g hg => Below.heap_setCell _ _ _ _ (by rintro rfl; exact (h.neRow hj).1 hg)
theorem RBox.ext (h : RBox w m bs N cap vs s) (s' : St) (h1 : s'.epoch = s.epoch) (h2 : s'.lead = s.lead) (h3 : s'.high = s.high) (h4 : ∀ i, i < N → s'.logs i = s.logs i) (h5 : ∀ i, i < N → s'.ups i = s.ups i) (h6 : ∀ i, i < N → s'.ins i = s.ins i) (h7 : ∀ i, i < N → s'.mat i = s.mat i) : RBox w m bs N cap vs s' := by
  refine ⟨by rw [h1, h2, h3]; exact h.obj, h.nodes.ext ?_, ?_, h.room⟩
  · intro j hj
    have : j / 4 < N := by omega
    unfold rF
    rw [h5 _ this, h6 _ this, h7 _ this]
  · intro j hj; rw [h4 j hj]; exact h.rows j hj
/-- What a deed of the reference leaves. -/
def RFt (m bs : Nat) (k : Nat) : Prop := k = m ∨ k = bs
def RDid (m bs N cap : Nat) (vs : Nat → Value) (rs : Int × St) (w : World) (e : Ending) (w' : World) : Prop :=
  e = .returned (.int .i64 rs.1) ∧ ∃ vs', RBox w' m bs N cap vs' rs.2 ∧ Only (RFt m bs) w w' ∧ Nextv N vs vs' w
/-! ### End, has -/
theorem endTo_step (l : List Cp) (e : Int) (k : Nat) : endTo l e (k + 1) = if (l.getD k cz).1 ≤ e then k + 1 else endTo l e k := by
  rw [endTo]
  by_cases h : (l.getD k cz).1 ≤ e
  · rw [if_neg (by omega), if_pos h]
  · rw [if_pos (by omega), if_neg h]
set_option maxHeartbeats 800000 in
theorem rend_some (g c : Nat) (l : List Cp) (x : Int) (hl : l.length ≤ 1000) (h : Row w (.slice (some ⟨g, 0, none⟩) l.length c) l) : Calls Try.prog 39 #[.slice (some ⟨g, 0, none⟩) l.length c, .int .i64 x] w fun e w' => e = .returned (.int .i64 (endN l x)) ∧ w' = w := by
  have hc : ∀ i, i < l.length → w.cell? ⟨g, i * 2, none⟩ = some (.int .i64 (l.getD i cz).1) := fun i hi => (h.at i hi).1
  have HC := Lib.hid hc
  clear hc h
  obtain ⟨ll, hll⟩ : ∃ ll, ll = l.length := ⟨_, rfl⟩
  rw [← hll] at hl ⊢
  have HL := Lib.hid hll
  clear hll
  go_enter Try.func39, Try.ntmps39
  go_wp2_with fail
  go_loopw [5, 6] (fun u v wr => ∃ (k : Nat), k ≤ ll ∧ v = .int .i64 k ∧ u = .int .i64 (endTo l x k) ∧ wr = w) (fun _ v _ => ll - (intOf v).toNat)
  case atStart => exact ⟨0, by omega, rfl, rfl, rfl⟩
  case round =>
    obtain ⟨k, hk, rfl, rfl, rfl⟩ := hrel
    by_cases hlt : k < ll
    · have ck := HC.out k (by have := HL.out; omega)
      have hst := endTo_step l x k
      obtain ⟨y, hy⟩ : ∃ y, y = (l.getD k cz).1 := ⟨_, rfl⟩
      rw [← hy] at ck hst
      obtain ⟨z, hz⟩ : ∃ z, z = endTo l x k := ⟨_, rfl⟩
      rw [← hz] at hst ⊢
      have hi0 : (0 : Int) ≤ (k : Int) := by omega
      have hi1 : (k : Int) < (ll : Int) := by omega
      by_cases hle : y ≤ x
      · rw [if_pos hle] at hst
        have HS := Lib.hid hst
        clear hst hy hz
        go_wp2_with fail
        go_roundw
        case rel => exact ⟨k + 1, by omega, by go_num, by rw [HS.out]; go_num, trivial⟩
        case measure => simp [intOf]; omega
      · rw [if_neg hle] at hst
        have HS := Lib.hid hst
        clear hst hy hz
        go_wp2_with fail
        go_roundw
        case rel => exact ⟨k + 1, by omega, by go_num, by rw [HS.out], trivial⟩
        case measure => simp [intOf]; omega
    · obtain rfl : k = ll := by omega
      have he : endN l x = endTo l x k := by unfold endN; rw [HL.out]
      have HE := Lib.hid he
      clear he
      go_wp2_with fail
      go_ret
      exact ⟨by rw [HE.out]; rfl, rfl⟩
theorem rend_nil (x : Int) : Calls Try.prog 39 #[.slice none 0 0, .int .i64 x] w fun e w' => e = .returned (.int .i64 (endN [] x)) ∧ w' = w := by
  go_enter Try.func39, Try.ntmps39
  go_wp2_with fail
  go_loopw [5, 6] (fun u v wr => u = .int .i64 0 ∧ v = .int .i64 0 ∧ wr = w) (fun _ _ _ => 0)
  case atStart => exact ⟨rfl, rfl, rfl⟩
  case round =>
    obtain ⟨rfl, rfl, rfl⟩ := hrel
    go_wp2_with fail
    go_ret
    exact ⟨rfl, rfl⟩
theorem rend_any (v : Value) (l : List Cp) (x : Int) (hl : l.length ≤ 1000) (h : Row w v l) : Calls Try.prog 39 #[v, .int .i64 x] w fun e w' => e = .returned (.int .i64 (endN l x)) ∧ w' = w := by
  rcases h with ⟨rfl, rfl⟩ | ⟨g, cap, cur, rfl, h1, h2⟩
  · exact rend_nil x
  · exact rend_some g cap l x hl (.inr ⟨g, cap, cur, rfl, h1, h2⟩)
def hasTo (l : List Cp) (e : Int) : Nat → Bool
  | 0 => false
  | k + 1 => hasTo l e k || (ep l k == e)
theorem hasTo_iff (l : List Cp) (e : Int) : ∀ k, hasTo l e k = true ↔ ∃ j, j < k ∧ ep l j = e
  | 0 => by simp [hasTo]
  | k + 1 => by
    unfold hasTo
    rw [Bool.or_eq_true, hasTo_iff l e k, beq_iff_eq]
    constructor
    · rintro (⟨j, h1, h2⟩ | h)
      · exact ⟨j, by omega, h2⟩
      · exact ⟨k, by omega, h⟩
    · rintro ⟨j, h1, h2⟩
      by_cases e' : j = k
      · subst e'; exact .inr h2
      · exact .inl ⟨j, by omega, h2⟩
set_option maxHeartbeats 800000 in
theorem rhas_some (g c : Nat) (l : List Cp) (x : Int) (hl : l.length ≤ 1000) (h : Row w (.slice (some ⟨g, 0, none⟩) l.length c) l) : Calls Try.prog 40 #[.slice (some ⟨g, 0, none⟩) l.length c, .int .i64 x] w fun e w' => e = .returned (.bool (hasTo l x l.length)) ∧ w' = w := by
  have hc : ∀ i, i < l.length → w.cell? ⟨g, i * 2, none⟩ = some (.int .i64 (ep l i)) := fun i hi => (h.at i hi).1
  have HC := Lib.hid hc
  clear hc h
  obtain ⟨ll, hll⟩ : ∃ ll, ll = l.length := ⟨_, rfl⟩
  rw [← hll] at hl ⊢
  have HL := Lib.hid hll
  clear hll
  go_enter Try.func40, Try.ntmps40
  go_wp2_with fail
  go_loopw [5] (fun v wr => ∃ (k : Nat), k ≤ ll ∧ v = .int .i64 k ∧ Hid (hasTo l x k = false) ∧ wr = w) (fun v _ => ll - (intOf v).toNat)
  case atStart => exact ⟨0, by omega, rfl, Lib.hid rfl, rfl⟩
  case round =>
    obtain ⟨k, hk, rfl, HK, rfl⟩ := hrel
    by_cases hlt : k < ll
    · have ck := HC.out k (by have := HL.out; omega)
      have hi0 : (0 : Int) ≤ (k : Int) := by omega
      have hi1 : (k : Int) < (ll : Int) := by omega
      by_cases he : ep l k = x
      · have hall : Hid (hasTo l x ll = true) := Lib.hid ((hasTo_iff l x ll).2 ⟨k, hlt, he⟩)
        have hb : (ep l k == x) = true := by simp [he]
        generalize ep l k = y at ck hb
        clear he
        go_wp2_with fail
        go_ret
        exact ⟨by rw [hall.out]; rfl, rfl⟩
      · have hn : Hid (hasTo l x (k + 1) = false) := Lib.hid (by unfold hasTo; rw [HK.out]; simp [he])
        have hb : (ep l k == x) = false := by simp [he]
        generalize ep l k = y at ck hb
        clear he
        go_wp2_with fail
        go_roundw
        case rel => exact ⟨k + 1, by omega, by go_num, hn, trivial⟩
        case measure => simp [intOf]; omega
    · obtain rfl : k = ll := by omega
      go_wp2_with fail
      go_ret
      exact ⟨by rw [HK.out]; rfl, rfl⟩
end Go.Proofs.Ytcehlajkpnhdiaa.Ra
