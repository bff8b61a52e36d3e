/- Words on memory: which blocks a call may have turned ('Only'), a row of copies behind a slice's value ('Row'), a block that is known cell by cell ('Arr'), and 'append' onto a row; nothing of the program is in it. -/
import Derived.WalkKit
import Derived.Deep.AppendLies
import Derived.Deep.RegionLaw
import Derived.Deep.AppendSrc
import Derived.Deep.Upon
import Derived.Deep.Draws
import Derived.Deep.Draws
namespace Go.Proofs.Ytcehlajkpnhdiaa.Rw
open Go.RowKit
set_option linter.unusedSimpArgs false
set_option linter.unusedVariables false
/-- Of the blocks that were there, those of S alone may have turned. -/
structure Only (S : Nat → Prop) (w w' : World) : Prop where
  os : w'.os = w.os
  tape : w'.tape = w.tape
  output : w'.output = w.output
  size : w.heap.size ≤ w'.heap.size
  block : ∀ k, k < w.heap.size → ¬ S k → w'.heap[k]? = w.heap[k]?
variable {S T : Nat → Prop} {w w1 w2 : World}
theorem Only.refl (S : Nat → Prop) (w : World) : Only S w w := ⟨rfl, rfl, rfl, Nat.le_refl _, fun _ _ _ => rfl⟩
theorem Only.trans (h : Only S w w1) (k : Only T w1 w2) (hT : ∀ b, b < w.heap.size → T b → S b) : Only S w w2 :=
  ⟨k.os.trans h.os, k.tape.trans h.tape, k.output.trans h.output, Nat.le_trans h.size k.size, fun b hb hS =>
    (k.block b (Nat.lt_of_lt_of_le hb h.size) (fun t => hS (hT b hb t))).trans (h.block b hb hS)⟩
theorem Only.mono (h : Only T w w1) (hT : ∀ b, b < w.heap.size → T b → S b) : Only S w w1 := (Only.refl S w).trans h hT
theorem Only.drew (h : Only S w w1) : Only S w w1.drew := ⟨h.os, h.tape, h.output, h.size, h.block⟩
theorem Only.drewN (h : Only S w w1) (n : Nat) : Only S w (w1.drewN n) := ⟨h.os, h.tape, h.output, h.size, h.block⟩
theorem Only.alloc (h : Only S w w1) (o : Obj) : Only S w (w1.alloc o) :=
  ⟨h.os, h.tape, h.output, Nat.le_trans h.size (by simp), fun k hk hS => (Below.heap_alloc _ _ _ (by have := h.size; omega)).trans (h.block k hk hS)⟩
theorem Only.setCell (h : Only S w w1) {p : Addr} (hp : w.heap.size ≤ p.block ∨ S p.block) (u : Value) : Only S w (w1.setCell p u) :=
  ⟨h.os, h.tape, h.output, Nat.le_trans h.size (by simp [World.setCell]), fun k hk hS => (Below.heap_setCell _ _ _ _ (by rintro rfl; rcases hp with hp | hp; omega; exact hS hp)).trans (h.block k hk hS)⟩
theorem Only.grown (h : Only S w w1) {row : Option Nat} (hg : w1.grownBy w2 row) (hr : ∀ k, row = some k → w.heap.size ≤ k ∨ S k) : Only S w w2 :=
  ⟨hg.os.trans h.os, hg.tape.trans h.tape, hg.output.trans h.output, Nat.le_trans h.size hg.size, fun k hk hS =>
    (hg.block k (by have := h.size; omega) (fun e => by rcases hr k e.symm with q | q; omega; exact hS q)).trans (h.block k hk hS)⟩
theorem Only.below (h : Only S w w1) {B : Nat} (hB : B ≤ w.heap.size) (hS : ∀ k, S k → B ≤ k) : Below B w w1 :=
  ⟨h.os, h.tape, h.output, h.size, fun k hk => h.block k (by omega) (fun s => by have := hS k s; omega)⟩
theorem Only.ofBelow (h : Below w.heap.size w w1) : Only S w w1 := ⟨h.os, h.tape, h.output, h.size, fun k hk _ => h.block k hk⟩
theorem Only.same (h : Only S w w1) {b : Nat} {o : Obj} (hb : w.heap[b]? = some o) (hS : ¬ S b) : w1.heap[b]? = some o := by
  have : b < w.heap.size := by
    rcases Nat.lt_or_ge b w.heap.size with q | q
    · exact q
    · rw [Array.getElem?_eq_none q] at hb; cases hb
  rw [h.block b this hS, hb]
theorem lt_of_block {b : Nat} {o : Obj} (hb : w.heap[b]? = some o) : b < w.heap.size := by
  rcases Nat.lt_or_ge b w.heap.size with q | q
  · exact q
  · rw [Array.getElem?_eq_none q] at hb; cases hb
theorem cell_of {b : Nat} {cs : Array Value} {t : TypeId} {fr : Nat × Nat} (h : w.heap[b]? = some (.cells cs t fr)) (i : Nat) : w.cell? ⟨b, i, none⟩ = cs[i]? := by simp [World.cell?, h]
theorem free_of {b : Nat} {cs : Array Value} {t : TypeId} (h : w.heap[b]? = some (.cells cs t (0, 0))) (i : Nat) : w.frozen? ⟨b, i, none⟩ = false := by simp [World.frozen?, h]
theorem block_set {b i : Nat} {cs : Array Value} {t : TypeId} {fr : Nat × Nat} (h : w.heap[b]? = some (.cells cs t fr)) (v : Value) : (w.setCell ⟨b, i, none⟩ v).heap[b]? = some (.cells (cs.setIfInBounds i v) t fr) := by
  rw [setCell_eq_setRow w b i cs t fr v h]
  exact setRow_heap w b _ _ t _ h
theorem block_far {b : Nat} {p : Addr} {o : Obj} (h : w.heap[b]? = some o) (hb : b ≠ p.block) (v : Value) : (w.setCell p v).heap[b]? = some o := by
  rw [Below.heap_setCell _ _ _ _ hb, h]
theorem block_alloc {b : Nat} {o : Obj} (h : w.heap[b]? = some o) (o' : Obj) : (w.alloc o').heap[b]? = some o := by
  rw [Below.heap_alloc _ _ _ (lt_of_block h), h]
theorem block_new (w : World) (o : Obj) : (w.alloc o).heap[w.heap.size]? = some o := heap_alloc_new w o
theorem block_grown {b : Nat} {o : Obj} {row : Option Nat} (h : w.heap[b]? = some o) (hg : w.grownBy w1 row) (hb : row ≠ some b) : w1.heap[b]? = some o := by
  rw [hg.block b (lt_of_block h) (fun e => hb e.symm), h]
/-- A copy: its epoch, its value. -/
abbrev Cp := Int × Int
def cells2 (p : Cp) : List Value := [.int .i64 p.1, .int .i64 p.2]
def cz : Cp := (0, 0)
def ccs (l : List Cp) : List Value := l.flatMap cells2
theorem ccs_nil : ccs [] = [] := rfl
theorem ccs_cons (p : Cp) (l : List Cp) : ccs (p :: l) = cells2 p ++ ccs l := rfl
theorem ccs_append (l k : List Cp) : ccs (l ++ k) = ccs l ++ ccs k := by simp [ccs]
theorem ccs_length (l : List Cp) : (ccs l).length = l.length * 2 := by
  induction l with
  | nil => rfl
  | cons p l ih => rw [ccs_cons, List.length_append, ih]; simp [cells2]; omega
theorem ccs_get (l : List Cp) : ∀ i, i < l.length → (ccs l)[i * 2]? = some (.int .i64 (l.getD i cz).1) ∧ (ccs l)[i * 2 + 1]? = some (.int .i64 (l.getD i cz).2) := by
  induction l with
  | nil => intro i h; simp at h
  | cons p l ih =>
    intro i h
    cases i with
    | zero => simp [ccs_cons, cells2]
    | succ i =>
      have := ih i (by simpa using h)
      have e (k : Nat) : (ccs (p :: l))[(i + 1) * 2 + k]? = (ccs l)[i * 2 + k]? := by
        rw [ccs_cons, List.getElem?_append_right (by simp [cells2]; omega)]
        congr 1; simp [cells2]; omega
      have e0 := e 0
      simp only [Nat.add_zero] at e0
      rw [e0, e 1]
      simpa using this
theorem ccs_one (l : List Cp) : ∀ u ∈ ccs l, u.oneCell' = true := by
  intro u hu
  obtain ⟨p, _, hp⟩ := List.mem_flatMap.1 hu
  simp [cells2] at hp
  rcases hp with rfl | rfl <;> rfl
theorem ccs_take (l : List Cp) (i : Nat) (hi : i ≤ l.length) : ccs (l.take i) = (ccs l).take (i * 2) := by
  have : ccs l = ccs (l.take i) ++ ccs (l.drop i) := by rw [← ccs_append, List.take_append_drop]
  rw [this, List.take_left']
  rw [ccs_length, List.length_take]; omega
theorem ccs_drop (l : List Cp) (i : Nat) (hi : i ≤ l.length) : ccs (l.drop i) = (ccs l).drop (i * 2) := by
  have : ccs l = ccs (l.take i) ++ ccs (l.drop i) := by rw [← ccs_append, List.take_append_drop]
  rw [this, List.drop_left']
  rw [ccs_length, List.length_take]; omega
/-- A slice's value whose block begins with these copies; the block may be longer than the slice's room. -/
def Row (w : World) (v : Value) (l : List Cp) : Prop :=
  (v = .slice none 0 0 ∧ l = []) ∨ ∃ g cap cur, v = .slice (some ⟨g, 0, none⟩) l.length cap ∧ w.heap[g]? = some (.cells cur 45 (0, 0)) ∧ l.length ≤ cap ∧ cap ≤ maxLen ∧ cap * 2 ≤ cur.size ∧ cur.toList.take (l.length * 2) = ccs l
theorem Row.nil (w : World) : Row w (.slice none 0 0) [] := .inl ⟨rfl, rfl⟩
theorem Row.mk {g cap : Nat} {cur : Array Value} {l : List Cp} (hg : w.heap[g]? = some (.cells cur 45 (0, 0))) (h1 : l.length ≤ cap) (h2 : cap ≤ maxLen) (h3 : cap * 2 ≤ cur.size) (h4 : cur.toList.take (l.length * 2) = ccs l) :
    Row w (.slice (some ⟨g, 0, none⟩) l.length cap) l := .inr ⟨g, cap, cur, rfl, hg, h1, h2, h3, h4⟩
theorem Row.ofOwn {v : Value} {l : List Cp} {B n : Nat} {xs : List Value} (h : w.ownsRow B 45 2 v n xs) (hn : n = l.length) (hx : xs = ccs l) : Row w v l := by
  subst hn hx
  rcases h.2 with ⟨h1, h2⟩ | ⟨g, cap, cur, h1, _, h2, h3, h4, h5, h6⟩
  · exact .inl ⟨h1, List.length_eq_zero_iff.1 h2⟩
  · exact .inr ⟨g, cap, cur, h1, h2, h3, h4, by omega, h6⟩
/-- The row's block is all that it hangs on. -/
theorem Row.move {v : Value} {l : List Cp} (h : Row w v l) (hb : ∀ g, v.ownBlock = some g → w1.heap[g]? = w.heap[g]?) : Row w1 v l := by
  rcases h with ⟨rfl, rfl⟩ | ⟨g, cap, cur, rfl, h1, h2, h3, h4, h5⟩
  · exact Row.nil _
  · exact Row.mk (by rw [hb g rfl, h1]) h2 h3 h4 h5
theorem Row.lt {v : Value} {l : List Cp} (h : Row w v l) {g : Nat} (hg : v.ownBlock = some g) : g < w.heap.size := by
  rcases h with ⟨rfl, rfl⟩ | ⟨g', cap, cur, rfl, h1, _⟩
  · cases hg
  · cases hg; exact lt_of_block h1
theorem Row.only {v : Value} {l : List Cp} (h : Row w v l) (ho : Only S w w1) (hS : ∀ g, v.ownBlock = some g → ¬ S g) : Row w1 v l :=
  h.move fun g hg => ho.block g (h.lt hg) (hS g hg)
theorem Row.apart {v : Value} {l : List Cp} (h : Row w v l) {b : Nat} {cs : Array Value} {t : TypeId} {fr : Nat × Nat} (hb : w.heap[b]? = some (.cells cs t fr)) (ht : t ≠ 45) : v.ownBlock ≠ some b := by
  rcases h with ⟨rfl, rfl⟩ | ⟨g', cap, cur, rfl, h1, _⟩
  · intro e; cases e
  · intro e; cases e; rw [h1] at hb; cases hb; exact ht rfl
theorem Row.slice {v : Value} {l : List Cp} (h : Row w v l) : ∃ a c, v = .slice a l.length c := by
  rcases h with ⟨h1, rfl⟩ | ⟨g, cap, cur, h1, _⟩
  · exact ⟨_, _, h1⟩
  · exact ⟨_, _, h1⟩
theorem Row.cells {g cap n : Nat} {l : List Cp} (h : Row w (.slice (some ⟨g, 0, none⟩) n cap) l) (j : Nat) (u : Value) (hu : (ccs l)[j]? = some u) : w.cell? ⟨g, j, none⟩ = some u := by
  rcases h with ⟨h0, _⟩ | ⟨g', cap', cur, hv, h1, h2, h3, h4, h5⟩
  · cases h0
  · cases hv
    rw [cell_of h1, ← hu, ← h5]
    have : j < (ccs l).length := (List.getElem?_eq_some_iff.1 hu).1
    rw [ccs_length] at this
    rw [List.getElem?_take_of_lt (by omega)]; simp
theorem Row.at {g cap n : Nat} {l : List Cp} (h : Row w (.slice (some ⟨g, 0, none⟩) n cap) l) (i : Nat) (hi : i < l.length) :
    w.cell? ⟨g, i * 2, none⟩ = some (.int .i64 (l.getD i cz).1) ∧ w.cell? ⟨g, i * 2 + 1, none⟩ = some (.int .i64 (l.getD i cz).2) :=
  ⟨h.cells _ _ (ccs_get l i hi).1, h.cells _ _ (ccs_get l i hi).2⟩
theorem Row.free {g cap n : Nat} {l : List Cp} (h : Row w (.slice (some ⟨g, 0, none⟩) n cap) l) (i : Nat) : w.frozen? ⟨g, i, none⟩ = false := by
  rcases h with ⟨h0, _⟩ | ⟨g', cap', cur, hv, h1, _⟩
  · cases h0
  · cases hv; exact free_of h1 i
/-- A shorter slice of the same block is a row, whatever room it is given within the old one's. -/
theorem Row.cut {g cap n : Nat} {l : List Cp} (h : Row w (.slice (some ⟨g, 0, none⟩) n cap) l) (k c : Nat) (hk : k ≤ l.length) (hc : k ≤ c) (hcc : c ≤ cap) : Row w (.slice (some ⟨g, 0, none⟩) k c) (l.take k) := by
  rcases h with ⟨h0, _⟩ | ⟨g', cap', cur, hv, h1, h2, h3, h4, h5⟩
  · cases h0
  · cases hv
    have el : (l.take k).length = k := by rw [List.length_take]; omega
    have := Row.mk (l := l.take k) (cap := c) h1 (by omega) (by omega) (by omega) (by rw [el, ccs_take l k hk, ← h5, List.take_take, show min (k * 2) (l.length * 2) = k * 2 by omega])
    rwa [el] at this
/-- A block that is known cell by cell. -/
def Arr (w : World) (b : Nat) (t : TypeId) (N : Nat) (f : Nat → Value) : Prop := ∃ cur : Array Value, w.heap[b]? = some (.cells cur t (0, 0)) ∧ cur.size = N ∧ ∀ i, i < N → cur[i]? = some (f i)
def upd {α : Type} (f : Nat → α) (i : Nat) (v : α) : Nat → α := fun j => if j = i then v else f j
theorem upd_same {α : Type} (f : Nat → α) (i : Nat) (v : α) : upd f i v i = v := by simp [upd]
theorem upd_other {α : Type} (f : Nat → α) (i : Nat) (v : α) {j : Nat} (h : j ≠ i) : upd f i v j = f j := by simp [upd, h]
variable {b N : Nat} {t : TypeId} {f : Nat → Value}
theorem Arr.cell (h : Arr w b t N f) (i : Nat) (hi : i < N) : w.cell? ⟨b, i, none⟩ = some (f i) := by
  obtain ⟨cur, h1, h2, h3⟩ := h
  rw [cell_of h1]; exact h3 i hi
theorem Arr.free (h : Arr w b t N f) (i : Nat) : w.frozen? ⟨b, i, none⟩ = false := by
  obtain ⟨cur, h1, h2, h3⟩ := h
  exact free_of h1 i
theorem Arr.lt (h : Arr w b t N f) : b < w.heap.size := by
  obtain ⟨cur, h1, h2, h3⟩ := h
  exact lt_of_block h1
theorem Arr.move (h : Arr w b t N f) (hb : w1.heap[b]? = w.heap[b]?) : Arr w1 b t N f := by
  obtain ⟨cur, h1, h2, h3⟩ := h
  exact ⟨cur, by rw [hb, h1], h2, h3⟩
theorem Arr.only (h : Arr w b t N f) (ho : Only S w w1) (hS : ¬ S b) : Arr w1 b t N f := h.move (ho.block b h.lt hS)
theorem Arr.set (h : Arr w b t N f) (i : Nat) (v : Value) : Arr (w.setCell ⟨b, i, none⟩ v) b t N (upd f i v) := by
  obtain ⟨cur, h1, h2, h3⟩ := h
  refine ⟨_, block_set h1 v, by simp [h2], fun j hj => ?_⟩
  by_cases e : j = i
  · subst e
    simp [upd, Array.getElem?_setIfInBounds, h2, hj]
  · simp [upd, e, Array.getElem?_setIfInBounds, Ne.symm e]
    exact h3 j hj
theorem Arr.ne (h : Arr w b t N f) {b' N' : Nat} {t' : TypeId} {f' : Nat → Value} (h' : Arr w b' t' N' f') (ht : t ≠ t') : b ≠ b' := by
  rintro rfl
  obtain ⟨cur, h1, _⟩ := h
  obtain ⟨cur', h1', _⟩ := h'
  rw [h1] at h1'; cases h1'; exact ht rfl
theorem Arr.row (h : Arr w b t N f) (ht : t ≠ 45) {v : Value} {l : List Cp} (hr : Row w v l) : v.ownBlock ≠ some b := by
  obtain ⟨cur, h1, _⟩ := h
  exact hr.apart h1 ht
theorem Arr.ext (h : Arr w b t N f) {f' : Nat → Value} (hf : ∀ i, i < N → f i = f' i) : Arr w b t N f' := by
  obtain ⟨cur, h1, h2, h3⟩ := h
  exact ⟨cur, h1, h2, fun i hi => by rw [h3 i hi, hf i hi]⟩
theorem Arr.of {cs : Array Value} (h : w.heap[b]? = some (.cells cs t (0, 0))) : Arr w b t cs.size (fun i => cs[i]?.getD (.int .i64 0)) :=
  ⟨cs, h, rfl, fun i hi => by simp [hi]⟩
/-! ### append onto a row -/
theorem setCells_far {b : Nat} {k : Nat} (hk : k ≠ b) : ∀ (vs : List Value) (o : Nat) (w : World), (w.setCells b o vs).heap[k]? = w.heap[k]?
  | [], o, w => rfl
  | v :: vs, o, w => by
    show ((w.setCell ⟨b, o, none⟩ v).setCells b (o + 1) vs).heap[k]? = _
    rw [setCells_far hk vs (o + 1) _, Below.heap_setCell _ _ _ _ hk]
theorem setCells_at {b : Nat} {t : TypeId} {fr : Nat × Nat} : ∀ (vs : List Value) (o : Nat) (w : World) (cur : Array Value), w.heap[b]? = some (.cells cur t fr) → o + vs.length ≤ cur.size →
    ∃ cur', (w.setCells b o vs).heap[b]? = some (.cells cur' t fr) ∧ cur'.size = cur.size ∧ cur'.toList = cur.toList.take o ++ vs ++ cur.toList.drop (o + vs.length)
  | [], o, w, cur, h, _ => ⟨cur, h, rfl, by simp⟩
  | v :: vs, o, w, cur, h, hs => by
    have h1 := block_set (i := o) h v
    obtain ⟨cur', h2, h3, h4⟩ := setCells_at vs (o + 1) _ _ h1 (by simp at hs ⊢; omega)
    refine ⟨cur', h2, by rw [h3]; simp, ?_⟩
    rw [h4]
    have hl : o < cur.toList.length := by simp at hs ⊢; omega
    have e1 : (cur.setIfInBounds o v).toList = cur.toList.take o ++ v :: cur.toList.drop (o + 1) := by
      rw [Array.toList_setIfInBounds, List.set_eq_take_append_cons_drop, if_pos hl]
    have hlt : (cur.toList.take o).length = o := by rw [List.length_take]; omega
    rw [e1]
    rw [List.take_append, List.drop_append, hlt]
    simp only [List.length_cons]
    rw [show o + 1 - o = 1 by omega, show o + 1 + vs.length - o = vs.length + 1 by omega, List.take_of_length_le (by omega), List.drop_of_length_le (l := cur.toList.take o) (by omega)]
    simp
    omega
theorem setCells_size (b : Nat) : ∀ (vs : List Value) (o : Nat) (w : World), (w.setCells b o vs).heap.size = w.heap.size
  | [], o, w => rfl
  | v :: vs, o, w => by
    show ((w.setCell ⟨b, o, none⟩ v).setCells b (o + 1) vs).heap.size = _
    rw [setCells_size b vs]; simp [World.setCell]
theorem setCells_same (b : Nat) : ∀ (vs : List Value) (o : Nat) (w : World), (w.setCells b o vs).os = w.os ∧ (w.setCells b o vs).tape = w.tape ∧ (w.setCells b o vs).output = w.output
  | [], o, w => ⟨rfl, rfl, rfl⟩
  | v :: vs, o, w => by
    obtain ⟨h1, h2, h3⟩ := setCells_same b vs (o + 1) (w.setCell ⟨b, o, none⟩ v)
    exact ⟨h1, h2, h3⟩
section
variable {P : Program}
/-- What an append leaves. -/
def Appended (w : World) (v : Value) (l news : List Cp) (g cap : Nat) (w' : World) : Prop :=
  Row w' (.slice (some ⟨g, 0, none⟩) (l.length + news.length) cap) (l ++ news) ∧ w.grownBy w' v.ownBlock ∧ (v.ownBlock = some g ∨ w.heap.size ≤ g) ∧ g < w'.heap.size
theorem run_append_row (w : World) (t ty : TypeId) (i : TypeInfo) (z : Value) (ht : P.underlying t = some (.slice 45)) (hi : P.info? 45 = some i) (hz : i.zero = some z) (hsize : i.size = 2) (hby : i.bytes = 16) (hzs : z.cells.size = 2)
    (v : Value) (l news : List Cp) (h : Row w v l) (ad : Addr) (m c : Nat) (hm : news.length = m) (h0 : 0 < m) (hnews : ∀ j u, (ccs news)[j]? = some u → w.cell? (ad.add j) = some u) (hb : l.length + m ≤ 1000) :
    ∃ g cap w', (Builtin.append_ #[t, t] ty #[v, .slice (some ad) m c]).run P w = .ok (.slice (some ⟨g, 0, none⟩) (l.length + m) cap) w' ∧ Appended w v l news g cap w' := by
  subst hm
  rcases h with ⟨rfl, rfl⟩ | ⟨g, cap, cur, rfl, h1, h2, h3, h4, h5⟩
  · obtain ⟨g, cap, w', hr, h2, h3, h4, h5⟩ := run_append_lies (P := P) w t ty w.heap.size 45 i z 2 16 ht hi hz hsize hby hzs (by omega) (.slice none 0 0) 0 [] (World.ownsRow_nil _ _ _ _) ad news.length c (ccs news) (ccs_length _) hnews (ccs_one _) h0 (by unfold maxLen; simp at hb ⊢; omega) (by simp at hb ⊢; omega) (Nat.le_refl _) _ rfl
    exact ⟨g, cap, w', hr, Row.ofOwn h2 (by simp) (by simp), h3, h4.imp id (fun e => by omega), h5⟩
  · by_cases hroom : l.length + news.length ≤ cap
    · have hr := run_append_room_cells (P := P) w t ty 45 i ht hi g 0 l.length cap ad news.length c (ccs news) (by rw [hsize]; exact ccs_length _) hnews (ccs_one _) hroom
        (by
          intro j hj
          rw [ccs_length] at hj
          rw [hsize, cell_of h1]
          have : 0 + l.length * 2 + j < cur.size := by omega
          simpa using this) (by intro j hj; exact free_of h1 _)
      rw [hsize] at hr
      obtain ⟨cur', k1, k2, k3⟩ := setCells_at (ccs news) (0 + l.length * 2) w cur h1 (by rw [ccs_length]; omega)
      refine ⟨g, cap, _, hr, ?_, ⟨(setCells_same _ _ _ _).1, (setCells_same _ _ _ _).2.1, (setCells_same _ _ _ _).2.2, by rw [setCells_size]; exact Nat.le_refl _, fun k hk hne => setCells_far (by rintro rfl; exact hne rfl) _ _ _⟩, .inl rfl, by rw [setCells_size]; exact lt_of_block h1⟩
      have := Row.mk (l := l ++ news) k1 (by rw [List.length_append]; exact hroom) h3 (by omega) (by
        rw [k3, List.length_append, ccs_append, Nat.add_mul]
        have e1 : (cur.toList.take (0 + l.length * 2)) = ccs l := by rw [Nat.zero_add]; exact h5
        rw [e1]
        exact List.take_left' (by rw [List.length_append, ccs_length, ccs_length]))
      rwa [List.length_append] at this
    · have hcells : ∀ j u, (ccs l)[j]? = some u → w.cell? ((⟨g, 0, none⟩ : Addr).add j) = some u := by
        intro j u hu
        rw [Addr.add_lit]
        have := Row.cells (.inr ⟨g, cap, cur, rfl, h1, h2, h3, h4, h5⟩ : Row w (.slice (some ⟨g, 0, none⟩) l.length cap) l) j u hu
        simpa using this
      obtain ⟨v', w', hr, h6, h7⟩ := run_append_arg_grows (P := P) w t ty 45 i z 2 16 ht hi hz hsize hby hzs (by omega) ⟨g, 0, none⟩ l.length cap (ccs l) (ccs_length l) hcells ad news.length c (ccs news) (ccs_length _) hnews (by omega) (by unfold maxLen; omega) (by omega)
      obtain ⟨g', cap', rfl, hg1, hg2⟩ := h6.form (by omega)
      refine ⟨g', cap', w', hr, Row.ofOwn h6 (by simp) (by rw [ccs_append]), ⟨h7.os, h7.tape, h7.output, h7.size, fun k hk _ => h7.block k hk (by simp)⟩, ?_, hg2⟩
      exact .inr hg1
theorem wp_append_row {o : Oper} {a : Act} {K : Act → World → Prop} {Q : Exit → Act → World → Prop} (w : World) (s x : Operand) (t : TypeId)
    (ho : o.op = .call { callee := .builtin .append, args := #[s, x], argTypes := #[t, t] }) (i : TypeInfo) (z : Value) (ht : P.underlying t = some (.slice 45)) (hi : P.info? 45 = some i) (hz : i.zero = some z) (hsize : i.size = 2) (hby : i.bytes = 16) (hzs : z.cells.size = 2)
    (v : Value) (l news : List Cp) (hs : a.eval s = v) (h : Row w v l) (ad : Addr) (m c : Nat) (hx : a.eval x = .slice (some ad) m c) (hm : news.length = m) (h0 : 0 < m) (hnews : ∀ j u, (ccs news)[j]? = some u → w.cell? (ad.add j) = some u) (hb : l.length + m ≤ 1000)
    (hK : ∀ g cap w', Appended w v l news g cap w' → K (a.put o.dst (.slice (some ⟨g, 0, none⟩) (l.length + m) cap)) w') : o.wp P a w K Q := by
  obtain ⟨g, cap, w', hr, h2⟩ := run_append_row (P := P) w t o.type i z ht hi hz hsize hby hzs v l news h ad m c hm h0 hnews hb
  unfold Oper.wp execOp
  simp only [ho, resolve, invoke, builtin, Sem.run_bind, Sem.run_pure, Result.andThen_ok, List.map_toArray, List.map_cons, List.map_nil, hs, hx, hr]
  exact hK g cap w' h2
theorem step_append_row {ops : Array Oper} {o : Oper} {a : Act} {w : World} {K : Act → World → Prop} {Q : Exit → Act → World → Prop} {E : Prop} (hgd : o.guard = none) (s x : Operand) (t : TypeId)
    (ho : o.op = .call { callee := .builtin .append, args := #[s, x], argTypes := #[t, t] }) (i : TypeInfo) (z : Value) (ht : P.underlying t = some (.slice 45)) (hi : P.info? 45 = some i) (hz : i.zero = some z) (hsize : i.size = 2) (hby : i.bytes = 16) (hzs : z.cells.size = 2)
    (v : Value) (l news : List Cp) (hs : a.eval s = v) (h : Row w v l) (ad : Addr) (m c : Nat) (hx : a.eval x = .slice (some ad) m c) (hm : news.length = m) (h0 : 0 < m) (hnews : ∀ j u, (ccs news)[j]? = some u → w.cell? (ad.add j) = some u) (hb : l.length + m ≤ 1000)
    (hK : ∀ g cap w', Appended w v l news g cap w' → K (a.put o.dst (.slice (some ⟨g, 0, none⟩) (l.length + m) cap)) w') :
    if Region.wanted o (yielded ops a.tmps) = true then Oper.wp P o a w K Q else E := by
  have hw : Region.wanted o (yielded ops a.tmps) = true := by simp [Region.wanted, hgd]
  rw [if_pos hw]
  exact wp_append_row w s x t ho i z ht hi hz hsize hby hzs v l news hs h ad m c hx hm h0 hnews hb hK
theorem wpList_append_row {ops : Array Oper} {rest : List Oper} {o : Oper} {a : Act} {w : World} {Q : Exit → Act → World → Prop} (hgd : o.guard = none) (s x : Operand) (t : TypeId)
    (ho : o.op = .call { callee := .builtin .append, args := #[s, x], argTypes := #[t, t] }) (i : TypeInfo) (z : Value) (ht : P.underlying t = some (.slice 45)) (hi : P.info? 45 = some i) (hz : i.zero = some z) (hsize : i.size = 2) (hby : i.bytes = 16) (hzs : z.cells.size = 2)
    (v : Value) (l news : List Cp) (hs : a.eval s = v) (h : Row w v l) (ad : Addr) (m c : Nat) (hx : a.eval x = .slice (some ad) m c) (hm : news.length = m) (h0 : 0 < m) (hnews : ∀ j u, (ccs news)[j]? = some u → w.cell? (ad.add j) = some u) (hb : l.length + m ≤ 1000)
    (hK : ∀ g cap w', Appended w v l news g cap w' → wpList P ops Q rest (a.put o.dst (.slice (some ⟨g, 0, none⟩) (l.length + m) cap)) w') : wpList P ops Q (o :: rest) a w :=
  wpList_plain hgd fun _ hK' => wp_append_row w s x t ho i z ht hi hz hsize hby hzs v l news hs h ad m c hx hm h0 hnews hb fun g cap w' h2 => hK' _ _ (hK g cap w' h2)
/-- Nothing is appended. -/
theorem wp_append_nothing {o : Oper} {a : Act} {K : Act → World → Prop} {Q : Exit → Act → World → Prop} (w : World) (s x : Operand) (t : TypeId)
    (ho : o.op = .call { callee := .builtin .append, args := #[s, x], argTypes := #[t, t] }) (i : TypeInfo) (ht : P.underlying t = some (.slice 45)) (hi : P.info? 45 = some i)
    (v : Value) (l : List Cp) (hs : a.eval s = v) (h : Row w v l) (ao : Option Addr) (c : Nat) (hx : a.eval x = .slice ao 0 c)
    (hK : K (a.put o.dst v) w) : o.wp P a w K Q := by
  have hsrc : Src P i.size t (.slice ao 0 c) 0 [] w := by
    cases ao with
    | none => exact Src.ofNil w ht c
    | some ad => exact Src.ofSlice w ht ad 0 c [] (by simp) (by simp) (by simp)
  have hr : (Builtin.append_ #[t, t] o.type #[v, .slice ao 0 c]).run P w = .ok v w := by
    rcases h with ⟨rfl, rfl⟩ | ⟨g, cap, cur, rfl, h1, h2, h3, h4, h5⟩
    · exact run_append_nothing w t t o.type 45 i ht hi none 0 0 (by omega) _ hsrc
    · exact run_append_nothing w t t o.type 45 i ht hi (some ⟨g, 0, none⟩) _ _ h2 _ hsrc
  unfold Oper.wp execOp
  simp only [ho, resolve, invoke, builtin, Sem.run_bind, Sem.run_pure, Result.andThen_ok, List.map_toArray, List.map_cons, List.map_nil, hs, hx, hr]
  exact hK
theorem step_append_nothing {ops : Array Oper} {o : Oper} {a : Act} {w : World} {K : Act → World → Prop} {Q : Exit → Act → World → Prop} {E : Prop} (hgd : o.guard = none) (s x : Operand) (t : TypeId)
    (ho : o.op = .call { callee := .builtin .append, args := #[s, x], argTypes := #[t, t] }) (i : TypeInfo) (ht : P.underlying t = some (.slice 45)) (hi : P.info? 45 = some i)
    (v : Value) (l : List Cp) (hs : a.eval s = v) (h : Row w v l) (ao : Option Addr) (c : Nat) (hx : a.eval x = .slice ao 0 c)
    (hK : K (a.put o.dst v) w) :
    if Region.wanted o (yielded ops a.tmps) = true then Oper.wp P o a w K Q else E := by
  have hw : Region.wanted o (yielded ops a.tmps) = true := by simp [Region.wanted, hgd]
  rw [if_pos hw]
  exact wp_append_nothing w s x t ho i ht hi v l hs h ao c hx hK
theorem wpList_append_nothing {ops : Array Oper} {rest : List Oper} {o : Oper} {a : Act} {w : World} {Q : Exit → Act → World → Prop} (hgd : o.guard = none) (s x : Operand) (t : TypeId)
    (ho : o.op = .call { callee := .builtin .append, args := #[s, x], argTypes := #[t, t] }) (i : TypeInfo) (ht : P.underlying t = some (.slice 45)) (hi : P.info? 45 = some i)
    (v : Value) (l : List Cp) (hs : a.eval s = v) (h : Row w v l) (ao : Option Addr) (c : Nat) (hx : a.eval x = .slice ao 0 c)
    (hK : wpList P ops Q rest (a.put o.dst v) w) : wpList P ops Q (o :: rest) a w :=
  wpList_plain hgd fun _ hK' => wp_append_nothing w s x t ho i ht hi v l hs h ao c hx (hK' _ _ hK)
end
end Go.Proofs.Ytcehlajkpnhdiaa.Rw
