/- Words on memory: which blocks a call may have turned ('Only'), and a row of packets behind a slice's value ('Row'); nothing of the program is in it. -/
import Derived.WalkKit
import Derived.Deep.AppendLies
import Derived.Deep.Draws
namespace Go.Proofs.Ytcfmohhidbneoaa.Mw
open Go.RowKit
set_option linter.unusedSimpArgs false
set_option linter.unusedVariables false
/-- Of the blocks that were there, those of S alone may have turned. -/
structure Only (S : Nat → Prop) (w w' : World) : Prop where
  os : w'.os = w.os
  tape : w'.tape = w.tape
  output : w'.output = w.output
  size : w.heap.size ≤ w'.heap.size
  block : ∀ k, k < w.heap.size → ¬ S k → w'.heap[k]? = w.heap[k]?
variable {S T : Nat → Prop} {w w1 w2 : World}
theorem Only.refl (S : Nat → Prop) (w : World) : Only S w w := ⟨rfl, rfl, rfl, Nat.le_refl _, fun _ _ _ => rfl⟩
theorem Only.trans (h : Only S w w1) (k : Only T w1 w2) (hT : ∀ b, b < w.heap.size → T b → S b) : Only S w w2 :=
  ⟨k.os.trans h.os, k.tape.trans h.tape, k.output.trans h.output, Nat.le_trans h.size k.size, fun b hb hS =>
    (k.block b (Nat.lt_of_lt_of_le hb h.size) (fun t => hS (hT b hb t))).trans (h.block b hb hS)⟩
theorem Only.mono (h : Only T w w1) (hT : ∀ b, b < w.heap.size → T b → S b) : Only S w w1 := (Only.refl S w).trans h hT
theorem Only.drew (h : Only S w w1) : Only S w w1.drew := ⟨h.os, h.tape, h.output, h.size, h.block⟩
theorem Only.drewN (h : Only S w w1) (n : Nat) : Only S w (w1.drewN n) := ⟨h.os, h.tape, h.output, h.size, h.block⟩
theorem Only.alloc (h : Only S w w1) (o : Obj) : Only S w (w1.alloc o) :=
  ⟨h.os, h.tape, h.output, Nat.le_trans h.size (by simp), fun k hk hS => (Below.heap_alloc _ _ _ (by have := h.size; omega)).trans (h.block k hk hS)⟩
theorem Only.setCell (h : Only S w w1) {p : Addr} (hp : w.heap.size ≤ p.block ∨ S p.block) (u : Value) : Only S w (w1.setCell p u) :=
  ⟨h.os, h.tape, h.output, Nat.le_trans h.size (by simp [World.setCell]), fun k hk hS => (Below.heap_setCell _ _ _ _ (by rintro rfl; rcases hp with hp | hp; omega; exact hS hp)).trans (h.block k hk hS)⟩
theorem Only.grown (h : Only S w w1) {row : Option Nat} (hg : w1.grownBy w2 row) (hr : ∀ k, row = some k → w.heap.size ≤ k ∨ S k) : Only S w w2 :=
  ⟨hg.os.trans h.os, hg.tape.trans h.tape, hg.output.trans h.output, Nat.le_trans h.size hg.size, fun k hk hS =>
    (hg.block k (by have := h.size; omega) (fun e => by rcases hr k e.symm with q | q; omega; exact hS q)).trans (h.block k hk hS)⟩
theorem Only.below (h : Only S w w1) {B : Nat} (hB : B ≤ w.heap.size) (hS : ∀ k, S k → B ≤ k) : Below B w w1 :=
  ⟨h.os, h.tape, h.output, h.size, fun k hk => h.block k (by omega) (fun s => by have := hS k s; omega)⟩
theorem Only.ofBelow (h : Below w.heap.size w w1) : Only S w w1 := ⟨h.os, h.tape, h.output, h.size, fun k hk _ => h.block k hk⟩
theorem Only.same (h : Only S w w1) {b : Nat} {o : Obj} (hb : w.heap[b]? = some o) (hS : ¬ S b) : w1.heap[b]? = some o := by
  have : b < w.heap.size := by
    rcases Nat.lt_or_ge b w.heap.size with q | q
    · exact q
    · rw [Array.getElem?_eq_none q] at hb; cases hb
  rw [h.block b this hS, hb]
theorem lt_of_block {b : Nat} {o : Obj} (hb : w.heap[b]? = some o) : b < w.heap.size := by
  rcases Nat.lt_or_ge b w.heap.size with q | q
  · exact q
  · rw [Array.getElem?_eq_none q] at hb; cases hb
theorem cell_of {b : Nat} {cs : Array Value} {t : TypeId} {fr : Nat × Nat} (h : w.heap[b]? = some (.cells cs t fr)) (i : Nat) : w.cell? ⟨b, i, none⟩ = cs[i]? := by simp [World.cell?, h]
theorem free_of {b : Nat} {cs : Array Value} {t : TypeId} (h : w.heap[b]? = some (.cells cs t (0, 0))) (i : Nat) : w.frozen? ⟨b, i, none⟩ = false := by simp [World.frozen?, h]
theorem block_set {b i : Nat} {cs : Array Value} {t : TypeId} {fr : Nat × Nat} (h : w.heap[b]? = some (.cells cs t fr)) (v : Value) : (w.setCell ⟨b, i, none⟩ v).heap[b]? = some (.cells (cs.setIfInBounds i v) t fr) := by
  rw [setCell_eq_setRow w b i cs t fr v h]
  exact setRow_heap w b _ _ t _ h
theorem block_far {b : Nat} {p : Addr} {o : Obj} (h : w.heap[b]? = some o) (hb : b ≠ p.block) (v : Value) : (w.setCell p v).heap[b]? = some o := by
  rw [Below.heap_setCell _ _ _ _ hb, h]
theorem block_alloc {b : Nat} {o : Obj} (h : w.heap[b]? = some o) (o' : Obj) : (w.alloc o').heap[b]? = some o := by
  rw [Below.heap_alloc _ _ _ (lt_of_block h), h]
theorem block_new (w : World) (o : Obj) : (w.alloc o).heap[w.heap.size]? = some o := heap_alloc_new w o
theorem block_grown {b : Nat} {o : Obj} {row : Option Nat} (h : w.heap[b]? = some o) (hg : w.grownBy w1 row) (hb : row ≠ some b) : w1.heap[b]? = some o := by
  rw [hg.block b (lt_of_block h) (fun e => hb e.symm), h]
/-- A packet, its value and its cells. -/
structure Pk where
  n : Int
  d : Int
  f : Int
  s : ByteArray
def Pk.cells (p : Pk) : List Value := [.int .i64 p.n, .int .i64 p.d, .int .i64 p.f, .string p.s]
def Pk.agg (p : Pk) : Value := .agg #[.int .i64 p.n, .int .i64 p.d, .int .i64 p.f, .string p.s]
def Pk.zero : Pk := ⟨0, 0, 0, ⟨#[]⟩⟩
def pcs (l : List Pk) : List Value := l.flatMap Pk.cells
theorem pcs_nil : pcs [] = [] := rfl
theorem pcs_cons (p : Pk) (l : List Pk) : pcs (p :: l) = p.cells ++ pcs l := rfl
theorem pcs_append (l k : List Pk) : pcs (l ++ k) = pcs l ++ pcs k := by simp [pcs]
theorem pcs_length (l : List Pk) : (pcs l).length = l.length * 4 := by
  induction l with
  | nil => rfl
  | cons p l ih => rw [pcs_cons, List.length_append, ih]; simp [Pk.cells]; omega
theorem pcs_get (l : List Pk) : ∀ i (h : i < l.length), (pcs l)[i * 4]? = some (.int .i64 l[i].n) ∧ (pcs l)[i * 4 + 1]? = some (.int .i64 l[i].d) ∧ (pcs l)[i * 4 + 2]? = some (.int .i64 l[i].f) ∧ (pcs l)[i * 4 + 3]? = some (.string l[i].s) := by
  induction l with
  | nil => intro i h; simp at h
  | cons p l ih =>
    intro i h
    cases i with
    | zero => simp [pcs_cons, Pk.cells]
    | succ i =>
      have := ih i (by simpa using h)
      have e (k : Nat) : (pcs (p :: l))[(i + 1) * 4 + k]? = (pcs l)[i * 4 + k]? := by
        rw [pcs_cons, List.getElem?_append_right (by simp [Pk.cells]; omega)]
        congr 1; simp [Pk.cells]; omega
      have e0 := e 0
      simp only [Nat.add_zero] at e0
      rw [e0, e 1, e 2, e 3]
      simpa using this
theorem pcs_one (l : List Pk) : ∀ u ∈ pcs l, u.oneCell' = true := by
  intro u hu
  obtain ⟨p, _, hp⟩ := List.mem_flatMap.1 hu
  simp [Pk.cells] at hp
  rcases hp with rfl | rfl | rfl | rfl <;> rfl
/-- A slice's value owns a row that begins with these packets. -/
def Row (w : World) (v : Value) (l : List Pk) : Prop := w.ownsRow 0 27 4 v l.length (pcs l)
theorem Row.nil (w : World) : Row w (.slice none 0 0) [] := World.ownsRow_nil _ _ _ _
theorem Row.form {v : Value} {l : List Pk} (h : Row w v l) :
    (v = .slice none 0 0 ∧ l = []) ∨ ∃ g cap cur, v = .slice (some ⟨g, 0, none⟩) l.length cap ∧ w.heap[g]? = some (.cells cur 27 (0, 0)) ∧ l.length ≤ cap ∧ cap ≤ maxLen ∧ cur.size = cap * 4 ∧ cur.toList.take (l.length * 4) = pcs l := by
  rcases h.2 with ⟨h1, h2⟩ | ⟨g, cap, cur, h1, _, h2, h3, h4, h5, h6⟩
  · exact .inl ⟨h1, List.length_eq_zero_iff.1 h2⟩
  · exact .inr ⟨g, cap, cur, h1, h2, h3, h4, h5, h6⟩
theorem Row.mk {g cap : Nat} {cur : Array Value} {l : List Pk} (hg : w.heap[g]? = some (.cells cur 27 (0, 0))) (h1 : l.length ≤ cap) (h2 : cap ≤ maxLen) (h3 : cur.size = cap * 4) (h4 : cur.toList.take (l.length * 4) = pcs l) :
    Row w (.slice (some ⟨g, 0, none⟩) l.length cap) l := ⟨pcs_length l, .inr ⟨g, cap, cur, rfl, Nat.zero_le _, hg, h1, h2, h3, h4⟩⟩
/-- The row's block is all that it hangs on. -/
theorem Row.move {v : Value} {l : List Pk} (h : Row w v l) (hb : ∀ g, v.ownBlock = some g → w1.heap[g]? = w.heap[g]?) : Row w1 v l := by
  rcases h.form with ⟨rfl, rfl⟩ | ⟨g, cap, cur, rfl, h1, h2, h3, h4, h5⟩
  · exact Row.nil _
  · exact Row.mk (by rw [hb g rfl, h1]) h2 h3 h4 h5
theorem Row.only {v : Value} {l : List Pk} (h : Row w v l) (ho : Only S w w1) (hS : ∀ g, v.ownBlock = some g → ¬ S g) : Row w1 v l := by
  refine h.move fun g hg => ho.block g ?_ (hS g hg)
  rcases h.form with ⟨rfl, rfl⟩ | ⟨g', cap, cur, rfl, h1, _⟩
  · cases hg
  · cases hg; exact lt_of_block h1
theorem Row.lt {v : Value} {l : List Pk} (h : Row w v l) {g : Nat} (hg : v.ownBlock = some g) : g < w.heap.size := by
  rcases h.form with ⟨rfl, rfl⟩ | ⟨g', cap, cur, rfl, h1, _⟩
  · cases hg
  · cases hg; exact lt_of_block h1
/-- The row's block is of packets: no other object's. -/
theorem Row.apart {v : Value} {l : List Pk} (h : Row w v l) {b : Nat} {cs : Array Value} {t : TypeId} {fr : Nat × Nat} (hb : w.heap[b]? = some (.cells cs t fr)) (ht : t ≠ 27) : v.ownBlock ≠ some b := by
  rcases h.form with ⟨rfl, rfl⟩ | ⟨g', cap, cur, rfl, h1, _⟩
  · intro e; cases e
  · intro e; cases e; rw [h1] at hb; cases hb; exact ht rfl
/-- The cells of a packet of the row. -/
theorem Row.at {g cap : Nat} {l : List Pk} (h : Row w (.slice (some ⟨g, 0, none⟩) l.length cap) l) (i : Nat) (hi : i < l.length) :
    w.cell? ⟨g, i * 4, none⟩ = some (.int .i64 l[i].n) ∧ w.cell? ⟨g, i * 4 + 1, none⟩ = some (.int .i64 l[i].d) ∧ w.cell? ⟨g, i * 4 + 2, none⟩ = some (.int .i64 l[i].f) ∧ w.cell? ⟨g, i * 4 + 3, none⟩ = some (.string l[i].s) := by
  rcases h.form with ⟨h0, rfl⟩ | ⟨g', cap', cur, hv, h1, h2, h3, h4, h5⟩
  · simp at hi
  · cases hv
    obtain ⟨c0, c1, c2, c3⟩ := pcs_get l i hi
    have e (k : Nat) (hk : k < 4) : w.cell? ⟨g, i * 4 + k, none⟩ = (pcs l)[i * 4 + k]? := by
      rw [cell_of h1, ← h5, List.getElem?_take_of_lt (by omega)]; simp
    have e0 := e 0 (by omega)
    simp only [Nat.add_zero] at e0
    exact ⟨e0.trans c0, (e 1 (by omega)).trans c1, (e 2 (by omega)).trans c2, (e 3 (by omega)).trans c3⟩
theorem Row.free {g cap n : Nat} {l : List Pk} (h : Row w (.slice (some ⟨g, 0, none⟩) n cap) l) (i : Nat) : w.frozen? ⟨g, i, none⟩ = false := by
  rcases h.form with ⟨h0, _⟩ | ⟨g', cap', cur, hv, h1, _⟩
  · cases h0
  · cases hv; exact free_of h1 i
/-- The head of a row is a row. -/
theorem pcs_take' (l : List Pk) (i : Nat) (hi : i ≤ l.length) : pcs (l.take i) = (pcs l).take (i * 4) := by
  have : pcs l = pcs (l.take i) ++ pcs (l.drop i) := by rw [← pcs_append, List.take_append_drop]
  rw [this, List.take_left']
  rw [pcs_length, List.length_take]; omega
theorem Row.cut {g cap n : Nat} {l k : List Pk} (h : Row w (.slice (some ⟨g, 0, none⟩) n cap) (l ++ k)) : Row w (.slice (some ⟨g, 0, none⟩) l.length cap) l := by
  rcases h.form with ⟨h0, _⟩ | ⟨g', cap', cur, hv, h1, h2, h3, h4, h5⟩
  · cases h0
  · cases hv
    simp only [List.length_append] at h2 h5
    refine Row.mk h1 (by omega) h3 h4 ?_
    have := congrArg (List.take (l.length * 4)) h5
    rw [List.take_take, show min (l.length * 4) ((l.length + k.length) * 4) = l.length * 4 by omega, ← pcs_take' _ _ (by simp), List.take_left] at this
    exact this
end Go.Proofs.Ytcfmohhidbneoaa.Mw
