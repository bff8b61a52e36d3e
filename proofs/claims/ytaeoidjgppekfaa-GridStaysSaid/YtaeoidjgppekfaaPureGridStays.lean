/- A window that is closed is closed at each later watermark, and so are those that begin ahead of it: the printed functions tell true at every input. -/
import Derived.Test.YtaeoidjgppekfaaPGridStaysx2
namespace Go.Proofs.Ytaeoidjgppekfaa.Pure
open Go.RowKit Go.Proofs.Ytaeoidjgppekfaa.PGridStays Go.Proofs.YtaeoidjgppekfaaW.PrintWords Go.Proofs.YtaeoidjgppekfaaW.PrintLast Go.Proofs.YtaeoidjgppekfaaW.PrintMore
/-- The grids that the document lets in, by how many hops a window is long. -/
def GV (s h l : Int) (n : Nat) : Prop := 1 ≤ n ∧ n ≤ 8 ∧ s = n * h ∧ 1 ≤ h ∧ s ≤ 1048576 ∧ 0 ≤ l ∧ l ≤ 1048576
theorem w64 {x : Int} (a : -9223372036854775808 ≤ x) (b : x < 9223372036854775808) : wrap64 x = x := by
  unfold wrap64; omega
theorem i64_in {x : Int} (h : (Lit.int .i64 x).wf = true) : -9223372036854775808 ≤ x ∧ x < 9223372036854775808 := by
  simp [Lit.wf, IntKind.min, IntKind.max, IntKind.signed, IntKind.bits] at h
  omega
theorem gv_le {s h l : Int} {n : Nat} (g : GV s h l n) : 1 ≤ s ∧ h ≤ s := by
  obtain ⟨g1, g2, g3, g4, g5, g6, g7⟩ := g
  have : 1 * h ≤ (n : Int) * h := Int.mul_le_mul_of_nonneg_right (by omega) (by omega)
  omega
theorem check_cases (s h l : Int) : (grid_Check.f s h l = some 1 ∧ ∀ n, ¬ GV s h l n) ∨ (grid_Check.f s h l = some 0 ∧ ∃ n, GV s h l n) := by
  unfold grid_Check.f
  by_cases h1 : s < 1
  · rw [if_pos h1]; exact .inl ⟨rfl, fun n g => by have := gv_le g; omega⟩
  by_cases h2 : s > 1048576
  · rw [if_neg h1, if_pos h2]; exact .inl ⟨rfl, fun n g => by have := g.2.2.2.2.1; omega⟩
  by_cases h3 : h < 1
  · rw [if_neg h1, if_neg h2, if_pos h3]; exact .inl ⟨rfl, fun n g => by have := g.2.2.2.1; omega⟩
  by_cases h4 : h > s
  · rw [if_neg h1, if_neg h2, if_neg h3, if_pos h4]; exact .inl ⟨rfl, fun n g => by have := gv_le g; omega⟩
  rw [if_neg h1, if_neg h2, if_neg h3, if_neg h4, if_neg (by omega : ¬ h = 0)]
  have e1 : Int.tmod s h = s % h := Int.tmod_eq_emod_of_nonneg (by omega)
  have e2 : Int.tdiv s h = s / h := Int.tdiv_eq_ediv_of_nonneg (by omega)
  have b1 : 0 ≤ s / h := Int.ediv_nonneg (by omega) (by omega)
  have b2 : s / h ≤ s := Int.ediv_le_self _ (by omega)
  rw [e1, e2, w64 (by omega) (by omega)]
  by_cases h5 : s % h = 0
  · rw [if_pos h5]
    have e3 : s = (s / h) * h := by
      have := Int.ediv_mul_add_emod s h; omega
    by_cases h6 : s / h > 8
    · rw [if_pos h6]; refine .inl ⟨rfl, fun n g => ?_⟩
      have : s / h = n := by rw [g.2.2.1]; exact Int.mul_ediv_cancel _ (by omega)
      have := g.2.1; omega
    rw [if_neg h6]
    by_cases h7 : l < 0
    · rw [if_pos h7]; exact .inl ⟨rfl, fun n g => by have := g.2.2.2.2.2.1; omega⟩
    by_cases h8 : l > 1048576
    · rw [if_neg h7, if_pos h8]; exact .inl ⟨rfl, fun n g => by have := g.2.2.2.2.2.2; omega⟩
    rw [if_neg h7, if_neg h8]
    refine .inr ⟨rfl, (s / h).toNat, ?_⟩
    have p : s / h ≠ 0 := by
      intro z; rw [z] at e3; omega
    refine ⟨by omega, by omega, ?_, by omega, by omega, by omega, by omega⟩
    rw [Int.toNat_of_nonneg b1]; exact e3
  · rw [if_neg h5]; refine .inl ⟨rfl, fun n g => h5 ?_⟩
    rw [g.2.2.1]; exact Int.mul_emod_left _ _
/-- The first hop's number, and the beginnings from there on. -/
def lo (m : Int) (n : Nat) : Int := if m - n + 1 < 0 then 0 else m - n + 1
theorem lo_spec (m : Int) (n : Nat) (hm : 0 ≤ m) (hn : 1 ≤ n) : 0 ≤ lo m n ∧ lo m n ≤ m ∧ m - n + 1 ≤ lo m n ∧ (lo m n = 0 ∨ lo m n = m - n + 1) := by
  unfold lo; split <;> omega
def seg (j : Int) (c : Nat) (h : Int) : List Int := (List.range c).map fun i : Nat => (j + (i : Int)) * h
theorem seg_zero (j h : Int) : seg j 0 h = [] := rfl
theorem seg_succ (j : Int) (c : Nat) (h : Int) : seg j (c + 1) h = seg j c h ++ [(j + (c : Int)) * h] := by
  unfold seg; rw [List.range_succ, List.map_append]; rfl
theorem seg_len (j : Int) (c : Nat) (h : Int) : (seg j c h).length = c := by simp [seg]
theorem seg_rd (j : Int) (c : Nat) (h : Int) (i : Nat) (hi : i < c) : rd (seg j c h) (i : Int) = (j + (i : Int)) * h := by
  unfold rd seg
  simp [List.getD_eq_getElem?_getD, hi]
theorem mul_neg' {j h : Int} (hj : j ≤ -1) (hh : 1 ≤ h) : j * h < 0 := by
  have := Int.mul_le_mul_of_nonneg_right hj (by omega : 0 ≤ h); omega
theorem mul_nn {j h : Int} (hj : 0 ≤ j) (hh : 1 ≤ h) : 0 ≤ j * h := Int.mul_nonneg hj (by omega)
/-- What 'Starts' tells: from the first hop on to that of the moment. -/
def ans (m : Int) (n : Nat) (h : Int) : List Int := seg (lo m n) (m + 1 - lo m n).toNat h
theorem starts_loop (s h l m r t : Int) (n : Nat) (g : GV s h l n) (hm : 0 ≤ m) (hr : 0 ≤ r) (hrh : r < h) (ht : t = m * h + r) (htb : t ≤ 1099511627776) :
    ∀ (d k K : Nat), k + d = n → d < K → grid_Starts.l0 K t (seg (lo m n) (m - n + 1 + k - lo m n).toNat h) n k s h l = some (ans m n h, 0) := by
  have L := lo_spec m n hm g.1
  have GL := gv_le g
  obtain ⟨g1, g2, g3, g4, g5, g6, g7⟩ := g
  have P := mul_nn hm g4
  intro d
  induction d with
  | zero =>
    intro k K hk hK
    obtain ⟨K, rfl⟩ : ∃ q, K = q + 1 := ⟨K - 1, by omega⟩
    simp only [grid_Starts.l0]
    rw [if_neg (by omega)]
    unfold ans
    rw [show m - n + 1 + (k : Int) - lo m n = m + 1 - lo m n by omega]
  | succ d ih =>
    intro k K hk hK
    obtain ⟨K, rfl⟩ : ∃ q, K = q + 1 := ⟨K - 1, by omega⟩
    simp only [grid_Starts.l0]
    rw [if_pos (by omega), if_neg (by omega)]
    have e1 : Int.tmod t h = r := by
      rw [Int.tmod_eq_emod_of_nonneg (by omega), ht, Int.add_comm, Int.mul_comm, Int.add_mul_emod_self_left, Int.emod_eq_of_lt hr hrh]
    have b1 : 0 ≤ h * ((k : Int) + 1) := Int.mul_nonneg (by omega) (by omega)
    have b2 : h * ((k : Int) + 1) ≤ h * 8 := Int.mul_le_mul_of_nonneg_left (by omega) (by omega)
    rw [e1, w64 (x := t - r) (by omega) (by omega), w64 (x := t - r - s) (by omega) (by omega), w64 (x := (k : Int) + 1) (by omega) (by omega),
      w64 (x := h * ((k : Int) + 1)) (by omega) (by omega), w64 (x := t - r - s + h * ((k : Int) + 1)) (by omega) (by omega)]
    have e2 : t - r - s + h * ((k : Int) + 1) = (m - n + 1 + k) * h := by
      rw [ht, g3]; grind
    have i2 := ih (k + 1) K (by omega) (by omega)
    rw [show ((k + 1 : Nat) : Int) = (k : Int) + 1 by omega] at i2
    rw [e2]
    by_cases hj : 0 ≤ m - n + 1 + (k : Int)
    · rw [if_pos (mul_nn hj g4), if_pos (by rw [seg_len]; omega)]
      rw [show (m - n + 1 + ((k : Int) + 1) - lo m n).toNat = (m - n + 1 + (k : Int) - lo m n).toNat + 1 by omega, seg_succ] at i2
      rw [show lo m n + (((m - n + 1 + (k : Int) - lo m n).toNat : Nat) : Int) = m - n + 1 + k by omega] at i2
      exact i2
    · rw [if_neg (by have := mul_neg' (h := h) (j := m - n + 1 + k) (by omega) g4; omega)]
      rw [show (m - n + 1 + ((k : Int) + 1) - lo m n).toNat = (m - n + 1 + (k : Int) - lo m n).toNat by omega] at i2
      exact i2
theorem div_split (t h : Int) (ht : 0 ≤ t) (hh : 1 ≤ h) : 0 ≤ t / h ∧ 0 ≤ t % h ∧ t % h < h ∧ t = (t / h) * h + t % h :=
  ⟨Int.ediv_nonneg ht (by omega), Int.emod_nonneg _ (by omega), Int.emod_lt_of_pos _ (by omega), by have := Int.ediv_mul_add_emod t h; omega⟩
theorem starts_yes (s h l t : Int) (n : Nat) (g : GV s h l n) (ht : 0 ≤ t) (htb : t ≤ 1099511627776) (K : Nat) (hK : 10 < K) :
    grid_Starts.f K s h l t = some (ans (t / h) n h, 0) := by
  have GL := gv_le g
  have c := check_cases s h l
  have L := lo_spec (t / h) n (Int.ediv_nonneg ht (by have := g.2.2.2.1; omega)) g.1
  obtain ⟨d1, d2, d3, d4⟩ := div_split t h ht g.2.2.2.1
  obtain ⟨K, rfl⟩ : ∃ q, K = q + 1 := ⟨K - 1, by omega⟩
  unfold grid_Starts.f
  rcases c with ⟨_, c⟩ | ⟨c, _⟩
  · exact absurd g (c n)
  rw [c]; simp only [Option.bind_some]
  rw [if_pos trivial, if_neg (by omega)]
  have hd : decide (t > 1099511627776) = false := by simp; omega
  rw [hd]
  simp only [grid_Starts.j0]
  rw [if_neg (by simp), if_neg (by have := g.2.2.2.1; omega)]
  have e2 : Int.tdiv s h = n := by
    rw [Int.tdiv_eq_ediv_of_nonneg (by omega), g.2.2.1]; exact Int.mul_ediv_cancel _ (by have := g.2.2.2.1; omega)
  rw [e2, w64 (by omega) (by have := g.2.1; omega)]
  have := starts_loop s h l (t / h) (t % h) t n g d1 d2 d3 d4 htb n 0 K (by omega) (by have := g.2.1; omega)
  rw [show (t / h - n + 1 + ((0 : Nat) : Int) - lo (t / h) n).toNat = 0 by omega, seg_zero] at this
  exact this
theorem starts_no (s h l t : Int) (K : Nat) (hK : 0 < K) (hn : (∀ n, ¬ GV s h l n) ∨ t < 0 ∨ 1099511627776 < t) : grid_Starts.f K s h l t = some ([], 1) := by
  obtain ⟨K, rfl⟩ : ∃ q, K = q + 1 := ⟨K - 1, by omega⟩
  have j : ∀ b, b = true → grid_Starts.j0 (K + 1) t b s h l = some ([], 1) := by
    intro b hb; simp only [grid_Starts.j0]; rw [if_pos hb]
  unfold grid_Starts.f
  rcases check_cases s h l with ⟨c, _⟩ | ⟨c, n, g⟩
  · rw [c]; simp only [Option.bind_some]
    rw [if_neg (by omega)]; exact j _ rfl
  · rw [c]; simp only [Option.bind_some]
    rw [if_pos trivial]
    by_cases h0 : t < 0
    · rw [if_pos h0]; exact j _ rfl
    · rw [if_neg h0]; refine j _ ?_
      rcases hn with hn | hn | hn
      · exact absurd g (hn n)
      · omega
      · simp; omega
theorem starts_cases (s h l t : Int) (K : Nat) (hK : 10 < K) :
    (grid_Starts.f K s h l t = some ([], 1) ∧ ((∀ n, ¬ GV s h l n) ∨ t < 0 ∨ 1099511627776 < t)) ∨
    (∃ n, GV s h l n ∧ 0 ≤ t ∧ t ≤ 1099511627776 ∧ grid_Starts.f K s h l t = some (ans (t / h) n h, 0)) := by
  by_cases hg : ∃ n, GV s h l n
  · obtain ⟨n, g⟩ := hg
    by_cases h0 : t < 0 ∨ 1099511627776 < t
    · exact .inl ⟨starts_no s h l t K (by omega) (.inr h0), .inr h0⟩
    · exact .inr ⟨n, g, by omega, by omega, starts_yes s h l t n g (by omega) (by omega) K hK⟩
  · have : ∀ n, ¬ GV s h l n := fun n g => hg ⟨n, g⟩
    exact .inl ⟨starts_no s h l t K (by omega) (.inl this), .inl this⟩
theorem awake_yes (K : Nat) (hK : 40 < K) : headgatelaw14_awake.f K = some true := by
  refine at_rounds (g := headgatelaw14_awake.f) headgatelaw14_awake.mono (k := 40) (by omega) ?_
  decide +kernel
theorem and_low (x : Int) : 0 ≤ Go.bits .and .i64 x 1048575 ∧ Go.bits .and .i64 x 1048575 ≤ 1048575 := by
  have b : (BitVec.ofInt IntKind.i64.bits x &&& BitVec.ofInt IntKind.i64.bits 1048575).toNat ≤ 1048575 := by
    rw [BitVec.toNat_and]
    exact Nat.and_le_right
  unfold Go.bits
  simp only []
  generalize (BitVec.ofInt IntKind.i64.bits x &&& BitVec.ofInt IntKind.i64.bits 1048575).toNat = q at b
  rw [IntKind.wrap_i64]
  omega
theorem closed_yes (s h l a m : Int) (n : Nat) (g : GV s h l n) (h0 : 0 ≤ m) (h1 : m ≤ 4398046511104) : grid_Closed.f s h l a m = some (decide (a ≤ m - s - l)) := by
  have GL := gv_le g
  unfold grid_Closed.f
  rcases check_cases s h l with ⟨_, nc⟩ | ⟨c, _⟩
  · exact absurd g (nc n)
  rw [c]; simp only [Option.bind_some, if_true]
  obtain ⟨g1, g2, g3, g4, g5, g6, g7⟩ := g
  rw [if_pos h0, w64 (x := m - s) (by omega) (by omega), w64 (x := m - s - l) (by omega) (by omega)]
theorem GridStays (s h l a m x y : Int) : ∃ k, headgatelaw14_GridStays.f k s h l a m x y = some true := by
  refine ⟨80, ?_⟩
  have j : ∀ b, b = true → headgatelaw14_GridStays.j0 80 a m x y b s h l = some true := by
    intro b hb; simp only [headgatelaw14_GridStays.j0]; rw [if_pos hb, awake_yes 79 (by omega)]; rfl
  unfold headgatelaw14_GridStays.f
  by_cases c1 : m < 0
  · rw [if_pos c1]; exact j _ rfl
  by_cases c2 : m > 2199023255552
  · rw [if_neg c1, if_pos c2]; exact j _ rfl
  by_cases c3 : a < 0
  · rw [if_neg c1, if_neg c2, if_pos c3]; exact j _ rfl
  rw [if_neg c1, if_neg c2, if_neg c3]
  by_cases c4 : a > 2199023255552
  · exact j _ (by simp; omega)
  have hd : decide (a > 2199023255552) = false := by simp; omega
  rw [hd]
  have ⟨p1, p2⟩ := and_low x
  have ⟨q1, q2⟩ := and_low y
  simp only [headgatelaw14_GridStays.j0, headgatelaw14_GridStays.j1]
  rw [awake_yes 79 (by omega), awake_yes 78 (by omega), w64 (x := m + _) (by omega) (by omega), w64 (x := a - _) (by omega) (by omega), w64 (x := m - a) (by omega) (by omega)]
  by_cases hg : ∃ n, GV s h l n
  · obtain ⟨n, g⟩ := hg
    have GL := gv_le g
    rw [closed_yes s h l a m n g (by omega) (by omega), closed_yes s h l a (m + Go.bits .and .i64 x 1048575) n g (by omega) (by omega), closed_yes s h l (a - Go.bits .and .i64 y 1048575) m n g (by omega) (by omega)]
    rcases check_cases s h l with ⟨_, nc⟩ | ⟨c, _⟩
    · exact absurd g (nc n)
    rw [c]
    obtain ⟨g1, g2, g3, g4, g5, g6, g7⟩ := g
    rw [w64 (x := s + l) (by omega) (by omega)]
    by_cases e : a ≤ m - s - l
    · have e1 : a ≤ m + Go.bits .and .i64 x 1048575 - s - l := by omega
      have e2 : a - Go.bits .and .i64 y 1048575 ≤ m - s - l := by omega
      have e3 : m - a ≥ s + l := by omega
      simp [e, e1, e2, e3]
    · simp [e]
  · have cl : ∀ u v, grid_Closed.f s h l u v = some false := by
      intro u v
      unfold grid_Closed.f
      rcases check_cases s h l with ⟨c, _⟩ | ⟨_, n, g⟩
      · rw [c]; simp
      · exact absurd ⟨n, g⟩ hg
    rw [cl, cl, cl]
    rcases check_cases s h l with ⟨c, _⟩ | ⟨_, n, g⟩
    · rw [c]; simp
    · exact absurd ⟨n, g⟩ hg
end Go.Proofs.Ytaeoidjgppekfaa.Pure
