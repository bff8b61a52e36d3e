/- The set of replicas in memory, and the contracts of its small functions: is, lead, Leader, High, Up, end. -/
import Derived.Test.YtcehlajkpnhdiaaProg
import Derived.Test.YtcehlajkpnhdiaaRp
import Derived.KernelRfl
import Derived.Deep.QuietTactic
import Derived.BigQuiet
import Derived.BigGuardPart
import Derived.WalkSpells
import Derived.Lib.Hide
namespace Go.Proofs.Ytcehlajkpnhdiaa.Ra
open Go.RowKit Go.Proofs.Ytcehlajkpnhdiaa.Rw Go.Proofs.Ytcehlajkpnhdiaa.Rp
set_option linter.unusedSimpArgs false
set_option linter.unusedVariables false
def nodeF (vs : Nat → Value) (ups : Nat → Bool) : Nat → Value := fun j => if j % 2 = 0 then vs (j / 2) else .bool (ups (j / 2))
theorem nodeF_log (vs : Nat → Value) (ups : Nat → Bool) (i : Nat) : nodeF vs ups (i * 2) = vs i := by simp [nodeF]
theorem nodeF_up (vs : Nat → Value) (ups : Nat → Bool) (i : Nat) : nodeF vs ups (i * 2 + 1) = .bool (ups i) := by
  have h1 : (i * 2 + 1) % 2 = 1 := by omega
  have h2 : (i * 2 + 1) / 2 = i := by omega
  simp [nodeF, h1, h2]
theorem nodeF_setLog (vs : Nat → Value) (ups : Nat → Bool) (i : Nat) (v : Value) : upd (nodeF vs ups) (i * 2) v = nodeF (upd vs i v) ups := by
  funext j
  unfold upd nodeF
  by_cases h : j % 2 = 0
  · by_cases e : j = i * 2
    · subst e; simp
    · have : ¬ j / 2 = i := by omega
      simp [h, e, this]
  · have : ¬ j = i * 2 := by omega
    simp [h, this]
theorem nodeF_setUp (vs : Nat → Value) (ups : Nat → Bool) (i : Nat) (b : Bool) : upd (nodeF vs ups) (i * 2 + 1) (.bool b) = nodeF vs (upd ups i b) := by
  funext j
  unfold upd nodeF
  by_cases h : j % 2 = 0
  · have : ¬ j = i * 2 + 1 := by omega
    simp [h, this]
  · by_cases e : j = i * 2 + 1
    · subst e
      have h2 : (i * 2 + 1) / 2 = i := by omega
      simp [h, h2]
    · have : ¬ j / 2 = i := by omega
      simp [h, e, this]
/-- The set at block m: its nodes, those in sync, their matches in blocks of their own. -/
structure Box (w : World) (m bn bi bm N : Nat) (vs : Nat → Value) (s : St) : Prop where
  obj : w.heap[m]? = some (.cells #[.slice (some ⟨bn, 0, none⟩) N N, .int .i64 s.epoch, .int .i64 s.lead, .slice (some ⟨bi, 0, none⟩) N N, .slice (some ⟨bm, 0, none⟩) N N, .int .i64 s.high] 60 (0, 0))
  nodes : Arr w bn 56 (N * 2) (nodeF vs s.ups)
  ins : Arr w bi 4 N (fun i => .bool (s.ins i))
  mat : Arr w bm 3 N (fun i => .int .i64 (s.mat i))
  rows : ∀ i, i < N → Row w (vs i) (s.logs i)
  apart : ∀ i j g, i < N → j < N → (vs i).ownBlock = some g → (vs j).ownBlock = some g → i = j
def Ft (m bn bi bm N : Nat) (vs : Nat → Value) (k : Nat) : Prop := k = m ∨ k = bn ∨ k = bi ∨ k = bm ∨ ∃ i, i < N ∧ (vs i).ownBlock = some k
variable {w w1 : World} {m bn bi bm N : Nat} {vs : Nat → Value} {s : St}
theorem Box.drew (h : Box w m bn bi bm N vs s) : Box w.drew m bn bi bm N vs s := ⟨h.obj, h.nodes, h.ins, h.mat, h.rows, h.apart⟩
theorem Box.move (h : Box w m bn bi bm N vs s) (hb : ∀ k, Ft m bn bi bm N vs k → w1.heap[k]? = w.heap[k]?) : Box w1 m bn bi bm N vs s :=
  ⟨by rw [hb m (.inl rfl)]; exact h.obj, h.nodes.move (hb _ (.inr (.inl rfl))), h.ins.move (hb _ (.inr (.inr (.inl rfl)))), h.mat.move (hb _ (.inr (.inr (.inr (.inl rfl))))),
   fun i hi => (h.rows i hi).move fun g hg => hb _ (.inr (.inr (.inr (.inr ⟨i, hi, hg⟩)))), h.apart⟩
theorem Box.lt (h : Box w m bn bi bm N vs s) {k : Nat} (hk : Ft m bn bi bm N vs k) : k < w.heap.size := by
  rcases hk with rfl | rfl | rfl | rfl | ⟨i, hi, hg⟩
  · exact lt_of_block h.obj
  · exact h.nodes.lt
  · exact h.ins.lt
  · exact h.mat.lt
  · exact (h.rows i hi).lt hg
theorem Box.only {S : Nat → Prop} (h : Box w m bn bi bm N vs s) (ho : Only S w w1) (hS : ∀ k, Ft m bn bi bm N vs k → ¬ S k) : Box w1 m bn bi bm N vs s :=
  h.move fun k hk => ho.block k (h.lt hk) (hS k hk)
theorem Box.log (h : Box w m bn bi bm N vs s) {i : Nat} (hi : i < N) : w.cell? ⟨bn, i * 2, none⟩ = some (vs i) := by rw [h.nodes.cell _ (by omega), nodeF_log]
theorem Box.up (h : Box w m bn bi bm N vs s) {i : Nat} (hi : i < N) : w.cell? ⟨bn, i * 2 + 1, none⟩ = some (.bool (s.ups i)) := by rw [h.nodes.cell _ (by omega), nodeF_up]
theorem is_any (n : Int) (N bn : Nat) (hN : N ≤ 5) (w : World) (h0 : w.cell? ⟨m, 0, none⟩ = some (.slice (some ⟨bn, 0, none⟩) N N)) : Calls Try.prog 27 #[.pointer (some ⟨m, 0, none⟩), .int .i64 n] w fun e w' => e = .returned (.bool (isN N n)) ∧ w = w' := by
  by_cases h1 : 1 ≤ n
  · by_cases h2 : n ≤ N
    · go_enter Try.func27, Try.ntmps27
      go_wp2_with fail
      go_ret
      exact ⟨by simp [isN, h1, h2], rfl⟩
    · go_enter Try.func27, Try.ntmps27
      go_wp2_with fail
      go_ret
      exact ⟨by simp [isN, h1, h2], rfl⟩
  · go_enter Try.func27, Try.ntmps27
    go_wp2_with fail
    go_ret
    exact ⟨by simp [isN, h1]; intro h; omega, rfl⟩
theorem lead_any (h : Box w m bn bi bm N vs s) (hl : s.lead ≤ N) (h0 : s.lead ≠ 0) (hN : N ≤ 5) : Calls Try.prog 37 #[.pointer (some ⟨m, 0, none⟩)] w fun e w' => e = .returned (.pointer (some ⟨bn, (s.lead - 1) * 2, none⟩)) ∧ ∃ n, w' = w.drewN n := by
  have c0 : w.cell? ⟨m, 0, none⟩ = _ := cell_of h.obj 0
  have c2 : w.cell? ⟨m, 2, none⟩ = _ := cell_of h.obj 2
  have hwr : IntKind.i64.wrap ((s.lead : Int) - 1) = (s.lead : Int) - 1 := by rw [IntKind.wrap_i64]; omega
  have hp0 : (0 : Int) ≤ (s.lead : Int) - 1 := by omega
  have hp1 : (s.lead : Int) - 1 < (N : Int) := by omega
  have hp2 : ((s.lead : Int) - 1).toNat = s.lead - 1 := by omega
  have H := Lib.hid h
  clear h
  go_enter Try.func37, Try.ntmps37
  go_wp2_with fail
  go_quiet (fail)
  go_wp2
  go_ret
  exact ⟨rfl, nq, rfl⟩
theorem leader_any (h : Box w m bn bi bm N vs s) : Calls Try.prog 13 #[.pointer (some ⟨m, 0, none⟩)] w fun e w' => e = .returned (.tuple #[.int .i64 s.lead, .int .i64 s.epoch]) ∧ ∃ n, w' = w.drewN n := by
  have c1 : w.cell? ⟨m, 1, none⟩ = _ := cell_of h.obj 1
  have c2 : w.cell? ⟨m, 2, none⟩ = _ := cell_of h.obj 2
  have H := Lib.hid h
  clear h
  go_enter Try.func13, Try.ntmps13
  go_wp2_with fail
  go_quiet (fail)
  go_wp2
  go_ret2
  exact ⟨rfl, nq, rfl⟩
theorem leader_nil (w : World) : Calls Try.prog 13 #[.pointer none] w fun e w' => e = .returned (.tuple #[.int .i64 0, .int .i64 0]) ∧ w' = w := by
  go_enter Try.func13, Try.ntmps13
  go_wp2_with fail
  go_ret2
  exact ⟨rfl, rfl⟩
theorem high_any (h : Box w m bn bi bm N vs s) : Calls Try.prog 17 #[.pointer (some ⟨m, 0, none⟩)] w fun e w' => e = .returned (.int .i64 s.high) ∧ w' = w := by
  have c5 : w.cell? ⟨m, 5, none⟩ = _ := cell_of h.obj 5
  have H := Lib.hid h
  clear h
  go_enter Try.func17, Try.ntmps17
  go_wp2_with fail
  go_ret
  exact ⟨rfl, rfl⟩
theorem high_nil (w : World) : Calls Try.prog 17 #[.pointer none] w fun e w' => e = .returned (.int .i64 0) ∧ w' = w := by
  go_enter Try.func17, Try.ntmps17
  go_wp2_with fail
  go_ret
  exact ⟨rfl, rfl⟩
end Go.Proofs.Ytcehlajkpnhdiaa.Ra
